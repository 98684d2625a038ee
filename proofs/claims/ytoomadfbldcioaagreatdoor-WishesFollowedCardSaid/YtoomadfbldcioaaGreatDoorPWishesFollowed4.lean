/- Part 4 of the proof: a program logic, contracts of functions and plain facts; no conditions. -/
import Derived.Test.YtoomadfbldcioaaGreatDoorPWishesFollowed3
import Derived.Carry
import Derived.Laws.MakeOwn
import Derived.Lib.LaidTab
import Derived.OpenShut
import Derived.Shelf.Strconv.Atoi
import Derived.Shelf.Strconv.Itoa3
import Derived.Shelf.Strings.Prefix
import GoSem.ClaimJoined
section
namespace Go.HL
open Op (bytesLess)
/-- A list without the elements that equal the one before (p ahead of the first). -/
def uniqP (p : Option Str) : List Str → List Str
  | [] => []
  | x :: r => if p = some x then uniqP (some x) r else x :: uniqP (some x) r
theorem uniqP_snoc (x : Str) : ∀ (l : List Str) (p : Option Str), uniqP p (l ++ [x]) = uniqP p l ++ if (l.getLast?.or p) = some x then [] else [x]
  | [], p => by
    by_cases h : p = some x
    · simp only [List.nil_append, uniqP]
      rw [if_pos h, if_pos (by simpa using h)]
    · simp only [List.nil_append, uniqP]
      rw [if_neg h, if_neg (by simpa using h)]
  | y :: l, p => by
    have ih := uniqP_snoc x l (some y)
    have e : (y :: l).getLast?.or p = l.getLast?.or (some y) := by
      cases l with
      | nil => simp
      | cons z r => simp [List.getLast?_cons_cons]; rw [List.getLast?_eq_some_getLast (by simp)]; simp
    rw [e]
    simp only [List.cons_append, uniqP, ih]
    split <;> simp
theorem compactUpTo_uniq (l : List Str) : ∀ m, m ≤ l.length → Lib.compactUpTo l.toArray m = uniqP none (l.take m)
  | 0, _ => by simp [Lib.compactUpTo, uniqP]
  | m + 1, h => by
    have hm : m < l.length := by omega
    have hx := List.getElem?_eq_getElem hm
    rw [Lib.compactUpTo_succ, compactUpTo_uniq l m (by omega), take_snoc' hx, uniqP_snoc]
    congr 1
    have e1 : l.toArray[m]! = l[m] := by simp [getElem!_pos, hm]
    rw [e1]
    cases m with
    | zero => simp [Lib.keeps]
    | succ m =>
      have hl : (l.take (m + 1)).getLast? = some l[m] := by
        rw [take_snoc' (List.getElem?_eq_getElem (show m < l.length by omega)), List.getLast?_append]; rfl
      have e2 : l.toArray[m]! = l[m] := by simp [getElem!_pos, show m < l.length by omega]
      rw [hl]
      simp only [Lib.keeps, e1, Nat.add_sub_cancel, e2]
      by_cases hh : l[m] = l[m + 1]
      · simp [hh]
      · have hh' : ¬ l[m + 1] = l[m] := fun h => hh h.symm
        simp [hh, hh']
theorem compact_uniq (l : List Str) : Lib.compact l = uniqP none l := by
  unfold Lib.compact
  rw [compactUpTo_uniq l _ (Nat.le_refl _), List.take_length]
theorem uniqP_le : ∀ (l : List Str) (p : Option Str), (uniqP p l).length ≤ l.length
  | [], _ => Nat.le_refl _
  | x :: r, p => by
    have := uniqP_le r (some x)
    simp only [uniqP]; split <;> simp <;> omega
theorem uniqP_nodup : ∀ (l : List Str) (p : Str), (p :: l).Pairwise (fun x y => x ≤ y) → ((uniqP (some p) l).length = l.length ↔ (p :: l).Nodup)
  | [], p, _ => by simp [uniqP]
  | x :: r, p, h => by
    have h1 := List.pairwise_cons.1 h
    have ih := uniqP_nodup r x h1.2
    have hle := uniqP_le r (some x)
    simp only [uniqP]
    by_cases hp : p = x
    · subst hp
      simp; omega
    · rw [if_neg (by simpa using hp)]
      simp only [List.length_cons, Nat.add_right_cancel_iff, ih]
      constructor
      · intro hn
        refine List.nodup_cons.2 ⟨fun hm => ?_, hn⟩
        rcases List.mem_cons.1 hm with h2 | h2
        · exact hp h2
        · have a1 := h1.1 x (by simp)
          have a2 := (List.pairwise_cons.1 h1.2).1 p h2
          exact hp (List.le_antisymm a1 a2)
      · intro hn; exact (List.nodup_cons.1 hn).2
theorem sortS_sorted (l : List Str) : (sortS l).Pairwise (fun x y => x ≤ y) := by
  have := List.pairwise_mergeSort (le := fun x y : Str => decide (x ≤ y)) (fun a b c h1 h2 => by
    simp only [decide_eq_true_eq] at *; exact List.le_trans h1 h2) (fun a b => by
    simp only [Bool.or_eq_true, decide_eq_true_eq]; exact List.le_total a b) l
  exact this.imp (fun h => by simpa using h)
theorem isTwice_eq (l : List Str) : isTwice l = !decide l.Nodup := by
  unfold isTwice
  rw [compact_uniq]
  have hp : (sortS l).Perm l := List.mergeSort_perm _ _
  have hs := sortS_sorted l
  rw [Bool.eq_iff_iff]
  simp only [decide_eq_true_eq, Bool.not_eq_true', decide_eq_false_iff_not]
  rw [← sortS_len l, ← hp.nodup_iff]
  revert hs
  generalize sortS l = s
  intro hs
  cases s with
  | nil => simp [uniqP]
  | cons x r =>
    have := uniqP_nodup r x hs
    have hle := uniqP_le r (some x)
    simp only [uniqP, reduceCtorEq, if_false, List.length_cons]
    rw [← this]; omega
theorem sadd_mem (s t : Str) (l : List Str) : t ∈ sadd s l ↔ t = s ∨ t ∈ l := by
  unfold sadd
  split
  · rename_i h
    simp only [List.contains_iff_mem] at h
    constructor
    · exact .inr
    · rintro (rfl | h')
      · exact h
      · exact h'
  · simp [or_comm]
theorem keepsGo_ref (r : Room) (l : List Keep) : ∀ (t : List Keep) (k : Nat) (kept who : List Str) (tw : Bool), (∀ s, s ∈ kept ↔ s ∈ who) → tw = !decide who.Nodup → keepsGo r l k kept tw t = refKeepsGo r l k who t
  | [], k, kept, who, tw, h1, h2 => by simp [keepsGo, refKeepsGo, isTwice_eq, h2]
  | x :: t, k, kept, who, tw, h1, h2 => by
    simp only [keepsGo, refKeepsGo]
    rw [keepsGo_ref r l t (k + 1) (sadd x.Player kept) (who ++ [x.Player]) (tw || kept.contains x.Player)]
    · intro s; rw [sadd_mem, h1]; simp [or_comm]
    · rw [h2]
      have : kept.contains x.Player = who.contains x.Player := by
        rw [Bool.eq_iff_iff]; simp only [List.contains_iff_mem]; exact h1 _
      rw [this, Bool.eq_iff_iff]
      simp only [Bool.or_eq_true, Bool.not_eq_true', decide_eq_false_iff_not, List.contains_iff_mem, List.nodup_append]
      constructor
      · rintro (h | h) hn
        · exact h hn.1
        · exact hn.2.2 _ h _ (by simp) rfl
      · intro h
        by_cases hm : x.Player ∈ who
        · exact .inr hm
        · refine .inl fun hn => h ⟨hn, by simp, fun a ha b hb => ?_⟩
          simp at hb; subst hb
          exact fun e => hm (e ▸ ha)
theorem checkKeeps_ref (r : Room) (l : List Keep) : checkKeeps r l = if checkRoom r != 0 then checkRoom r else refKeeps r l := by
  unfold checkKeeps refKeeps
  rw [keepsGo_ref r l l 0 [] [] false (fun _ => Iff.rfl) (by simp)]
theorem checkSwaps_ref (r : Room) (l : List Swap) : checkSwaps r l = if checkRoom r != 0 then checkRoom r else refSwaps r l := rfl
theorem openFault_ref (r : Room) (k : List Keep) (s : List Swap) : refOpenFault r k s = openFault r k s := by
  unfold refOpenFault openFault draftFault
  rw [checkKeeps_ref, checkSwaps_ref]
  by_cases h : checkRoom r = 0
  · simp [h]
  · have : (checkRoom r != 0) = true := by simpa using h
    simp only [this, if_true]
    simp [orI, h]
end Go.HL
end
section
namespace Go.HL
def Sh (s : Str) : Prop := s.length ≤ 1000000
structure GoodKeeps (k : List Keep) : Prop where
  len : k.length ≤ 20
  str : ∀ x ∈ k, Sh x.Team ∧ Sh x.Player
structure GoodSwaps (k : List Swap) : Prop where
  len : k.length ≤ 20
  str : ∀ x ∈ k, Sh x.Of ∧ Sh x.Team
/-- The state of KeepList's loops. -/
structure KLs where
  u : Value
  out : List Keep
  lv : Value
  left : List Str
  a : Nat
structure KLok (n a : Nat) (q : KLs) : Prop where
  out : q.out.length ≤ n
  left : q.left.length ≤ 20
  ls : ∀ s ∈ q.left, Sh s
  os : ∀ x ∈ q.out, Sh x.Team ∧ Sh x.Player
  a : q.a ≤ a + 2 * n
theorem mem_uniqP : ∀ (l : List Str) (p : Option Str) (s : Str), s ∈ uniqP p l → s ∈ l
  | [], _, s, h => by simp [uniqP] at h
  | x :: r, p, s, h => by
    simp only [uniqP] at h
    split at h
    · exact List.mem_cons_of_mem _ (mem_uniqP r _ s h)
    · rcases List.mem_cons.1 h with h | h
      · subst h; simp
      · exact List.mem_cons_of_mem _ (mem_uniqP r _ s h)
theorem mem_cs {l : List Str} {s : Str} (h : s ∈ Lib.compact (sortS l)) : s ∈ l := by
  rw [compact_uniq] at h
  have := mem_uniqP _ _ _ h
  exact (List.mergeSort_perm _ _).mem_iff.1 this
theorem mem_compact {l : List Str} {s : Str} (h : s ∈ Lib.compact l) : s ∈ l := by
  rw [compact_uniq] at h
  exact mem_uniqP _ _ _ h
theorem cs_len (l : List Str) : (Lib.compact (sortS l)).length ≤ l.length := by
  have := compact_le (sortS l); rw [sortS_len] at this; exact this
theorem KLok.more {n a : Nat} {u lv : Value} {out : List Keep} {left : List Str} {a1 a2 : Nat} (h : KLok n a ⟨u, out, lv, left, a1⟩) (h1 : a2 ≤ a1 + 2) : KLok (n + 1) a ⟨u, out, lv, left, a2⟩ :=
  ⟨by have := h.out; dsimp only at *; omega, h.left, h.ls, h.os, by have := h.a; dsimp only at *; omega⟩
theorem KLok.add {n a : Nat} {u u' lv lv' : Value} {out : List Keep} {left : List Str} {a1 a2 k : Nat} {t p : Str} {rd : Int} (h : KLok n a ⟨u, out, lv, left, a1⟩) (h1 : a2 ≤ a1 + 2) (ht : Sh t) (hp : left[k]? = some p) :
    KLok (n + 1) a ⟨u', out ++ [⟨t, p, rd⟩], lv', left.eraseIdx k, a2⟩ :=
  ⟨by have := h.out; simp at *; omega, by have := h.left; have := List.length_eraseIdx_le left k; dsimp only at *; omega, fun s hs => h.ls s (List.mem_of_mem_eraseIdx hs), fun x hx => by
    rcases List.mem_append.1 hx with hx | hx
    · exact h.os x hx
    · simp at hx; subst hx; exact ⟨ht, h.ls p (List.mem_of_getElem? hp)⟩, by have := h.a; dsimp only at *; omega⟩
theorem set_self {α : Type} {l : List α} {j : Nat} {x y : α} (h : l[j]? = some y) : (l.set j x)[j]? = some x := by
  rw [List.getElem?_set_self (lt_of_get h)]
theorem map_get {α β : Type} {f : α → β} {l : List α} {j : Nat} {x : α} (h : l[j]? = some x) : (l.map f)[j]? = some (f x) := by
  rw [List.getElem?_map, h]; rfl
theorem zz_sh : Sh [122, 122] := by simp [Sh]
theorem mem_set_of {α : Type} {l : List α} {j : Nat} {x y : α} (h : x ∈ l.set j y) : x = y ∨ x ∈ l := by
  rcases List.mem_or_eq_of_mem_set h with h | h
  · exact .inr h
  · exact .inl h
theorem keeps_set {k : List Keep} {j : Nat} {y : Keep} (h : ∀ x ∈ k, Sh x.Team ∧ Sh x.Player) (h1 : Sh y.Team) (h2 : Sh y.Player) : ∀ x ∈ k.set j y, Sh x.Team ∧ Sh x.Player := fun x hx => by
  rcases mem_set_of hx with rfl | hx
  · exact ⟨h1, h2⟩
  · exact h x hx
theorem swaps_set {k : List Swap} {j : Nat} {y : Swap} (h : ∀ x ∈ k, Sh x.Of ∧ Sh x.Team) (h1 : Sh y.Of) (h2 : Sh y.Team) : ∀ x ∈ k.set j y, Sh x.Of ∧ Sh x.Team := fun x hx => by
  rcases mem_set_of hx with rfl | hx
  · exact ⟨h1, h2⟩
  · exact h x hx
/-- The state of SwapList's loops: what is out, the row of teams, the draws. -/
structure SLs where
  u : Value
  out : List Swap
  row : List Str
  a : Nat
structure SLok (n a : Nat) (q : SLs) : Prop where
  out : q.out.length ≤ n
  row : q.row.length ≤ 4
  rs : ∀ s ∈ q.row, Sh s
  os : ∀ x ∈ q.out, Sh x.Of ∧ Sh x.Team
  a : q.a ≤ a + 2 * n
theorem SLok.more {n a : Nat} {u : Value} {out : List Swap} {row : List Str} {a1 a2 : Nat} (h : SLok n a ⟨u, out, row, a1⟩) (h1 : a2 ≤ a1 + 2) : SLok (n + 1) a ⟨u, out, row, a2⟩ :=
  ⟨by have := h.out; dsimp only at *; omega, h.row, h.rs, h.os, by have := h.a; dsimp only at *; omega⟩
theorem SLok.mono {n m a : Nat} {q : SLs} (h : SLok n a q) (hm : n ≤ m) : SLok m a q :=
  ⟨by have := h.out; omega, h.row, h.rs, h.os, by have := h.a; omega⟩
theorem KLok.mono {n m a : Nat} {q : KLs} (h : KLok n a q) (hm : n ≤ m) : KLok m a q :=
  ⟨by have := h.out; omega, h.left, h.ls, h.os, by have := h.a; omega⟩
theorem SLok.rowTo {n a : Nat} {u : Value} {out : List Swap} {row row' : List Str} {a1 : Nat} (h : SLok n a ⟨u, out, row, a1⟩) (h1 : row'.length ≤ 4) (h2 : ∀ s ∈ row', Sh s) : SLok n a ⟨u, out, row', a1⟩ :=
  ⟨h.out, h1, h2, h.os, h.a⟩
def fillUp (n : Nat) (l : List Str) : List Str := l ++ List.replicate (n - l.length) []
theorem fillUp_len {n : Nat} {l : List Str} (h : l.length ≤ n) : (fillUp n l).length = n := by simp [fillUp]; omega
theorem fillUp_get {n k : Nat} {l : List Str} {x : Str} (h : l[k]? = some x) : (fillUp n l)[k]? = some x := by
  unfold fillUp; rw [List.getElem?_append_left (lt_of_get h)]; exact h
theorem fillUp_sh {n : Nat} {l : List Str} (h : ∀ s ∈ l, Sh s) : ∀ s ∈ fillUp n l, Sh s := fun s hs => by
  rcases List.mem_append.1 hs with h1 | h1
  · exact h s h1
  · rw [(List.mem_replicate.1 h1).2]; simp [Sh]
theorem SLok.add {n a : Nat} {u u' : Value} {out : List Swap} {row : List Str} {a1 a2 : Nat} {t p : Str} {rd : Int} (h : SLok n a ⟨u, out, row, a1⟩) (h1 : a2 ≤ a1 + 2) (ht : Sh t) (hp : Sh p) :
    SLok (n + 1) a ⟨u', out ++ [⟨rd, t, p⟩], row, a2⟩ :=
  ⟨by have := h.out; simp at *; omega, h.row, h.rs, fun x hx => by
    rcases List.mem_append.1 hx with hx | hx
    · exact h.os x hx
    · simp at hx; subst hx; exact ⟨ht, hp⟩, by have := h.a; dsimp only at *; omega⟩
end Go.HL
end
section
namespace Go.Proofs.YtoomadfbldcioaaGreatDoor
open Go.HL
set_option maxRecDepth 100000
set_option linter.unusedVariables false
set_option linter.unusedSimpArgs false
/-- slices.Delete of one place -/
theorem c_slices_Delete {l : List Str} {v : Value} {k : Nat} (hk : k < l.length) (hl : l.length ≤ 1000000) : Con Tryz.prog 47 [.raw v, .int .i64 (k : Int), .int .i64 ((k : Int) + 1)] [.arr v 1 (l.map .str)] fun x M' => ∃ u, x = .raw u ∧ M' = [.arr u 1 ((l.eraseIdx k).map .str)] := by
  have hlen : (l.eraseIdx k).length = l.length - 1 := by rw [List.length_eraseIdx]; simp [hk]
  refine con_rowd (zs := l.eraseIdx k) (by omega) (by omega) fun b off cap w h1 h2 h3 => ?_
  refine (Any.slices_Delete_string Tryz.lays224 b off cap k (k + 1) l w h1 h2 h3 (by omega) (by omega)).mono ?_
  rintro _ _ ⟨rfl, q, rfl⟩
  have e1 : l.length - (k + 1 - k) = (l.eraseIdx k).length := by omega
  have e2 : l.length - (l.eraseIdx k).length = k + 1 - k := by omega
  refine ⟨by rw [e1], q, ?_⟩
  rw [e2, List.eraseIdx_eq_take_drop_succ]
/-- slices.Compact where the long slice is used again -/
theorem c_slices_Compact_k {l : List Str} {b off cap n : Nat} (hl : l.length ≤ 1000000) (hn : l.length = n) : Con Tryz.prog 46 [.raw (.slice (some ⟨b, off, none⟩) n cap)] [.arr (.slice (some ⟨b, off, none⟩) n cap) 1 (l.map .str)] fun x M' => x = .raw (.slice (some ⟨b, off, none⟩) (Lib.compact l).length cap) ∧ M' = [.arr (.slice (some ⟨b, off, none⟩) n cap) 1 ((fillUp n (Lib.compact l)).map .str)] := by
  subst hn
  exact con_rowk (compact_le l) (fun w h1 h2 h3 => Any.slices_Compact_string Tryz.lays194 b off cap l w h1 (by omega) h3)

set_option maxHeartbeats 2000000 in
/-- (*benchwarmer/benchmake.Stream).KeepList -/
theorem c_benchmake_Stream_KeepList {b : Nat} {l : List Int} {a : Nat} {r : Room}  (ha : a ≤ 800000) (hr : GoodRoom r) : Con Tryz.prog 6 [pAt b, eRoom r] [St b l a] (fun x M' => ∃ k a', x = eKeeps k ∧ GoodKeeps k ∧ a' ≤ a + 60 ∧ M' = [St b l a']) := by
  have hrp := hr.p20
  have hrt := hr.t4
  refine Con.of_body Tryz.func6 rfl Tryz.ntmps6 rfl rfl ?_
  refine hw_reg ?_
  refine dp rfl (pop_box rfl rfl) ?_
  refine dp rfl (pop_assign rfl) ?_
  refine dn ?_
  refine hw_reg ?_
  refine dp rfl (pop_assign rfl) ?_
  refine dn ?_
  refine hw_reg ?_
  refine dp rfl ((by first | exact pop_fieldAddr ty28 rfl ty26 (by decide) rfl | exact pop_fieldAddr_raw ty28 rfl ty26 (by decide) rfl)) ?_
  refine dp rfl (pop_load ty26 rfl rfl rfl) ?_
  refine de rfl (eop_calla ca42 rfl (WeakL.refl _) (c_slices_Clone_string_string (by first | assumption | omega | (simp; omega) | simp_all)) fun v15 => ?_)
  refine dp rfl (pop_assign rfl) ?_
  refine dn ?_
  refine hw_reg ?_
  refine dp rfl ((by first | exact pop_fieldAddr ty28 rfl ty26 (by decide) rfl | exact pop_fieldAddr_raw ty28 rfl ty26 (by decide) rfl)) ?_
  refine dp rfl (pop_load ty26 rfl rfl rfl) ?_
  refine de rfl (eop_calla ca42 rfl (WeakL.refl _) (c_slices_Clone_string_string (by first | assumption | omega | (simp; omega) | simp_all)) fun v18 => ?_)
  refine dp rfl (pop_assign rfl) ?_
  refine dn ?_
  refine hw_reg ?_
  refine dp rfl (pop_move rfl) ?_
  refine de rfl (eop_callx (i := 0) ca45 rfl (WeakL.refl _) rfl (c_slices_Sort (l := r.Teams) (by omega)) ?_)
  rintro _ _ ⟨rfl, rfl⟩
  refine dn ?_
  refine hw_seq ?_
  refine hw_reg ?_
  refine dp rfl (pop_move rfl) ?_
  refine de rfl (eop_callx (i := 0) ca46 rfl (WeakL.refl _) rfl (c_slices_Compact (l := sortS r.Teams) (by rw [sortS_len]; omega)) ?_)
  rintro _ _ ⟨u22, rfl, rfl⟩
  refine de rfl (eop_lenm (i := 0) ty26 rfl rfl ?_)
  refine dp rfl (pop_move rfl) ?_
  refine dn ?_
  refine hw_ghost (Ghost.fa 22 (i := 0) rfl rfl) ?_
  have hts4 : (Lib.compact (sortS r.Teams)).length ≤ 4 := Nat.le_trans (cs_len _) hrt
  have hss : ∀ s ∈ Lib.compact (sortS r.Teams), Sh s := fun s hs => hr.ts s (mem_cs hs)
  generalize Lib.compact (sortS r.Teams) = ts at *
  refine hw_ghost (Ghost.arr_nil 3) ?_
  refine hw_block ?_
  refine hw_loopw2 [5, 6, 9, 10, 11, 24, 25, 26, 27, 28, 29, 30, 31, 32, 33, 34, 35, 36, 37, 38, 39, 40, 41, 42, 43, 44, 45, 46, 47, 48, 49, 50, 51, 52, 53, 54, 55, 56, 57, 58, 59, 60, 61] (fun (k : Nat) (q : KLs) => [(24, .int .i64 k), (5, .raw q.u), (6, .raw q.lv)]) (fun (k : Nat) (q : KLs) => [St b l q.a, .arr q.u 3 (q.out.map eKeep), .arr q.lv 1 (q.left.map .str)]) (fun (k : Nat) (q : KLs) => k ≤ ts.length ∧ (KLok (4 * k) a q)) (fun (k : Nat) (q : KLs) => ts.length - k) (0) (⟨.slice none 0 0, [], v15, r.Players, a⟩) ?_ ?_ ?_ ?_
  · exact ⟨Nat.zero_le _, ⟨by simp, hrp, hr.ps, by simp, by dsimp only; omega⟩⟩
  · exact ⟨rfl, rfl, rfl, trivial⟩
  · repeat (first | exact List.Perm.nil | refine permTo 0 rfl ?_ | refine permTo 1 rfl ?_ | refine permTo 2 rfl ?_ | refine permTo 3 rfl ?_ | (refine permToE 0 rfl ?hq ?_; (case hq => simp [setL, hcells]; done)) | (refine permToE 1 rfl ?hq ?_; (case hq => simp [setL, hcells]; done)) | (refine permToE 2 rfl ?hq ?_; (case hq => simp [setL, hcells]; done)) | (refine permToE 3 rfl ?hq ?_; (case hq => simp [setL, hcells]; done)) | fail)
  · intro k q hinv
    obtain ⟨hk, hg⟩ := hinv
    obtain ⟨u, out, lv, left, a2⟩ := q
    obtain ⟨g1, g2, g3, g4, g5⟩ := id hg
    dsimp only at g1 g2 g3 g4 g5
    refine hw_reg ?_
    refine dp rfl (pop_lss rfl rfl) ?_
    refine dn ?_
    refine hw_seq ?_
    refine hw_cond rfl (fun h1 => ?_) (fun h2 => ?_)
    · try simp at h1
      obtain ⟨x, hx⟩ : ∃ x, ts[k]? = some x := ⟨_, List.getElem?_eq_getElem h1⟩
      have hdx := drop_cons hx
      refine hw_skip ?_
      refine seqQ_n ?_
      refine hw_seq ?_
      refine hw_block ?_
      refine hw_reg ?_
      refine dp rfl (pop_idx ty26 ty9 rfl rfl rfl (by first | assumption | simp_all)) ?_
      refine dp rfl (pop_load ty9 rfl rfl rfl) ?_
      refine dp rfl (pop_assign rfl) ?_
      refine dn ?_
      refine hw_reg ?_
      refine dp rfl (pop_assign rfl) ?_
      refine dn ?_
      refine hw_block ?_
      refine hw_loopw2 [5, 6, 10, 11, 28, 29, 30, 31, 32, 33, 34, 35, 36, 37, 38, 39, 40, 41, 42, 43, 44, 45, 46, 47, 48, 49, 50, 51, 52, 53, 54, 55, 56, 57, 58, 59, 60] (fun (m : Nat) (q : KLs) => [(10, .int .i64 ((m : Int) + 1)), (5, .raw q.u), (6, .raw q.lv)]) (fun (m : Nat) (q : KLs) => [St b l q.a, .arr q.u 3 (q.out.map eKeep), .arr q.lv 1 (q.left.map .str)]) (fun (m : Nat) (q : KLs) => m ≤ 4 ∧ KLok (4 * k + m) a q) (fun (m : Nat) (q : KLs) => 4 - m) (0) (⟨u, out, lv, left, a2⟩) ?_ ?_ ?_ ?_
      · exact ⟨by omega, hg⟩
      · exact ⟨rfl, rfl, rfl, trivial⟩
      · exact List.Perm.refl _
      · intro m q hinv
        obtain ⟨hm, hm2⟩ := hinv
        obtain ⟨u, out, lv, left, a2⟩ := q
        obtain ⟨g1, g2, g3, g4, g5⟩ := id hm2
        dsimp only at g1 g2 g3 g4 g5
        refine hw_seq ?_
        refine hw_reg ?_
        refine dp rfl (pop_move rfl) ?_
        refine dp rfl ((by first | exact pop_fieldAddr ty28 rfl ty3 (by decide) rfl | exact pop_fieldAddr_raw ty28 rfl ty3 (by decide) rfl)) ?_
        refine dp rfl (pop_load ty3 rfl rfl rfl) ?_
        refine dp rfl (pop_min rfl rfl) ?_
        refine dp rfl (pop_leq rfl rfl) ?_
        refine dn ?_
        refine hw_cond rfl (fun h3 => ?_) (fun h4 => ?_)
        · try simp at h3
          have hm4 : m < 4 := by omega
          refine hw_skip ?_
          refine seqQ_n ?_
          refine hw_seq ?_
          refine hw_block ?_
          refine hw_reg ?_
          refine dp rfl (pop_move rfl) ?_
          first
          | refine de rfl (eop_lenm (i := 0) ty26 rfl rfl ?_)
          | refine de rfl (eop_lenm (i := 1) ty26 rfl rfl ?_)
          | refine de rfl (eop_lenm (i := 2) ty26 rfl rfl ?_)
          | refine de rfl (eop_lenm (i := 3) ty26 rfl rfl ?_)
          refine dp rfl (pop_gtr rfl rfl) ?_
          refine dp rfl (pop_move rfl) ?_
          refine dg rfl rfl (fun hc => ⟨_, OpenTo.refl _, pop_move rfl⟩) ?_
          refine dgx (fun x M' => ∃ (y : Bool) (a3 : Nat), x = .bool y ∧ a3 ≤ a2 + 1 ∧ M' = [St b l a3, .arr u 3 (out.map eKeep), .arr lv 1 (left.map .str)]) rfl rfl (fun hc => ⟨_, false, a2, rfl, by omega, rfl⟩) (fun hc => ⟨_, OpenTo.upd (t := 39) rfl (by first | exact hc | simp_all) (OpenTo.refl _), eop_callx (i := 0) ca11 rfl (WeakL.refl _) rfl (c_benchmake_Stream_Flip (a := a2) (by omega) (by omega)) (fun h M' hh => by
            obtain ⟨y, h1, h2⟩ := hh
            exact ⟨y, a2 + 1, h1, by omega, by rw [h2]; rfl⟩)⟩) ?_
          rintro _ _ ⟨y, a3, rfl, ha3, rfl⟩
          refine dp rfl (pop_picko rfl (.inr ⟨_, rfl, fun h => by simp_all⟩) (.inl rfl)) ?_
          refine dn ?_
          refine hw_cond rfl (fun h5 => ?_) (fun h6 => ?_)
          · try simp at h5
            refine hw_reg ?_
            refine dp rfl (pop_move rfl) ?_
            refine dp rfl (pop_move rfl) ?_
            first
            | refine de rfl (eop_lenm (i := 0) ty26 rfl rfl ?_)
            | refine de rfl (eop_lenm (i := 1) ty26 rfl rfl ?_)
            | refine de rfl (eop_lenm (i := 2) ty26 rfl rfl ?_)
            | refine de rfl (eop_lenm (i := 3) ty26 rfl rfl ?_)
            first
            | refine de rfl (eop_callx (i := 0) ca41 rfl (WeakL.refl _) rfl (c_benchmake_Stream_Next (by first | assumption | omega | (simp; omega) | simp_all) (by first | assumption | omega | (simp; omega) | simp_all)) ?_)
            | refine de rfl (eop_callx (i := 1) ca41 rfl (WeakL.refl _) rfl (c_benchmake_Stream_Next (by first | assumption | omega | (simp; omega) | simp_all) (by first | assumption | omega | (simp; omega) | simp_all)) ?_)
            | refine de rfl (eop_callx (i := 2) ca41 rfl (WeakL.refl _) rfl (c_benchmake_Stream_Next (by first | assumption | omega | (simp; omega) | simp_all) (by first | assumption | omega | (simp; omega) | simp_all)) ?_)
            | refine de rfl (eop_callx (i := 3) ca41 rfl (WeakL.refl _) rfl (c_benchmake_Stream_Next (by first | assumption | omega | (simp; omega) | simp_all) (by first | assumption | omega | (simp; omega) | simp_all)) ?_)
            rintro _ _ ⟨y45, rfl, hy45, rfl⟩
            refine dp rfl (pop_assign rfl) ?_
            refine dn ?_
            obtain ⟨z, hz⟩ : ∃ z, left[y45]? = some z := ⟨_, List.getElem?_eq_getElem (by omega)⟩
            refine hw_arrc (i := 2) rfl (fun h0 he => ?_) (fun lb loff lcap hv hcap => ?_)
            · exfalso; have := congrArg List.length he; simp at this; subst this; simp at hz
            subst hv
            refine hw_reg ?_
            refine dp rfl (pop_move rfl) ?_
            refine dp rfl (pop_move rfl) ?_
            refine dp rfl (pop_move rfl) ?_
            refine dp rfl (pop_move rfl) ?_
            refine dp rfl (pop_idxraw (j := y45) ty26 ty9 rfl rfl rfl (by simp; omega)) ?_
            refine de rfl (eop_load_el (i := 2) (j := y45) 0 ty9 rfl (by omega) rfl hz rfl rfl ?_)
            refine dp rfl (pop_move rfl) ?_
            refine dp rfl (pop_build (cs := [_, _, _]) ty88 pl88 rfl) ?_
            refine dp rfl (pop_buildSlice (hs := [_]) ty30 ty88 rfl rfl (by decide) (by decide) rfl) ?_
            first
            | refine de rfl (eop_append (i := 0) ty30 ty88 rfl rfl rfl rfl rfl (by simp [flat, hcells]) (by first | omega | (simp; omega)) fun v55 => ?_)
            | refine de rfl (eop_append (i := 1) ty30 ty88 rfl rfl rfl rfl rfl (by simp [flat, hcells]) (by first | omega | (simp; omega)) fun v55 => ?_)
            | refine de rfl (eop_append (i := 2) ty30 ty88 rfl rfl rfl rfl rfl (by simp [flat, hcells]) (by first | omega | (simp; omega)) fun v55 => ?_)
            | refine de rfl (eop_append (i := 3) ty30 ty88 rfl rfl rfl rfl rfl (by simp [flat, hcells]) (by first | omega | (simp; omega)) fun v55 => ?_)
            refine dp rfl (pop_assign rfl) ?_
            refine dn ?_
            refine hw_reg1 ?_
            refine dp rfl (pop_move rfl) ?_
            refine dp rfl (pop_move rfl) ?_
            refine dp rfl (pop_move rfl) ?_
            refine dp rfl (pop_add64 rfl rfl (by omega) (by omega)) ?_
            refine de rfl (eop_callx (i := 2) ca47 rfl (WeakL.refl _) rfl (c_slices_Delete (l := left) (k := y45) (by omega) (by omega)) ?_)
            rintro _ _ ⟨u60, rfl, rfl⟩
            refine dp rfl (pop_assign rfl) ?_
            refine dn ?_
            refine blockQ_n ?_
            refine seqQ_n ?_
            refine hw_reg1 ?_
            refine dp rfl (pop_move rfl) ?_
            refine dp rfl (pop_add64 rfl rfl (by omega) (by omega)) ?_
            refine dp rfl (pop_assign rfl) ?_
            refine dn ?_
            first
            | exact ⟨m + 1, ⟨v55, out ++ [⟨x, z, (m : Int) + 1⟩], u60, left.eraseIdx y45, a3 + 1⟩, ⟨by omega, hm2.add (by omega) (hss x (List.mem_of_getElem? hx)) hz⟩, by dsimp only; omega, ⟨rfl, rfl, rfl, trivial⟩, (by repeat (first | exact keeps_refl | refine keeps_upd rfl ?_ | refine keeps_loop rfl rfl ?_)), by repeat (first | exact List.Perm.nil | refine permTo 0 rfl ?_ | refine permTo 1 rfl ?_ | refine permTo 2 rfl ?_ | refine permTo 3 rfl ?_ | (refine permToE 0 rfl ?hq ?_; (case hq => simp [setL, hcells]; done)) | (refine permToE 1 rfl ?hq ?_; (case hq => simp [setL, hcells]; done)) | (refine permToE 2 rfl ?hq ?_; (case hq => simp [setL, hcells]; done)) | (refine permToE 3 rfl ?hq ?_; (case hq => simp [setL, hcells]; done)) | fail)⟩
            | exact ⟨m + 1, ⟨u, out, lv, left, a3⟩, ⟨by omega, hm2.more (by omega)⟩, by dsimp only; omega, ⟨rfl, rfl, rfl, trivial⟩, (by repeat (first | exact keeps_refl | refine keeps_upd rfl ?_ | refine keeps_loop rfl rfl ?_)), by repeat (first | exact List.Perm.nil | refine permTo 0 rfl ?_ | refine permTo 1 rfl ?_ | refine permTo 2 rfl ?_ | refine permTo 3 rfl ?_ | (refine permToE 0 rfl ?hq ?_; (case hq => simp [setL, hcells]; done)) | (refine permToE 1 rfl ?hq ?_; (case hq => simp [setL, hcells]; done)) | (refine permToE 2 rfl ?hq ?_; (case hq => simp [setL, hcells]; done)) | (refine permToE 3 rfl ?hq ?_; (case hq => simp [setL, hcells]; done)) | fail)⟩
          · try simp at h6
            refine hw_skip ?_
            refine blockQ_n ?_
            refine seqQ_n ?_
            refine hw_reg1 ?_
            refine dp rfl (pop_move rfl) ?_
            refine dp rfl (pop_add64 rfl rfl (by omega) (by omega)) ?_
            refine dp rfl (pop_assign rfl) ?_
            refine dn ?_
            first
            | exact ⟨m + 1, ⟨v55, out ++ [⟨x, z, (m : Int) + 1⟩], u60, left.eraseIdx y45, a3 + 1⟩, ⟨by omega, hm2.add (by omega) (hss x (List.mem_of_getElem? hx)) hz⟩, by dsimp only; omega, ⟨rfl, rfl, rfl, trivial⟩, (by repeat (first | exact keeps_refl | refine keeps_upd rfl ?_ | refine keeps_loop rfl rfl ?_)), by repeat (first | exact List.Perm.nil | refine permTo 0 rfl ?_ | refine permTo 1 rfl ?_ | refine permTo 2 rfl ?_ | refine permTo 3 rfl ?_ | (refine permToE 0 rfl ?hq ?_; (case hq => simp [setL, hcells]; done)) | (refine permToE 1 rfl ?hq ?_; (case hq => simp [setL, hcells]; done)) | (refine permToE 2 rfl ?hq ?_; (case hq => simp [setL, hcells]; done)) | (refine permToE 3 rfl ?hq ?_; (case hq => simp [setL, hcells]; done)) | fail)⟩
            | exact ⟨m + 1, ⟨u, out, lv, left, a3⟩, ⟨by omega, hm2.more (by omega)⟩, by dsimp only; omega, ⟨rfl, rfl, rfl, trivial⟩, (by repeat (first | exact keeps_refl | refine keeps_upd rfl ?_ | refine keeps_loop rfl rfl ?_)), by repeat (first | exact List.Perm.nil | refine permTo 0 rfl ?_ | refine permTo 1 rfl ?_ | refine permTo 2 rfl ?_ | refine permTo 3 rfl ?_ | (refine permToE 0 rfl ?hq ?_; (case hq => simp [setL, hcells]; done)) | (refine permToE 1 rfl ?hq ?_; (case hq => simp [setL, hcells]; done)) | (refine permToE 2 rfl ?hq ?_; (case hq => simp [setL, hcells]; done)) | (refine permToE 3 rfl ?hq ?_; (case hq => simp [setL, hcells]; done)) | fail)⟩
        · try simp at h4
          refine hw_exit ?_
          refine seqQ_x ?_
          refine loopQ2_x ?_
          refine blockQ_eq ?_
          refine blockQ_n ?_
          refine seqQ_n ?_
          refine hw_reg1 ?_
          refine dp rfl (pop_add64 rfl rfl (by omega) (by omega)) ?_
          refine dp rfl (pop_move rfl) ?_
          refine dn ?_
          exact ⟨k + 1, _, ⟨by omega, hm2.mono (by omega)⟩, by dsimp only; omega, ⟨rfl, rfl, rfl, trivial⟩, (by repeat (first | exact keeps_refl | refine keeps_upd rfl ?_ | refine keeps_loop rfl rfl ?_)), List.Perm.refl _⟩
    · try simp at h2
      have hnk : ts.length ≤ k := by omega
      obtain rfl : k = ts.length := by omega
      refine hw_exit ?_
      refine seqQ_x ?_
      refine loopQ2_x ?_
      refine blockQ_eq ?_
      refine seqQ_n ?_
      refine hw_join [12, 62, 63, 64, 65, 66, 67, 68, 69, 70, 71, 72, 73, 74, 75, 76, 77, 78, 79, 80, 81, 82, 83, 84, 85, 86, 87, 88, 89, 90, 91, 92, 93, 94, 95, 96, 97, 98, 99, 100, 101, 102, 103, 104, 105, 106, 107, 108] (fun (q : List Keep × Nat) => []) (fun (q : List Keep × Nat) => [St b l q.2, .arr u 3 (q.1.map eKeep)]) (fun (q : List Keep × Nat) => q.1.length ≤ 16 ∧ (∀ x ∈ q.1, Sh x.Team ∧ Sh x.Player) ∧ q.2 ≤ a + 60) ?_ ?_
      · skip
        refine hw_ghost (Ghost.perm (M' := [.arr lv 1 (left.map .str), St b l a2, .arr u 3 (out.map eKeep)]) (by repeat (first | exact List.Perm.nil | refine permTo 0 rfl ?_ | refine permTo 1 rfl ?_ | refine permTo 2 rfl ?_ | refine permTo 3 rfl ?_ | (refine permToE 0 rfl ?hq ?_; (case hq => simp [setL, hcells]; done)) | (refine permToE 1 rfl ?hq ?_; (case hq => simp [setL, hcells]; done)) | (refine permToE 2 rfl ?hq ?_; (case hq => simp [setL, hcells]; done)) | (refine permToE 3 rfl ?hq ?_; (case hq => simp [setL, hcells]; done)) | fail))) ?_
        refine hw_ghost Ghost.drop ?_
        refine hw_reg ?_
        refine dp rfl (pop_move rfl) ?_
        first
        | refine de rfl (eop_lenm (i := 0) ty30 rfl rfl ?_)
        | refine de rfl (eop_lenm (i := 1) ty30 rfl rfl ?_)
        | refine de rfl (eop_lenm (i := 2) ty30 rfl rfl ?_)
        | refine de rfl (eop_lenm (i := 3) ty30 rfl rfl ?_)
        refine dp rfl (pop_gtr rfl rfl) ?_
        refine dp rfl (pop_move rfl) ?_
        refine dg rfl rfl (fun hc => ⟨_, OpenTo.refl _, pop_move rfl⟩) ?_
        refine dgx (fun x M' => ∃ (y : Bool) (a3 : Nat), x = .bool y ∧ a3 ≤ a2 + 1 ∧ M' = [St b l a3, .arr u 3 (out.map eKeep)]) rfl rfl (fun hc => ⟨_, false, a2, rfl, by omega, rfl⟩) (fun hc => ⟨_, OpenTo.upd (t := 66) rfl (by first | exact hc | simp_all) (OpenTo.refl _), eop_callx (i := 0) ca11 rfl (WeakL.refl _) rfl (c_benchmake_Stream_Flip (a := a2) (by omega) (by omega)) (fun h M' hh => by
          obtain ⟨y, h1, h2⟩ := hh
          exact ⟨y, a2 + 1, h1, by omega, by rw [h2]; rfl⟩)⟩) ?_
        rintro _ _ ⟨y, a3, rfl, ha3, rfl⟩
        refine dp rfl (pop_picko rfl (.inr ⟨_, rfl, fun h => by simp_all⟩) (.inl rfl)) ?_
        refine dn ?_
        refine hw_cond rfl (fun h7 => ?_) (fun h8 => ?_)
        · try simp at h7
          have ho0 : 0 < out.length := by simp_all
          have hol : out.length ≤ 16 := by omega
          refine hw_arrc (i := 1) rfl (fun h0 he => ?_) (fun ob off cap hv hcap => ?_)
          · exfalso; have := congrArg List.length he; simp at this; subst this; simp at ho0
          subst hv
          refine hw_reg ?_
          refine dp rfl (pop_move rfl) ?_
          refine dp rfl (pop_move rfl) ?_
          refine dp rfl (pop_move rfl) ?_
          first
          | refine de rfl (eop_lenm (i := 0) ty30 rfl rfl ?_)
          | refine de rfl (eop_lenm (i := 1) ty30 rfl rfl ?_)
          | refine de rfl (eop_lenm (i := 2) ty30 rfl rfl ?_)
          | refine de rfl (eop_lenm (i := 3) ty30 rfl rfl ?_)
          first
          | refine de rfl (eop_callx (i := 0) ca41 rfl (WeakL.refl _) rfl (c_benchmake_Stream_Next (by first | assumption | omega | (simp; omega) | simp_all) (by first | assumption | omega | (simp; omega) | simp_all)) ?_)
          | refine de rfl (eop_callx (i := 1) ca41 rfl (WeakL.refl _) rfl (c_benchmake_Stream_Next (by first | assumption | omega | (simp; omega) | simp_all) (by first | assumption | omega | (simp; omega) | simp_all)) ?_)
          | refine de rfl (eop_callx (i := 2) ca41 rfl (WeakL.refl _) rfl (c_benchmake_Stream_Next (by first | assumption | omega | (simp; omega) | simp_all) (by first | assumption | omega | (simp; omega) | simp_all)) ?_)
          | refine de rfl (eop_callx (i := 3) ca41 rfl (WeakL.refl _) rfl (c_benchmake_Stream_Next (by first | assumption | omega | (simp; omega) | simp_all) (by first | assumption | omega | (simp; omega) | simp_all)) ?_)
          rintro _ _ ⟨y73, rfl, hy73, rfl⟩
          refine dp rfl (pop_idxraw (j := y73) ty30 ty88 rfl rfl rfl (by simp; omega)) ?_
          refine dp rfl (pop_assign rfl) ?_
          refine dn ?_
          obtain ⟨x, hx⟩ : ∃ x, out[y73]? = some x := ⟨_, List.getElem?_eq_getElem (by omega)⟩
          obtain ⟨x0, hx0⟩ : ∃ x, out[0]? = some x := ⟨_, List.getElem?_eq_getElem (by omega)⟩
          refine hw_draw1 (fun M => ∃ i : Nat, M[i]? = some (.arr (.slice (some ⟨ob, off, none⟩) (out.map eKeep).length cap) 3 (out.map eKeep))) [7, 14, 18, 25] mixed ?_
          refine ahp 0 rfl rfl (by kernel_rfl) (by kernel_rfl) (pop_move rfl) ?_
          refine ahp 1 rfl rfl (by kernel_rfl) (by kernel_rfl) (pop_move rfl) ?_
          refine ahp 2 rfl rfl (by kernel_rfl) (by kernel_rfl) (pop_move rfl) ?_
          refine ahp 3 rfl rfl (by kernel_rfl) (by kernel_rfl) (pop_move rfl) ?_
          refine ahp 4 rfl rfl (by kernel_rfl) (by kernel_rfl) (pop_move rfl) ?_
          refine ahp 5 rfl rfl (by kernel_rfl) (by kernel_rfl) ((by first | exact pop_nilCheck rfl | exact pop_nilCheck_raw rfl)) ?_
          refine ahp 6 rfl rfl (by kernel_rfl) (by kernel_rfl) ((by first | exact pop_fieldAddr ty88 rfl ty9 (by decide) rfl | exact pop_fieldAddr_raw ty88 rfl ty9 (by decide) rfl)) ?_
          refine ahl 7 rfl rfl (by kernel_rfl) (by kernel_rfl) (by simp) ⟨1, rfl⟩ (fun M hM => by obtain ⟨i, hi⟩ := hM; exact eop_load_el (i := i) (j := y73) 0 ty9 rfl (by omega) hi hx rfl rfl ⟨rfl, rfl⟩) ?_
          refine ahp 8 rfl rfl (by kernel_rfl) (by kernel_rfl) (pop_buildSlice (hs := [_, _]) ty26 ty9 rfl rfl (by decide) (by decide) rfl) ?_
          refine ahp 10 rfl rfl (by kernel_rfl) (by kernel_rfl) (pop_move rfl) ?_
          refine ahp 11 rfl rfl (by kernel_rfl) (by kernel_rfl) (pop_move rfl) ?_
          refine ahp 12 rfl rfl (by kernel_rfl) (by kernel_rfl) ((by first | exact pop_nilCheck rfl | exact pop_nilCheck_raw rfl)) ?_
          refine ahp 13 rfl rfl (by kernel_rfl) (by kernel_rfl) ((by first | exact pop_fieldAddr ty88 rfl ty9 (by decide) rfl | exact pop_fieldAddr_raw ty88 rfl ty9 (by decide) rfl)) ?_
          refine ahl 14 rfl rfl (by kernel_rfl) (by kernel_rfl) (by simp) ⟨1, rfl⟩ (fun M hM => by obtain ⟨i, hi⟩ := hM; exact eop_load_el (i := i) (j := y73) 1 ty9 rfl (by omega) hi hx rfl rfl ⟨rfl, rfl⟩) ?_
          refine ahp 15 rfl rfl (by kernel_rfl) (by kernel_rfl) (pop_move rfl) ?_
          refine ahp 16 rfl rfl (by kernel_rfl) (by kernel_rfl) (pop_idxraw (j := 0) ty30 ty88 rfl rfl rfl (by simp; omega)) ?_
          refine ahp 17 rfl rfl (by kernel_rfl) (by kernel_rfl) ((by first | exact pop_fieldAddr ty88 rfl ty9 (by decide) rfl | exact pop_fieldAddr_raw ty88 rfl ty9 (by decide) rfl)) ?_
          refine ahl 18 rfl rfl (by kernel_rfl) (by kernel_rfl) (by simp) ⟨1, rfl⟩ (fun M hM => by obtain ⟨i, hi⟩ := hM; exact eop_load_el (i := i) (j := 0) 1 ty9 rfl (by omega) hi hx0 rfl rfl ⟨rfl, rfl⟩) ?_
          refine ahp 19 rfl rfl (by kernel_rfl) (by kernel_rfl) (pop_buildSlice (hs := [_, _, _]) ty26 ty9 rfl rfl (by decide) (by decide) rfl) ?_
          refine ahp 21 rfl rfl (by kernel_rfl) (by kernel_rfl) (pop_move rfl) ?_
          refine ahp 22 rfl rfl (by kernel_rfl) (by kernel_rfl) (pop_move rfl) ?_
          refine ahp 23 rfl rfl (by kernel_rfl) (by kernel_rfl) ((by first | exact pop_nilCheck rfl | exact pop_nilCheck_raw rfl)) ?_
          refine ahp 24 rfl rfl (by kernel_rfl) (by kernel_rfl) ((by first | exact pop_fieldAddr ty88 rfl ty3 (by decide) rfl | exact pop_fieldAddr_raw ty88 rfl ty3 (by decide) rfl)) ?_
          refine ahl 25 rfl rfl (by kernel_rfl) (by kernel_rfl) (by simp) ⟨1, rfl⟩ (fun M hM => by obtain ⟨i, hi⟩ := hM; exact eop_load_el (i := i) (j := y73) 2 ty3 rfl (by omega) hi hx rfl rfl ⟨rfl, rfl⟩) ?_
          refine ahp 26 rfl rfl (by kernel_rfl) (by kernel_rfl) (pop_buildSlice (hs := [_, _, _]) ty22 ty3 rfl rfl (by decide) (by decide) rfl) ?_
          refine ahe 9 rfl (by kernel_rfl) ?_
          first
          | refine hop_e rfl (eop_callx (i := 0) ca43 rfl (WeakL.refl _) rfl (c_benchmake_Stream_Some (L := [_, _]) (by first | assumption | omega | (simp; omega) | simp_all) (by first | assumption | omega | (simp; omega) | simp_all) (by first | assumption | omega | (simp; omega) | simp_all)) ?_)
          | refine hop_e rfl (eop_callx (i := 1) ca43 rfl (WeakL.refl _) rfl (c_benchmake_Stream_Some (L := [_, _]) (by first | assumption | omega | (simp; omega) | simp_all) (by first | assumption | omega | (simp; omega) | simp_all) (by first | assumption | omega | (simp; omega) | simp_all)) ?_)
          | refine hop_e rfl (eop_callx (i := 2) ca43 rfl (WeakL.refl _) rfl (c_benchmake_Stream_Some (L := [_, _]) (by first | assumption | omega | (simp; omega) | simp_all) (by first | assumption | omega | (simp; omega) | simp_all) (by first | assumption | omega | (simp; omega) | simp_all)) ?_)
          | refine hop_e rfl (eop_callx (i := 3) ca43 rfl (WeakL.refl _) rfl (c_benchmake_Stream_Some (L := [_, _]) (by first | assumption | omega | (simp; omega) | simp_all) (by first | assumption | omega | (simp; omega) | simp_all) (by first | assumption | omega | (simp; omega) | simp_all)) ?_)
          rintro _ _ ⟨y84, rfl, hy84, rfl⟩
          refine ⟨fun _ => by first | exact .inl ⟨0, rfl⟩ | exact .inl ⟨1, rfl⟩ | exact .inl ⟨2, rfl⟩ | exact .inr (by simp [Before, Region.binds]), ?_⟩
          refine ahe 20 rfl (by kernel_rfl) ?_
          first
          | refine hop_e rfl (eop_callx (i := 0) ca43 rfl (WeakL.refl _) rfl (c_benchmake_Stream_Some (L := [_, _, _]) (by first | assumption | omega | (simp; omega) | simp_all) (by first | assumption | omega | (simp; omega) | simp_all) (by first | assumption | omega | (simp; omega) | simp_all)) ?_)
          | refine hop_e rfl (eop_callx (i := 1) ca43 rfl (WeakL.refl _) rfl (c_benchmake_Stream_Some (L := [_, _, _]) (by first | assumption | omega | (simp; omega) | simp_all) (by first | assumption | omega | (simp; omega) | simp_all) (by first | assumption | omega | (simp; omega) | simp_all)) ?_)
          | refine hop_e rfl (eop_callx (i := 2) ca43 rfl (WeakL.refl _) rfl (c_benchmake_Stream_Some (L := [_, _, _]) (by first | assumption | omega | (simp; omega) | simp_all) (by first | assumption | omega | (simp; omega) | simp_all) (by first | assumption | omega | (simp; omega) | simp_all)) ?_)
          | refine hop_e rfl (eop_callx (i := 3) ca43 rfl (WeakL.refl _) rfl (c_benchmake_Stream_Some (L := [_, _, _]) (by first | assumption | omega | (simp; omega) | simp_all) (by first | assumption | omega | (simp; omega) | simp_all) (by first | assumption | omega | (simp; omega) | simp_all)) ?_)
          rintro _ _ ⟨y95, rfl, hy95, rfl⟩
          refine ⟨fun _ => by first | exact .inl ⟨0, rfl⟩ | exact .inl ⟨1, rfl⟩ | exact .inl ⟨2, rfl⟩ | exact .inr (by simp [Before, Region.binds]), ?_⟩
          refine ahe 27 rfl (by kernel_rfl) ?_
          first
          | refine hop_e rfl (eop_callx (i := 0) ca10 rfl (WeakL.refl _) rfl (c_benchmake_Stream_Pick (L := [_, _, _]) (by first | assumption | omega | (simp; omega) | simp_all) (by first | assumption | omega | (simp; omega) | simp_all) (by first | assumption | omega | (simp; omega) | simp_all)) ?_)
          | refine hop_e rfl (eop_callx (i := 1) ca10 rfl (WeakL.refl _) rfl (c_benchmake_Stream_Pick (L := [_, _, _]) (by first | assumption | omega | (simp; omega) | simp_all) (by first | assumption | omega | (simp; omega) | simp_all) (by first | assumption | omega | (simp; omega) | simp_all)) ?_)
          | refine hop_e rfl (eop_callx (i := 2) ca10 rfl (WeakL.refl _) rfl (c_benchmake_Stream_Pick (L := [_, _, _]) (by first | assumption | omega | (simp; omega) | simp_all) (by first | assumption | omega | (simp; omega) | simp_all) (by first | assumption | omega | (simp; omega) | simp_all)) ?_)
          | refine hop_e rfl (eop_callx (i := 3) ca10 rfl (WeakL.refl _) rfl (c_benchmake_Stream_Pick (L := [_, _, _]) (by first | assumption | omega | (simp; omega) | simp_all) (by first | assumption | omega | (simp; omega) | simp_all) (by first | assumption | omega | (simp; omega) | simp_all)) ?_)
          rintro _ _ ⟨y102, rfl, hy102, rfl⟩
          refine ⟨fun _ => by first | exact .inl ⟨0, rfl⟩ | exact .inl ⟨1, rfl⟩ | exact .inl ⟨2, rfl⟩ | exact .inr (by simp [Before, Region.binds]), ?_⟩
          refine ahp 28 rfl rfl (by kernel_rfl) (by kernel_rfl) ((by first | exact pop_nilCheck rfl | exact pop_nilCheck_raw rfl)) ?_
          refine ahp 29 rfl rfl (by kernel_rfl) (by kernel_rfl) ((by first | exact pop_fieldAddr ty88 rfl ty9 (by decide) rfl | exact pop_fieldAddr_raw ty88 rfl ty9 (by decide) rfl)) ?_
          refine ahe 30 rfl (by kernel_rfl) ?_
          refine hop_e0 (eop_store_arr (i := 1) (j := y73) (f := 0) (y := eKeep x) (y' := eKeep ⟨y84, x.Player, x.Round⟩) ty9 rfl (by omega) rfl rfl (by simp [hx]) rfl rfl (by simp [hcells]) rfl ?_)
          refine ⟨fun _ => .inr (by simp [Before, Region.binds]), ?_⟩
          refine ahp 31 rfl rfl (by kernel_rfl) (by kernel_rfl) ((by first | exact pop_nilCheck rfl | exact pop_nilCheck_raw rfl)) ?_
          refine ahp 32 rfl rfl (by kernel_rfl) (by kernel_rfl) ((by first | exact pop_fieldAddr ty88 rfl ty9 (by decide) rfl | exact pop_fieldAddr_raw ty88 rfl ty9 (by decide) rfl)) ?_
          refine ahe 33 rfl (by kernel_rfl) ?_
          refine hop_e0 (eop_store_arr (i := 1) (j := y73) (f := 1) (y := eKeep ⟨y84, x.Player, x.Round⟩) (y' := eKeep ⟨y84, y95, x.Round⟩) ty9 rfl (by omega) rfl rfl (set_self (map_get hx)) rfl rfl (by simp [hcells]) rfl ?_)
          refine ⟨fun _ => .inr (by simp [Before, Region.binds]), ?_⟩
          refine ahp 34 rfl rfl (by kernel_rfl) (by kernel_rfl) ((by first | exact pop_nilCheck rfl | exact pop_nilCheck_raw rfl)) ?_
          refine ahp 35 rfl rfl (by kernel_rfl) (by kernel_rfl) ((by first | exact pop_fieldAddr ty88 rfl ty3 (by decide) rfl | exact pop_fieldAddr_raw ty88 rfl ty3 (by decide) rfl)) ?_
          refine ahe 36 rfl (by kernel_rfl) ?_
          refine hop_e0 (eop_store_arr (i := 1) (j := y73) (f := 2) (y := eKeep ⟨y84, y95, x.Round⟩) (y' := eKeep ⟨y84, y95, y102⟩) ty3 rfl (by omega) rfl rfl (set_self (set_self (map_get hx))) rfl rfl (by simp [hcells]) rfl ?_)
          refine ⟨fun _ => .inr (by simp [Before, Region.binds]), ?_⟩
          refine ahz (by kernel_rfl) ?_
          exact ⟨(out.set y73 ⟨y84, y95, y102⟩, a3 + 4), ⟨by simp; omega, keeps_set g4 (by simp at hy84; rcases hy84 with rfl | rfl <;> first | exact zz_sh | exact (g4 x (List.mem_of_getElem? hx)).1) (by simp at hy95; rcases hy95 with rfl | rfl | rfl <;> first | exact zz_sh | exact (g4 x (List.mem_of_getElem? hx)).2 | exact (g4 x0 (List.mem_of_getElem? hx0)).2), by dsimp only; omega⟩, trivial, (by repeat (first | exact keeps_refl | refine keeps_upd rfl ?_ | refine keeps_loop rfl rfl ?_)), by repeat (first | exact List.Perm.nil | refine permTo 0 rfl ?_ | refine permTo 1 rfl ?_ | refine permTo 2 rfl ?_ | refine permTo 3 rfl ?_ | (refine permToE 0 rfl ?hq ?_; (case hq => simp [setL, hcells]; done)) | (refine permToE 1 rfl ?hq ?_; (case hq => simp [setL, hcells]; done)) | (refine permToE 2 rfl ?hq ?_; (case hq => simp [setL, hcells]; done)) | (refine permToE 3 rfl ?hq ?_; (case hq => simp [setL, hcells]; done)) | fail)⟩
        · try simp at h8
          refine hw_skip ?_
          exact ⟨(out, a3), ⟨by dsimp only; omega, g4, by dsimp only; omega⟩, trivial, (by repeat (first | exact keeps_refl | refine keeps_upd rfl ?_ | refine keeps_loop rfl rfl ?_)), by repeat (first | exact List.Perm.nil | refine permTo 0 rfl ?_ | refine permTo 1 rfl ?_ | refine permTo 2 rfl ?_ | refine permTo 3 rfl ?_ | (refine permToE 0 rfl ?hq ?_; (case hq => simp [setL, hcells]; done)) | (refine permToE 1 rfl ?hq ?_; (case hq => simp [setL, hcells]; done)) | (refine permToE 2 rfl ?hq ?_; (case hq => simp [setL, hcells]; done)) | (refine permToE 3 rfl ?hq ?_; (case hq => simp [setL, hcells]; done)) | fail)⟩
      · intro q hq
        obtain ⟨k, a4⟩ := q
        dsimp only at hq
        obtain ⟨q1, q2, q3⟩ := hq
        refine hw_reg ?_
        refine dp rfl (pop_move rfl) ?_
        refine dp rfl (pop_assign rfl) ?_
        refine dn ?_
        refine hw_ret ?_
        refine ret_g (Ghost.fa 4 (i := 1) rfl rfl) rfl ⟨k, a4, rfl, ⟨by omega, q2⟩, by omega, rfl⟩
end Go.Proofs.YtoomadfbldcioaaGreatDoor
end
section
namespace Go.Proofs.YtoomadfbldcioaaGreatDoor
open Go.HL
set_option maxRecDepth 100000
set_option linter.unusedVariables false
set_option linter.unusedSimpArgs false
set_option maxHeartbeats 2000000 in
/-- (*benchwarmer/benchmake.Stream).SwapList -/
theorem c_benchmake_Stream_SwapList {b : Nat} {l : List Int} {a : Nat} {r : Room}  (ha : a ≤ 800000) (hr : GoodRoom r) : Con Tryz.prog 7 [pAt b, eRoom r] [St b l a] (fun x M' => ∃ k a', x = eSwaps k ∧ GoodSwaps k ∧ a' ≤ a + 60 ∧ M' = [St b l a']) := by
  have hrp := hr.p20
  have hrt := hr.t4
  have hrt0 := hr.t0
  refine Con.of_body Tryz.func7 rfl Tryz.ntmps7 rfl rfl ?_
  refine hw_reg ?_
  refine dp rfl (pop_box rfl rfl) ?_
  refine dp rfl (pop_assign rfl) ?_
  refine dn ?_
  refine hw_reg ?_
  refine dp rfl (pop_assign rfl) ?_
  refine dn ?_
  refine hw_reg ?_
  refine dp rfl ((by first | exact pop_fieldAddr ty28 rfl ty26 (by decide) rfl | exact pop_fieldAddr_raw ty28 rfl ty26 (by decide) rfl)) ?_
  refine dp rfl (pop_load ty26 rfl rfl rfl) ?_
  refine de rfl (eop_calla ca42 rfl (WeakL.refl _) (c_slices_Clone_string_string (by first | assumption | omega | (simp; omega) | simp_all)) fun v13 => ?_)
  refine dp rfl (pop_assign rfl) ?_
  refine dn ?_
  refine hw_reg ?_
  refine dp rfl (pop_move rfl) ?_
  refine de rfl (eop_callx (i := 0) ca45 rfl (WeakL.refl _) rfl (c_slices_Sort (l := r.Teams) (by omega)) ?_)
  rintro _ _ ⟨rfl, rfl⟩
  refine dn ?_
  refine hw_arrc (i := 0) rfl (fun h0 he => ?_) (fun tb toff tcap hv hcap => ?_)
  · exfalso; have := congrArg List.length he; simp [sortS_len] at this; rw [this] at hrt0; simp at hrt0
  rw [List.length_map, sortS_len] at hv
  subst hv
  refine hw_ghost (Ghost.arr_nil 3) ?_
  refine hw_seq ?_
  refine hw_reg ?_
  refine dp rfl (pop_assign rfl) ?_
  refine dn ?_
  refine hw_block ?_
  refine hw_loopw2 [5, 7, 9, 16, 17, 18, 19, 20, 21, 22, 23, 24, 25, 26, 27, 28, 29, 30, 31, 32, 33, 34, 35, 36, 37, 38, 39, 40, 41, 42] (fun (m : Nat) (q : SLs) => [(7, .int .i64 ((m : Int) + 1)), (5, .raw q.u)]) (fun (m : Nat) (q : SLs) => [St b l q.a, .arr q.u 3 (q.out.map eSwap), .arr (.slice (some ⟨tb, toff, none⟩) r.Teams.length tcap) 1 (q.row.map .str)]) (fun (m : Nat) (q : SLs) => m ≤ 4 ∧ q.row.length = r.Teams.length ∧ SLok (4 * m) a q) (fun (m : Nat) (q : SLs) => 4 - m) (0) (⟨.slice none 0 0, [], sortS r.Teams, a⟩) ?_ ?_ ?_ ?_
  · exact ⟨by omega, sortS_len _, ⟨by simp, by simp [sortS_len, hrt], fun s hs => hr.ts s ((List.mergeSort_perm _ _).mem_iff.1 hs), by simp, by dsimp only; omega⟩⟩
  · exact ⟨rfl, rfl, trivial⟩
  · repeat (first | exact List.Perm.nil | refine permTo 0 rfl ?_ | refine permTo 1 rfl ?_ | refine permTo 2 rfl ?_ | refine permTo 3 rfl ?_ | (refine permToE 0 rfl ?hq ?_; (case hq => simp [setL, hcells]; done)) | (refine permToE 1 rfl ?hq ?_; (case hq => simp [setL, hcells]; done)) | (refine permToE 2 rfl ?hq ?_; (case hq => simp [setL, hcells]; done)) | (refine permToE 3 rfl ?hq ?_; (case hq => simp [setL, hcells]; done)) | fail)
  · intro m q hinv
    obtain ⟨hm, hrl, hm2⟩ := hinv
    obtain ⟨u, out, row, a2⟩ := q
    obtain ⟨g1, g2, g3, g4, g5⟩ := id hm2
    dsimp only at g1 g2 g3 g4 g5 hrl
    refine hw_seq ?_
    refine hw_reg ?_
    refine dp rfl (pop_move rfl) ?_
    refine dp rfl ((by first | exact pop_fieldAddr ty28 rfl ty3 (by decide) rfl | exact pop_fieldAddr_raw ty28 rfl ty3 (by decide) rfl)) ?_
    refine dp rfl (pop_load ty3 rfl rfl rfl) ?_
    refine dp rfl (pop_min rfl rfl) ?_
    refine dp rfl (pop_leq rfl rfl) ?_
    refine dn ?_
    refine hw_cond rfl (fun h1 => ?_) (fun h2 => ?_)
    · try simp at h1
      have hm4 : m < 4 := by omega
      refine hw_skip ?_
      refine seqQ_n ?_
      refine hw_seq ?_
      refine hw_block ?_
      refine hw_reg ?_
      refine dp rfl (pop_move rfl) ?_
      refine de rfl (eop_callx (i := 2) ca46 rfl (WeakL.refl _) rfl (c_slices_Compact_k (l := row) (by omega) hrl) ?_)
      rintro _ _ ⟨rfl, rfl⟩
      refine dp rfl (pop_len_raw ty26 rfl) ?_
      refine dp rfl (pop_move rfl) ?_
      refine dn ?_
      have hcl := compact_le row
      have hrow : ∀ s ∈ Lib.compact row, Sh s := fun s hs => g3 s (mem_compact hs)
      refine hw_block ?_
      refine hw_loopw2 [5, 9, 26, 27, 28, 29, 30, 31, 32, 33, 34, 35, 36, 37, 38, 39, 40, 41, 42] (fun (k : Nat) (q : SLs) => [(26, .int .i64 k), (5, .raw q.u)]) (fun (k : Nat) (q : SLs) => [St b l q.a, .arr q.u 3 (q.out.map eSwap), .arr (.slice (some ⟨tb, toff, none⟩) r.Teams.length tcap) 1 ((fillUp r.Teams.length (Lib.compact row)).map .str)]) (fun (k : Nat) (q : SLs) => k ≤ (Lib.compact row).length ∧ (SLok (4 * m + k) a q)) (fun (k : Nat) (q : SLs) => (Lib.compact row).length - k) (0) (⟨u, out, row, a2⟩) ?_ ?_ ?_ ?_
      · exact ⟨Nat.zero_le _, hm2⟩
      · exact ⟨rfl, rfl, trivial⟩
      · repeat (first | exact List.Perm.nil | refine permTo 0 rfl ?_ | refine permTo 1 rfl ?_ | refine permTo 2 rfl ?_ | refine permTo 3 rfl ?_ | (refine permToE 0 rfl ?hq ?_; (case hq => simp [setL, hcells]; done)) | (refine permToE 1 rfl ?hq ?_; (case hq => simp [setL, hcells]; done)) | (refine permToE 2 rfl ?hq ?_; (case hq => simp [setL, hcells]; done)) | (refine permToE 3 rfl ?hq ?_; (case hq => simp [setL, hcells]; done)) | fail)
      · intro k q hinv
        obtain ⟨hk, hg⟩ := hinv
        obtain ⟨u2, out2, row2, a4⟩ := q
        obtain ⟨g1, g2, g3, g4, g5⟩ := id hg
        dsimp only at g1 g2 g3 g4 g5
        refine hw_reg ?_
        refine dp rfl (pop_lss rfl rfl) ?_
        refine dn ?_
        refine hw_seq ?_
        refine hw_cond rfl (fun h3 => ?_) (fun h4 => ?_)
        · try simp at h3
          obtain ⟨x, hx⟩ : ∃ x, (Lib.compact row)[k]? = some x := ⟨_, List.getElem?_eq_getElem h3⟩
          have hdx := drop_cons hx
          refine hw_skip ?_
          refine seqQ_n ?_
          refine hw_seq ?_
          refine hw_block ?_
          refine hw_reg ?_
          refine dp rfl (pop_idxraw (j := k) ty26 ty9 rfl rfl rfl (lt_of_get hx)) ?_
          refine de rfl (eop_load_el (i := 2) (j := k) 0 ty9 rfl (by omega) rfl (fillUp_get hx) rfl rfl ?_)
          refine dp rfl (pop_assign rfl) ?_
          refine dn ?_
          refine hw_reg ?_
          refine dp rfl (pop_move rfl) ?_
          first
          | refine de rfl (eop_callx (i := 0) ca11 rfl (WeakL.refl _) rfl (c_benchmake_Stream_Flip (by first | assumption | omega | (simp; omega) | simp_all) (by first | assumption | omega | (simp; omega) | simp_all)) ?_)
          | refine de rfl (eop_callx (i := 1) ca11 rfl (WeakL.refl _) rfl (c_benchmake_Stream_Flip (by first | assumption | omega | (simp; omega) | simp_all) (by first | assumption | omega | (simp; omega) | simp_all)) ?_)
          | refine de rfl (eop_callx (i := 2) ca11 rfl (WeakL.refl _) rfl (c_benchmake_Stream_Flip (by first | assumption | omega | (simp; omega) | simp_all) (by first | assumption | omega | (simp; omega) | simp_all)) ?_)
          | refine de rfl (eop_callx (i := 3) ca11 rfl (WeakL.refl _) rfl (c_benchmake_Stream_Flip (by first | assumption | omega | (simp; omega) | simp_all) (by first | assumption | omega | (simp; omega) | simp_all)) ?_)
          rintro _ _ ⟨y31, rfl, rfl⟩
          refine dn ?_
          refine hw_cond rfl (fun h5 => ?_) (fun h6 => ?_)
          · try simp at h5
            refine hw_reg1 ?_
            refine dp rfl (pop_move rfl) ?_
            refine dp rfl (pop_move rfl) ?_
            refine dp rfl (pop_move rfl) ?_
            refine dp rfl (pop_move rfl) ?_
            refine dp rfl ((by first | exact pop_fieldAddr ty28 rfl ty26 (by decide) rfl | exact pop_fieldAddr_raw ty28 rfl ty26 (by decide) rfl)) ?_
            refine dp rfl (pop_load ty26 rfl rfl rfl) ?_
            first
            | refine de rfl (eop_callx (i := 0) ca43 rfl (WeakL.refl _) rfl (c_benchmake_Stream_Some (by first | assumption | omega | (simp; omega) | simp_all) (by first | assumption | omega | (simp; omega) | simp_all) (by first | assumption | omega | (simp; omega) | simp_all)) ?_)
            | refine de rfl (eop_callx (i := 1) ca43 rfl (WeakL.refl _) rfl (c_benchmake_Stream_Some (by first | assumption | omega | (simp; omega) | simp_all) (by first | assumption | omega | (simp; omega) | simp_all) (by first | assumption | omega | (simp; omega) | simp_all)) ?_)
            | refine de rfl (eop_callx (i := 2) ca43 rfl (WeakL.refl _) rfl (c_benchmake_Stream_Some (by first | assumption | omega | (simp; omega) | simp_all) (by first | assumption | omega | (simp; omega) | simp_all) (by first | assumption | omega | (simp; omega) | simp_all)) ?_)
            | refine de rfl (eop_callx (i := 3) ca43 rfl (WeakL.refl _) rfl (c_benchmake_Stream_Some (by first | assumption | omega | (simp; omega) | simp_all) (by first | assumption | omega | (simp; omega) | simp_all) (by first | assumption | omega | (simp; omega) | simp_all)) ?_)
            rintro _ _ ⟨y38, rfl, hy38, rfl⟩
            refine dp rfl (pop_build (cs := [_, _, _]) ty92 pl92 rfl) ?_
            refine dp rfl (pop_buildSlice (hs := [_]) ty32 ty92 rfl rfl (by decide) (by decide) rfl) ?_
            first
            | refine de rfl (eop_append (i := 0) ty32 ty92 rfl rfl rfl rfl rfl (by simp [flat, hcells]) (by first | omega | (simp; omega)) fun v41 => ?_)
            | refine de rfl (eop_append (i := 1) ty32 ty92 rfl rfl rfl rfl rfl (by simp [flat, hcells]) (by first | omega | (simp; omega)) fun v41 => ?_)
            | refine de rfl (eop_append (i := 2) ty32 ty92 rfl rfl rfl rfl rfl (by simp [flat, hcells]) (by first | omega | (simp; omega)) fun v41 => ?_)
            | refine de rfl (eop_append (i := 3) ty32 ty92 rfl rfl rfl rfl rfl (by simp [flat, hcells]) (by first | omega | (simp; omega)) fun v41 => ?_)
            refine dp rfl (pop_assign rfl) ?_
            refine dn ?_
            refine blockQ_n ?_
            refine seqQ_n ?_
            refine hw_reg1 ?_
            refine dp rfl (pop_add64 rfl rfl (by omega) (by omega)) ?_
            refine dp rfl (pop_move rfl) ?_
            refine dn ?_
            first
            | exact ⟨k + 1, ⟨v41, out2 ++ [⟨(m : Int) + 1, x, y38⟩], row2, a4 + 2⟩, ⟨by omega, hg.add (by omega) (hrow x (List.mem_of_getElem? hx)) (hr.ts _ hy38)⟩, by dsimp only; omega, ⟨rfl, rfl, trivial⟩, (by repeat (first | exact keeps_refl | refine keeps_upd rfl ?_ | refine keeps_loop rfl rfl ?_)), by repeat (first | exact List.Perm.nil | refine permTo 0 rfl ?_ | refine permTo 1 rfl ?_ | refine permTo 2 rfl ?_ | refine permTo 3 rfl ?_ | (refine permToE 0 rfl ?hq ?_; (case hq => simp [setL, hcells]; done)) | (refine permToE 1 rfl ?hq ?_; (case hq => simp [setL, hcells]; done)) | (refine permToE 2 rfl ?hq ?_; (case hq => simp [setL, hcells]; done)) | (refine permToE 3 rfl ?hq ?_; (case hq => simp [setL, hcells]; done)) | fail)⟩
            | exact ⟨k + 1, ⟨u2, out2, row2, a4 + 1⟩, ⟨by omega, hg.more (by omega)⟩, by dsimp only; omega, ⟨rfl, rfl, trivial⟩, (by repeat (first | exact keeps_refl | refine keeps_upd rfl ?_ | refine keeps_loop rfl rfl ?_)), by repeat (first | exact List.Perm.nil | refine permTo 0 rfl ?_ | refine permTo 1 rfl ?_ | refine permTo 2 rfl ?_ | refine permTo 3 rfl ?_ | (refine permToE 0 rfl ?hq ?_; (case hq => simp [setL, hcells]; done)) | (refine permToE 1 rfl ?hq ?_; (case hq => simp [setL, hcells]; done)) | (refine permToE 2 rfl ?hq ?_; (case hq => simp [setL, hcells]; done)) | (refine permToE 3 rfl ?hq ?_; (case hq => simp [setL, hcells]; done)) | fail)⟩
          · try simp at h6
            refine hw_skip ?_
            refine blockQ_n ?_
            refine seqQ_n ?_
            refine hw_reg1 ?_
            refine dp rfl (pop_add64 rfl rfl (by omega) (by omega)) ?_
            refine dp rfl (pop_move rfl) ?_
            refine dn ?_
            first
            | exact ⟨k + 1, ⟨v41, out2 ++ [⟨(m : Int) + 1, x, y38⟩], row2, a4 + 2⟩, ⟨by omega, hg.add (by omega) (hrow x (List.mem_of_getElem? hx)) (hr.ts _ hy38)⟩, by dsimp only; omega, ⟨rfl, rfl, trivial⟩, (by repeat (first | exact keeps_refl | refine keeps_upd rfl ?_ | refine keeps_loop rfl rfl ?_)), by repeat (first | exact List.Perm.nil | refine permTo 0 rfl ?_ | refine permTo 1 rfl ?_ | refine permTo 2 rfl ?_ | refine permTo 3 rfl ?_ | (refine permToE 0 rfl ?hq ?_; (case hq => simp [setL, hcells]; done)) | (refine permToE 1 rfl ?hq ?_; (case hq => simp [setL, hcells]; done)) | (refine permToE 2 rfl ?hq ?_; (case hq => simp [setL, hcells]; done)) | (refine permToE 3 rfl ?hq ?_; (case hq => simp [setL, hcells]; done)) | fail)⟩
            | exact ⟨k + 1, ⟨u2, out2, row2, a4 + 1⟩, ⟨by omega, hg.more (by omega)⟩, by dsimp only; omega, ⟨rfl, rfl, trivial⟩, (by repeat (first | exact keeps_refl | refine keeps_upd rfl ?_ | refine keeps_loop rfl rfl ?_)), by repeat (first | exact List.Perm.nil | refine permTo 0 rfl ?_ | refine permTo 1 rfl ?_ | refine permTo 2 rfl ?_ | refine permTo 3 rfl ?_ | (refine permToE 0 rfl ?hq ?_; (case hq => simp [setL, hcells]; done)) | (refine permToE 1 rfl ?hq ?_; (case hq => simp [setL, hcells]; done)) | (refine permToE 2 rfl ?hq ?_; (case hq => simp [setL, hcells]; done)) | (refine permToE 3 rfl ?hq ?_; (case hq => simp [setL, hcells]; done)) | fail)⟩
        · try simp at h4
          have hnk : (Lib.compact row).length ≤ k := by omega
          obtain rfl : k = (Lib.compact row).length := by omega
          refine hw_exit ?_
          refine seqQ_x ?_
          refine loopQ2_x ?_
          refine blockQ_eq ?_
          refine blockQ_n ?_
          refine seqQ_n ?_
          refine hw_reg1 ?_
          refine dp rfl (pop_move rfl) ?_
          refine dp rfl (pop_add64 rfl rfl (by omega) (by omega)) ?_
          refine dp rfl (pop_assign rfl) ?_
          refine dn ?_
          exact ⟨m + 1, ⟨u2, out2, fillUp r.Teams.length (Lib.compact row), a4⟩, ⟨by omega, fillUp_len (by omega), (hg.mono (by omega)).rowTo (by rw [fillUp_len (by omega)]; exact hrt) (fillUp_sh hrow)⟩, by dsimp only; omega, ⟨rfl, rfl, trivial⟩, (by repeat (first | exact keeps_refl | refine keeps_upd rfl ?_ | refine keeps_loop rfl rfl ?_)), by repeat (first | exact List.Perm.nil | refine permTo 0 rfl ?_ | refine permTo 1 rfl ?_ | refine permTo 2 rfl ?_ | refine permTo 3 rfl ?_ | (refine permToE 0 rfl ?hq ?_; (case hq => simp [setL, hcells]; done)) | (refine permToE 1 rfl ?hq ?_; (case hq => simp [setL, hcells]; done)) | (refine permToE 2 rfl ?hq ?_; (case hq => simp [setL, hcells]; done)) | (refine permToE 3 rfl ?hq ?_; (case hq => simp [setL, hcells]; done)) | fail)⟩
    · try simp at h2
      refine hw_exit ?_
      refine seqQ_x ?_
      refine loopQ2_x ?_
      refine blockQ_eq ?_
      refine seqQ_n ?_
      refine hw_join [10, 43, 44, 45, 46, 47, 48, 49, 50, 51, 52, 53, 54, 55, 56, 57, 58, 59, 60, 61, 62, 63, 64, 65, 66, 67, 68, 69, 70, 71, 72, 73, 74, 75, 76, 77, 78, 79, 80, 81, 82, 83, 84, 85] (fun (q : List Swap × Nat) => []) (fun (q : List Swap × Nat) => [St b l q.2, .arr u 3 (q.1.map eSwap)]) (fun (q : List Swap × Nat) => q.1.length ≤ 16 ∧ (∀ x ∈ q.1, Sh x.Of ∧ Sh x.Team) ∧ q.2 ≤ a + 60) ?_ ?_
      · skip
        refine hw_ghost (Ghost.perm (M' := [.arr (.slice (some ⟨tb, toff, none⟩) r.Teams.length tcap) 1 (row.map .str), St b l a2, .arr u 3 (out.map eSwap)]) (by repeat (first | exact List.Perm.nil | refine permTo 0 rfl ?_ | refine permTo 1 rfl ?_ | refine permTo 2 rfl ?_ | refine permTo 3 rfl ?_ | (refine permToE 0 rfl ?hq ?_; (case hq => simp [setL, hcells]; done)) | (refine permToE 1 rfl ?hq ?_; (case hq => simp [setL, hcells]; done)) | (refine permToE 2 rfl ?hq ?_; (case hq => simp [setL, hcells]; done)) | (refine permToE 3 rfl ?hq ?_; (case hq => simp [setL, hcells]; done)) | fail))) ?_
        refine hw_ghost Ghost.drop ?_
        refine hw_reg ?_
        refine dp rfl (pop_move rfl) ?_
        first
        | refine de rfl (eop_lenm (i := 0) ty32 rfl rfl ?_)
        | refine de rfl (eop_lenm (i := 1) ty32 rfl rfl ?_)
        | refine de rfl (eop_lenm (i := 2) ty32 rfl rfl ?_)
        | refine de rfl (eop_lenm (i := 3) ty32 rfl rfl ?_)
        refine dp rfl (pop_gtr rfl rfl) ?_
        refine dp rfl (pop_move rfl) ?_
        refine dg rfl rfl (fun hc => ⟨_, OpenTo.refl _, pop_move rfl⟩) ?_
        refine dgx (fun x M' => ∃ (y : Bool) (a3 : Nat), x = .bool y ∧ a3 ≤ a2 + 1 ∧ M' = [St b l a3, .arr u 3 (out.map eSwap)]) rfl rfl (fun hc => ⟨_, false, a2, rfl, by omega, rfl⟩) (fun hc => ⟨_, OpenTo.upd (t := 47) rfl (by first | exact hc | simp_all) (OpenTo.refl _), eop_callx (i := 0) ca11 rfl (WeakL.refl _) rfl (c_benchmake_Stream_Flip (a := a2) (by omega) (by omega)) (fun h M' hh => by
          obtain ⟨y, h1, h2⟩ := hh
          exact ⟨y, a2 + 1, h1, by omega, by rw [h2]; rfl⟩)⟩) ?_
        rintro _ _ ⟨y, a3, rfl, ha3, rfl⟩
        refine dp rfl (pop_picko rfl (.inr ⟨_, rfl, fun h => by simp_all⟩) (.inl rfl)) ?_
        refine dn ?_
        refine hw_cond rfl (fun h7 => ?_) (fun h8 => ?_)
        · try simp at h7
          have ho0 : 0 < out.length := by simp_all
          have hol : out.length ≤ 16 := by omega
          refine hw_arrc (i := 1) rfl (fun h0 he => ?_) (fun ob off cap hv hcap => ?_)
          · exfalso; have := congrArg List.length he; simp at this; subst this; simp at ho0
          subst hv
          refine hw_reg ?_
          refine dp rfl (pop_move rfl) ?_
          refine dp rfl (pop_move rfl) ?_
          refine dp rfl (pop_move rfl) ?_
          first
          | refine de rfl (eop_lenm (i := 0) ty32 rfl rfl ?_)
          | refine de rfl (eop_lenm (i := 1) ty32 rfl rfl ?_)
          | refine de rfl (eop_lenm (i := 2) ty32 rfl rfl ?_)
          | refine de rfl (eop_lenm (i := 3) ty32 rfl rfl ?_)
          first
          | refine de rfl (eop_callx (i := 0) ca41 rfl (WeakL.refl _) rfl (c_benchmake_Stream_Next (by first | assumption | omega | (simp; omega) | simp_all) (by first | assumption | omega | (simp; omega) | simp_all)) ?_)
          | refine de rfl (eop_callx (i := 1) ca41 rfl (WeakL.refl _) rfl (c_benchmake_Stream_Next (by first | assumption | omega | (simp; omega) | simp_all) (by first | assumption | omega | (simp; omega) | simp_all)) ?_)
          | refine de rfl (eop_callx (i := 2) ca41 rfl (WeakL.refl _) rfl (c_benchmake_Stream_Next (by first | assumption | omega | (simp; omega) | simp_all) (by first | assumption | omega | (simp; omega) | simp_all)) ?_)
          | refine de rfl (eop_callx (i := 3) ca41 rfl (WeakL.refl _) rfl (c_benchmake_Stream_Next (by first | assumption | omega | (simp; omega) | simp_all) (by first | assumption | omega | (simp; omega) | simp_all)) ?_)
          rintro _ _ ⟨y54, rfl, hy54, rfl⟩
          refine dp rfl (pop_idxraw (j := y54) ty32 ty92 rfl rfl rfl (by simp; omega)) ?_
          refine dp rfl (pop_assign rfl) ?_
          refine dn ?_
          obtain ⟨x, hx⟩ : ∃ x, out[y54]? = some x := ⟨_, List.getElem?_eq_getElem (by omega)⟩
          refine hw_draw1 (fun M => ∃ i : Nat, M[i]? = some (.arr (.slice (some ⟨ob, off, none⟩) (out.map eSwap).length cap) 3 (out.map eSwap))) [7, 14, 21] mixed ?_
          refine ahp 0 rfl rfl (by kernel_rfl) (by kernel_rfl) (pop_move rfl) ?_
          refine ahp 1 rfl rfl (by kernel_rfl) (by kernel_rfl) (pop_move rfl) ?_
          refine ahp 2 rfl rfl (by kernel_rfl) (by kernel_rfl) (pop_move rfl) ?_
          refine ahp 3 rfl rfl (by kernel_rfl) (by kernel_rfl) (pop_move rfl) ?_
          refine ahp 4 rfl rfl (by kernel_rfl) (by kernel_rfl) (pop_move rfl) ?_
          refine ahp 5 rfl rfl (by kernel_rfl) (by kernel_rfl) ((by first | exact pop_nilCheck rfl | exact pop_nilCheck_raw rfl)) ?_
          refine ahp 6 rfl rfl (by kernel_rfl) (by kernel_rfl) ((by first | exact pop_fieldAddr ty92 rfl ty3 (by decide) rfl | exact pop_fieldAddr_raw ty92 rfl ty3 (by decide) rfl)) ?_
          refine ahl 7 rfl rfl (by kernel_rfl) (by kernel_rfl) (by simp) ⟨1, rfl⟩ (fun M hM => by obtain ⟨i, hi⟩ := hM; exact eop_load_el (i := i) (j := y54) 0 ty3 rfl (by omega) hi hx rfl rfl ⟨rfl, rfl⟩) ?_
          refine ahp 8 rfl rfl (by kernel_rfl) (by kernel_rfl) (pop_buildSlice (hs := [_, _, _]) ty22 ty3 rfl rfl (by decide) (by decide) rfl) ?_
          refine ahp 10 rfl rfl (by kernel_rfl) (by kernel_rfl) (pop_move rfl) ?_
          refine ahp 11 rfl rfl (by kernel_rfl) (by kernel_rfl) (pop_move rfl) ?_
          refine ahp 12 rfl rfl (by kernel_rfl) (by kernel_rfl) ((by first | exact pop_nilCheck rfl | exact pop_nilCheck_raw rfl)) ?_
          refine ahp 13 rfl rfl (by kernel_rfl) (by kernel_rfl) ((by first | exact pop_fieldAddr ty92 rfl ty9 (by decide) rfl | exact pop_fieldAddr_raw ty92 rfl ty9 (by decide) rfl)) ?_
          refine ahl 14 rfl rfl (by kernel_rfl) (by kernel_rfl) (by simp) ⟨1, rfl⟩ (fun M hM => by obtain ⟨i, hi⟩ := hM; exact eop_load_el (i := i) (j := y54) 1 ty9 rfl (by omega) hi hx rfl rfl ⟨rfl, rfl⟩) ?_
          refine ahp 15 rfl rfl (by kernel_rfl) (by kernel_rfl) (pop_buildSlice (hs := [_, _]) ty26 ty9 rfl rfl (by decide) (by decide) rfl) ?_
          refine ahp 17 rfl rfl (by kernel_rfl) (by kernel_rfl) (pop_move rfl) ?_
          refine ahp 18 rfl rfl (by kernel_rfl) (by kernel_rfl) (pop_move rfl) ?_
          refine ahp 19 rfl rfl (by kernel_rfl) (by kernel_rfl) ((by first | exact pop_nilCheck rfl | exact pop_nilCheck_raw rfl)) ?_
          refine ahp 20 rfl rfl (by kernel_rfl) (by kernel_rfl) ((by first | exact pop_fieldAddr ty92 rfl ty9 (by decide) rfl | exact pop_fieldAddr_raw ty92 rfl ty9 (by decide) rfl)) ?_
          refine ahl 21 rfl rfl (by kernel_rfl) (by kernel_rfl) (by simp) ⟨1, rfl⟩ (fun M hM => by obtain ⟨i, hi⟩ := hM; exact eop_load_el (i := i) (j := y54) 2 ty9 rfl (by omega) hi hx rfl rfl ⟨rfl, rfl⟩) ?_
          refine ahp 22 rfl rfl (by kernel_rfl) (by kernel_rfl) (pop_buildSlice (hs := [_, _]) ty26 ty9 rfl rfl (by decide) (by decide) rfl) ?_
          refine ahe 9 rfl (by kernel_rfl) ?_
          first
          | refine hop_e rfl (eop_callx (i := 0) ca10 rfl (WeakL.refl _) rfl (c_benchmake_Stream_Pick (L := [_, _, _]) (by first | assumption | omega | (simp; omega) | simp_all) (by first | assumption | omega | (simp; omega) | simp_all) (by first | assumption | omega | (simp; omega) | simp_all)) ?_)
          | refine hop_e rfl (eop_callx (i := 1) ca10 rfl (WeakL.refl _) rfl (c_benchmake_Stream_Pick (L := [_, _, _]) (by first | assumption | omega | (simp; omega) | simp_all) (by first | assumption | omega | (simp; omega) | simp_all) (by first | assumption | omega | (simp; omega) | simp_all)) ?_)
          | refine hop_e rfl (eop_callx (i := 2) ca10 rfl (WeakL.refl _) rfl (c_benchmake_Stream_Pick (L := [_, _, _]) (by first | assumption | omega | (simp; omega) | simp_all) (by first | assumption | omega | (simp; omega) | simp_all) (by first | assumption | omega | (simp; omega) | simp_all)) ?_)
          | refine hop_e rfl (eop_callx (i := 3) ca10 rfl (WeakL.refl _) rfl (c_benchmake_Stream_Pick (L := [_, _, _]) (by first | assumption | omega | (simp; omega) | simp_all) (by first | assumption | omega | (simp; omega) | simp_all) (by first | assumption | omega | (simp; omega) | simp_all)) ?_)
          rintro _ _ ⟨y65, rfl, hy65, rfl⟩
          refine ⟨fun _ => by first | exact .inl ⟨0, rfl⟩ | exact .inl ⟨1, rfl⟩ | exact .inl ⟨2, rfl⟩ | exact .inr (by simp [Before, Region.binds]), ?_⟩
          refine ahe 16 rfl (by kernel_rfl) ?_
          first
          | refine hop_e rfl (eop_callx (i := 0) ca43 rfl (WeakL.refl _) rfl (c_benchmake_Stream_Some (L := [_, _]) (by first | assumption | omega | (simp; omega) | simp_all) (by first | assumption | omega | (simp; omega) | simp_all) (by first | assumption | omega | (simp; omega) | simp_all)) ?_)
          | refine hop_e rfl (eop_callx (i := 1) ca43 rfl (WeakL.refl _) rfl (c_benchmake_Stream_Some (L := [_, _]) (by first | assumption | omega | (simp; omega) | simp_all) (by first | assumption | omega | (simp; omega) | simp_all) (by first | assumption | omega | (simp; omega) | simp_all)) ?_)
          | refine hop_e rfl (eop_callx (i := 2) ca43 rfl (WeakL.refl _) rfl (c_benchmake_Stream_Some (L := [_, _]) (by first | assumption | omega | (simp; omega) | simp_all) (by first | assumption | omega | (simp; omega) | simp_all) (by first | assumption | omega | (simp; omega) | simp_all)) ?_)
          | refine hop_e rfl (eop_callx (i := 3) ca43 rfl (WeakL.refl _) rfl (c_benchmake_Stream_Some (L := [_, _]) (by first | assumption | omega | (simp; omega) | simp_all) (by first | assumption | omega | (simp; omega) | simp_all) (by first | assumption | omega | (simp; omega) | simp_all)) ?_)
          rintro _ _ ⟨y72, rfl, hy72, rfl⟩
          refine ⟨fun _ => by first | exact .inl ⟨0, rfl⟩ | exact .inl ⟨1, rfl⟩ | exact .inl ⟨2, rfl⟩ | exact .inr (by simp [Before, Region.binds]), ?_⟩
          refine ahe 23 rfl (by kernel_rfl) ?_
          first
          | refine hop_e rfl (eop_callx (i := 0) ca43 rfl (WeakL.refl _) rfl (c_benchmake_Stream_Some (L := [_, _]) (by first | assumption | omega | (simp; omega) | simp_all) (by first | assumption | omega | (simp; omega) | simp_all) (by first | assumption | omega | (simp; omega) | simp_all)) ?_)
          | refine hop_e rfl (eop_callx (i := 1) ca43 rfl (WeakL.refl _) rfl (c_benchmake_Stream_Some (L := [_, _]) (by first | assumption | omega | (simp; omega) | simp_all) (by first | assumption | omega | (simp; omega) | simp_all) (by first | assumption | omega | (simp; omega) | simp_all)) ?_)
          | refine hop_e rfl (eop_callx (i := 2) ca43 rfl (WeakL.refl _) rfl (c_benchmake_Stream_Some (L := [_, _]) (by first | assumption | omega | (simp; omega) | simp_all) (by first | assumption | omega | (simp; omega) | simp_all) (by first | assumption | omega | (simp; omega) | simp_all)) ?_)
          | refine hop_e rfl (eop_callx (i := 3) ca43 rfl (WeakL.refl _) rfl (c_benchmake_Stream_Some (L := [_, _]) (by first | assumption | omega | (simp; omega) | simp_all) (by first | assumption | omega | (simp; omega) | simp_all) (by first | assumption | omega | (simp; omega) | simp_all)) ?_)
          rintro _ _ ⟨y79, rfl, hy79, rfl⟩
          refine ⟨fun _ => by first | exact .inl ⟨0, rfl⟩ | exact .inl ⟨1, rfl⟩ | exact .inl ⟨2, rfl⟩ | exact .inr (by simp [Before, Region.binds]), ?_⟩
          refine ahp 24 rfl rfl (by kernel_rfl) (by kernel_rfl) ((by first | exact pop_nilCheck rfl | exact pop_nilCheck_raw rfl)) ?_
          refine ahp 25 rfl rfl (by kernel_rfl) (by kernel_rfl) ((by first | exact pop_fieldAddr ty92 rfl ty3 (by decide) rfl | exact pop_fieldAddr_raw ty92 rfl ty3 (by decide) rfl)) ?_
          refine ahe 26 rfl (by kernel_rfl) ?_
          refine hop_e0 (eop_store_arr (i := 1) (j := y54) (f := 0) (y := eSwap x) (y' := eSwap ⟨y65, x.Of, x.Team⟩) ty3 rfl (by omega) rfl rfl (by simp [hx]) rfl rfl (by simp [hcells]) rfl ?_)
          refine ⟨fun _ => .inr (by simp [Before, Region.binds]), ?_⟩
          refine ahp 27 rfl rfl (by kernel_rfl) (by kernel_rfl) ((by first | exact pop_nilCheck rfl | exact pop_nilCheck_raw rfl)) ?_
          refine ahp 28 rfl rfl (by kernel_rfl) (by kernel_rfl) ((by first | exact pop_fieldAddr ty92 rfl ty9 (by decide) rfl | exact pop_fieldAddr_raw ty92 rfl ty9 (by decide) rfl)) ?_
          refine ahe 29 rfl (by kernel_rfl) ?_
          refine hop_e0 (eop_store_arr (i := 1) (j := y54) (f := 1) (y := eSwap ⟨y65, x.Of, x.Team⟩) (y' := eSwap ⟨y65, y72, x.Team⟩) ty9 rfl (by omega) rfl rfl (set_self (map_get hx)) rfl rfl (by simp [hcells]) rfl ?_)
          refine ⟨fun _ => .inr (by simp [Before, Region.binds]), ?_⟩
          refine ahp 30 rfl rfl (by kernel_rfl) (by kernel_rfl) ((by first | exact pop_nilCheck rfl | exact pop_nilCheck_raw rfl)) ?_
          refine ahp 31 rfl rfl (by kernel_rfl) (by kernel_rfl) ((by first | exact pop_fieldAddr ty92 rfl ty9 (by decide) rfl | exact pop_fieldAddr_raw ty92 rfl ty9 (by decide) rfl)) ?_
          refine ahe 32 rfl (by kernel_rfl) ?_
          refine hop_e0 (eop_store_arr (i := 1) (j := y54) (f := 2) (y := eSwap ⟨y65, y72, x.Team⟩) (y' := eSwap ⟨y65, y72, y79⟩) ty9 rfl (by omega) rfl rfl (set_self (set_self (map_get hx))) rfl rfl (by simp [hcells]) rfl ?_)
          refine ⟨fun _ => .inr (by simp [Before, Region.binds]), ?_⟩
          refine ahz (by kernel_rfl) ?_
          exact ⟨(out.set y54 ⟨y65, y72, y79⟩, a3 + 4), ⟨by simp; omega, swaps_set g4 (by simp at hy72; rcases hy72 with rfl | rfl <;> first | exact zz_sh | exact (g4 x (List.mem_of_getElem? hx)).1) (by simp at hy79; rcases hy79 with rfl | rfl <;> first | exact zz_sh | exact (g4 x (List.mem_of_getElem? hx)).2), by dsimp only; omega⟩, trivial, (by repeat (first | exact keeps_refl | refine keeps_upd rfl ?_ | refine keeps_loop rfl rfl ?_)), by repeat (first | exact List.Perm.nil | refine permTo 0 rfl ?_ | refine permTo 1 rfl ?_ | refine permTo 2 rfl ?_ | refine permTo 3 rfl ?_ | (refine permToE 0 rfl ?hq ?_; (case hq => simp [setL, hcells]; done)) | (refine permToE 1 rfl ?hq ?_; (case hq => simp [setL, hcells]; done)) | (refine permToE 2 rfl ?hq ?_; (case hq => simp [setL, hcells]; done)) | (refine permToE 3 rfl ?hq ?_; (case hq => simp [setL, hcells]; done)) | fail)⟩
        · try simp at h8
          refine hw_skip ?_
          exact ⟨(out, a3), ⟨by dsimp only; omega, g4, by dsimp only; omega⟩, trivial, (by repeat (first | exact keeps_refl | refine keeps_upd rfl ?_ | refine keeps_loop rfl rfl ?_)), by repeat (first | exact List.Perm.nil | refine permTo 0 rfl ?_ | refine permTo 1 rfl ?_ | refine permTo 2 rfl ?_ | refine permTo 3 rfl ?_ | (refine permToE 0 rfl ?hq ?_; (case hq => simp [setL, hcells]; done)) | (refine permToE 1 rfl ?hq ?_; (case hq => simp [setL, hcells]; done)) | (refine permToE 2 rfl ?hq ?_; (case hq => simp [setL, hcells]; done)) | (refine permToE 3 rfl ?hq ?_; (case hq => simp [setL, hcells]; done)) | fail)⟩
      · intro q hq
        obtain ⟨k, a4⟩ := q
        dsimp only at hq
        obtain ⟨q1, q2, q3⟩ := hq
        refine hw_reg ?_
        refine dp rfl (pop_move rfl) ?_
        refine dp rfl (pop_assign rfl) ?_
        refine dn ?_
        refine hw_ret ?_
        refine ret_g (Ghost.fa 4 (i := 1) rfl rfl) rfl ⟨k, a4, rfl, ⟨by omega, q2⟩, by omega, rfl⟩
end Go.Proofs.YtoomadfbldcioaaGreatDoor
end
section
namespace Go.HL
def room1 : Room := ⟨[[97], [98]], 2, 2, [[112], [113], [114], [115]], 1000, 0⟩
theorem room1_ok : checkSwaps room1 [] = 0 := by kernel_rfl
theorem room1_turns : turnTeams room1 [] = [[97], [98], [98], [97]] := by kernel_rfl
theorem eqPicks_refl : ∀ l : List Pick, eqPicks l l = true
  | [] => rfl
  | a :: r => by simp [eqPicks, eqPick, eqPicks_refl r, hcells, eqHL, eqH]
theorem opened_len (r : Room) (k : List Keep) (s : List Swap) (h : openFault r k s = 0) : (opened r k s).length ≤ 1000000 := by
  have := turns_len (s := s) (openFault_ok h).1
  unfold opened open1
  split
  · simp
  · rw [openFrom_len]; omega
end Go.HL
end
section
namespace Go.HL
open Op (bytesLess)
abbrev pick0 : Pick := ⟨0, [], [], 0, false⟩
theorem adj_pairwise {α : Type} {R : α → α → Prop} (tr : ∀ a b c, R a b → R b c → R a c) {l : List α} (h : ∀ (i : Nat) (a b : α), l[i]? = some a → l[i + 1]? = some b → R a b) : l.Pairwise R := by
  have key : ∀ (d i : Nat) (a b : α), l[i]? = some a → l[i + d + 1]? = some b → R a b := by
    intro d
    induction d with
    | zero => intro i a b ha hb; exact h i a b ha hb
    | succ d ih =>
      intro i a b ha hb
      have hlt := lt_of_get hb
      have hc := List.getElem?_eq_getElem (l := l) (i := i + d + 1) (by omega)
      exact tr _ _ _ (ih i a _ ha hc) (h (i + d + 1) _ b hc (by rw [show i + d + 1 + 1 = i + (d + 1) + 1 by omega]; exact hb))
  refine List.pairwise_iff_getElem.2 fun i j hi hj hij => ?_
  refine key (j - i - 1) i _ _ (List.getElem?_eq_getElem hi) ?_
  rw [show i + (j - i - 1) + 1 = j by omega]; exact List.getElem?_eq_getElem hj
theorem nodup_sub {α : Type} [DecidableEq α] : ∀ {l m : List α}, l.Nodup → (∀ x ∈ l, x ∈ m) → l.length ≤ m.length
  | [], _, _, _ => Nat.zero_le _
  | a :: l, m, h, hs => by
    have ha := hs a List.mem_cons_self
    obtain ⟨h1, h2⟩ := List.nodup_cons.1 h
    have h3 := nodup_sub (m := m.erase a) h2 fun x hx => (List.mem_erase_of_ne (fun e : x = a => h1 (by rw [← e]; exact hx))).2 (hs x (List.mem_cons_of_mem _ hx))
    rw [List.length_erase_of_mem ha] at h3
    have := List.length_pos_of_mem ha
    simp; omega
theorem pw_tri {α : Type} {R : α → α → Prop} : ∀ {l : List α}, l.Pairwise R → ∀ x ∈ l, ∀ y ∈ l, x = y ∨ R x y ∨ R y x
  | [], _, x, hx, _, _ => by simp at hx
  | a :: l, h, x, hx, y, hy => by
    obtain ⟨h1, h2⟩ := List.pairwise_cons.1 h
    rcases List.mem_cons.1 hx with e | hx' <;> rcases List.mem_cons.1 hy with e' | hy'
    · exact .inl (e.trans e'.symm)
    · exact .inr (.inl (e ▸ h1 y hy'))
    · exact .inr (.inr (e' ▸ h1 x hx'))
    · exact pw_tri h2 x hx' y hy'
/-! keeps that are right -/
def kLt (a b : Keep) : Prop := bytesLess a.Team b.Team = true ∨ (a.Team = b.Team ∧ a.Round < b.Round)
theorem kLt_trans (a b c : Keep) (h1 : kLt a b) (h2 : kLt b c) : kLt a c := by
  rcases h1 with h1 | ⟨e1, h1⟩ <;> rcases h2 with h2 | ⟨e2, h2⟩
  · exact .inl (less_trans h1 h2)
  · exact .inl (e2 ▸ h1)
  · exact .inl (e1 ▸ h2)
  · exact .inr ⟨e1.trans e2, by omega⟩
theorem kLt_of {a b : Keep} (h : ¬ orI [cmpS b.Team a.Team, cmpI b.Round a.Round] ≤ 0) : kLt a b := by
  rw [cmpS_eq] at h
  rcases less_total a.Team b.Team with h1 | h1 | h1
  · exact .inl h1
  · refine .inr ⟨h1, ?_⟩
    rw [h1] at h
    simp [less_irrefl, orI, cmpI] at h
    split at h
    · omega
    · split at h <;> omega
  · rw [h1] at h; simp [orI] at h
structure KeepsOk (r : Room) (k : List Keep) : Prop where
  all : ∀ x ∈ k, x.Team ∈ r.Teams ∧ x.Player ∈ r.Players ∧ 1 ≤ x.Round ∧ x.Round ≤ r.Rounds
  lt : k.Pairwise kLt
theorem keepsGo_ok {r : Room} {l : List Keep} : ∀ (t : List Keep) (k : Nat) (kept : List Str) (tw : Bool), l.drop k = t → keepsGo r l k kept tw t = 0 →
    (∀ x ∈ t, x.Team ∈ r.Teams ∧ x.Player ∈ r.Players ∧ 1 ≤ x.Round ∧ x.Round ≤ r.Rounds) ∧ ∀ (i : Nat) (a b : Keep), k ≤ i + 1 → l[i]? = some a → l[i + 1]? = some b → kLt a b
  | [], k, kept, tw, hd, h => ⟨by simp, fun i a b hi ha hb => by
      have := lt_of_get hb
      have h2 : l.length ≤ k := by rw [← List.drop_eq_nil_iff]; exact hd
      omega⟩
  | x :: t, k, kept, tw, hd, h => by
    have hk : l[k]? = some x := by
      have := congrArg (fun q => q[0]?) hd
      simpa using this
    have hd' : l.drop (k + 1) = t := by
      have := drop_cons hk
      rw [hd] at this; simp at this; exact this.symm
    simp only [keepsGo] at h
    split at h
    · omega
    · rename_i h1
      split at h
      · omega
      · rename_i h2
        split at h
        · omega
        · rename_i h3
          obtain ⟨h4, h5⟩ := keepsGo_ok t (k + 1) _ _ hd' h
          have h2' := out_f (by simpa using h2)
          refine ⟨fun y hy => ?_, fun i a b hi ha hb => ?_⟩
          · rcases List.mem_cons.1 hy with rfl | hy
            · simp at h1; exact ⟨h1.1, h1.2, h2'⟩
            · exact h4 y hy
          · by_cases e : k = i + 1
            · subst e
              rw [hk] at hb; cases hb
              refine kLt_of fun hc => h3 ?_
              simp [List.getD, ha]; exact hc
            · exact h5 i a b (by omega) ha hb
theorem checkKeeps_good {r : Room} {k : List Keep} (h : checkKeeps r k = 0) : KeepsOk r k := by
  unfold checkKeeps at h
  split at h
  · rename_i hc; simp [h] at hc
  · split at h
    · omega
    · obtain ⟨h1, h2⟩ := keepsGo_ok k 0 [] false rfl h
      exact ⟨h1, adj_pairwise kLt_trans fun i a b => h2 i a b (by omega)⟩
theorem risingGo_key {l : List Str} : ∀ (r : List Str) (k : Nat), risingGo l k r = 0 → ∀ s ∈ r, key s = true
  | [], _, _, s, hs => by simp at hs
  | x :: r, k, h, s, hs => by
    simp only [risingGo] at h
    split at h
    · omega
    · rename_i h1
      split at h
      · omega
      · rcases List.mem_cons.1 hs with rfl | hs
        · simpa using h1
        · exact risingGo_key r (k + 1) h s hs
structure RoomOk (r : Room) : Prop where
  sorted : SortedS r.Players
  t20 : r.Teams.length ≤ 20
  t0 : 0 < r.Teams.length
  r1 : 1 ≤ r.Rounds
  r30 : r.Rounds ≤ 30
  p500 : r.Players.length ≤ 500
  ne : ∀ s ∈ r.Players, s ≠ []
  many : (r.Teams.length : Int) * r.Rounds ≤ r.Players.length
  clock : 1000 ≤ r.Clock ∧ r.Clock ≤ 86400000
  start : moment r.Start = true
theorem room_ok {r : Room} (h : checkRoom r = 0) : RoomOk r := by
  obtain ⟨a1, a2, a3, a4, a5, a6⟩ := checkRoom_ok h
  unfold checkRoom at h
  split at h
  · rename_i hc; simp [h] at hc
  · split at h
    · omega
    · split at h
      · omega
      · split at h
        · rename_i hc; simp [h] at hc
        · rename_i hp
          split at h
          · omega
          · rename_i hcl
            split at h
            · omega
            · rename_i hm
              simp at hcl hp
              refine ⟨a1, a2, a3, a4, a5, a6, fun s hs e => ?_, by omega, out_f hcl.1, hcl.2⟩
              unfold playersFault at hp
              split at hp
              · omega
              · have := risingGo_key _ 0 hp s hs
                subst e; simp [key, keyHd] at this
theorem sorted_nodup {l : List Str} (h : SortedS l) : l.Nodup :=
  List.Pairwise.imp (fun {a b} hab e => by subst e; rw [less_irrefl] at hab; cases hab) h
/-! turns -/
theorem mem_turnsFrom {r : Room} {s : List Swap} {t : Str} (ht : t ∈ r.Teams) : ∀ (n : Nat) (rd : Int), 1 ≤ rd → rd ≤ n → ∃ x ∈ turnsFrom r s n, x.of = t ∧ x.round = rd
  | 0, rd, h1, h2 => by omega
  | n + 1, rd, h1, h2 => by
    by_cases e : rd = (n : Int) + 1
    · refine ⟨⟨rd, t, owner rd t s⟩, ?_, rfl, rfl⟩
      simp only [turnsFrom, List.mem_append]
      right
      subst e
      unfold roundTurns
      refine List.mem_map.2 ⟨t, ?_, rfl⟩
      split
      · exact List.mem_reverse.2 ht
      · exact ht
    · obtain ⟨x, hx, h3⟩ := mem_turnsFrom ht n rd h1 (by omega)
      exact ⟨x, by simp only [turnsFrom, List.mem_append]; exact .inl hx, h3⟩
def fits (t : Turn) (x : Keep) : Bool := decide (x.Team = t.of ∧ x.Round = t.round)
theorem keepIn_fix (r : Room) (t : Turn) : ∀ (k : List Keep) (p : Pick), (keepIn r t p k).No = p.No ∧ (keepIn r t p k).Team = p.Team
  | [], p => ⟨rfl, rfl⟩
  | x :: k, p => by
    obtain ⟨h1, h2⟩ := keepIn_fix r t k (if x.Team = t.of ∧ x.Round = t.round then { p with Player := x.Player, At := r.Start } else p)
    simp only [keepIn]; rw [h1, h2]
    split <;> exact ⟨rfl, rfl⟩
theorem keepIn_mem (r : Room) (t : Turn) : ∀ (k : List Keep) (p : Pick), (keepIn r t p k).Player = p.Player ∨ ∃ x ∈ k, fits t x = true ∧ (keepIn r t p k).Player = x.Player
  | [], p => .inl rfl
  | x :: k, p => by
    simp only [keepIn]
    rcases keepIn_mem r t k (if x.Team = t.of ∧ x.Round = t.round then { p with Player := x.Player, At := r.Start } else p) with h | ⟨y, hy, h1, h2⟩
    · by_cases e : x.Team = t.of ∧ x.Round = t.round
      · rw [if_pos e] at h ⊢
        exact .inr ⟨x, List.mem_cons_self, by simp [fits, e], h⟩
      · rw [if_neg e] at h ⊢
        exact .inl h
    · exact .inr ⟨y, List.mem_cons_of_mem _ hy, h1, h2⟩
theorem keepIn_none (r : Room) (t : Turn) : ∀ (k : List Keep) (p : Pick), k.any (fits t) = false → keepIn r t p k = p
  | [], p, _ => rfl
  | x :: k, p, h => by
    simp only [List.any_cons, Bool.or_eq_false_iff] at h
    have e : ¬ (x.Team = t.of ∧ x.Round = t.round) := by simpa [fits] using h.1
    simp only [keepIn]; rw [if_neg e]; exact keepIn_none r t k p h.2
theorem keepIn_one (r : Room) (t : Turn) {x : Keep} : ∀ (k : List Keep) (p : Pick), x ∈ k → fits t x = true → (∀ y ∈ k, fits t y = true → y.Player = x.Player) → (keepIn r t p k).Player = x.Player
  | [], p, hx, _, _ => by simp at hx
  | y :: k, p, hx, hf, hu => by
    simp only [keepIn]
    by_cases e : y.Team = t.of ∧ y.Round = t.round
    · have hy := hu y List.mem_cons_self (by simp [fits, e])
      rw [if_pos e]
      rcases keepIn_mem r t k { p with Player := y.Player, At := r.Start } with h | ⟨z, hz, h1, h2⟩
      · rw [h]; exact hy
      · rw [h2]; exact hu z (List.mem_cons_of_mem _ hz) h1
    · rw [if_neg e]
      rcases List.mem_cons.1 hx with rfl | hx
      · exact absurd (by simpa [fits] using hf) e
      · exact keepIn_one r t k p hx hf fun z hz => hu z (List.mem_cons_of_mem _ hz)
theorem KeepsOk.one {r : Room} {k : List Keep} (h : KeepsOk r k) {t : Turn} {x y : Keep} (hx : x ∈ k) (hy : y ∈ k) (fx : fits t x = true) (fy : fits t y = true) : y = x := by
  simp [fits] at fx fy
  rcases pw_tri h.lt x hx y hy with e | e | e
  · exact e.symm
  · exfalso
    rcases e with e | ⟨e1, e2⟩
    · rw [fx.1, fy.1, less_irrefl] at e; cases e
    · omega
  · exfalso
    rcases e with e | ⟨e1, e2⟩
    · rw [fx.1, fy.1, less_irrefl] at e; cases e
    · omega
theorem keepIn_free {r : Room} {k : List Keep} (h : KeepsOk r k) (hne : ∀ s ∈ r.Players, s ≠ []) (t : Turn) (p : Pick) (hp : p.Player = []) : ((keepIn r t p k).Player == []) = !(k.any (fits t)) := by
  cases hq : k.any (fits t) with
  | false => rw [keepIn_none r t k p hq, hp]; rfl
  | true =>
    obtain ⟨x, hx, hf⟩ := List.any_eq_true.1 hq
    rw [keepIn_one r t k p hx hf fun y hy hfy => by rw [h.one hx hy hf hfy]]
    have := hne _ (h.all x hx).2.1
    simpa using this
theorem mem_openFrom {r : Room} {k : List Keep} {p : Pick} : ∀ (l : List Turn) (i : Nat), p ∈ openFrom r k i l → ∃ (j : Nat) (t : Turn), t ∈ l ∧ p = keepIn r t ⟨j, t.team, [], 0, false⟩ k
  | [], i, h => by simp [openFrom] at h
  | t :: l, i, h => by
    simp only [openFrom, List.mem_cons] at h
    rcases h with h | h
    · exact ⟨i, t, List.mem_cons_self, h⟩
    · obtain ⟨j, t', h1, h2⟩ := mem_openFrom l (i + 1) h
      exact ⟨j, t', List.mem_cons_of_mem _ h1, h2⟩
theorem openFrom_mem {r : Room} {k : List Keep} {t : Turn} : ∀ (l : List Turn) (i : Nat), t ∈ l → ∃ j : Nat, keepIn r t ⟨j, t.team, [], 0, false⟩ k ∈ openFrom r k i l
  | [], i, h => by simp at h
  | x :: l, i, h => by
    rcases List.mem_cons.1 h with rfl | h
    · exact ⟨i, by simp [openFrom]⟩
    · obtain ⟨j, hj⟩ := openFrom_mem l (i + 1) h
      exact ⟨j, by simp only [openFrom, List.mem_cons]; exact .inr hj⟩
theorem open_any {r : Room} {k : List Keep} {s : List Swap} (h : openFault r k s = 0) {n : Str} (hn : n ≠ []) : (open1 r k s).any (fun p => p.Player == n) = k.any (fun x => x.Player == n) := by
  obtain ⟨h1, _, h3⟩ := openFault_ok h
  have hk := checkKeeps_good h3
  have hr := room_ok h1
  rw [Bool.eq_iff_iff, List.any_eq_true, List.any_eq_true]
  constructor
  · rintro ⟨p, hp, e⟩
    obtain ⟨j, t, _, rfl⟩ := mem_openFrom _ _ hp
    rcases keepIn_mem r t k ⟨j, t.team, [], 0, false⟩ with q | ⟨x, hx, _, q⟩
    · rw [q] at e; simp at e; exact absurd e hn
    · exact ⟨x, hx, by rw [q] at e; exact e⟩
  · rintro ⟨x, hx, e⟩
    obtain ⟨a1, _, a3, a4⟩ := hk.all x hx
    obtain ⟨t, ht, b1, b2⟩ := mem_turnsFrom (s := s) a1 r.Rounds.toNat x.Round a3 (by omega)
    obtain ⟨j, hj⟩ := openFrom_mem (r := r) (k := k) (turnsFrom r s r.Rounds.toNat) 0 ht
    have hf : fits t x = true := by simp [fits, b1, b2]
    exact ⟨_, hj, by rw [keepIn_one r t k _ hx hf fun y hy hfy => by rw [hk.one hx hy hf hfy]]; exact e⟩
def freeP (r : Room) (k : List Keep) (s : List Swap) : List Pick := (open1 r k s).filter fun p => p.Player == []
theorem openFrom_free {r : Room} {k : List Keep} (h : KeepsOk r k) (hne : ∀ s ∈ r.Players, s ≠ []) : ∀ (l : List Turn) (i : Nat), ((openFrom r k i l).filter fun p => p.Player == []).length + (l.filter fun t => k.any (fits t)).length = l.length
  | [], i => rfl
  | t :: l, i => by
    have ih := openFrom_free h hne l (i + 1)
    simp only [openFrom, List.filter_cons, keepIn_free h hne t ⟨i, t.team, [], 0, false⟩ rfl, List.length_cons]
    cases k.any (fits t) <;> simp only [Bool.not_true, Bool.not_false, Bool.false_eq_true, if_true, if_false, List.length_cons] <;> omega
theorem free_len {r : Room} {k : List Keep} {s : List Swap} (h : openFault r k s = 0) : (freeP r k s).length + k.length ≤ (turns r s).length := by
  obtain ⟨h1, _, h3⟩ := openFault_ok h
  have hk := checkKeeps_good h3
  have hr := room_ok h1
  have e := openFrom_free hk hr.ne (turns r s) 0
  have hs : (k.map fun x => (x.Team, x.Round)).length ≤ (((turns r s).filter fun t => k.any (fits t)).map fun t => (t.of, t.round)).length := by
    refine nodup_sub ?_ fun q hq => ?_
    · refine List.pairwise_map.2 (hk.lt.imp fun {a b} hab e => ?_)
      injection e with e1 e2
      rcases hab with hab | ⟨_, hab⟩
      · rw [e1, less_irrefl] at hab; cases hab
      · omega
    · obtain ⟨x, hx, rfl⟩ := List.mem_map.1 hq
      obtain ⟨a1, _, a3, a4⟩ := hk.all x hx
      obtain ⟨t, ht, b1, b2⟩ := mem_turnsFrom (s := s) a1 r.Rounds.toNat x.Round a3 (by omega)
      refine List.mem_map.2 ⟨t, List.mem_filter.2 ⟨ht, List.any_eq_true.2 ⟨x, hx, by simp [fits, b1, b2]⟩⟩, by rw [b1, b2]⟩
  simp only [List.length_map] at hs
  unfold freeP open1
  omega
/-! who is left -/
def goneB (k : List Keep) (l : List Pick) (s : Str) : Bool := k.any (fun x => x.Player == s) || l.any (fun p => p.Player == s)
def leftL (r : Room) (k : List Keep) (l : List Pick) : List Str := r.Players.filter fun s => !(goneB k l s)
theorem left_len {r : Room} {k : List Keep} {l : List Pick} (hs : SortedS r.Players) : r.Players.length ≤ (leftL r k l).length + k.length + l.length := by
  have h1 : (r.Players.filter (goneB k l)).length ≤ (k.map (·.Player) ++ l.map (·.Player)).length := by
    refine nodup_sub ((sorted_nodup hs).sublist List.filter_sublist) fun s h => ?_
    have := (List.mem_filter.1 h).2
    simp only [goneB, Bool.or_eq_true, List.any_eq_true, beq_iff_eq] at this
    rcases this with ⟨x, hx, e⟩ | ⟨x, hx, e⟩
    · exact List.mem_append_left _ (List.mem_map.2 ⟨x, hx, e⟩)
    · exact List.mem_append_right _ (List.mem_map.2 ⟨x, hx, e⟩)
  have h2 : ∀ (p : Str → Bool) (q : List Str), (q.filter fun s => !(p s)).length + (q.filter p).length = q.length := fun p q => by
    induction q with
    | nil => rfl
    | cons a q ih => simp only [List.filter_cons]; cases p a <;> simp <;> omega
  have := h2 (goneB k l) r.Players
  rw [List.length_append, List.length_map, List.length_map] at h1
  unfold leftL
  omega
theorem turns_many {r : Room} {s : List Swap} (h : RoomOk r) : (turns r s).length ≤ r.Players.length := by
  unfold turns; rw [turnsFrom_len]
  have := h.many
  have e : ((r.Rounds.toNat * r.Teams.length : Nat) : Int) = (r.Teams.length : Int) * r.Rounds := by
    rw [Int.natCast_mul, Int.toNat_of_nonneg (by have := h.r1; omega), Int.mul_comm]
  omega
theorem left_ne {r : Room} {k : List Keep} {s : List Swap} {l : List Pick} (h : openFault r k s = 0) (hl : l.length < (freeP r k s).length) : 0 < (leftL r k l).length := by
  have hr := room_ok (openFault_ok h).1
  have h1 := free_len h
  have h2 := left_len (k := k) (l := l) hr.sorted
  have h3 := turns_many (s := s) hr
  omega
end Go.HL
end
section
namespace Go.HL
section
variable {α : Type} (c : α → α → Int)
def insF (x : α) : List α → List α
  | [] => [x]
  | y :: t => if c x y < 0 then y :: insF x t else x :: y :: t
def insB (x : α) (S : List α) : List α := (insF c x S.reverse).reverse
def isort (l : List α) : List α := l.foldl (fun S x => insB c x S) []
theorem insB_nil (x : α) : insB c x [] = [x] := rfl
theorem insB_snoc (x y : α) (S : List α) : insB c x (S ++ [y]) = if c x y < 0 then insB c x S ++ [y] else S ++ [y, x] := by
  unfold insB
  rw [List.reverse_append]
  simp only [List.reverse_cons, List.reverse_nil, List.nil_append, List.singleton_append, insF]
  split <;> simp
theorem isort_nil : isort c [] = [] := rfl
theorem isort_snoc (l : List α) (x : α) : isort c (l ++ [x]) = insB c x (isort c l) := by simp [isort, List.foldl_append]
theorem isort_one (x : α) : isort c [x] = [x] := rfl
theorem insF_perm (x : α) : ∀ l, (insF c x l).Perm (x :: l)
  | [] => .refl _
  | y :: t => by
    simp only [insF]; split
    · exact ((insF_perm x t).cons y).trans (.swap _ _ _)
    · exact .refl _
theorem insB_perm (x : α) (S : List α) : (insB c x S).Perm (x :: S) := by
  unfold insB
  exact (List.reverse_perm _).trans ((insF_perm c x _).trans ((List.reverse_perm S).cons x))
theorem foldl_perm : ∀ (l S : List α), (l.foldl (fun S x => insB c x S) S).Perm (S ++ l)
  | [], S => by simp
  | x :: l, S => by
    simp only [List.foldl_cons]
    refine (foldl_perm l _).trans ?_
    refine ((insB_perm c x S).append_right l).trans ?_
    exact (List.perm_middle (a := x) (l₁ := S) (l₂ := l)).symm
theorem isort_perm (l : List α) : (isort c l).Perm l := by
  have := foldl_perm c l []
  simpa [isort] using this
theorem isort_len (l : List α) : (isort c l).length = l.length := (isort_perm c l).length_eq
theorem isort_mem {l : List α} {x : α} : x ∈ isort c l ↔ x ∈ l := (isort_perm c l).mem_iff
theorem insB_len (x : α) (S : List α) : (insB c x S).length = S.length + 1 := (insB_perm c x S).length_eq

/-- A comparison by which things stand in one line, as far as they are in s. -/
structure Cmp (s : α → Prop) : Prop where
  flip : ∀ x y, s x → s y → (c x y < 0 ↔ 0 < c y x)
  trans : ∀ x y z, s x → s y → s z → c x y ≤ 0 → c y z ≤ 0 → c x z ≤ 0
variable {c}
theorem insF_sorted {s : α → Prop} (hc : Cmp c s) {x : α} (hx : s x) : ∀ {l : List α}, (∀ y ∈ l, s y) → l.Pairwise (fun a b => c b a ≤ 0) → (insF c x l).Pairwise (fun a b => c b a ≤ 0)
  | [], _, _ => by simp [insF]
  | y :: t, hs, hp => by
    have hy := hs y (by simp)
    have ht : ∀ z ∈ t, s z := fun z hz => hs z (List.mem_cons_of_mem _ hz)
    obtain ⟨h1, h2⟩ := List.pairwise_cons.1 hp
    simp only [insF]
    split
    · rename_i hlt
      refine List.pairwise_cons.2 ⟨fun z hz => ?_, insF_sorted hc hx ht h2⟩
      rcases List.mem_cons.1 ((insF_perm c x t).mem_iff.1 hz) with rfl | hz
      · omega
      · exact h1 z hz
    · rename_i hge
      have hyx : c y x ≤ 0 := by
        have := (hc.flip x y hx hy)
        omega
      refine List.pairwise_cons.2 ⟨fun z hz => ?_, hp⟩
      rcases List.mem_cons.1 hz with rfl | hz
      · exact hyx
      · exact hc.trans z y x (ht z hz) hy hx (h1 z hz) hyx
theorem insB_sorted {s : α → Prop} (hc : Cmp c s) {x : α} (hx : s x) {l : List α} (hs : ∀ y ∈ l, s y) (hp : l.Pairwise (fun a b => c a b ≤ 0)) : (insB c x l).Pairwise (fun a b => c a b ≤ 0) := by
  unfold insB
  rw [List.pairwise_reverse]
  exact insF_sorted hc hx (fun y hy => hs y (List.mem_reverse.1 hy)) (List.pairwise_reverse.2 hp)
theorem isort_sorted {s : α → Prop} (hc : Cmp c s) {l : List α} (hs : ∀ y ∈ l, s y) : (isort c l).Pairwise (fun a b => c a b ≤ 0) := by
  have key : ∀ (n : Nat), n ≤ l.length → (isort c (l.take n)).Pairwise (fun a b => c a b ≤ 0) := by
    intro n
    induction n with
    | zero => intro _; simp [isort]
    | succ n ih =>
      intro hn
      have hx := List.getElem?_eq_getElem (l := l) (i := n) (by omega)
      rw [take_snoc' hx, isort_snoc]
      exact insB_sorted hc (hs _ (List.mem_of_getElem? hx)) (fun y hy => hs y (List.mem_of_mem_take ((isort_perm c _).mem_iff.1 hy))) (ih (by omega))
  have := key l.length (Nat.le_refl _)
  rwa [List.take_length] at this
/-- Where no two are alike the order is that of the things, however they came. -/
theorem isort_unique {s : α → Prop} (hc : Cmp c s) {l m : List α} (hs : ∀ y ∈ l, s y) (he : ∀ x y, x ∈ l → y ∈ l → c x y = 0 → x = y) (hp : l.Perm m) : isort c l = isort c m := by
  have hm : ∀ y ∈ m, s y := fun y hy => hs y (hp.mem_iff.2 hy)
  refine List.Perm.eq_of_pairwise (le := fun a b => c a b ≤ 0) ?_ (isort_sorted hc hs) (isort_sorted hc hm) ((isort_perm c l).trans (hp.trans (isort_perm c m).symm))
  intro a b ha hb h1 h2
  have ha' := (isort_perm c l).mem_iff.1 ha
  have hb' := hp.mem_iff.2 ((isort_perm c m).mem_iff.1 hb)
  refine he a b ha' hb' ?_
  have f1 := hc.flip a b (hs a ha') (hs b hb')
  have f2 := hc.flip b a (hs b hb') (hs a ha')
  omega
/-- Two comparisons that answer alike of what comes later against what came before. -/
theorem isort_congr {c d : α → α → Int} {l : List α} (h : ∀ (i j : Nat) (x y : α), i < j → l[i]? = some y → l[j]? = some x → (c x y < 0 ↔ d x y < 0)) : isort c l = isort d l := by
  have hF : ∀ (x : α) (S : List α), (∀ y ∈ S, (c x y < 0 ↔ d x y < 0)) → insF c x S = insF d x S := by
    intro x S
    induction S with
    | nil => intro _; rfl
    | cons y t ih =>
      intro hy
      have h0 := hy y (by simp)
      simp only [insF]
      rw [ih fun z hz => hy z (List.mem_cons_of_mem _ hz)]
      by_cases hh : c x y < 0
      · rw [if_pos hh, if_pos (h0.1 hh)]
      · rw [if_neg hh, if_neg (fun h => hh (h0.2 h))]
  have key : ∀ n, n ≤ l.length → isort c (l.take n) = isort d (l.take n) := by
    intro n
    induction n with
    | zero => intro _; rfl
    | succ n ih =>
      intro hn
      have hx := List.getElem?_eq_getElem (l := l) (i := n) (by omega)
      rw [take_snoc' hx, isort_snoc, isort_snoc, ih (by omega)]
      unfold insB
      rw [hF]
      intro y hy
      have hy' := (isort_perm d _).mem_iff.1 (List.mem_reverse.1 hy)
      obtain ⟨i, hi, rfl⟩ := List.getElem_of_mem hy'
      have hi' : i < n := by simp at hi; omega
      exact h i n _ _ hi' (by rw [List.getElem_take]; exact List.getElem?_eq_getElem _) hx
  have := key l.length (Nat.le_refl _)
  rwa [List.take_length] at this
end
end Go.HL
end
section
namespace Go.HL
open Op (bytesLess)
structure Asset where
  Player : Str
  Position : Str
  Value : Int
structure Place where
  Position : Str
  Many : Int
abbrev eAsset (x : Asset) : HVal := .agg [.str x.Player, .str x.Position, .int .i64 x.Value]
abbrev ePlace (x : Place) : HVal := .agg [.str x.Position, .int .i64 x.Many]
abbrev eAssets (l : List Asset) : HVal := .slice 3 (l.map eAsset)
abbrev ePlaces (l : List Place) : HVal := .slice 2 (l.map ePlace)
def asset0 : Asset := ⟨[], [], 0⟩
def place0 : Place := ⟨[], 0⟩
def assetFault (x : Asset) : Int := if !(key x.Player) || !(key x.Position) then 5 else if out x.Value (-1000000) 1000000 then 1 else 0
def assetsGo (l : List Asset) : Nat → List Asset → Int
  | _, [] => 0
  | k, x :: t => if assetFault x != 0 then assetFault x else if decide (0 < k) && leS x.Player (l.getD (k - 1) asset0).Player then 7 else assetsGo l (k + 1) t
def checkAssets (l : List Asset) : Int := if 300 < l.length then 2 else assetsGo l 0 l
def placesGo (l : List Place) : Nat → List Place → Int
  | _, [] => 0
  | k, x :: t => if !(key x.Position) then 5 else if out x.Many 0 12 then 1 else if decide (0 < k) && leS x.Position (l.getD (k - 1) place0).Position then 7 else placesGo l (k + 1) t
def checkPlaces (l : List Place) : Int := if 10 < l.length then 2 else placesGo l 0 l
def byValue (a b : Asset) : Int := orI [cmpI b.Value a.Value, cmpS a.Player b.Player]
def byVal (a b : Asset) : Int := cmpI b.Value a.Value
def byPlayer (a b : Asset) : Int := cmpS a.Player b.Player
def atPos (l : List Asset) (pos : Str) : List Asset := l.filter (fun x => x.Position == pos)
def ofP (l : List Asset) (pos : Str) : List Asset := isort byValue (atPos l pos)
def ofR (l : List Asset) (pos : Str) : List Asset := isort byVal (atPos l pos)
def chosen (o : List Asset) (many : Int) : List Asset := (o.take (min many o.length).toNat).filter (fun y => decide (0 < y.Value))
def fieldedL (of : Str → List Asset) (p : List Place) : List Asset := p.flatMap fun x => chosen (of x.Position) x.Many
def sumV (l : List Asset) : Int := (l.map (·.Value)).sum
def namesV (l : List Asset) : List Str := sortS (l.map (·.Player))
/-- What is known of assets that are right. -/
structure OkA (l : List Asset) : Prop where
  val : ∀ x ∈ l, -1000000 ≤ x.Value ∧ x.Value ≤ 1000000
theorem atPos_snoc {l : List Asset} {k : Nat} {x : Asset} {pos : Str} (h : l[k]? = some x) : atPos (l.take (k + 1)) pos = atPos (l.take k) pos ++ if x.Position == pos then [x] else [] := by
  rw [take_snoc' h]; unfold atPos; rw [List.filter_append]
  by_cases hx : x.Position == pos <;> simp [hx]
theorem atPos_le (l : List Asset) (pos : Str) : (atPos l pos).length ≤ l.length := List.length_filter_le _ _
theorem ofP_len (l : List Asset) (pos : Str) : (ofP l pos).length ≤ l.length := by unfold ofP; rw [isort_len]; exact atPos_le l pos
theorem ofR_len (l : List Asset) (pos : Str) : (ofR l pos).length ≤ l.length := by unfold ofR; rw [isort_len]; exact atPos_le l pos
end Go.HL
end
section
namespace Go.HL
open Op (bytesLess)
theorem map_getD {l : List Asset} {k : Nat} : (l.map (·.Player)).getD k [] = (l.getD k asset0).Player := by
  by_cases h : k < l.length
  · simp [List.getD, List.getElem?_eq_getElem h]
  · simp [List.getD, List.getElem?_eq_none (Nat.le_of_not_lt h), asset0]
theorem assetFault_ok {x : Asset} (h : assetFault x = 0) : key x.Player = true ∧ key x.Position = true ∧ -1000000 ≤ x.Value ∧ x.Value ≤ 1000000 := by
  unfold assetFault at h
  by_cases h1 : (!(key x.Player) || !(key x.Position)) = true
  · rw [if_pos h1] at h; omega
  · rw [if_neg h1] at h
    by_cases h2 : out x.Value (-1000000) 1000000 = true
    · rw [if_pos h2] at h; omega
    · have := out_f (by simpa using h2)
      simp at h1
      exact ⟨h1.1, h1.2, this.1, this.2⟩
theorem assetsGo_ok (l : List Asset) : ∀ (t : List Asset) (k : Nat), assetsGo l k t = 0 → risingGo (l.map (·.Player)) k (t.map (·.Player)) = 0 ∧ ∀ x ∈ t, assetFault x = 0
  | [], _, _ => ⟨rfl, fun x h => by cases h⟩
  | x :: t, k, h => by
    simp only [assetsGo] at h
    by_cases h1 : assetFault x = 0
    · rw [if_neg (by simpa using h1)] at h
      by_cases h2 : (decide (0 < k) && leS x.Player (l.getD (k - 1) asset0).Player) = true
      · rw [if_pos h2] at h; omega
      · rw [if_neg h2] at h
        obtain ⟨h3, h4⟩ := assetsGo_ok l t (k + 1) h
        refine ⟨?_, fun y hy => ?_⟩
        · simp only [List.map_cons, risingGo, map_getD]
          rw [if_neg (by simp [(assetFault_ok h1).1]), if_neg h2]
          exact h3
        · rcases List.mem_cons.1 hy with rfl | hy
          · exact h1
          · exact h4 y hy
    · rw [if_pos (by simpa using h1)] at h; exact absurd h h1
theorem checkAssets_ok {l : List Asset} (h : checkAssets l = 0) : SortedS (l.map (·.Player)) ∧ ∀ x ∈ l, assetFault x = 0 := by
  unfold checkAssets at h
  split at h
  · omega
  · obtain ⟨h1, h2⟩ := assetsGo_ok l l 0 h
    exact ⟨rising1_sorted (by simpa [rising1] using h1), h2⟩
theorem placesGo_ok (l : List Place) : ∀ (t : List Place) (k : Nat), placesGo l k t = 0 → ∀ x ∈ t, 0 ≤ x.Many ∧ x.Many ≤ 12
  | [], _, _ => fun x h => by cases h
  | x :: t, k, h => by
    simp only [placesGo] at h
    by_cases h1 : (!(key x.Position)) = true
    · rw [if_pos h1] at h; omega
    · rw [if_neg h1] at h
      by_cases h2 : out x.Many 0 12 = true
      · rw [if_pos h2] at h; omega
      · rw [if_neg h2] at h
        by_cases h3 : (decide (0 < k) && leS x.Position (l.getD (k - 1) place0).Position) = true
        · rw [if_pos h3] at h; omega
        · rw [if_neg h3] at h
          intro y hy
          rcases List.mem_cons.1 hy with rfl | hy
          · exact out_f (by simpa using h2)
          · exact placesGo_ok l t (k + 1) h y hy
theorem checkPlaces_ok {l : List Place} (h : checkPlaces l = 0) : (∀ x ∈ l, 0 ≤ x.Many ∧ x.Many ≤ 12) ∧ l.length ≤ 10 := by
  unfold checkPlaces at h
  split at h
  · omega
  · exact ⟨placesGo_ok l l 0 h, by omega⟩
theorem cmpS_le {a b : Str} : cmpS a b ≤ 0 ↔ bytesLess b a = false := by
  rw [cmpS_eq]
  rcases less_total a b with h | h | h
  · simp [h, less_asymm h]
  · subst h; simp [less_irrefl]
  · have hne : a ≠ b := fun e => by subst e; rw [less_irrefl] at h; cases h
    simp [h, less_asymm h, hne]
theorem cmpS_zero {a b : Str} : cmpS a b = 0 ↔ a = b := by
  rw [cmpS_eq]
  rcases less_total a b with h | h | h
  · have hne : a ≠ b := fun e => by subst e; rw [less_irrefl] at h; cases h
    simp [h, hne]
  · subst h; simp [less_irrefl]
  · have hne : a ≠ b := fun e => by subst e; rw [less_irrefl] at h; cases h
    simp [less_asymm h, hne]
theorem cmpS_trans {a b c : Str} (h1 : cmpS a b ≤ 0) (h2 : cmpS b c ≤ 0) : cmpS a c ≤ 0 := by
  rw [cmpS_le] at *
  rcases less_total a b with h | h | h
  · rcases less_total b c with h' | h' | h'
    · exact less_asymm (less_trans h h')
    · subst h'; exact less_asymm h
    · rw [h'] at h2; cases h2
  · subst h; exact h2
  · rw [h] at h1; cases h1
theorem orI2 (a b : Int) : orI [a, b] = if a ≠ 0 then a else b := by
  simp only [orI]
  by_cases ha : a = 0 <;> by_cases hb : b = 0 <;> simp [ha, hb]
theorem byValue_flip (x y : Asset) : byValue x y = -byValue y x := by
  unfold byValue
  rw [cmpI_flip, cmpS_flip x.Player, orI_flip]
theorem cmpI_le {a b : Int} : cmpI a b ≤ 0 ↔ a ≤ b := by unfold cmpI; split <;> (try split) <;> omega
theorem cmpI_zero {a b : Int} : cmpI a b = 0 ↔ a = b := by unfold cmpI; split <;> (try split) <;> omega
theorem byValue_le {x y : Asset} : byValue x y ≤ 0 ↔ y.Value < x.Value ∨ (y.Value = x.Value ∧ cmpS x.Player y.Player ≤ 0) := by
  unfold byValue
  rw [orI2]
  by_cases h : y.Value = x.Value
  · rw [if_neg (by simp [cmpI_zero, h])]; simp [h]
  · rw [if_pos (by simp [cmpI_zero, h]), cmpI_le]; omega
theorem byValue_cmp : Cmp byValue (fun _ => True) where
  flip x y _ _ := by rw [byValue_flip x y]; omega
  trans x y z _ _ _ h1 h2 := by
    rw [byValue_le] at *
    rcases h1 with h1 | ⟨h1, h1'⟩ <;> rcases h2 with h2 | ⟨h2, h2'⟩
    · exact .inl (by omega)
    · exact .inl (by omega)
    · exact .inl (by omega)
    · exact .inr ⟨by omega, cmpS_trans h1' h2'⟩
theorem byPlayer_cmp : Cmp byPlayer (fun _ => True) where
  flip x y _ _ := by unfold byPlayer; rw [cmpS_flip x.Player y.Player]; omega
  trans x y z _ _ _ h1 h2 := cmpS_trans h1 h2
theorem byValue_player {x y : Asset} (h : byValue x y = 0) : x.Player = y.Player := by
  unfold byValue at h
  rw [orI2] at h
  split at h
  · contradiction
  · exact cmpS_zero.1 h
/-- Players that rise differ. -/
theorem sortedS_nodup {l : List Str} (h : SortedS l) : l.Nodup := h.imp fun hab e => by subst e; rw [less_irrefl] at hab; cases hab
theorem nodup_inj {l : List Asset} (h : (l.map (·.Player)).Nodup) {x y : Asset} (hx : x ∈ l) (hy : y ∈ l) (e : x.Player = y.Player) : x = y := by
  induction l with
  | nil => cases hx
  | cons a l ih =>
    simp only [List.map_cons, List.nodup_cons, List.mem_map, not_exists, not_and] at h
    rcases List.mem_cons.1 hx with rfl | hx' <;> rcases List.mem_cons.1 hy with rfl | hy'
    · rfl
    · exact absurd e.symm (h.1 y hy')
    · exact absurd e (h.1 x hx')
    · exact ih h.2 hx' hy'
theorem ofP_perm {l m : List Asset} (h : (l.map (·.Player)).Nodup) (hp : l.Perm m) (pos : Str) : ofP l pos = ofP m pos := by
  unfold ofP atPos
  refine isort_unique byValue_cmp (fun _ _ => trivial) (fun x y hx hy e => ?_) (hp.filter _)
  exact nodup_inj h (List.mem_filter.1 hx).1 (List.mem_filter.1 hy).1 (byValue_player e)
theorem ofR_ofP {l : List Asset} (h : SortedS (l.map (·.Player))) (pos : Str) : ofR l pos = ofP l pos := by
  unfold ofR ofP
  have hp : (atPos l pos).Pairwise (fun a b => bytesLess a.Player b.Player = true) := (List.pairwise_map.1 h).filter _
  refine isort_congr fun i j x y hij hy hx => ?_
  have hxy : bytesLess y.Player x.Player = true := by
    obtain ⟨hi, rfl⟩ := List.getElem?_eq_some_iff.1 hy
    obtain ⟨hj, rfl⟩ := List.getElem?_eq_some_iff.1 hx
    exact List.pairwise_iff_getElem.1 hp i j hi hj hij
  unfold byVal byValue
  rw [orI2]
  by_cases he : cmpI y.Value x.Value = 0
  · rw [if_neg (by simpa using he), he]
    have : ¬ cmpS x.Player y.Player ≤ 0 := by rw [cmpS_le, hxy]; simp
    omega
  · rw [if_pos he]
theorem with_sorted {m : List Asset} (h : (m.map (·.Player)).Nodup) : SortedS ((isort byPlayer m).map (·.Player)) := by
  have h1 := isort_sorted byPlayer_cmp (l := m) (fun _ _ => trivial)
  have h2 : ((isort byPlayer m).map (·.Player)).Nodup := ((isort_perm byPlayer m).map _).nodup_iff.2 h
  unfold SortedS
  rw [List.pairwise_map]
  have h3 := List.pairwise_map.1 h2
  refine (h1.and h3).imp fun ⟨a1, a2⟩ => ?_
  rcases less_total _ _ with h | h | h
  · exact h
  · exact absurd h a2
  · have := cmpS_le.1 a1; rw [h] at this; cases this
theorem fieldedL_congr {f g : Str → List Asset} {p : List Place} (h : ∀ x ∈ p, f x.Position = g x.Position) : fieldedL f p = fieldedL g p := by
  unfold fieldedL
  induction p with
  | nil => rfl
  | cons x p ih => simp only [List.flatMap_cons]; rw [h x (by simp), ih fun y hy => h y (List.mem_cons_of_mem _ hy)]
theorem fielded_ref {l : List Asset} (h : SortedS (l.map (·.Player))) (p : List Place) : fieldedL (ofR l) p = fieldedL (ofP l) p := fieldedL_congr fun x _ => ofR_ofP h _
theorem fielded_with {l : List Asset} {x : Asset} (h : SortedS (l.map (·.Player))) (hx : ∀ y ∈ l, y.Player ≠ x.Player) (p : List Place) : fieldedL (ofR (isort byPlayer (l ++ [x]))) p = fieldedL (ofP (l ++ [x])) p := by
  have hn : ((l ++ [x]).map (·.Player)).Nodup := by
    rw [List.map_append, List.nodup_append]
    refine ⟨sortedS_nodup h, by simp, fun a ha b hb e => ?_⟩
    simp at hb
    obtain ⟨y, hy, rfl⟩ := List.mem_map.1 ha
    exact hx y hy (e.trans hb)
  rw [fielded_ref (with_sorted hn)]
  exact fieldedL_congr fun y _ => (ofP_perm hn (isort_perm byPlayer _).symm _).symm
theorem erase_filter {l : List Asset} (h : (l.map (·.Player)).Nodup) {k : Nat} {x : Asset} (hx : l[k]? = some x) : l.filter (fun y => !(y.Player == x.Player)) = l.eraseIdx k := by
  induction l generalizing k with
  | nil => simp at hx
  | cons a l ih =>
    simp only [List.map_cons, List.nodup_cons, List.mem_map, not_exists, not_and] at h
    cases k with
    | zero =>
      simp at hx; subst hx
      simp only [List.eraseIdx_zero, List.tail_cons, List.filter_cons, beq_self_eq_true, Bool.not_true, Bool.false_eq_true, if_false]
      exact List.filter_eq_self.2 fun y hy => by simpa using h.1 y hy
    | succ k =>
      simp at hx
      have hne : a.Player ≠ x.Player := fun e => h.1 x (List.mem_of_getElem? hx) e.symm
      simp only [List.eraseIdx_cons_succ, List.filter_cons]
      rw [if_pos (by simpa using hne), ih h.2 hx]
end Go.HL
end
section
namespace Go.HL
theorem sumV_app (a b : List Asset) : sumV (a ++ b) = sumV a + sumV b := by simp [sumV]
theorem sumV_bd : ∀ {L : List Asset}, (∀ x ∈ L, -1000000 ≤ x.Value ∧ x.Value ≤ 1000000) → -1000000 * (L.length : Int) ≤ sumV L ∧ sumV L ≤ 1000000 * (L.length : Int)
  | [], _ => by simp [sumV]
  | x :: L, h => by
    have ih := sumV_bd (L := L) fun y hy => h y (List.mem_cons_of_mem _ hy)
    have hx := h x (by simp)
    have e : sumV (x :: L) = x.Value + sumV L := by simp [sumV]
    rw [e, List.length_cons]; omega
theorem mem_chosen {l : List Asset} {pos : Str} {m : Int} {y : Asset} (h : y ∈ chosen (ofP l pos) m) : y ∈ l := by
  unfold chosen at h
  have h1 := List.mem_of_mem_take (List.mem_filter.1 h).1
  unfold ofP atPos at h1
  exact (List.mem_filter.1 ((isort_mem byValue).1 h1)).1
theorem mem_chosenR {l : List Asset} {pos : Str} {m : Int} {y : Asset} (h : y ∈ chosen (ofR l pos) m) : y ∈ l := by
  unfold chosen at h
  have h1 := List.mem_of_mem_take (List.mem_filter.1 h).1
  unfold ofR atPos at h1
  exact (List.mem_filter.1 ((isort_mem byVal).1 h1)).1
theorem chosen_len (o : List Asset) (m : Int) : (chosen o m).length ≤ o.length := by
  unfold chosen
  refine Nat.le_trans (List.length_filter_le _ _) ?_
  simp; omega
theorem fieldedL_snoc (f : Str → List Asset) {p : List Place} {i : Nat} {x : Place} (h : p[i]? = some x) : fieldedL f (p.take (i + 1)) = fieldedL f (p.take i) ++ chosen (f x.Position) x.Many := by
  rw [take_snoc' h]; simp [fieldedL]
theorem fieldedL_len {f : Str → List Asset} {n : Nat} (hf : ∀ s, (f s).length ≤ n) : ∀ p : List Place, (fieldedL f p).length ≤ n * p.length
  | [] => by simp [fieldedL]
  | x :: p => by
    have ih := fieldedL_len hf p
    have h1 := chosen_len (f x.Position) x.Many
    have h2 := hf x.Position
    have e : fieldedL f (x :: p) = chosen (f x.Position) x.Many ++ fieldedL f p := by simp [fieldedL]
    rw [e, List.length_append, List.length_cons, Nat.mul_succ]; omega
theorem mem_fieldedL {f : Str → List Asset} {l : List Asset} (hf : ∀ s m y, y ∈ chosen (f s) m → y ∈ l) {p : List Place} {y : Asset} (h : y ∈ fieldedL f p) : y ∈ l := by
  unfold fieldedL at h
  obtain ⟨x, _, hx⟩ := List.mem_flatMap.1 h
  exact hf _ _ y hx
/-- What a prefix of the places brings stays small. -/
theorem field_bd {f : Str → List Asset} {l : List Asset} {p : List Place} {i : Nat} (hf : ∀ s m y, y ∈ chosen (f s) m → y ∈ l) (hn : ∀ s, (f s).length ≤ 12) (hp : p.length ≤ 10) (hv : ∀ x ∈ l, -1000000 ≤ x.Value ∧ x.Value ≤ 1000000) :
    (fieldedL f (p.take i)).length ≤ 120 ∧ -120000000 ≤ sumV (fieldedL f (p.take i)) ∧ sumV (fieldedL f (p.take i)) ≤ 120000000 := by
  have h1 := fieldedL_len hn (p.take i)
  have h2 : (p.take i).length ≤ 10 := by simp; omega
  have h3 := sumV_bd (L := fieldedL f (p.take i)) fun y hy => hv y (mem_fieldedL hf hy)
  have h4 : (fieldedL f (p.take i)).length ≤ 120 := by omega
  omega
theorem pos_bd {C l : List Asset} {k : Nat} (hC : ∀ y ∈ C, y ∈ l) (hn : C.length ≤ 12) (hv : ∀ x ∈ l, -1000000 ≤ x.Value ∧ x.Value ≤ 1000000) :
    ((C.take k).filter (fun y => decide (0 < y.Value))).length ≤ 12 ∧ -12000000 ≤ sumV ((C.take k).filter (fun y => decide (0 < y.Value))) ∧ sumV ((C.take k).filter (fun y => decide (0 < y.Value))) ≤ 12000000 := by
  have h1 := List.length_filter_le (fun y : Asset => decide (0 < y.Value)) (C.take k)
  have h2 : (C.take k).length ≤ 12 := by simp; omega
  have h3 := sumV_bd (L := (C.take k).filter (fun y => decide (0 < y.Value))) fun y hy => hv y (hC y (List.mem_of_mem_take (List.mem_filter.1 hy).1))
  omega
theorem pos_snoc {C : List Asset} {k : Nat} {y : Asset} (h : C[k]? = some y) : (C.take (k + 1)).filter (fun y => decide (0 < y.Value)) = (C.take k).filter (fun y => decide (0 < y.Value)) ++ if 0 < y.Value then [y] else [] := by
  rw [take_snoc' h, List.filter_append]
  by_cases hy : 0 < y.Value <;> simp [hy]
theorem chosen_eq {o : List Asset} {m : Int} {N : Nat} (hN : (if (o.length : Int) < m then (o.length : Int) else m) = (N : Int)) : chosen o m = ((o.take N).drop 0).filter (fun y => decide (0 < y.Value)) := by
  unfold chosen
  have : (min m (o.length : Int)).toNat = N := by split at hN <;> omega
  rw [this, List.drop_zero]
def okAP (l : List Asset) (p : List Place) : Int := orI [checkAssets l, checkPlaces p]
theorem okAP_ok {l : List Asset} {p : List Place} (h : okAP l p = 0) : checkAssets l = 0 ∧ checkPlaces p = 0 := orI_zero h
def sumF (l : List Asset) (p : List Place) : Int := sumV (fieldedL (ofP l) p)
def bringsE (l : List Asset) (p : List Place) (x : Asset) : Int :=
  if orI [checkAssets l, checkPlaces p, assetFault x] != 0 then orI [checkAssets l, checkPlaces p, assetFault x] else if l.any (fun y => y.Player == x.Player) then 6 else if 300 ≤ l.length then 12 else 0
theorem orI3 {a b c : Int} (h : orI [a, b, c] = 0) : a = 0 ∧ b = 0 ∧ c = 0 := by
  simp only [orI] at h
  split at h
  · exact absurd h (by assumption)
  · split at h
    · exact absurd h (by assumption)
    · split at h
      · exact absurd h (by assumption)
      · exact ⟨by omega, by omega, by omega⟩
def dropStep (l : List Asset) (F : Nat → Int) (q : Option (Nat × Int)) (k : Nat) (x : Asset) : Option (Nat × Int) :=
  match q with
  | none => some (k, F k)
  | some (b, n) => if n < F k ∨ (F k = n ∧ x.Value ≤ (l.getD b asset0).Value) then some (k, F k) else some (b, n)
def dropRun (l : List Asset) (F : Nat → Int) (n : Nat) : Option (Nat × Int) := (List.range n).foldl (fun q k => dropStep l F q k (l.getD k asset0)) none
theorem dropRun_succ (l : List Asset) (F : Nat → Int) (n : Nat) : dropRun l F (n + 1) = dropStep l F (dropRun l F n) n (l.getD n asset0) := by
  simp [dropRun, List.range_succ, List.foldl_append]
theorem dropRun_lt (l : List Asset) (F : Nat → Int) : ∀ (n : Nat) (b : Nat) (m : Int), dropRun l F n = some (b, m) → b < n ∧ m = F b
  | 0, b, m, h => by simp [dropRun] at h
  | n + 1, b, m, h => by
    rw [dropRun_succ] at h
    unfold dropStep at h
    split at h
    · simp at h; obtain ⟨rfl, rfl⟩ := h; exact ⟨by omega, rfl⟩
    · rename_i b' m' he
      have := dropRun_lt l F n b' m' he
      split at h
      · simp at h; obtain ⟨rfl, rfl⟩ := h; exact ⟨by omega, rfl⟩
      · simp at h; obtain ⟨rfl, rfl⟩ := h; exact ⟨by omega, this.2⟩
theorem dropRun_none (l : List Asset) (F : Nat → Int) (n : Nat) : dropRun l F n = none ↔ n = 0 := by
  cases n with
  | zero => simp [dropRun]
  | succ n =>
    rw [dropRun_succ]
    unfold dropStep
    constructor
    · intro h
      split at h
      · cases h
      · split at h <;> cases h
    · intro h; omega
theorem dropRun_congr {l : List Asset} {F G : Nat → Int} (n : Nat) (h : ∀ k, k < n → F k = G k) : dropRun l F n = dropRun l G n := by
  induction n with
  | zero => rfl
  | succ n ih => rw [dropRun_succ, dropRun_succ, ih fun k hk => h k (by omega)]; unfold dropStep; rw [h n (by omega)]
def dropF (l : List Asset) (p : List Place) (k : Nat) : Int := sumF (l.eraseIdx k) p
def dropped (l : List Asset) (p : List Place) : Option (Nat × Int) := dropRun l (dropF l p) l.length
def dropName (l : List Asset) : Option (Nat × Int) → Str
  | none => []
  | some (b, _) => (l.getD b asset0).Player
def best1 : Option (Nat × Int) → Int
  | none => -1
  | some (b, _) => (b : Int)
def left1 : Option (Nat × Int) → Int
  | none => 0
  | some (_, n) => n
def least1 (l : List Asset) : Option (Nat × Int) → Int
  | none => 0
  | some (b, _) => (l.getD b asset0).Value
end Go.HL
namespace Go.HL
def refBringsE (l : List Asset) (x : Asset) : Int := if assetFault x != 0 then assetFault x else if l.any (fun y => y.Player == x.Player) then 6 else if l.length = 300 then 12 else 0
theorem checkAssets_one (x : Asset) : checkAssets [x] = assetFault x := by
  simp [checkAssets, assetsGo]
  intro h; exact h.symm
def dropG (l : List Asset) (p : List Place) (k : Nat) : Int := sumV (fieldedL (ofR (l.filter fun y => !(y.Player == (l.getD k asset0).Player))) p)
theorem sorted_filter {l : List Asset} (h : SortedS (l.map (·.Player))) (q : Asset → Bool) : SortedS ((l.filter q).map (·.Player)) :=
  List.pairwise_map.2 ((List.pairwise_map.1 h).filter _)
theorem dropG_F {l : List Asset} (h : SortedS (l.map (·.Player))) (p : List Place) {k : Nat} (hk : k < l.length) : dropG l p k = dropF l p k := by
  unfold dropG dropF sumF
  have hx : l[k]? = some (l.getD k asset0) := getD_some hk
  rw [fielded_ref (sorted_filter h _), erase_filter (sortedS_nodup h) hx]
theorem getD_of {l : List Asset} {k : Nat} {x : Asset} (h : l[k]? = some x) : l.getD k asset0 = x := by simp [List.getD, h]
theorem drop_step_yes {l : List Asset} {F : Nat → Int} {k : Nat} {x : Asset} (hx : l[k]? = some x) (h : match dropRun l F k with | none => True | some (b, n) => n < F k ∨ (F k = n ∧ x.Value ≤ (l.getD b asset0).Value)) : dropRun l F (k + 1) = some (k, F k) := by
  rw [dropRun_succ, getD_of hx]
  unfold dropStep
  revert h
  cases dropRun l F k with
  | none => intro _; rfl
  | some q => obtain ⟨b, n⟩ := q; intro h; exact if_pos h
theorem drop_step_no {l : List Asset} {F : Nat → Int} {k : Nat} {x : Asset} (hx : l[k]? = some x) (h : match dropRun l F k with | none => False | some (b, n) => ¬ (n < F k ∨ (F k = n ∧ x.Value ≤ (l.getD b asset0).Value))) : dropRun l F (k + 1) = dropRun l F k := by
  rw [dropRun_succ, getD_of hx]
  unfold dropStep
  revert h
  cases dropRun l F k with
  | none => intro h; exact h.elim
  | some q => obtain ⟨b, n⟩ := q; intro h; exact if_neg h
theorem ord_drop {a b c d : Int} : orI [cmpI a b, cmpI c d] ≤ 0 ↔ a < b ∨ (b = a ∧ c ≤ d) := by
  rw [orI2]
  by_cases h : a = b
  · subst h; rw [if_neg (by simp [cmpI_zero]), cmpI_le]; omega
  · rw [if_pos (by simp [cmpI_zero, h]), cmpI_le]; omega
end Go.HL
namespace Go.HL
theorem best1_neg {q : Option (Nat × Int)} (h : best1 q < 0) : q = none := by
  cases q with
  | none => rfl
  | some q => obtain ⟨b, n⟩ := q; simp [best1] at h; omega
theorem drop_yes {l : List Asset} {F : Nat → Int} {k : Nat} {x : Asset} (hx : l[k]? = some x)
    (h : (best1 (dropRun l F k) < 0 ∨ left1 (dropRun l F k) < F k) ∨ F k = left1 (dropRun l F k) ∧ x.Value ≤ (l[(best1 (dropRun l F k)).toNat]?.getD asset0).Value) : dropRun l F (k + 1) = some (k, F k) := by
  refine drop_step_yes hx ?_
  revert h
  cases dropRun l F k with
  | none => intro _; trivial
  | some q =>
    obtain ⟨b, n⟩ := q
    simp only [best1, left1, Int.toNat_natCast, List.getD]
    intro h
    rcases h with (h | h) | h
    · omega
    · exact .inl h
    · exact .inr h
theorem drop_no {l : List Asset} {F : Nat → Int} {k : Nat} {x : Asset} (hx : l[k]? = some x)
    (h : (0 ≤ best1 (dropRun l F k) ∧ F k ≤ left1 (dropRun l F k)) ∧ (F k = left1 (dropRun l F k) → (l[(best1 (dropRun l F k)).toNat]?.getD asset0).Value < x.Value)) : dropRun l F (k + 1) = dropRun l F k := by
  refine drop_step_no hx ?_
  revert h
  cases dropRun l F k with
  | none => intro h; simp [best1] at h
  | some q =>
    obtain ⟨b, n⟩ := q
    simp only [best1, left1, Int.toNat_natCast, List.getD]
    intro h hc
    rcases hc with hc | hc
    · omega
    · have := h.2 hc.1; omega
/-- The same as the references ask it. -/
theorem drop_yesR {l : List Asset} {F : Nat → Int} {k : Nat} {x : Asset} (hx : l[k]? = some x) (h : dropName l (dropRun l F k) = [] ∨ orI [cmpI (left1 (dropRun l F k)) (F k), cmpI x.Value (least1 l (dropRun l F k))] ≤ 0) (hk : ∀ y ∈ l, y.Player ≠ []) : dropRun l F (k + 1) = some (k, F k) := by
  refine drop_step_yes hx ?_
  have hlt := dropRun_lt l F k
  revert h hlt
  cases dropRun l F k with
  | none => intro _ _; trivial
  | some q =>
    obtain ⟨b, n⟩ := q
    simp only [dropName, left1, least1, ord_drop]
    intro h hlt
    rcases h with h | h
    · have := (hlt b n rfl).1
      have hkl := lt_of_get hx
      exact absurd h (hk _ (by simp [List.getD, List.getElem?_eq_getElem (show b < l.length by omega)]))
    · exact h
theorem drop_noR {l : List Asset} {F : Nat → Int} {k : Nat} {x : Asset} (hx : l[k]? = some x) (h : ¬ dropName l (dropRun l F k) = []) (h2 : ¬ orI [cmpI (left1 (dropRun l F k)) (F k), cmpI x.Value (least1 l (dropRun l F k))] ≤ 0) : dropRun l F (k + 1) = dropRun l F k := by
  refine drop_step_no hx ?_
  revert h h2
  cases dropRun l F k with
  | none => intro h; simp [dropName] at h
  | some q =>
    obtain ⟨b, n⟩ := q
    simp only [dropName, left1, least1, ord_drop]
    intro _ h; exact h
end Go.HL
end
section
namespace Go.HL
/-- The state of a loop that draws: the list that grows, how many were drawn. -/
structure GL (α : Type) where
  u : Value
  out : List α
  a : Nat
structure GLok {α : Type} (P : α → Prop) (n m : Nat) (q : GL α) : Prop where
  len : q.out.length ≤ n
  all : ∀ x ∈ q.out, P x
  a : q.a ≤ m
section
variable {α : Type} {P : α → Prop}
theorem GLok.add {n m m' : Nat} {u u' : Value} {out : List α} {a1 a2 : Nat} {x : α} (h : GLok P n m ⟨u, out, a1⟩) (hx : P x) (ha : a2 ≤ m') : GLok P (n + 1) m' ⟨u', out ++ [x], a2⟩ :=
  ⟨by have := h.len; simp at *; omega, fun y hy => by
    rcases List.mem_append.1 hy with hy | hy
    · exact h.all y hy
    · simp at hy; subst hy; exact hx, ha⟩
theorem GLok.same {n m m' : Nat} {u : Value} {out : List α} {a1 a2 : Nat} (h : GLok P n m ⟨u, out, a1⟩) (ha : a2 ≤ m') : GLok P (n + 1) m' ⟨u, out, a2⟩ :=
  ⟨by have := h.len; dsimp only at *; omega, h.all, ha⟩
theorem all_set {l : List α} {j : Nat} {y : α} (h : ∀ x ∈ l, P x) (hy : P y) : ∀ x ∈ l.set j y, P x := fun x hx => by
  rcases mem_set_of hx with rfl | hx
  · exact hy
  · exact h x hx
end
def GoodA (x : Asset) : Prop := Sh x.Player ∧ Sh x.Position
def GoodP (x : Place) : Prop := Sh x.Position
structure GoodAs (l : List Asset) : Prop where
  len : l.length ≤ 7
  all : ∀ x ∈ l, Sh x.Player ∧ Sh x.Position
structure GoodPs (l : List Place) : Prop where
  len : l.length ≤ 4
  all : ∀ x ∈ l, Sh x.Position
def place4 : List Str := [[100, 102], [103, 107], [109, 102], [120, 120]]
theorem place4_sh : ∀ s ∈ place4, Sh s := by
  intro s hs
  have : s.length ≤ 2 := by revert s; decide
  unfold Sh; omega
theorem nil_sh : Sh [] := by simp [Sh]
def asset1 : Asset := ⟨[97], [103, 107], 5⟩
def place1 : Place := ⟨[103, 107], 1⟩
theorem one_ok : okAP [asset1] [place1] = 0 := by kernel_rfl
theorem one_list : fieldedL (ofP [asset1]) [place1] = [asset1] := by kernel_rfl
theorem one_sum : sumF [asset1] [place1] = 5 := by unfold sumF; rw [one_list]; rfl
theorem one_names : namesV (fieldedL (ofP [asset1]) [place1]) = [[97]] := by rw [one_list]; simp [namesV, sortS, asset1]
theorem okE {l : List Asset} {p : List Place} {x : Asset} (h : l.length ≤ 299) : orI [okAP l p, refBringsE l x] = bringsE l p x := by
  unfold bringsE refBringsE okAP
  have hl : ¬ l.length = 300 := by omega
  have hl2 : ¬ 300 ≤ l.length := by omega
  by_cases h1 : checkAssets l = 0 <;> by_cases h2 : checkPlaces p = 0 <;> by_cases h3 : assetFault x = 0 <;> simp [orI, h1, h2, h3, hl, hl2]
theorem bringsE_ok {l : List Asset} {p : List Place} {x : Asset} (h : bringsE l p x = 0) : checkAssets l = 0 ∧ checkPlaces p = 0 ∧ assetFault x = 0 ∧ ∀ y ∈ l, y.Player ≠ x.Player := by
  unfold bringsE at h
  by_cases h1 : orI [checkAssets l, checkPlaces p, assetFault x] = 0
  · obtain ⟨a, b, c⟩ := orI3 h1
    rw [if_neg (by simp [h1])] at h
    by_cases h2 : l.any (fun y => y.Player == x.Player) = true
    · rw [if_pos h2] at h; omega
    · exact ⟨a, b, c, by simpa using h2⟩
  · rw [if_pos (by simpa using h1)] at h; exact absurd h h1
theorem key_ne {s : Str} (h : key s = true) : s ≠ [] := by
  intro e; subst e; simp [key, keyHd] at h
theorem okAP_facts {l : List Asset} {p : List Place} (h : okAP l p = 0) : SortedS (l.map (·.Player)) ∧ (∀ x ∈ l, -1000000 ≤ x.Value ∧ x.Value ≤ 1000000) ∧ (∀ x ∈ l, x.Player ≠ []) ∧ (∀ x ∈ p, 0 ≤ x.Many) ∧ p.length ≤ 10 := by
  obtain ⟨h1, h2⟩ := okAP_ok h
  obtain ⟨h3, h4⟩ := checkAssets_ok h1
  obtain ⟨h5, h6⟩ := checkPlaces_ok h2
  exact ⟨h3, fun x hx => (assetFault_ok (h4 x hx)).2.2, fun x hx => key_ne (assetFault_ok (h4 x hx)).1, fun x hx => (h5 x hx).1, h6⟩
theorem brings_ref {l : List Asset} {p : List Place} {x : Asset} (h : bringsE l p x = 0) : sumV (fieldedL (ofR (isort byPlayer (l ++ [x]))) p) - sumV (fieldedL (ofR l) p) = sumF (l ++ [x]) p - sumF l p := by
  obtain ⟨h1, _, _, h4⟩ := bringsE_ok h
  have hs := (checkAssets_ok h1).1
  unfold sumF
  rw [fielded_with hs h4, fielded_ref hs]
theorem drop_ref {l : List Asset} {p : List Place} (h : okAP l p = 0) : dropRun l (dropG l p) l.length = dropped l p :=
  dropRun_congr _ fun _ hk => dropG_F (okAP_facts h).1 p hk
theorem dropName_ne {l : List Asset} {p : List Place} (h : okAP l p = 0) : (dropName l (dropped l p) != []) = decide (0 < l.length) := by
  unfold dropped
  cases hq : dropRun l (dropF l p) l.length with
  | none =>
    have := (dropRun_none l (dropF l p) l.length).1 hq
    simp [dropName, this]
  | some q =>
    obtain ⟨b, n⟩ := q
    have hb := (dropRun_lt _ _ _ _ _ hq).1
    have hne := (okAP_facts h).2.2.1 (l.getD b asset0) (by simp [List.getD, List.getElem?_eq_getElem hb])
    have h0 : 0 < l.length := by omega
    simp only [dropName, h0, decide_true, bne_iff_ne, ne_eq]
    exact hne
end Go.HL
end
section
namespace Go.HL
structure Over where
  Player : Str
  Worth : Int
  Rank : Int
structure PairS where
  Name : Str
  Val : Str
abbrev eOver (x : Over) : HVal := .agg [.str x.Player, .int .i64 x.Worth, .int .i64 x.Rank]
abbrev ePair (x : PairS) : HVal := .agg [.str x.Name, .str x.Val]
abbrev eOvers (l : List Over) : HVal := .slice 3 (l.map eOver)
abbrev ePairs (l : List PairS) : HVal := .slice 2 (l.map ePair)
def levelOf (o : List Asset) (many teams : Int) : Int := if o.length = 0 then 0 else (o.getD (min (many * teams) ((o.length : Int) - 1)).toNat asset0).Value
def levelP (l : List Asset) (p : Place) (teams : Int) : Int := levelOf (ofP l p.Position) p.Many teams
def levelR (l : List Asset) (p : Place) (teams : Int) : Int := levelOf (ofR l p.Position) p.Many teams
theorem levelR_P {l : List Asset} (h : SortedS (l.map (·.Player))) (p : Place) (teams : Int) : levelR l p teams = levelP l p teams := by
  unfold levelR levelP; rw [ofR_ofP h]
def lfault (l : List Asset) (p : List Place) (teams : Int) : Int := if okAP l p != 0 then okAP l p else if out teams 1 20 then 1 else 0
def levelsL (f : Place → Int) (p : List Place) : List PairS := p.map fun x => ⟨x.Position, Lib.itoa (f x)⟩
def byWorth (a b : Over) : Int := orI [cmpI b.Worth a.Worth, cmpS a.Player b.Player]
def byWorthV (a b : Over) : Int := cmpI b.Worth a.Worth
def overP (l : List Asset) (p : List Place) (teams : Int) : List Over := p.flatMap fun x => (ofP l x.Position).map fun y => ⟨y.Player, y.Value - levelP l x teams, 0⟩
def overR (l : List Asset) (p : List Place) (teams : Int) : List Over := l.flatMap fun x => (p.filter (fun y => x.Position == y.Position)).map fun y => ⟨x.Player, x.Value - levelR l y teams, 0⟩
theorem byWorth_flip (x y : Over) : byWorth x y = -byWorth y x := by
  unfold byWorth
  rw [cmpI_flip, cmpS_flip x.Player, orI_flip]
theorem byWorth_le {x y : Over} : byWorth x y ≤ 0 ↔ y.Worth < x.Worth ∨ (y.Worth = x.Worth ∧ cmpS x.Player y.Player ≤ 0) := by
  unfold byWorth
  rw [orI2]
  by_cases h : y.Worth = x.Worth
  · rw [if_neg (by simp [cmpI_zero, h])]; simp [h]
  · rw [if_pos (by simp [cmpI_zero, h]), cmpI_le]; omega
theorem byWorth_cmp : Cmp byWorth (fun _ => True) where
  flip x y _ _ := by rw [byWorth_flip x y]; omega
  trans x y z _ _ _ h1 h2 := by
    rw [byWorth_le] at *
    rcases h1 with h1 | ⟨h1, h1'⟩ <;> rcases h2 with h2 | ⟨h2, h2'⟩
    · exact .inl (by omega)
    · exact .inl (by omega)
    · exact .inl (by omega)
    · exact .inr ⟨by omega, cmpS_trans h1' h2'⟩
theorem byWorth_player {x y : Over} (h : byWorth x y = 0) : x.Player = y.Player := by
  unfold byWorth at h
  rw [orI2] at h
  split at h
  · contradiction
  · exact cmpS_zero.1 h
/-- Pairs that are told by rows or by columns. -/
theorem flat_swap {α β γ : Type} (r : α → β → Bool) (f : α → β → γ) (p : List α) : ∀ l : List β, (p.flatMap fun x => (l.filter (r x)).map (f x)).Perm (l.flatMap fun y => (p.filter (fun x => r x y)).map fun x => f x y)
  | [] => by simp
  | y :: t => by
    have ih := flat_swap r f p t
    simp only [List.flatMap_cons]
    have key : ∀ q : List α, (q.flatMap fun x => ((y :: t).filter (r x)).map (f x)).Perm ((q.filter (fun x => r x y)).map (fun x => f x y) ++ q.flatMap fun x => (t.filter (r x)).map (f x)) := by
      intro q
      induction q with
      | nil => simp
      | cons x q ihq =>
        rw [List.flatMap_cons, List.flatMap_cons]
        by_cases hx : r x y = true
        · rw [show (y :: t).filter (r x) = y :: t.filter (r x) by simp [List.filter_cons, hx], show (x :: q).filter (fun x => r x y) = x :: q.filter (fun x => r x y) by simp [List.filter_cons, hx]]
          rw [List.map_cons, List.map_cons, List.cons_append, List.cons_append]
          refine List.Perm.cons _ ?_
          refine (List.Perm.append_left _ ihq).trans ?_
          rw [← List.append_assoc, ← List.append_assoc]
          exact List.Perm.append_right _ List.perm_append_comm
        · rw [show (y :: t).filter (r x) = t.filter (r x) by simp [List.filter_cons, hx], show (x :: q).filter (fun x => r x y) = q.filter (fun x => r x y) by simp [List.filter_cons, hx]]
          refine (List.Perm.append_left _ ihq).trans ?_
          rw [← List.append_assoc, ← List.append_assoc]
          exact List.Perm.append_right _ List.perm_append_comm
    exact (key p).trans (List.Perm.append_left _ ih)
end Go.HL
end
section
namespace Go.HL
def over0 : Over := ⟨[], 0, 0⟩
def rankAt (W : List Over) : Nat → Int
  | 0 => 1
  | i + 1 => if (W.getD (i + 1) over0).Worth = (W.getD i over0).Worth then rankAt W i else (i : Int) + 2
def ranked (W : List Over) : List Over := W.mapIdx fun i x => { x with Rank := rankAt W i }
def rankedR (W : List Over) : List Over := W.map fun x => { x with Rank := 1 + ((W.filter (fun y => decide (x.Worth < y.Worth))).length : Int) }
theorem count_split (W : List Over) (n : Nat) (w : Int) (h1 : ∀ (j : Nat) (x : Over), j < n → W[j]? = some x → w < x.Worth) (h2 : ∀ (j : Nat) (x : Over), n ≤ j → W[j]? = some x → x.Worth ≤ w) (hn : n ≤ W.length) : (W.filter (fun y => decide (w < y.Worth))).length = n := by
  conv => lhs; rw [← List.take_append_drop n W]
  rw [List.filter_append, List.length_append]
  have e1 : (W.take n).filter (fun y => decide (w < y.Worth)) = W.take n := List.filter_eq_self.2 fun y hy => by
    obtain ⟨j, hj, rfl⟩ := List.getElem_of_mem hy
    have hj' : j < n := by simp at hj; omega
    simp only [decide_eq_true_eq]
    refine h1 j _ hj' ?_
    rw [List.getElem_take]; exact List.getElem?_eq_getElem _
  have e2 : (W.drop n).filter (fun y => decide (w < y.Worth)) = [] := List.filter_eq_nil_iff.2 fun y hy => by
    obtain ⟨j, hj, rfl⟩ := List.getElem_of_mem hy
    have := h2 (n + j) _ (by omega) (show W[n + j]? = some ((W.drop n)[j]) by rw [List.getElem_drop]; exact List.getElem?_eq_getElem _)
    simpa using this
  rw [e1, e2]; simp; omega
theorem rankAt_count {W : List Over} (hs : W.Pairwise fun a b => b.Worth ≤ a.Worth) : ∀ i, i < W.length → rankAt W i = 1 + ((W.filter (fun y => decide ((W.getD i over0).Worth < y.Worth))).length : Int)
  | 0, h => by
    have := count_split W 0 (W.getD 0 over0).Worth (fun j x hj _ => by omega) (fun j x _ hx => by
      have h0 : W.getD 0 over0 = W[0] := by simp [List.getD, List.getElem?_eq_getElem h]
      rw [h0]
      rcases Nat.eq_zero_or_pos j with rfl | hj
      · rw [List.getElem?_eq_getElem h] at hx; simp at hx; rw [← hx]; exact Int.le_refl _
      · obtain ⟨hl, rfl⟩ := List.getElem?_eq_some_iff.1 hx
        exact List.pairwise_iff_getElem.1 hs 0 j h hl hj) (by omega)
    rw [this]; simp [rankAt]
  | i + 1, h => by
    have ih := rankAt_count hs i (by omega)
    have e1 : W.getD (i + 1) over0 = W[i + 1] := by simp [List.getD, List.getElem?_eq_getElem h]
    have e0 : W.getD i over0 = W[i]'(by omega) := by simp [List.getD, List.getElem?_eq_getElem (show i < W.length by omega)]
    simp only [rankAt]
    by_cases he : (W.getD (i + 1) over0).Worth = (W.getD i over0).Worth
    · rw [if_pos he, ih, he]
    · rw [if_neg he]
      have hlt : (W[i + 1]).Worth < (W[i]'(by omega)).Worth := by
        have := List.pairwise_iff_getElem.1 hs i (i + 1) (by omega) h (by omega)
        rw [e1, e0] at he; omega
      have := count_split W (i + 1) (W.getD (i + 1) over0).Worth (fun j x hj hx => by
        obtain ⟨hl, rfl⟩ := List.getElem?_eq_some_iff.1 hx
        rw [e1]
        rcases Nat.lt_or_ge j i with hji | hji
        · have := List.pairwise_iff_getElem.1 hs j i hl (by omega) hji; omega
        · obtain rfl : j = i := by omega
          exact hlt) (fun j x hj hx => by
        obtain ⟨hl, rfl⟩ := List.getElem?_eq_some_iff.1 hx
        rw [e1]
        rcases Nat.lt_or_ge (i + 1) j with hji | hji
        · exact List.pairwise_iff_getElem.1 hs (i + 1) j h hl hji
        · obtain rfl : j = i + 1 := by omega
          exact Int.le_refl _) (by omega)
      rw [this]; omega
theorem ranked_ref {W : List Over} (hs : W.Pairwise fun a b => b.Worth ≤ a.Worth) : rankedR W = ranked W := by
  unfold rankedR ranked
  apply List.ext_getElem
  · simp
  · intro i h1 h2
    have hi : i < W.length := by simpa using h1
    simp only [List.getElem_map, List.getElem_mapIdx]
    have := rankAt_count hs i hi
    have e : W.getD i over0 = W[i] := by simp [List.getD, List.getElem?_eq_getElem hi]
    rw [e] at this
    rw [this]
end Go.HL
end
section
namespace Go.HL
open Op (bytesLess)
theorem flatMap_perm {α β : Type} {f g : α → List β} : ∀ {l : List α}, (∀ x ∈ l, (f x).Perm (g x)) → (l.flatMap f).Perm (l.flatMap g)
  | [], _ => .refl _
  | x :: l, h => by
    rw [List.flatMap_cons, List.flatMap_cons]
    exact (h x (by simp)).append (flatMap_perm fun y hy => h y (List.mem_cons_of_mem _ hy))
theorem pmap_getD {l : List Place} {k : Nat} : (l.map (·.Position)).getD k [] = (l.getD k place0).Position := by
  by_cases h : k < l.length
  · simp [List.getD, List.getElem?_eq_getElem h]
  · simp [List.getD, List.getElem?_eq_none (Nat.le_of_not_lt h), place0]
theorem placesGo_rising (l : List Place) : ∀ (t : List Place) (k : Nat), placesGo l k t = 0 → risingGo (l.map (·.Position)) k (t.map (·.Position)) = 0
  | [], _, _ => rfl
  | x :: t, k, h => by
    simp only [placesGo] at h
    by_cases h1 : (!(key x.Position)) = true
    · rw [if_pos h1] at h; omega
    · rw [if_neg h1] at h
      by_cases h2 : out x.Many 0 12 = true
      · rw [if_pos h2] at h; omega
      · rw [if_neg h2] at h
        by_cases h3 : (decide (0 < k) && leS x.Position (l.getD (k - 1) place0).Position) = true
        · rw [if_pos h3] at h; omega
        · rw [if_neg h3] at h
          simp only [List.map_cons, risingGo, pmap_getD]
          rw [if_neg h1, if_neg h3]
          exact placesGo_rising l t (k + 1) h
theorem checkPlaces_sorted {l : List Place} (h : checkPlaces l = 0) : SortedS (l.map (·.Position)) := by
  unfold checkPlaces at h
  split at h
  · omega
  · exact rising1_sorted (by simpa [rising1] using placesGo_rising l l 0 h)
theorem one_place {p : List Place} (h : (p.map (·.Position)).Nodup) (c : Str) : (p.filter (fun y => c == y.Position)).length ≤ 1 := by
  induction p with
  | nil => simp
  | cons x p ih =>
    simp only [List.map_cons, List.nodup_cons, List.mem_map, not_exists, not_and] at h
    rw [List.filter_cons]
    split
    · rename_i hx
      have hx' : c = x.Position := by simpa using hx
      have : p.filter (fun y => c == y.Position) = [] := List.filter_eq_nil_iff.2 fun y hy => by
        have := h.1 y hy
        simp only [beq_iff_eq]
        intro e; exact this (by rw [← e, hx'])
      rw [this]; simp
    · exact ih h.2
def overM (l0 l : List Asset) (p : List Place) (teams : Int) : List Over := l.flatMap fun x => (p.filter (fun y => x.Position == y.Position)).map fun y => ⟨x.Player, x.Value - levelP l0 y teams, 0⟩
theorem overM_players {p : List Place} (h : (p.map (·.Position)).Nodup) (l0 : List Asset) (teams : Int) : ∀ l : List Asset, ((overM l0 l p teams).map (·.Player)).Sublist (l.map (·.Player))
  | [] => by simp [overM]
  | x :: l => by
    have ih := overM_players h l0 teams l
    have h1 := one_place h x.Position
    have e : overM l0 (x :: l) p teams = ((p.filter (fun y => x.Position == y.Position)).map fun y => ⟨x.Player, x.Value - levelP l0 y teams, 0⟩) ++ overM l0 l p teams := by simp [overM]
    rw [e, List.map_append, List.map_map]
    revert h1
    generalize p.filter (fun y => x.Position == y.Position) = q
    intro h1
    match q, h1 with
    | [], _ =>
      simp only [List.map_nil, List.nil_append, List.map_cons]
      exact ih.cons _
    | [y], _ =>
      simp only [List.map_cons, List.map_nil, List.singleton_append, Function.comp]
      exact ih.cons_cons _
    | _ :: _ :: _, h1 => simp at h1
theorem overR_M {l : List Asset} (h : SortedS (l.map (·.Player))) (p : List Place) (teams : Int) : overR l p teams = overM l l p teams := by
  unfold overR overM
  congr 1
  funext x
  congr 1
  funext y
  rw [levelR_P h]
theorem overP_perm (l : List Asset) (p : List Place) (teams : Int) : (overP l p teams).Perm (overM l l p teams) := by
  unfold overP overM
  refine (flatMap_perm (g := fun x => (l.filter (fun y => y.Position == x.Position)).map fun y => (⟨y.Player, y.Value - levelP l x teams, 0⟩ : Over)) fun x _ => ?_).trans ?_
  · exact (isort_perm byValue _).map _
  · exact flat_swap (fun x y => y.Position == x.Position) (fun x y => (⟨y.Player, y.Value - levelP l x teams, 0⟩ : Over)) p l
theorem nodup_injO {l : List Over} (h : (l.map (·.Player)).Nodup) {x y : Over} (hx : x ∈ l) (hy : y ∈ l) (e : x.Player = y.Player) : x = y := by
  induction l with
  | nil => cases hx
  | cons a l ih =>
    simp only [List.map_cons, List.nodup_cons, List.mem_map, not_exists, not_and] at h
    rcases List.mem_cons.1 hx with rfl | hx' <;> rcases List.mem_cons.1 hy with rfl | hy'
    · rfl
    · exact absurd e.symm (h.1 y hy')
    · exact absurd e (h.1 x hx')
    · exact ih h.2 hx' hy'
theorem worths_ref {l : List Asset} {p : List Place} (ha : SortedS (l.map (·.Player))) (hp : SortedS (p.map (·.Position))) (teams : Int) : isort byWorthV (overR l p teams) = isort byWorth (overP l p teams) := by
  rw [overR_M ha]
  have hsub := overM_players (sortedS_nodup hp) l teams l
  have hs : SortedS ((overM l l p teams).map (·.Player)) := List.Pairwise.sublist hsub ha
  have e1 : isort byWorthV (overM l l p teams) = isort byWorth (overM l l p teams) := by
    refine isort_congr fun i j x y hij hy hx => ?_
    have hxy : bytesLess y.Player x.Player = true := by
      obtain ⟨hi, rfl⟩ := List.getElem?_eq_some_iff.1 hy
      obtain ⟨hj, rfl⟩ := List.getElem?_eq_some_iff.1 hx
      exact List.pairwise_iff_getElem.1 (List.pairwise_map.1 hs) i j hi hj hij
    unfold byWorthV byWorth
    rw [orI2]
    by_cases he : cmpI y.Worth x.Worth = 0
    · rw [if_neg (by simpa using he), he]
      have : ¬ cmpS x.Player y.Player ≤ 0 := by rw [cmpS_le, hxy]; simp
      omega
    · rw [if_pos he]
  rw [e1]
  exact isort_unique byWorth_cmp (fun _ _ => trivial) (fun x y hx hy e => nodup_injO (sortedS_nodup hs) hx hy (byWorth_player e)) (overP_perm l p teams).symm
theorem worths_sorted (l : List Over) : (isort byWorth l).Pairwise fun a b => b.Worth ≤ a.Worth :=
  (isort_sorted byWorth_cmp (fun _ _ => trivial)).imp fun h => by rw [byWorth_le] at h; omega
end Go.HL
end
section
namespace Go.HL
theorem ofP_mem {l : List Asset} {pos : Str} {y : Asset} (h : y ∈ ofP l pos) : y ∈ l := by
  unfold ofP atPos at h
  exact (List.mem_filter.1 ((isort_mem byValue).1 h)).1
theorem ofR_mem {l : List Asset} {pos : Str} {y : Asset} (h : y ∈ ofR l pos) : y ∈ l := by
  unfold ofR atPos at h
  exact (List.mem_filter.1 ((isort_mem byVal).1 h)).1
theorem levelOf_bd {o l : List Asset} (ho : ∀ y ∈ o, y ∈ l) (hv : ∀ x ∈ l, -1000000 ≤ x.Value ∧ x.Value ≤ 1000000) (m t : Int) : -1000000 ≤ levelOf o m t ∧ levelOf o m t ≤ 1000000 := by
  unfold levelOf
  split
  · omega
  · rename_i h
    by_cases hj : (min (m * t) ((o.length : Int) - 1)).toNat < o.length
    · have : o.getD (min (m * t) ((o.length : Int) - 1)).toNat asset0 ∈ o := by simp [List.getD, List.getElem?_eq_getElem hj]
      exact hv _ (ho _ this)
    · exfalso; apply hj; omega
theorem lfault_ok {l : List Asset} {p : List Place} {teams : Int} (h : lfault l p teams = 0) : okAP l p = 0 ∧ 1 ≤ teams ∧ teams ≤ 20 := by
  unfold lfault at h
  by_cases h1 : okAP l p = 0
  · rw [if_neg (by simp [h1])] at h
    by_cases h2 : out teams 1 20 = true
    · rw [if_pos h2] at h; omega
    · have := out_f (by simpa using h2); exact ⟨h1, this⟩
  · rw [if_pos (by simpa using h1)] at h; exact absurd h h1
theorem okAP_many {l : List Asset} {p : List Place} (h : okAP l p = 0) : ∀ x ∈ p, 0 ≤ x.Many ∧ x.Many ≤ 12 := (checkPlaces_ok (okAP_ok h).2).1
theorem overP_snoc (l : List Asset) {p : List Place} {i : Nat} {x : Place} (teams : Int) (h : p[i]? = some x) : overP l (p.take (i + 1)) teams = overP l (p.take i) teams ++ (ofP l x.Position).map fun y => ⟨y.Player, y.Value - levelP l x teams, 0⟩ := by
  rw [take_snoc' h]; simp [overP]
theorem overP_len {l : List Asset} (hl : l.length ≤ 12) (teams : Int) : ∀ p : List Place, (overP l p teams).length ≤ 12 * p.length
  | [] => by simp [overP]
  | x :: p => by
    have ih := overP_len hl teams p
    have h1 := ofP_len l x.Position
    have e : overP l (x :: p) teams = ((ofP l x.Position).map fun y => ⟨y.Player, y.Value - levelP l x teams, 0⟩) ++ overP l p teams := by simp [overP]
    rw [e, List.length_append, List.length_map, List.length_cons, Nat.mul_succ]; omega
theorem overP_small {l : List Asset} {p : List Place} (hp : SortedS (p.map (·.Position))) (teams : Int) : (overP l p teams).length ≤ l.length := by
  rw [(overP_perm l p teams).length_eq]
  have := (overM_players (sortedS_nodup hp) l teams l).length_le
  simpa using this
/-- The first k have their ranks. -/
def rankTo (W : List Over) (k : Nat) : List Over := W.mapIdx fun i x => if i < k then { x with Rank := rankAt W i } else x
theorem rankTo_zero (W : List Over) : rankTo W 0 = W := by
  unfold rankTo
  apply List.ext_getElem
  · simp
  · intro i h1 h2; simp
theorem rankTo_len (W : List Over) (k : Nat) : (rankTo W k).length = W.length := by simp [rankTo]
theorem rankTo_all (W : List Over) : rankTo W W.length = ranked W := by
  unfold rankTo ranked
  apply List.ext_getElem
  · simp
  · intro i h1 h2
    have : i < W.length := by simpa using h1
    simp [this]
theorem rankTo_get {W : List Over} {k i : Nat} {x : Over} (h : W[i]? = some x) : (rankTo W k)[i]? = some (if i < k then { x with Rank := rankAt W i } else x) := by
  unfold rankTo
  rw [List.getElem?_mapIdx, h]; rfl
theorem rankTo_succ {W : List Over} {k : Nat} {x : Over} (h : W[k]? = some x) : rankTo W (k + 1) = (rankTo W k).set k { x with Rank := rankAt W k } := by
  apply List.ext_getElem?
  intro i
  by_cases hi : i = k
  · subst hi
    rw [rankTo_get h, List.getElem?_set_self (by rw [rankTo_len]; exact lt_of_get h), if_pos (by omega)]
  · rw [List.getElem?_set_ne (Ne.symm hi)]
    cases hx : W[i]? with
    | none =>
      have hn : W.length ≤ i := by
        rcases Nat.lt_or_ge i W.length with h' | h'
        · rw [List.getElem?_eq_getElem h'] at hx; cases hx
        · exact h'
      rw [List.getElem?_eq_none (by rw [rankTo_len]; exact hn), List.getElem?_eq_none (by rw [rankTo_len]; exact hn)]
    | some y =>
      rw [rankTo_get hx, rankTo_get hx]
      by_cases hlt : i < k
      · rw [if_pos hlt, if_pos (by omega)]
      · rw [if_neg hlt, if_neg (by omega)]
theorem rankAt_new {W : List Over} {k : Nat} {x : Over} (hx : W[k]? = some x) (h : 0 < k → ¬ x.Worth = (W.getD (k - 1) over0).Worth) : rankAt W k = (k : Int) + 1 := by
  cases k with
  | zero => rfl
  | succ k =>
    have e : W.getD (k + 1) over0 = x := by simp [List.getD, hx]
    have := h (by omega)
    simp only [rankAt, e]
    rw [if_neg (by simpa using this)]; omega
theorem rankAt_old {W : List Over} {k : Nat} {x : Over} (hx : W[k]? = some x) (h0 : 0 < k) (h : x.Worth = (W.getD (k - 1) over0).Worth) : rankAt W k = rankAt W (k - 1) := by
  cases k with
  | zero => omega
  | succ k =>
    have e : W.getD (k + 1) over0 = x := by simp [List.getD, hx]
    simp only [rankAt, e]
    rw [if_pos (by simpa using h)]; rfl
end Go.HL
end
section
namespace Go.HL
def overRL (l0 : List Asset) (p : List Place) (teams : Int) (l : List Asset) : List Over := l.flatMap fun x => (p.filter (fun y => x.Position == y.Position)).map fun y => ⟨x.Player, x.Value - levelR l0 y teams, 0⟩
theorem overRL_all (l : List Asset) (p : List Place) (teams : Int) : overRL l p teams l = overR l p teams := rfl
theorem overRL_snoc (l0 : List Asset) {l : List Asset} {p : List Place} {i : Nat} {x : Asset} (teams : Int) (h : l[i]? = some x) : overRL l0 p teams (l.take (i + 1)) = overRL l0 p teams (l.take i) ++ (p.filter (fun y => x.Position == y.Position)).map fun y => ⟨x.Player, x.Value - levelR l0 y teams, 0⟩ := by
  rw [take_snoc' h]; simp [overRL]
theorem overRL_len (l0 : List Asset) {p : List Place} (hp : p.length ≤ 10) (teams : Int) : ∀ l : List Asset, (overRL l0 p teams l).length ≤ 10 * l.length
  | [] => by simp [overRL]
  | x :: l => by
    have ih := overRL_len l0 hp teams l
    have h1 := List.length_filter_le (fun y : Place => x.Position == y.Position) p
    have e : overRL l0 p teams (x :: l) = ((p.filter (fun y => x.Position == y.Position)).map fun y => ⟨x.Player, x.Value - levelR l0 y teams, 0⟩) ++ overRL l0 p teams l := by simp [overRL]
    rw [e, List.length_append, List.length_map, List.length_cons, Nat.mul_succ]; omega
theorem overR_small {l : List Asset} {p : List Place} (ha : SortedS (l.map (·.Player))) (hp : SortedS (p.map (·.Position))) (teams : Int) : (overR l p teams).length ≤ l.length := by
  rw [overR_M ha]
  have := (overM_players (sortedS_nodup hp) l teams l).length_le
  simpa using this
/-- How many of the first m are worth more, and one. -/
def rankN (W : List Over) (x : Over) (m : Nat) : Int := 1 + (((W.take m).filter (fun y => decide (x.Worth < y.Worth))).length : Int)
theorem rankN_yes {W : List Over} {x y : Over} {m : Nat} (hy : W[m]? = some y) (h : x.Worth < y.Worth) : rankN W x (m + 1) = rankN W x m + 1 := by
  unfold rankN; rw [take_snoc' hy, List.filter_append]; simp [h]; omega
theorem rankN_no {W : List Over} {x y : Over} {m : Nat} (hy : W[m]? = some y) (h : ¬ x.Worth < y.Worth) : rankN W x (m + 1) = rankN W x m := by
  unfold rankN; rw [take_snoc' hy, List.filter_append]; simp [h]
theorem rankN_bd (W : List Over) (x : Over) (m : Nat) : 1 ≤ rankN W x m ∧ rankN W x m ≤ 1 + W.length := by
  unfold rankN
  have h1 := List.length_filter_le (fun y : Over => decide (x.Worth < y.Worth)) (W.take m)
  have h2 : (W.take m).length ≤ W.length := by simp; omega
  omega
def rankRTo (W : List Over) (k : Nat) : List Over := W.mapIdx fun i x => if i < k then { x with Rank := rankN W x W.length } else x
theorem rankRTo_zero (W : List Over) : rankRTo W 0 = W := by
  unfold rankRTo
  apply List.ext_getElem
  · simp
  · intro i h1 h2; simp
theorem rankRTo_len (W : List Over) (k : Nat) : (rankRTo W k).length = W.length := by simp [rankRTo]
theorem rankRTo_all (W : List Over) : rankRTo W W.length = rankedR W := by
  unfold rankRTo rankedR
  apply List.ext_getElem
  · simp
  · intro i h1 h2
    have : i < W.length := by simpa using h1
    simp [this, rankN]
theorem rankRTo_get {W : List Over} {k i : Nat} {x : Over} (h : W[i]? = some x) : (rankRTo W k)[i]? = some (if i < k then { x with Rank := rankN W x W.length } else x) := by
  unfold rankRTo
  rw [List.getElem?_mapIdx, h]; rfl
theorem rankRTo_succ {W : List Over} {k : Nat} {x : Over} (h : W[k]? = some x) : rankRTo W (k + 1) = (rankRTo W k).set k { x with Rank := rankN W x W.length } := by
  apply List.ext_getElem?
  intro i
  by_cases hi : i = k
  · subst hi
    rw [rankRTo_get h, List.getElem?_set_self (by rw [rankRTo_len]; exact lt_of_get h), if_pos (by omega)]
  · rw [List.getElem?_set_ne (Ne.symm hi)]
    cases hx : W[i]? with
    | none =>
      have hn : W.length ≤ i := by
        rcases Nat.lt_or_ge i W.length with h' | h'
        · rw [List.getElem?_eq_getElem h'] at hx; cases hx
        · exact h'
      rw [List.getElem?_eq_none (by rw [rankRTo_len]; exact hn), List.getElem?_eq_none (by rw [rankRTo_len]; exact hn)]
    | some y =>
      rw [rankRTo_get hx, rankRTo_get hx]
      by_cases hlt : i < k
      · rw [if_pos hlt, if_pos (by omega)]
      · rw [if_neg hlt, if_neg (by omega)]
theorem rankRTo_any {W : List Over} {k m : Nat} {x y : Over} (r : Int) (hx : W[k]? = some x) (hy : W[m]? = some y) : ∃ z, ((rankRTo W k).set k ⟨x.Player, x.Worth, r⟩)[m]? = some z ∧ z.Worth = y.Worth := by
  by_cases hm : m = k
  · subst hm
    rw [hx] at hy; cases hy
    exact ⟨_, List.getElem?_set_self (by rw [rankRTo_len]; exact lt_of_get hx), rfl⟩
  · refine ⟨_, (List.getElem?_set_ne (Ne.symm hm)).trans (rankRTo_get hy), ?_⟩
    split <;> rfl
end Go.HL
end
section
namespace Go.HL
def partS (n s w : Int) : Int := (n * w).tdiv s
def cmpR (n s : Int) (ws : List Int) (a b : Fin ws.length) : Int := cmpI ((n * ws.getD b.1 0).tmod s) ((n * ws.getD a.1 0).tmod s)
def bump (o : List Int) (i : Nat) : List Int := o.set i (o.getD i 0 + 1)
def bumps (o : List Int) {q : Nat} (l : List (Fin q)) : List Int := l.foldl (fun o i => bump o i.1) o
def overS (n : Int) (ws : List Int) : Int := n - (ws.map (partS n ws.sum)).sum
def orderL (n : Int) (ws : List Int) : List (Fin ws.length) := isort (cmpR n ws.sum ws) (List.finRange ws.length)
def sharedL (n : Int) (ws : List Int) : List Int := bumps (ws.map (partS n ws.sum)) ((orderL n ws).take (overS n ws).toNat)
theorem orderL_len (n : Int) (ws : List Int) : (orderL n ws).length = ws.length := by simp [orderL, isort_len]
theorem bump_len (o : List Int) (i : Nat) : (bump o i).length = o.length := by simp [bump]
theorem bumps_snoc (o : List Int) {q : Nat} {l : List (Fin q)} {k : Nat} {i : Fin q} (h : l[k]? = some i) : bumps o (l.take (k + 1)) = bump (bumps o (l.take k)) i.1 := by
  rw [take_snoc' h]; simp [bumps, List.foldl_append]
theorem bumps_len {q : Nat} : ∀ (l : List (Fin q)) (o : List Int), (bumps o l).length = o.length
  | [], _ => rfl
  | i :: l, o => by
    show (bumps (bump o i.1) l).length = _
    rw [bumps_len l, bump_len]
/-- The weights sum to something. -/
theorem sum_pos : ∀ {ws : List Int}, (∀ w ∈ ws, 1 ≤ w) → (ws.length : Int) ≤ ws.sum
  | [], _ => by simp
  | w :: ws, h => by
    have ih := sum_pos (ws := ws) fun y hy => h y (List.mem_cons_of_mem _ hy)
    have := h w (by simp)
    simp only [List.length_cons, List.sum_cons]; omega
theorem sum_le {B : Int} : ∀ {ws : List Int}, (∀ w ∈ ws, w ≤ B) → ws.sum ≤ B * ws.length
  | [], _ => by simp
  | w :: ws, h => by
    have ih := sum_le (B := B) (ws := ws) fun y hy => h y (List.mem_cons_of_mem _ hy)
    have := h w (by simp)
    simp only [List.length_cons, List.sum_cons, Int.natCast_add, Int.mul_add]; omega
theorem part_rem (n s w : Int) : s * partS n s w = n * w - (n * w).tmod s := by
  have := Int.mul_tdiv_add_tmod (n * w) s
  unfold partS; omega
theorem parts_sum (n s : Int) : ∀ ws : List Int, s * (ws.map (partS n s)).sum = n * ws.sum - (ws.map (fun w => (n * w).tmod s)).sum
  | [] => by simp
  | w :: ws => by
    have ih := parts_sum n s ws
    have h := part_rem n s w
    simp only [List.map_cons, List.sum_cons, Int.mul_add]
    omega
theorem rems_bd {n s : Int} (hs : 0 < s) (hn : 0 ≤ n) : ∀ {ws : List Int}, (∀ w ∈ ws, 1 ≤ w) → 0 ≤ (ws.map (fun w => (n * w).tmod s)).sum ∧ (ws.map (fun w => (n * w).tmod s)).sum ≤ s * ws.length
  | [], _ => by simp
  | w :: ws, h => by
    obtain ⟨i1, i2⟩ := rems_bd hs hn (ws := ws) fun y hy => h y (List.mem_cons_of_mem _ hy)
    have hw := h w (by simp)
    have h1 := Int.tmod_nonneg s (Int.mul_nonneg hn (by omega : 0 ≤ w))
    have h2 := Int.tmod_lt_of_pos (n * w) hs
    simp only [List.map_cons, List.sum_cons, List.length_cons, Int.natCast_add, Int.mul_add]
    omega
theorem overS_bd {n : Int} {ws : List Int} (hn : 0 ≤ n) (hl : 1 ≤ ws.length) (hw : ∀ w ∈ ws, 1 ≤ w) : 0 ≤ overS n ws ∧ overS n ws ≤ ws.length := by
  have hs : 0 < ws.sum := by have := sum_pos hw; omega
  obtain ⟨h1, h2⟩ := rems_bd hs hn hw
  have h3 := parts_sum n ws.sum ws
  have h4 : ws.sum * overS n ws = (ws.map (fun w => (n * w).tmod ws.sum)).sum := by
    unfold overS
    rw [Int.mul_sub, h3, Int.mul_comm ws.sum n]; omega
  constructor
  · rcases Int.lt_or_le (overS n ws) 0 with h | h
    · have := Int.mul_neg_of_pos_of_neg hs h; omega
    · exact h
  · exact Int.le_of_mul_le_mul_left (by rw [h4]; exact h2) hs
theorem bump_bd {B : Int} {o : List Int} {i : Nat} (h : ∀ y ∈ o, 0 ≤ y ∧ y ≤ B) (hB : 0 ≤ B) : ∀ y ∈ bump o i, 0 ≤ y ∧ y ≤ B + 1 := fun y hy => by
  rcases List.mem_or_eq_of_mem_set hy with h1 | h1
  · have := h y h1; omega
  · subst h1
    rcases Nat.lt_or_ge i o.length with hi | hi
    · have := h _ (List.mem_of_getElem? (getD_some (d := 0) hi)); omega
    · have : o.getD i 0 = 0 := by simp [List.getD, List.getElem?_eq_none hi]
      omega
theorem bumps_bd {q : Nat} : ∀ (l : List (Fin q)) {B : Int} {o : List Int}, (∀ y ∈ o, 0 ≤ y ∧ y ≤ B) → 0 ≤ B → ∀ y ∈ bumps o l, 0 ≤ y ∧ y ≤ B + l.length
  | [], _, _, h, _, y, hy => by have := h y hy; simp; omega
  | i :: l, B, o, h, hB, y, hy => by
    have := bumps_bd l (bump_bd (i := i.1) h hB) (by omega) y hy
    simp only [List.length_cons, Int.natCast_add]; omega
theorem part_bd {n s w : Int} (hn : 0 ≤ n) (hs : 0 < s) (hw : 0 ≤ w) : 0 ≤ partS n s w ∧ partS n s w ≤ n * w := by
  unfold partS
  have h0 := Int.mul_nonneg hn hw
  refine ⟨Int.tdiv_nonneg h0 (by omega), ?_⟩
  have h3 : ((n * w).tdiv s).natAbs ≤ (n * w).natAbs := by rw [Int.natAbs_tdiv]; exact Nat.div_le_self _ _
  have := Int.tdiv_nonneg h0 (by omega : 0 ≤ s)
  omega
theorem sum_bd {B : Int} : ∀ {l : List Int}, (∀ y ∈ l, 0 ≤ y ∧ y ≤ B) → 0 ≤ l.sum ∧ l.sum ≤ B * l.length
  | [], _ => by simp
  | y :: l, h => by
    have ih := sum_bd (B := B) (l := l) fun z hz => h z (List.mem_cons_of_mem _ hz)
    have := h y (by simp)
    simp only [List.length_cons, List.sum_cons, Int.natCast_add, Int.mul_add]; omega
def idxL (q : Nat) : List Int := (List.range q).map fun (i : Nat) => (i : Int)
theorem idxL_len (q : Nat) : (idxL q).length = q := by simp [idxL]
theorem idxL_get {q k : Nat} (h : k < q) : (idxL q)[k]? = some (k : Int) := by simp [idxL, h]
theorem idxL_fin (q : Nat) : (idxL q).map (HVal.int .i64) = (List.finRange q).map fun i => HVal.int .i64 (i.1 : Int) := by
  unfold idxL
  apply List.ext_getElem
  · simp
  · intro i h1 h2; simp
/-- The first k places are told, the others are nought. -/
def toldTo (l : List Int) (k : Nat) : List Int := l.take k ++ List.replicate (l.length - k) 0
theorem toldTo_zero (l : List Int) : toldTo l 0 = List.replicate l.length 0 := by simp [toldTo]
theorem toldTo_all (l : List Int) : toldTo l l.length = l := by simp [toldTo]
theorem toldTo_eq {l : List Int} {k : Nat} (h : k = l.length) : toldTo l k = l := by subst h; exact toldTo_all l
theorem toldTo_len {l : List Int} {k : Nat} (h : k ≤ l.length) : (toldTo l k).length = l.length := by simp [toldTo]; omega
theorem toldTo_succ {l : List Int} {k : Nat} {x : Int} (h : l[k]? = some x) : toldTo l (k + 1) = (toldTo l k).set k x := by
  have hk := lt_of_get h
  unfold toldTo
  rw [take_snoc' h, List.set_append_right _ _ (by simp; omega), List.length_take, Nat.min_eq_left (by omega), Nat.sub_self]
  rw [show l.length - k = (l.length - (k + 1)) + 1 by omega, List.replicate_succ, List.set_cons_zero]
  simp
theorem toldTo_get {l : List Int} {k : Nat} (h : k < l.length) : (toldTo l k)[k]? = some 0 := by
  unfold toldTo
  rw [List.getElem?_append_right (by simp; omega), List.length_take, Nat.min_eq_left (by omega), Nat.sub_self]
  rw [show l.length - k = (l.length - (k + 1)) + 1 by omega, List.replicate_succ]; rfl
end Go.HL
end
section
namespace Go.HL
def posW (W : List Over) : List Over := W.filter fun x => decide (0 < x.Worth)
def pricePairs (pos : List Over) (S : List Int) : List PairS := S.mapIdx fun i c => ⟨(pos.getD i over0).Player, Lib.itoa (c + 1)⟩
def pricesOf (pos : List Over) (rest : Int) : List PairS := pricePairs pos (sharedL rest (pos.map (·.Worth)))
def pricesE (pos : List Over) (rest : Int) : Int := if pos.length ≠ 0 ∧ rest < 0 then 12 else 0
def pricesL (pos : List Over) (rest : Int) : List PairS := if pos.length = 0 ∨ rest < 0 then [] else pricesOf pos rest
def pLA (lf : Int) (o : Bool) (pos : List Over) (rest : Int) : List PairS := if lf != 0 then [] else if o then [] else pricesL pos rest
def pEA (lf : Int) (o : Bool) (pos : List Over) (rest : Int) : Int := if lf != 0 then lf else if o then 1 else pricesE pos rest
theorem pA1 {lf : Int} {o : Bool} {pos : List Over} {rest : Int} (h : lf ≠ 0) : pLA lf o pos rest = [] ∧ pEA lf o pos rest = lf := by simp [pLA, pEA, h]
theorem pA2 {lf : Int} {o : Bool} {pos : List Over} {rest : Int} (h : lf = 0) (ho : o = true) : pLA lf o pos rest = [] ∧ pEA lf o pos rest = 1 := by simp [pLA, pEA, h, ho]
theorem pA3 {lf : Int} {o : Bool} {pos : List Over} {rest : Int} (h : lf = 0) (ho : o = false) (hp : pos.length ≠ 0) (hr : rest < 0) : pLA lf o pos rest = [] ∧ pEA lf o pos rest = 12 := by
  simp only [pLA, pEA, h, ho, pricesL, pricesE]
  exact ⟨by rw [if_neg (by simp), if_neg (by simp), if_pos (.inr hr)], by rw [if_neg (by simp), if_neg (by simp), if_pos ⟨hp, hr⟩]⟩
theorem pA4 {lf : Int} {o : Bool} {pos : List Over} {rest : Int} (h : lf = 0) (ho : o = false) (hp : pos.length = 0) : pLA lf o pos rest = [] ∧ pEA lf o pos rest = 0 := by
  simp only [pLA, pEA, h, ho, pricesL, pricesE]
  exact ⟨by rw [if_neg (by simp), if_neg (by simp), if_pos (.inl hp)], by rw [if_neg (by simp), if_neg (by simp), if_neg (fun q => q.1 hp)]⟩
theorem pA5 {lf : Int} {o : Bool} {pos : List Over} {rest : Int} (h : lf = 0) (ho : o = false) (hp : pos.length ≠ 0) (hr : ¬ rest < 0) : pLA lf o pos rest = pricesOf pos rest ∧ pEA lf o pos rest = 0 := by
  simp only [pLA, pEA, h, ho, pricesL, pricesE]
  exact ⟨by rw [if_neg (by simp), if_neg (by simp), if_neg (by intro q; rcases q with q | q; exact hp q; exact hr q)], by rw [if_neg (by simp), if_neg (by simp), if_neg (fun q => hr q.2)]⟩
theorem pricePairs_snoc (pos : List Over) {S : List Int} {k : Nat} {c : Int} (h : S[k]? = some c) : pricePairs pos (S.take (k + 1)) = pricePairs pos (S.take k) ++ [⟨(pos.getD k over0).Player, Lib.itoa (c + 1)⟩] := by
  have hk := lt_of_get h
  unfold pricePairs
  rw [take_snoc' h, List.mapIdx_append]
  simp [Nat.min_eq_left (Nat.le_of_lt hk)]
theorem pricePairs_len (pos : List Over) (S : List Int) : (pricePairs pos S).length = S.length := by simp [pricePairs]
theorem sharedL_len (n : Int) (ws : List Int) : (sharedL n ws).length = ws.length := by simp [sharedL, bumps_len]
theorem parts_bd {n : Int} {ws : List Int} (hn : 0 ≤ n ∧ n ≤ 20000000) (hw : ∀ w ∈ ws, 1 ≤ w ∧ w ≤ 2000000) (hl : 1 ≤ ws.length) : ∀ y ∈ ws.map (partS n ws.sum), 0 ≤ y ∧ y ≤ 40000000000000 := fun y hy => by
  have hs0 : (ws.length : Int) ≤ ws.sum := sum_pos fun w hq => (hw w hq).1
  obtain ⟨w, hq, rfl⟩ := List.mem_map.1 hy
  have h1 := hw w hq
  have h2 := part_bd (n := n) (s := ws.sum) (w := w) hn.1 (by omega) (by omega)
  have h3 := mul_bd (a := n) (b := w) (A := 20000000) (B := 2000000) hn.1 hn.2 (by omega) (by omega)
  omega
theorem sharedL_bd {n : Int} {ws : List Int} (hn : 0 ≤ n ∧ n ≤ 20000000) (hw : ∀ w ∈ ws, 1 ≤ w ∧ w ≤ 2000000) (hl : 1 ≤ ws.length ∧ ws.length ≤ 12) : ∀ c ∈ sharedL n ws, 0 ≤ c ∧ c ≤ 40000000000012 := fun c hc => by
  have := bumps_bd ((orderL n ws).take (overS n ws).toNat) (parts_bd hn hw hl.1) (by omega) c hc
  have h2 : (((orderL n ws).take (overS n ws).toNat).length : Int) ≤ 12 := by simp [orderL_len]; omega
  omega
theorem overP_worth {l : List Asset} {p : List Place} {teams : Int} (hv : ∀ x ∈ l, -1000000 ≤ x.Value ∧ x.Value ≤ 1000000) : ∀ x ∈ overP l p teams, x.Worth ≤ 2000000 := fun x hx => by
  unfold overP at hx
  obtain ⟨y, _, hy⟩ := List.mem_flatMap.1 hx
  obtain ⟨a, ha, rfl⟩ := List.mem_map.1 hy
  have h1 := hv a (ofP_mem ha)
  have h2 := levelOf_bd (o := ofP l y.Position) (fun z hz => ofP_mem hz) hv y.Many teams
  unfold levelP
  dsimp only
  omega
theorem ranked_worth {W : List Over} {B : Int} (h : ∀ x ∈ W, x.Worth ≤ B) : ∀ x ∈ ranked W, x.Worth ≤ B := fun x hx => by
  unfold ranked at hx
  obtain ⟨i, hi, rfl⟩ := List.mem_mapIdx.1 hx
  exact h (W[i]) (List.getElem_mem hi)
theorem ranked_len (W : List Over) : (ranked W).length = W.length := by simp [ranked]
theorem posW_bd {W : List Over} (h : ∀ x ∈ W, x.Worth ≤ 2000000) : ∀ w ∈ (posW W).map (·.Worth), 1 ≤ w ∧ w ≤ 2000000 := fun w hw => by
  obtain ⟨x, hx, rfl⟩ := List.mem_map.1 hw
  have hx' := List.mem_filter.1 hx
  have := h x hx'.1
  have h2 : 0 < x.Worth := by simpa using hx'.2
  omega
theorem posW_len (W : List Over) : (posW W).length ≤ W.length := List.length_filter_le _ _
theorem posW_yes {W : List Over} {k : Nat} {x : Over} (hx : W[k]? = some x) (h : 0 < x.Worth) : posW (W.take (k + 1)) = posW (W.take k) ++ [x] := by
  unfold posW; rw [take_snoc' hx, List.filter_append]; simp [h]
theorem posW_no {W : List Over} {k : Nat} {x : Over} (hx : W[k]? = some x) (h : ¬ 0 < x.Worth) : posW (W.take (k + 1)) = posW (W.take k) := by
  unfold posW; rw [take_snoc' hx, List.filter_append]; simp [h]
end Go.HL
end
section
namespace Go.HL
theorem rankedR_len (W : List Over) : (rankedR W).length = W.length := by simp [rankedR]
theorem posW_del (W : List Over) : W.filter (fun x => !(decide (x.Worth ≤ 0))) = posW W := by
  unfold posW
  congr 1
  funext x
  by_cases h : x.Worth ≤ 0
  · simp [h]
  · simp [h]; omega
theorem pR3 {pos : List Over} {rest : Int} (hp : pos.length ≠ 0) (hr : rest < 0) : pricesL pos rest = [] ∧ pricesE pos rest = 12 :=
  ⟨if_pos (.inr hr), if_pos ⟨hp, hr⟩⟩
theorem pR4 {pos : List Over} {rest : Int} (hp : pos.length = 0) : pricesL pos rest = [] ∧ pricesE pos rest = 0 :=
  ⟨if_pos (.inl hp), if_neg (fun q => q.1 hp)⟩
theorem pR5 {pos : List Over} {rest : Int} (hp : pos.length ≠ 0) (hr : ¬ rest < 0) : pricesL pos rest = pricesOf pos rest ∧ pricesE pos rest = 0 :=
  ⟨if_neg (by intro q; rcases q with q | q; exact hp q; exact hr q), if_neg (fun q => hr q.2)⟩
end Go.HL
end
section
namespace Go.HL
def eqSt {α : Type} (e : α → HVal) (a b : α) : Bool := eqHL (hcells (e a)) (hcells (e b))
def eqSts {α : Type} (e : α → HVal) : List α → List α → Bool
  | [], [] => true
  | a :: l, b :: m => eqSt e a b && eqSts e l m
  | _, _ => false
theorem eqSts_len {α : Type} {e : α → HVal} : ∀ {l m : List α}, l.length ≠ m.length → eqSts e l m = false
  | [], [], h => absurd rfl h
  | [], _ :: _, _ => rfl
  | _ :: _, [], _ => rfl
  | a :: l, b :: m, h => by
    rw [eqSts, eqSts_len (by intro q; apply h; simp [q])]; simp
theorem eqPairs_refl : ∀ l : List PairS, eqSts ePair l l = true
  | [] => rfl
  | a :: r => by simp [eqSts, eqSt, eqPairs_refl r, hcells, eqHL, eqH]
theorem eqOvers_refl : ∀ l : List Over, eqSts eOver l l = true
  | [] => rfl
  | a :: r => by simp [eqSts, eqSt, eqOvers_refl r, hcells, eqHL, eqH]
end Go.HL
end
section
namespace Go.HL
theorem lfE (l : List Asset) (p : List Place) (teams : Int) : orI [checkAssets l, checkPlaces p, if out teams 1 20 then 1 else 0] = lfault l p teams := by
  unfold lfault okAP
  by_cases h1 : checkAssets l = 0 <;> by_cases h2 : checkPlaces p = 0 <;> simp [orI, h1, h2]
theorem pos_ref {l : List Asset} {p : List Place} {teams : Int} (h : lfault l p teams = 0) : rankedR (isort byWorthV (overR l p teams)) = ranked (isort byWorth (overP l p teams)) := by
  obtain ⟨hok, _⟩ := lfault_ok h
  obtain ⟨f1, f2, f3, f4, f5⟩ := okAP_facts hok
  rw [worths_ref f1 (checkPlaces_sorted (okAP_ok hok).2), ranked_ref (worths_sorted _)]
theorem levels_ref {l : List Asset} {p : List Place} {teams : Int} (h : lfault l p teams = 0) : levelsL (fun x => levelR l x teams) p = levelsL (fun x => levelP l x teams) p := by
  obtain ⟨hok, _⟩ := lfault_ok h
  obtain ⟨f1, f2, f3, f4, f5⟩ := okAP_facts hok
  unfold levelsL
  congr 1
  funext x
  dsimp only; rw [levelR_P f1]
theorem orO {a : Int} {o : Bool} (h : orI [a, if o then 1 else 0] = 0) : a = 0 ∧ o = false := by
  obtain ⟨h1, h2⟩ := orI_zero h
  refine ⟨h1, ?_⟩
  cases o with
  | false => rfl
  | true => simp at h2
theorem prices_facts {l : List Asset} {p : List Place} {teams : Int} (hl : l.length ≤ 12) (h : lfault l p teams = 0) : p.length ≤ 10 ∧ (∀ x ∈ p, 0 ≤ x.Many ∧ x.Many ≤ 12) ∧ (1 ≤ teams ∧ teams ≤ 20) ∧ (∀ x ∈ l, -1000000 ≤ x.Value ∧ x.Value ≤ 1000000) ∧ (overR l p teams).length ≤ 12 ∧ (∀ x ∈ rankedR (isort byWorthV (overR l p teams)), x.Worth ≤ 2000000) := by
  obtain ⟨hok, htm⟩ := lfault_ok h
  obtain ⟨f1, f2, f3, f4, f5⟩ := okAP_facts hok
  refine ⟨f5, okAP_many hok, htm, f2, Nat.le_trans (overR_small f1 (checkPlaces_sorted (okAP_ok hok).2) teams) hl, ?_⟩
  rw [pos_ref h]
  exact ranked_worth (fun x hx => overP_worth f2 x ((isort_mem byWorth).1 hx))
theorem pLA_len (lf : Int) (o : Bool) (pos : List Over) (rest : Int) : (pLA lf o pos rest).length ≤ pos.length := by
  unfold pLA pricesL
  split
  · simp
  · split
    · simp
    · split
      · simp
      · rw [pricesOf, pricePairs_len, sharedL_len, List.length_map]; exact Nat.le_refl _
theorem posP_len {l : List Asset} (hl : l.length ≤ 12) (p : List Place) (teams : Int) : (posW (ranked (isort byWorth (overP l p teams)))).length ≤ 12 * p.length := by
  refine Nat.le_trans (posW_len _) ?_
  rw [ranked_len, isort_len]; exact overP_len hl teams p
end Go.HL
end
section
namespace Go.HL
structure Hall where
  Teams : List Str
  Players : List Str
  Budget : Int
  Places : Int
structure Sale where
  Player : Str
  Team : Str
  Price : Int
abbrev eHall (h : Hall) : HVal := .agg [eSs h.Teams, eSs h.Players, .int .i64 h.Budget, .int .i64 h.Places]
abbrev eSale (x : Sale) : HVal := .agg [.str x.Player, .str x.Team, .int .i64 x.Price]
abbrev eSales (l : List Sale) : HVal := .slice 3 (l.map eSale)
def sale0 : Sale := ⟨[], [], 0⟩
def hallFault (h : Hall) : Int :=
  if orI [teamsFault h.Teams, playersFault h.Players] != 0 then orI [teamsFault h.Teams, playersFault h.Players]
  else if out h.Budget 1 1000000 || out h.Places 1 30 then 1
  else if (h.Players.length : Int) < (h.Teams.length : Int) * h.Places || h.Budget < h.Places then 12 else 0
def spent : List Sale → Str → Int
  | [], _ => 0
  | x :: r, t => (if x.Team = t then x.Price else 0) + spent r t
def many : List Sale → Str → Int
  | [], _ => 0
  | x :: r, t => (if x.Team = t then 1 else 0) + many r t
def mostOf (h : Hall) (l : List Sale) (t : Str) : Int := if many l t = h.Places then 0 else h.Budget - spent l t - (h.Places - many l t - 1)
def saleFault (h : Hall) (l : List Sale) (x : Sale) : Int :=
  if !(h.Players.contains x.Player) || !(h.Teams.contains x.Team) then 8
  else if l.any (fun y => y.Player == x.Player) then 6
  else if x.Price < 1 then 1
  else if many l x.Team = h.Places then 12
  else if mostOf h l x.Team < x.Price then 11 else 0
def salesGo (h : Hall) (l : List Sale) : Nat → List Sale → Int
  | _, [] => 0
  | k, x :: r => if saleFault h (l.take k) x != 0 then saleFault h (l.take k) x else salesGo h l (k + 1) r
def salesFault (h : Hall) (l : List Sale) : Int := if 600 < l.length then 2 else salesGo h l 0 l
def salesE (h : Hall) (l : List Sale) : Int := if hallFault h != 0 then hallFault h else salesFault h l
theorem spent_snoc (l : List Sale) (x : Sale) (t : Str) : spent (l ++ [x]) t = spent l t + (if x.Team = t then x.Price else 0) := by
  induction l with
  | nil => simp [spent]
  | cons y r ih => simp only [List.cons_append, spent, ih]; omega
theorem many_snoc (l : List Sale) (x : Sale) (t : Str) : many (l ++ [x]) t = many l t + (if x.Team = t then 1 else 0) := by
  induction l with
  | nil => simp [many]
  | cons y r ih => simp only [List.cons_append, many, ih]; omega
theorem many_bd (l : List Sale) (t : Str) : 0 ≤ many l t ∧ many l t ≤ l.length := by
  induction l with
  | nil => simp [many]
  | cons y r ih => simp only [many, List.length_cons]; split <;> omega
theorem spent_bd {l : List Sale} {B : Int} (hB : 0 ≤ B) (h : ∀ x ∈ l, -B ≤ x.Price ∧ x.Price ≤ B) (t : Str) : -(B * l.length) ≤ spent l t ∧ spent l t ≤ B * l.length := by
  induction l with
  | nil => simp [spent]
  | cons y r ih =>
    have h1 := ih fun x hx => h x (List.mem_cons_of_mem _ hx)
    have h2 := h y List.mem_cons_self
    have e : B * ((y :: r).length : Int) = B * r.length + B := by simp [Int.mul_add]
    rw [e]
    simp only [spent]; split <;> omega
/-! maps from strings to numbers -/
abbrev SMap := List (Str × HVal)
def lkI (L : SMap) (t : Str) : HVal := match sfind t L with | some p => p.2 | none => .int .i64 0
theorem sfind_append_none {s t : Str} {v : HVal} : ∀ {L : SMap}, sfind s L = none → sfind t (L ++ [(s, v)]) = if t = s then some (L.length, v) else sfind t L
  | [], _ => by by_cases h : t = s <;> simp [sfind, h]
  | (k, h) :: r, hn => by
    simp only [sfind] at hn
    by_cases hk : s = k
    · rw [if_pos hk] at hn; cases hn
    · rw [if_neg hk] at hn
      have hr : sfind s r = none := by cases hq : sfind s r with
        | none => rfl
        | some p => rw [hq] at hn; cases hn
      have ih := sfind_append_none (t := t) (v := v) hr
      simp only [List.cons_append, sfind]
      by_cases ht : t = k
      · have : ¬ t = s := fun e => hk (e ▸ ht)
        rw [if_pos ht, if_neg this, if_pos ht]
      · rw [if_neg ht, ih]
        by_cases hs : t = s
        · rw [if_pos hs, if_pos hs]; simp
        · rw [if_neg hs, if_neg hs, if_neg ht]
theorem sfind_set {s t : Str} {v : HVal} : ∀ {L : SMap} {j : Nat} {h : HVal}, sfind s L = some (j, h) → (sfind t (L.set j (s, v))) = if t = s then some (j, v) else sfind t L
  | [], j, h, hh => by simp [sfind] at hh
  | (k, x) :: r, j, h, hh => by
    simp only [sfind] at hh
    by_cases hk : s = k
    · rw [if_pos hk] at hh
      simp only [Option.some.injEq, Prod.mk.injEq] at hh
      obtain ⟨rfl, rfl⟩ := hh
      subst hk
      simp only [List.set_cons_zero, sfind]
      by_cases ht : t = s
      · rw [if_pos ht, if_pos ht]
      · rw [if_neg ht, if_neg ht, if_neg ht]
    · rw [if_neg hk] at hh
      cases hq : sfind s r with
      | none => rw [hq] at hh; cases hh
      | some p =>
        rw [hq] at hh
        simp only [Option.map_some, Option.some.injEq, Prod.mk.injEq] at hh
        obtain ⟨rfl, rfl⟩ := hh
        have ih := sfind_set (t := t) (v := v) (L := r) (j := p.1) (h := p.2) (by rw [hq])
        simp only [List.set_cons_succ, sfind]
        by_cases ht : t = k
        · have : ¬ t = s := fun e => hk (e ▸ ht)
          rw [if_pos ht, if_neg this, if_pos ht]
        · rw [if_neg ht, ih, if_neg ht]
          by_cases hs : t = s
          · rw [if_pos hs, if_pos hs]; rfl
          · rw [if_neg hs, if_neg hs]
theorem sfind_put (s t : Str) (v : HVal) (L : SMap) : (sfind t (sput s v L)).map (·.2) = if t = s then some v else (sfind t L).map (·.2) := by
  unfold sput
  cases hq : sfind s L with
  | none => simp only []; rw [sfind_append_none hq]; split <;> rfl
  | some p => obtain ⟨j, h⟩ := p; simp only []; rw [sfind_set hq]; split <;> rfl
theorem lkI_eq (L : SMap) (t : Str) : lkI L t = ((sfind t L).map (·.2)).getD (.int .i64 0) := by
  unfold lkI; cases sfind t L <;> rfl
theorem lkI_put (s t : Str) (v : HVal) (L : SMap) : lkI (sput s v L) t = if t = s then v else lkI L t := by
  rw [lkI_eq, sfind_put, lkI_eq]; split <;> rfl
theorem sfind_some_iff (L : SMap) (t : Str) : (sfind t L).isSome = ((sfind t L).map (·.2)).isSome := by cases sfind t L <;> rfl
/-- An auction after sales. -/
structure AucOk (h : Hall) (l : List Sale) (S : List Str) (L H : SMap) : Prop where
  sold : ∀ s, S.contains s = l.any (fun y => y.Player == s)
  left : ∀ t, h.Teams.contains t = true → lkI L t = .int .i64 (h.Budget - spent l t)
  got : ∀ t, lkI H t = .int .i64 (many l t)
theorem sadd_contains (s t : Str) (l : List Str) : (sadd s l).contains t = (l.contains t || s == t) := by
  unfold sadd
  by_cases hc : l.contains s = true
  · rw [if_pos hc]
    by_cases h : s = t
    · subst h; rw [hc]; simp
    · have : (s == t) = false := by simpa using h
      simp [this]
  · rw [if_neg hc, List.contains_eq_any_beq, List.any_append, ← List.contains_eq_any_beq]
    congr 1
    simp only [List.any_cons, List.any_nil, Bool.or_false]
    rw [Bool.eq_iff_iff, beq_iff_eq, beq_iff_eq]; exact eq_comm
theorem AucOk.add {h : Hall} {l : List Sale} {S : List Str} {L H : SMap} (ok : AucOk h l S L H) (x : Sale) (hx : h.Teams.contains x.Team = true) :
    AucOk h (l ++ [x]) (sadd x.Player S) (sput x.Team (.int .i64 (h.Budget - spent l x.Team - x.Price)) L) (sput x.Team (.int .i64 (many l x.Team + 1)) H) where
  sold s := by rw [sadd_contains, ok.sold, List.any_append]; simp
  left t ht := by
    rw [lkI_put, spent_snoc]
    by_cases e : t = x.Team
    · subst e; rw [if_pos rfl, if_pos rfl]; congr 1; omega
    · rw [if_neg e, if_neg (fun q => e q.symm), ok.left t ht]; congr 1; omega
  got t := by
    rw [lkI_put, many_snoc]
    by_cases e : t = x.Team
    · subst e; rw [if_pos rfl, if_pos rfl]
    · rw [if_neg e, if_neg (fun q => e q.symm), ok.got t]; congr 1; omega
/-- A hall that is right. -/
theorem hallFault_ok {h : Hall} (e : hallFault h = 0) : teamsFault h.Teams = 0 ∧ playersFault h.Players = 0 ∧ (1 ≤ h.Budget ∧ h.Budget ≤ 1000000) ∧ (1 ≤ h.Places ∧ h.Places ≤ 30) := by
  unfold hallFault at e
  by_cases h1 : orI [teamsFault h.Teams, playersFault h.Players] = 0
  · rw [if_neg (by simp [h1])] at e
    by_cases h2 : (out h.Budget 1 1000000 || out h.Places 1 30) = true
    · rw [if_pos h2] at e; omega
    · have h3 : out h.Budget 1 1000000 = false ∧ out h.Places 1 30 = false := by simpa using h2
      by_cases ha : teamsFault h.Teams = 0
      · have hb : playersFault h.Players = 0 := by
          by_cases hq : playersFault h.Players = 0
          · exact hq
          · simp [orI, ha, hq] at h1
        exact ⟨ha, hb, out_f h3.1, out_f h3.2⟩
      · exfalso; simp [orI, ha] at h1
  · rw [if_pos (by simpa using h1)] at e; exact absurd e h1
end Go.HL
end
section
namespace Go.HL
def lastAt (r : Room) (l : List Pick) : Int := match l.getLast? with | some p => p.At | none => r.Start
theorem lastAt_nil (r : Room) : lastAt r [] = r.Start := rfl
theorem lastAt_snoc (r : Room) (l : List Pick) (p : Pick) : lastAt r (l ++ [p]) = p.At := by simp [lastAt]
def pkF (r : Room) (k : List Keep) (fr l : List Pick) (p : Pick) : Int :=
  if !(moment p.At) then 1 else if !(p.No == (fr.getD l.length pick0).No) then 7 else if !(p.Team == (fr.getD l.length pick0).Team) then 13
  else if !(r.Players.contains p.Player) then 8 else if goneB k l p.Player then 6 else if p.At < lastAt r l then 11 else 0
def pksGo (r : Room) (k : List Keep) (fr l : List Pick) : Nat → List Pick → Int
  | _, [] => 0
  | i, p :: t => if pkF r k fr (l.take i) p != 0 then pkF r k fr (l.take i) p else pksGo r k fr l (i + 1) t
def pksR (r : Room) (k : List Keep) (s : List Swap) (l : List Pick) : Int := if (freeP r k s).length < l.length then 2 else pksGo r k (freeP r k s) l 0 l
def picksE (r : Room) (k : List Keep) (s : List Swap) (l : List Pick) : Int := if openFault r k s != 0 then openFault r k s else pksR r k s l
theorem pgo_ne {r : Room} {k : List Keep} {fr l : List Pick} {i : Nat} {p : Pick} {t : List Pick} (h : pkF r k fr (l.take i) p ≠ 0) : pksGo r k fr l i (p :: t) = pkF r k fr (l.take i) p := by
  rw [pksGo, if_pos (by simpa using h)]
theorem pgo_z {r : Room} {k : List Keep} {fr l : List Pick} {i : Nat} {p : Pick} {t : List Pick} (h : pkF r k fr (l.take i) p = 0) : pksGo r k fr l i (p :: t) = pksGo r k fr l (i + 1) t := by
  rw [pksGo, if_neg (by simp [h])]
section
variable {r : Room} {k : List Keep} {fr l : List Pick} {p : Pick}
theorem pf1 (h1 : moment p.At = false) : pkF r k fr l p = 1 := by simp [pkF, h1]
theorem pf2 (h1 : moment p.At = true) (h2 : ¬ p.No = (fr.getD l.length pick0).No) : pkF r k fr l p = 7 := by
  unfold pkF; rw [if_neg (by simp [h1]), if_pos (by simpa using h2)]
theorem pf3 (h1 : moment p.At = true) (h2 : p.No = (fr.getD l.length pick0).No) (h3 : ¬ p.Team = (fr.getD l.length pick0).Team) : pkF r k fr l p = 13 := by
  unfold pkF; rw [if_neg (by simp [h1]), if_neg (by simpa using h2), if_pos (by simpa using h3)]
theorem pf4 (h1 : moment p.At = true) (h2 : p.No = (fr.getD l.length pick0).No) (h3 : p.Team = (fr.getD l.length pick0).Team) (h4 : ¬ p.Player ∈ r.Players) : pkF r k fr l p = 8 := by
  unfold pkF; rw [if_neg (by simp [h1]), if_neg (by simpa using h2), if_neg (by simpa using h3), if_pos (by simpa using h4)]
theorem pf5 (h1 : moment p.At = true) (h2 : p.No = (fr.getD l.length pick0).No) (h3 : p.Team = (fr.getD l.length pick0).Team) (h4 : p.Player ∈ r.Players) (h5 : goneB k l p.Player = true) : pkF r k fr l p = 6 := by
  unfold pkF; rw [if_neg (by simp [h1]), if_neg (by simpa using h2), if_neg (by simpa using h3), if_neg (by simpa using h4), if_pos h5]
theorem pf6 (h1 : moment p.At = true) (h2 : p.No = (fr.getD l.length pick0).No) (h3 : p.Team = (fr.getD l.length pick0).Team) (h4 : p.Player ∈ r.Players) (h5 : goneB k l p.Player = false) (h6 : p.At < lastAt r l) : pkF r k fr l p = 11 := by
  unfold pkF; rw [if_neg (by simp [h1]), if_neg (by simpa using h2), if_neg (by simpa using h3), if_neg (by simpa using h4), if_neg (by simp [h5]), if_pos h6]
theorem pf0 (h1 : moment p.At = true) (h2 : p.No = (fr.getD l.length pick0).No) (h3 : p.Team = (fr.getD l.length pick0).Team) (h4 : p.Player ∈ r.Players) (h5 : goneB k l p.Player = false) (h6 : ¬ p.At < lastAt r l) : pkF r k fr l p = 0 := by
  unfold pkF; rw [if_neg (by simp [h1]), if_neg (by simpa using h2), if_neg (by simpa using h3), if_neg (by simpa using h4), if_neg (by simp [h5]), if_neg h6]
theorem pkF_ok (h : pkF r k fr l p = 0) : moment p.At = true ∧ p.No = (fr.getD l.length pick0).No ∧ p.Team = (fr.getD l.length pick0).Team ∧ p.Player ∈ r.Players ∧ goneB k l p.Player = false := by
  unfold pkF at h
  split at h
  · omega
  · rename_i h1
    split at h
    · omega
    · rename_i h2
      split at h
      · omega
      · rename_i h3
        split at h
        · omega
        · rename_i h4
          split at h
          · omega
          · rename_i h5
            simp at h1 h2 h3 h4 h5
            exact ⟨h1, h2, h3, h4, h5⟩
end
theorem picksE_ok {r : Room} {k : List Keep} {s : List Swap} {l : List Pick} (h : picksE r k s l = 0) : openFault r k s = 0 ∧ l.length ≤ (freeP r k s).length ∧ pksGo r k (freeP r k s) l 0 l = 0 := by
  unfold picksE at h
  split at h
  · rename_i hc; simp [h] at hc
  · rename_i hc
    unfold pksR at h
    split at h
    · omega
    · exact ⟨by simpa using hc, by omega, h⟩
theorem pksGo_at {r : Room} {k : List Keep} {fr l : List Pick} : ∀ (t : List Pick) (i : Nat), l.drop i = t → pksGo r k fr l i t = 0 → ∀ (j : Nat) (p : Pick), i ≤ j → l[j]? = some p → pkF r k fr (l.take j) p = 0
  | [], i, hd, _, j, p, hj, hp => by
    have := lt_of_get hp
    have h2 : l.length ≤ i := by rw [← List.drop_eq_nil_iff]; exact hd
    omega
  | x :: t, i, hd, h, j, p, hj, hp => by
    have hk : l[i]? = some x := by
      have := congrArg (fun q => q[0]?) hd
      simpa using this
    have hd' : l.drop (i + 1) = t := by
      have := drop_cons hk
      rw [hd] at this; simp at this; exact this.symm
    by_cases e : pkF r k fr (l.take i) x = 0
    · rw [pgo_z e] at h
      by_cases hij : i = j
      · subst hij; rw [hk] at hp; cases hp; exact e
      · exact pksGo_at t (i + 1) hd' h j p (by omega) hp
    · rw [pgo_ne e] at h; exact absurd h e
theorem last_moment {r : Room} {k : List Keep} {s : List Swap} {l : List Pick} (h : picksE r k s l = 0) : moment (lastAt r l) = true := by
  obtain ⟨h1, h2, h3⟩ := picksE_ok h
  cases hl : l.getLast? with
  | none => simp only [lastAt, hl]; exact (room_ok (openFault_ok h1).1).start
  | some p =>
    simp only [lastAt, hl]
    have : l[l.length - 1]? = some p := by rw [← List.getLast?_eq_getElem?]; exact hl
    exact (pkF_ok (pksGo_at l 0 rfl h3 _ p (Nat.zero_le _) this)).1
/-! wishes -/
structure Wish where
  Team : Str
  Players : List Str
abbrev eWish (w : Wish) : HVal := .agg [.str w.Team, eSs w.Players]
abbrev eWishes (l : List Wish) : HVal := .slice 2 (l.map eWish)
def wpGo (r : Room) (l : List Str) : Nat → List Str → Int
  | _, [] => 0
  | j, s :: t => if !(r.Players.contains s) then 8 else if (l.take j).contains s then 6 else wpGo r l (j + 1) t
def wsGo (r : Room) (w : List Wish) : Nat → List Wish → Int
  | _, [] => 0
  | i, x :: t => if !(r.Teams.contains x.Team) then 8 else if (w.take i).any (fun y => y.Team == x.Team) then 6 else if 500 < x.Players.length then 2
    else if wpGo r x.Players 0 x.Players != 0 then wpGo r x.Players 0 x.Players else wsGo r w (i + 1) t
def wishesR (r : Room) (w : List Wish) : Int := if 20 < w.length then 2 else wsGo r w 0 w
def wishesE (r : Room) (w : List Wish) : Int := if checkRoom r != 0 then checkRoom r else wishesR r w
theorem wpGo_in {r : Room} {l : List Str} : ∀ (t : List Str) (j : Nat), wpGo r l j t = 0 → ∀ s ∈ t, s ∈ r.Players
  | [], _, _, s, hs => by simp at hs
  | x :: t, j, h, s, hs => by
    simp only [wpGo] at h
    split at h
    · omega
    · rename_i h1
      split at h
      · omega
      · rcases List.mem_cons.1 hs with rfl | hs
        · simpa using h1
        · exact wpGo_in t (j + 1) h s hs
theorem wsGo_in {r : Room} {w : List Wish} : ∀ (t : List Wish) (i : Nat), wsGo r w i t = 0 → ∀ y ∈ t, (∀ s ∈ y.Players, s ∈ r.Players) ∧ y.Players.length ≤ 500
  | [], _, _, y, hy => by simp at hy
  | x :: t, i, h, y, hy => by
    simp only [wsGo] at h
    split at h
    · omega
    · split at h
      · omega
      · split at h
        · omega
        · split at h
          · rename_i hc; simp [h] at hc
          · rename_i hc
            rcases List.mem_cons.1 hy with rfl | hy
            · exact ⟨wpGo_in _ 0 (by simpa using hc), by omega⟩
            · exact wsGo_in t (i + 1) h y hy
theorem wishes_in {r : Room} {w : List Wish} (h : wishesE r w = 0) : ∀ y ∈ w, (∀ s ∈ y.Players, s ∈ r.Players) ∧ y.Players.length ≤ 500 := by
  unfold wishesE wishesR at h
  split at h
  · rename_i hc; simp [h] at hc
  · split at h
    · omega
    · exact wsGo_in w 0 h
/-- whom a team would pick of those who are not gone -/
def wishGo (g : Str → Bool) (team : Str) : List Wish → Option Str
  | [] => none
  | y :: r => if y.Team = team then (match y.Players.find? (fun s => !(g s)) with | some s => some s | none => wishGo g team r) else wishGo g team r
def wishOf (r : Room) (g : Str → Bool) (w : List Wish) (team : Str) : Str := match wishGo g team w with | some s => s | none => (r.Players.find? (fun s => !(g s))).getD []
theorem find_congr {p q : Str → Bool} : ∀ {l : List Str}, (∀ s ∈ l, p s = q s) → l.find? p = l.find? q
  | [], _ => rfl
  | a :: l, h => by
    simp only [List.find?_cons, h a List.mem_cons_self]
    rw [find_congr fun s hs => h s (List.mem_cons_of_mem _ hs)]
theorem wishGo_congr {r : Room} {g g' : Str → Bool} (h : ∀ s ∈ r.Players, g s = g' s) {team : Str} : ∀ {w : List Wish}, (∀ y ∈ w, ∀ s ∈ y.Players, s ∈ r.Players) → wishGo g team w = wishGo g' team w
  | [], _ => rfl
  | y :: w, hw => by
    simp only [wishGo]
    rw [wishGo_congr h fun z hz => hw z (List.mem_cons_of_mem _ hz), find_congr (p := fun s => !(g s)) (q := fun s => !(g' s)) fun s hs => by rw [h s (hw y List.mem_cons_self s hs)]]
theorem wishOf_congr {r : Room} {g g' : Str → Bool} (h : ∀ s ∈ r.Players, g s = g' s) {team : Str} {w : List Wish} (hw : ∀ y ∈ w, ∀ s ∈ y.Players, s ∈ r.Players) : wishOf r g w team = wishOf r g' w team := by
  unfold wishOf
  rw [wishGo_congr h hw, find_congr (p := fun s => !(g s)) (q := fun s => !(g' s)) fun s hs => by rw [h s hs]]
theorem find_mem {p : Str → Bool} {l : List Str} {s : Str} (h : l.find? p = some s) : s ∈ l ∧ p s = true := ⟨List.mem_of_find?_eq_some h, List.find?_some h⟩
/-! picks by lists -/
def autoP (r : Room) (k : List Keep) (fr : List Pick) (w : List Wish) (l : List Pick) (at' : Int) : Pick :=
  ⟨(fr.getD l.length pick0).No, (fr.getD l.length pick0).Team, wishOf r (goneB k l) w (fr.getD l.length pick0).Team, at', true⟩
def finGo (r : Room) (k : List Keep) (fr : List Pick) (w : List Wish) : Nat → List Pick → List Pick
  | 0, l => l
  | n + 1, l => finGo r k fr w n (l ++ [autoP r k fr w l (lastAt r l)])
def finL (r : Room) (k : List Keep) (s : List Swap) (w : List Wish) (l : List Pick) : List Pick := finGo r k (freeP r k s) w ((freeP r k s).length - l.length) l
def dueB (r : Room) (l : List Pick) (at' : Int) : Bool := moment (lastAt r l + r.Clock) && decide (lastAt r l + r.Clock ≤ at')
def autoGo (r : Room) (k : List Keep) (fr : List Pick) (w : List Wish) (at' : Int) : Nat → List Pick → List Pick
  | 0, l => l
  | n + 1, l => if dueB r l at' then autoGo r k fr w at' n (l ++ [autoP r k fr w l (lastAt r l + r.Clock)]) else l
def autoL (r : Room) (k : List Keep) (s : List Swap) (w : List Wish) (at' : Int) (l : List Pick) : List Pick := autoGo r k (freeP r k s) w at' ((freeP r k s).length - l.length) l
def regN (r : Room) (k : List Keep) (w : List Wish) (l : List Pick) (t : Str) : Nat → Int
  | 0 => 0
  | n + 1 => regN r k w l t n + match l[n]? with | some p => if p.Team = t ∧ wishOf r (goneB k (l.take n)) w t ≠ p.Player then 1 else 0 | none => 0
def regL (r : Room) (k : List Keep) (w : List Wish) (l : List Pick) : List PairS := r.Teams.map fun t => ⟨t, Lib.itoa (regN r k w l t l.length)⟩
theorem regN_bd (r : Room) (k : List Keep) (w : List Wish) (l : List Pick) (t : Str) : ∀ n, 0 ≤ regN r k w l t n ∧ regN r k w l t n ≤ n
  | 0 => by simp [regN]
  | n + 1 => by
    have := regN_bd r k w l t n
    simp only [regN]
    split
    · split <;> omega
    · omega
theorem goneB_snoc (k : List Keep) (l : List Pick) (p : Pick) (s : Str) : goneB k (l ++ [p]) s = (goneB k l s || p.Player == s) := by
  simp [goneB, Bool.or_assoc]
/-! what a run holds -/
structure RunOk (r : Room) (k : List Keep) (s : List Swap) (l : List Pick) (S : List Str) : Prop where
  gone : ∀ x ∈ r.Players, S.contains x = goneB k l x
theorem RunOk.add {r : Room} {k : List Keep} {s : List Swap} {l : List Pick} {S : List Str} (ok : RunOk r k s l S) (p : Pick) : RunOk r k s (l ++ [p]) (sadd p.Player S) :=
  ⟨fun x hx => by rw [goneB_snoc, sadd_contains, ok.gone x hx]⟩
end Go.HL
end
section
namespace Go.HL
variable {P : Program}
open Go.ChangeShapes Go.WideShapes Go.RowKit
theorem below_of_sat {W W' : World} {J : Imm} {M : List MObj} (hl : Le (allI W) J) (hs : Sat P J M W') : Below W.heap.size W W' := by
  have hb : ∀ k, k < W.heap.size → W'.heap[k]? = W.heap[k]? := fun k hk => by
    have h1 : W.heap[k]? = some W.heap[k] := by simp [hk]
    rw [h1]
    exact hs.imm _ _ (hl.heap _ _ h1)
  exact {
    os := hs.os.trans hl.os
    tape := hs.tape.trans hl.tape
    output := hs.output.trans hl.output
    size := by
      rcases Nat.eq_zero_or_pos W.heap.size with h | h
      · omega
      · have h1 := hb (W.heap.size - 1) (by omega)
        have h2 : W.heap[W.heap.size - 1]? = some (W.heap[W.heap.size - 1]'(by omega)) := by simp
        rw [h2] at h1
        rcases Nat.lt_or_ge (W.heap.size - 1) W'.heap.size with h3 | h3
        · omega
        · rw [Array.getElem?_eq_none h3] at h1; cases h1
    block := hb }
theorem sat_now {W : World} (ht : TabI P (allI W)) : Sat P (allI W) [] W := ⟨fun _ _ h => h, fun _ h => by simp at h, by simp [blocks], fun _ h => by simp [blocks] at h, rfl, rfl, rfl, ht⟩
theorem conp_law {P : Program} {f : FuncId} {l : List Int} (hc : ConP P f [.slice 1 (l.map (.int .i64))] (.bool true)) {W : World} (ht : TabI P (allI W)) {v : Value} (hv : V (allI W) (.slice 1 (l.map (.int .i64))) v) :
    Calls P f #[v] W fun e W' => e = .returned (.bool true) ∧ Below W.heap.size W W' := by
  refine (hc (allI W) [] W [v] (VL.cons hv VL.nil) (sat_now ht)).mono ?_
  rintro e W' ⟨u, h, M', J, rfl, hle, ⟨rfl, rfl⟩, hV, hs⟩
  exact ⟨by rw [hV.bool_inv], below_of_sat hle hs⟩
theorem v_ints {W : World} {a : Addr} {len cap : Nat} {zs : List Int} (hcell : ∀ i, i < zs.length → W.cell? (a.add i) = some (.int .i64 (zs.getD i 0))) (hl : len ≤ zs.length) (hc : len ≤ cap) :
    V (allI W) (.slice 1 ((zs.take len).map (.int .i64))) (.slice (some a) len cap) := by
  rcases Nat.eq_zero_or_pos len with h0 | h0
  · subst h0; exact .slice0 _ _ _
  · obtain ⟨b, off, rfl, hj⟩ := ints_at hcell (by omega)
    have hc0 := hj 0 (by omega)
    unfold World.cell? at hc0
    cases hh : W.heap[b]? with
    | none => rw [hh] at hc0; simp at hc0
    | some o =>
      cases o with
      | cells rc el fr =>
        have hrc : ∀ j, j < zs.length → rc[off + j]? = some (.int .i64 (zs.getD j 0)) := fun j hj' => by
          have := hj j hj'
          unfold World.cell? at this
          simpa [hh] using this
        have hlen : ((zs.take len).map (HVal.int .i64)).length = len := by simp; omega
        have hsz : off + zs.length ≤ rc.size := by
          have := hrc (zs.length - 1) (by omega)
          rcases Nat.lt_or_ge (off + (zs.length - 1)) rc.size with h3 | h3
          · omega
          · rw [Array.getElem?_eq_none h3] at this; cases this
        have := V.slice (I := allI W) (sz := 1) (es := (zs.take len).map (.int .i64)) (b := b) (off := off) (cap := cap) (rc := rc) (el := el) (fr := fr) hh
          (fun e he => by obtain ⟨n, _, rfl⟩ := List.mem_map.1 he; rfl) (by omega) (by omega) (fun i j e c v h1 h2 h3 => by
            have hi := lt_of_get h1
            rw [hlen] at hi
            rw [List.getElem?_map, List.getElem?_take_of_lt hi] at h1
            have e1 : zs[i]? = some zs[i] := List.getElem?_eq_getElem (by omega)
            rw [e1] at h1
            simp only [Option.map_some, Option.some.injEq] at h1
            subst h1
            cases j with
            | succ j => simp [hcells] at h2
            | zero =>
              simp only [hcells, List.getElem?_cons_zero, Option.some.injEq] at h2
              subst h2
              have h4 := hrc i (by omega)
              rw [Nat.mul_one, Nat.add_zero, h4] at h3
              simp only [Option.some.injEq] at h3
              subst h3
              have : zs.getD i 0 = zs[i] := by simp [List.getD, e1]
              rw [this]
              exact .int _ _)
        rw [hlen] at this
        exact this
      | _ => rw [hh] at hc0; simp at hc0
end Go.HL
end
section
namespace Go.HL
open Go.Sort Go.Proofs Go.RowKit
variable {P : Program}
theorem laid_at {w : World} {name : String} {d : DataW Unit} : ∀ {laid : List (String × DataW Unit)} {ps : List MemPlace}, DataW.LaidVars P w laid ps → ∀ (i : Nat), laid[i]? = some (name, d) →
    ∃ g t cs fuel p, P.globalNamed name = some g ∧ (P.globals[g]?).map (·.type) = some t ∧ w.var? P name = some cs ∧ DataW.trod (fun _ => ()) P w 0 (fun _ => true) false fuel t cs.toList = some (d, p)
  | [], _, _, i, h => by simp at h
  | (n, x) :: r, ps, h, 0, hi => by
    simp at hi
    obtain ⟨rfl, rfl⟩ := hi
    obtain ⟨g, t, cs, fuel, p, q, h1, h2, h3, h4, _, _⟩ := h
    exact ⟨g, t, cs, fuel, p, h1, h2, h3, h4⟩
  | (n, x) :: r, ps, h, i + 1, hi => by
    obtain ⟨g, t, cs, fuel, p, q, _, _, _, _, h5, _⟩ := h
    exact laid_at h5 i (by simpa using hi)
theorem tabI_of_laid {W : World} {laid : List (String × DataW Unit)} {i g : Nat} {t e : TypeId} {n : Nat} (h : laidMet P laid W) (hi : laid[i]? = some ("internal/strconv.uint64pow10", Lib.tabData .u64 Lib.pow10Tab))
    (hg : P.globalNamed "internal/strconv.uint64pow10" = some g) (hty : (P.globals[g]?).map (·.type) = some t) (ht : P.underlying t = some (.array n e)) (he : P.underlying e = some (.int .u64)) (hce : P.cellsOf e = 1) (hct : P.cellsOf t = n) : TabI P (allI W) := by
  obtain ⟨ps, h1, _⟩ := h
  obtain ⟨g', t', cs, fuel, p, a1, a2, a3, a4⟩ := laid_at h1 i hi
  obtain rfl := Option.some.inj (hg.symm.trans a1)
  obtain rfl := Option.some.inj (hty.symm.trans a2)
  intro g' hg'
  obtain rfl := Option.some.inj (hg.symm.trans hg')
  have hc := Lib.cells_of_tab ht he hce hct a4
  have hv := a3
  unfold World.var? at hv
  rw [hg] at hv
  simp only [Option.bind_some] at hv
  cases hh : W.heap[g]? with
  | none => rw [hh] at hv; cases hv
  | some o =>
    cases o with
    | cells c ty fr =>
      rw [hh] at hv
      simp only [Option.some.injEq] at hv
      subst hv
      refine ⟨ty, fr, ?_⟩
      show W.heap[g]? = _
      rw [hh, ← hc]
    | _ => rw [hh] at hv; cases hv
theorem Sat.tabIs {I : Imm} {M : List MObj} {w : World} (hs : Sat P I M w) (hg : (P.globalNamed "internal/strconv.uint64pow10").isSome = true) : Lib.TabIs P w "internal/strconv.uint64pow10" .u64 Lib.pow10Tab := by
  obtain ⟨g, hg'⟩ := Option.isSome_iff_exists.1 hg
  obtain ⟨t, fr, h1⟩ := hs.tab g hg'
  have h2 := hs.imm _ _ h1
  unfold Lib.TabIs World.var?
  rw [hg']
  simp [h2]
theorem Sat.lt {I : Imm} {M : List MObj} {w : World} (hs : Sat P I M w) : (∀ b, (∃ o, I.heap b = some o) → b < w.heap.size) ∧ ∀ b ∈ blocks M, b < w.heap.size := by
  have key : ∀ b o, w.heap[b]? = some o → b < w.heap.size := fun b o h => by
    rcases Nat.lt_or_ge b w.heap.size with h' | h'
    · exact h'
    · simp [Array.getElem?_eq_none h'] at h
  refine ⟨fun b ⟨o, h⟩ => key b o (hs.imm b o h), fun b hb => ?_⟩
  simp only [blocks, List.mem_flatMap] at hb
  obtain ⟨m, hm, hb⟩ := hb
  obtain ⟨o, ho⟩ := (hs.obj m hm).lies hb
  exact key b o ho
theorem Sat.grown {I : Imm} {M : List MObj} {w : World} (hs : Sat P I M w) (k : Nat) (os : Array Obj) : Sat P I M (grow (w.drewN k) os) := by
  obtain ⟨h1, h2⟩ := hs.lt
  have hb : ∀ b, b < w.heap.size → (grow (w.drewN k) os).heap[b]? = w.heap[b]? := fun b hb => by
    simp only [grow, World.drewN]
    rw [Array.getElem?_append_left hb]
  exact hs.of_same (fun b hb' => hb b (h1 b hb')) (fun b hb' => hb b (h2 b hb')) rfl rfl rfl
theorem conp_itoa {f : FuncId} {n : Int} (hg : (P.globalNamed "internal/strconv.uint64pow10").isSome = true)
    (hc : ∀ w : World, Lib.TabIs P w "internal/strconv.uint64pow10" .u64 Lib.pow10Tab → Calls P f #[.int .i64 n] w fun e w' => e = .returned (.string ⟨(Lib.itoa n).toArray⟩) ∧ ∃ k os, w' = grow (w.drewN k) os) :
    ConP P f [.int .i64 n] (.str (Lib.itoa n)) := by
  intro I F w args ha hs
  obtain ⟨u, rfl, hu⟩ := ha.one
  obtain rfl := hu.int_inv
  refine (hc w (hs.tabIs hg)).mono ?_
  rintro e w' ⟨rfl, k, os, rfl⟩
  exact ⟨_, .str _, [], I, rfl, .refl I, ⟨rfl, rfl⟩, .str _, hs.grown k os⟩
end Go.HL
end
section
namespace Go.HL
/-- A place of a list of q. -/
abbrev eIx {q : Nat} (i : Fin q) : HVal := .int .i64 (i.1 : Int)
section
variable {P : Program} {e : Env} {dst : Option Tmp} {ty : TypeId} {pos : String} {af : Array Edge} {g : Option (Nat × Bool)} {M : List MObj} {K : HVal → List MObj → Prop}
/-- make([]T, n) of elements of one cell. -/
theorem eop_make {x y : Operand} {t el : TypeId} {size bytes b2 : Nat} {zero z2 : Value} {d : TD} {n : Nat}
    (hf : Fits P t (.slice el) size bytes zero) (hel : Fits P el d 1 b2 z2) (hz : z2.cells = #[z2]) (hby : Nat.ble b2 1000 = true) (hc : hcells (ofVal z2) = [ofVal z2])
    (hx : evalO e x = some (.int .i64 (n : Int))) (hy : evalO e y = some (.int .i64 (n : Int))) (hn : n ≤ 1000000)
    (hk : ∀ b, K (.raw (.slice (some ⟨b, 0, none⟩) n n)) (.arr (.slice (some ⟨b, 0, none⟩) n n) 1 (List.replicate n (ofVal z2)) :: M)) : EOp P e M ⟨dst, .makeSlice t x y, ty, pos, af, g⟩ K :=
  EOp.of_run fun I F a w ho hs => by
    have h1 := (ho.one (x := x) (by simp [Op.operands]) hx).int_inv
    have h2 := (ho.one (x := y) (by simp [Op.operands]) hy).int_inv
    obtain ⟨i, hi, his, hib, hiz⟩ := hel.typeInfo
    have hb : b2 ≤ 1000 := Nat.le_of_ble_eq_true hby
    have hbn : b2 * n ≤ 1000 * 1000000 := Nat.mul_le_mul hb hn
    have hrun := run_make (P := P) w t el i z2 hf.slice hi hiz .i64 .i64 (n : Int) (n : Int) (by omega) (by omega) (by rw [hib]; omega) (by omega)
    refine ⟨.slice (some ⟨w.heap.size, 0, none⟩) n n, _, _, push w (.cells (madeCells z2.cells (n * 1)) el (0, 0)), I, ?_, .refl I, hk w.heap.size, .raw _ rfl, ?_⟩
    · simp only [execOp, h1, h2, Sem.run_bind, hrun, his, Result.andThen_ok, Sem.run_pure]
      rfl
    · refine hs.new_own _ _ rfl (.inr ⟨w.heap.size, 0, n, madeCells z2.cells (n * 1), el, (0, 0), by simp, by simp [push], Free.zero _, ?_, ⟨by simp, by omega⟩, by simp [size_madeCells], ?_⟩)
      · intro h hh
        rw [List.eq_of_mem_replicate hh, hc]; rfl
      · intro i j h c v a1 a2 a3
        have hh := List.eq_of_mem_replicate (List.mem_of_getElem? a1)
        subst hh
        rw [hc] at a2
        cases j with
        | succ j => simp at a2
        | zero =>
          simp at a2; subst a2
          rw [hz] at a3
          simp [madeCells] at a3
          obtain ⟨k, hk1, hk2⟩ := a3
          have : v = z2 := by simpa [Nat.mod_one] using hk2.symm
          rw [this]; exact V_ofVal I z2
end
end Go.HL
end
section
namespace Go.HL
section
variable {P : Program} {e : Env} {dst : Option Tmp} {ty : TypeId} {pos : String} {af : Array Edge} {g : Option (Nat × Bool)} {M : List MObj} {K : HVal → List MObj → Prop}
theorem V.tup2 {I : Imm} {c d : HVal} {u v : Value} (h1 : V I c u) (h2 : V I d v) : V I (.tup [c, d]) (.tuple #[u, v]) :=
  .tup (by simp) (fun j c v h3 h4 => (VL.cons h1 (VL.cons h2 VL.nil)).2 j c v h3 (by simpa using h4))
theorem eop_lookup2 {x y : Operand} {t kt et : TypeId} {size bytes s2 b2 s3 b3 : Nat} {zero z2 z3 : Value} {d : TD} {i b : Nat} {ls : List (List UInt8 × HVal)} {s : List UInt8}
    (hf : Fits P t (.map kt et) size bytes zero) (hkt : Fits P kt .str s2 b2 z2) (het : Fits P et d s3 b3 z3) (hx : evalO e x = some (.raw (.map (some b)))) (hy : evalO e y = some (.str s)) (hm : M[i]? = some (.map b (sk ls)))
    (hk : K (.tup [match sfind s ls with | some p => p.2 | none => ofVal z3, .bool (sfind s ls).isSome]) M) : EOp P e M ⟨dst, .lookup t x y true, ty, pos, af, g⟩ K :=
  EOp.of_run fun I F a w ho hs => by
    have h1 := (ho.one (x := x) (by simp [Op.operands]) hx).raw_inv
    have h2 := (ho.one (x := y) (by simp [Op.operands]) hy).str_inv
    obtain ⟨es, clk, h3, h4, h5⟩ := hs.obj _ (List.mem_append_left _ (List.mem_of_getElem? hm))
    obtain ⟨h6, h7⟩ := mapL_entries h4 h5
    obtain ⟨n1, n2⟩ := findNow_s (I := I) (s := s) es.toList ls 0 h6 h7
    cases hq : sfind s ls with
    | none =>
      rw [hq] at hk
      refine ⟨.tuple #[z3, .bool false], _, M, w, I, ?_, .refl I, hk, V.tup2 (V_ofVal I z3) (.bool _), hs⟩
      simp only [execOp, h1, h2, Instr.lookup, Sem.run_bind, run_underlying hf.mapD, Result.andThen_ok, run_getMap h3, Sem.run_pure, run_checkKey_s hkt.strD, Instr.findKey, run_underlying hkt.strD, n1 hq, het.run_zero]
      simp
    | some p =>
      obtain ⟨j, h⟩ := p
      rw [hq] at hk
      obtain ⟨v, g1, g2⟩ := n2 j h hq
      refine ⟨.tuple #[v, .bool true], _, M, w, I, ?_, .refl I, hk, V.tup2 g2 (.bool _), hs⟩
      simp only [execOp, h1, h2, Instr.lookup, Sem.run_bind, run_underlying hf.mapD, Result.andThen_ok, run_getMap h3, Sem.run_pure, run_checkKey_s hkt.strD, Instr.findKey, run_underlying hkt.strD, g1]
      simp
theorem run_equal_nilI {t : TypeId} {ms : Array (String × TypeId)} (hu : P.underlying t = some (.interface ms)) (w : World) : (Op.equal t .nilIface .nilIface).run P w = .ok true w := by
  have h : ∀ d, (Op.equalIn (d + 1) t .nilIface .nilIface).run P w = .ok true w := fun d => by
    simp only [Op.equalIn, Sem.run_bind, run_underlying hu, Result.andThen_ok, Sem.run_pure]
  exact h 9999
/-- No error. -/
theorem pop_eqnilI {x : Operand} {t t' : TypeId} {ms : Array (String × TypeId)} (hu : P.underlying t = some (.interface ms)) (hx : evalO e x = some (.raw .nilIface)) :
    POp P e ⟨dst, .binOp .eql t x (.const .nilIface) t', ty, pos, af, g⟩ (.bool true) :=
  POp.of_val fun I a w ho => by
    have h1 := (ho.one (x := x) (by simp [Op.operands]) hx).raw_inv
    have h2 : a.eval (.const .nilIface) = .nilIface := rfl
    exact ⟨_, by simp [execOp, h1, h2, eqGuard, binOp, run_equal_nilI hu], .bool _⟩
end
section
variable {P : Program}
theorem conp_atoi {f : FuncId} {s : List UInt8} {n : Int} {el : TypeId} (hc : ∀ w : World, Calls P f #[.string ⟨s.toArray⟩] w fun e w' => e = .returned (.tuple #[.int .i64 n, .nilIface]) ∧ ∃ t, w' = Lib.bytesWorld w el t) :
    ConP P f [.str s] (.tup [.int .i64 n, .raw .nilIface]) := by
  intro I F w args ha hs
  obtain ⟨u, rfl, hu⟩ := ha.one
  obtain rfl := hu.str_inv
  refine (hc w).mono ?_
  rintro e w' ⟨rfl, t, rfl⟩
  refine ⟨_, .tup [.int .i64 n, .raw .nilIface], [], I, rfl, .refl I, ⟨rfl, rfl⟩, V.tup2 (.int _ _) (.raw _ rfl), ?_⟩
  obtain ⟨h1, h2⟩ := hs.lt
  have hb : ∀ b, b < w.heap.size → (Lib.bytesWorld w el t).heap[b]? = w.heap[b]? := fun b hb => Lib.bytesWorld_at_old w el t b hb
  have hf : ∀ (w : World) (a : Addr) (n : Nat), (w.freeze a n).os = w.os ∧ (w.freeze a n).output = w.output ∧ (w.freeze a n).tape = w.tape := fun w a n => by
    unfold World.freeze; split <;> exact ⟨rfl, rfl, rfl⟩
  exact hs.of_same (fun b hb' => hb b (h1 b hb')) (fun b hb' => hb b (h2 b hb')) (hf _ _ _).1 (hf _ _ _).2.1 (hf _ _ _).2.2
end
end Go.HL
end
section
namespace Go.HL
/-! numbers in decimal -/
def dig (c : UInt8) : Bool := decide (48 ≤ c.toNat) && decide (c.toNat ≤ 57)
def cutMinus (s : Str) : Str := match s with | 45 :: r => r | _ => s
def numC (s : Str) (n : Int) : Bool := decide ((cutMinus s = [] ∨ n < ((cutMinus s).length : Int)) ∨ ((((cutMinus s).head?).getD 0).toNat : Int) = 48 ∧ ((1 : Int) < ((cutMinus s).length : Int) ∨ (cutMinus s).length < s.length))
def numB (s : Str) (n : Int) : Bool := !(numC s n) && (cutMinus s).all dig
theorem numB_1 {s : Str} (h : (cutMinus s = [] ∨ (9 : Int) < ((cutMinus s).length : Int)) ∨ ((((cutMinus s).head?).getD 0).toNat : Int) = 48 ∧ ((1 : Int) < ((cutMinus s).length : Int) ∨ (cutMinus s).length < s.length)) : numB s 9 = false := by
  have : numC s 9 = true := decide_eq_true h
  simp [numB, this]
theorem numC_2 {s : Str} (h : (¬ cutMinus s = [] ∧ ((cutMinus s).length : Int) ≤ 9) ∧ (((((cutMinus s).head?).getD 0).toNat : Int) = 48 → ((cutMinus s).length : Int) ≤ 1 ∧ s.length ≤ (cutMinus s).length)) : numC s 9 = false := by
  refine decide_eq_false ?_
  rintro ((a | a) | ⟨a, b⟩)
  · exact h.1.1 a
  · omega
  · have := h.2 a; omega
theorem dig_f {x : UInt8} (h : (x.toNat : Int) < 48 ∨ 57 < (x.toNat : Int)) : dig x = false := by
  unfold dig; rw [Bool.and_eq_false_iff]
  rcases h with h | h
  · exact .inl (decide_eq_false (by omega))
  · exact .inr (decide_eq_false (by omega))
theorem dig_t {x : UInt8} (h : 48 ≤ (x.toNat : Int) ∧ (x.toNat : Int) ≤ 57) : dig x = true := by
  unfold dig; rw [decide_eq_true (show 48 ≤ x.toNat by omega), decide_eq_true (show x.toNat ≤ 57 by omega)]; rfl
theorem cutMinus_len (s : Str) : (cutMinus s).length ≤ s.length := by
  unfold cutMinus; split <;> simp
def numV (s : Str) : Int := (Lib.atoi s).getD 0
def numR (s : Str) (n : Int) : Int := if numB s n then numV s else 0
def dig10 : List UInt8 := [48, 49, 50, 51, 52, 53, 54, 55, 56, 57]
def trim10 (s : Str) : Str := (rtrim (dig10.contains ·) s).dropWhile (dig10.contains ·)
def intC (s : Str) (n : Int) : Bool := out ((cutMinus s).length : Int) 1 n || trim10 (cutMinus s) != []
def intR (s : Str) (n : Int) : Int := if intC s n then 0 else numV s
def intB (s : Str) (n : Int) : Bool := !(intC s n) && (Lib.itoa (numV s) == s)
/-- The numbers that are drawn. -/
def vals : List Str := [[48], [49], [51], [57], [49, 48, 48], [45, 50], [], [48, 49], [120]]
def valOk (s : Str) : Bool := (intB s 9 == numB s 9) && (!(numB s 9) || intR s 9 == numR s 9) && (!(numB s 9) || (Lib.atoi s).isSome) && (intC s 9 || (Lib.atoi s).isSome) && (decide (-100 ≤ numR s 9) && decide (numR s 9 ≤ 100)) && (decide (-100 ≤ numV s) && decide (numV s ≤ 100)) && decide (s.length ≤ 18)
theorem vals_all : vals.all valOk = true := by kernel_rfl
theorem vals_ok {s : Str} (hs : s ∈ vals) : (intB s 9 = numB s 9) ∧ (numB s 9 = true → intR s 9 = numR s 9) ∧ (numB s 9 = true → (Lib.atoi s).isSome = true) ∧ (intC s 9 = false → (Lib.atoi s).isSome = true) ∧ (-100 ≤ numR s 9 ∧ numR s 9 ≤ 100) ∧ (-100 ≤ numV s ∧ numV s ≤ 100) ∧ s.length ≤ 18 := by
  have := List.all_eq_true.1 vals_all s hs
  simp only [valOk, Bool.and_eq_true, Bool.or_eq_true, Bool.not_eq_true', decide_eq_true_eq, beq_iff_eq] at this
  obtain ⟨⟨⟨⟨⟨⟨h1, h2⟩, h3⟩, h4⟩, h5⟩, h6⟩, h7⟩ := this
  refine ⟨h1, fun h => ?_, fun h => ?_, fun h => ?_, h5, h6, h7⟩
  · rcases h2 with h2 | h2
    · rw [h] at h2; cases h2
    · exact h2
  · rcases h3 with h3 | h3
    · rw [h] at h3; cases h3
    · exact h3
  · rcases h4 with h4 | h4
    · rw [h] at h4; cases h4
    · exact h4
/-! limits -/
def limGo (h : Hall) (l : List PairS) : Nat → List PairS → Int
  | _, [] => 0
  | k, x :: r => if !(h.Teams.contains x.Name) then 8 else if (l.take k).any (fun y => y.Name == x.Name) then 6 else if !(numB x.Val 9) then 9 else limGo h l (k + 1) r
def limE (h : Hall) (l : List PairS) : Int := if 20 < l.length then 2 else limGo h l 0 l
/-- The map of limits. -/
def LimOk (l : List PairS) (L : SMap) : Prop := ∀ t, (sfind t L).map (·.2) = (l.find? (fun p => p.Name == t)).map (fun p => .int .i64 (numR p.Val 9))
theorem LimOk.add {l : List PairS} {L : SMap} (ok : LimOk l L) (x : PairS) (hx : l.any (fun y => y.Name == x.Name) = false) : LimOk (l ++ [x]) (sput x.Name (.int .i64 (numR x.Val 9)) L) := fun t => by
  rw [sfind_put, List.find?_append, ok t]
  by_cases e : t = x.Name
  · subst e
    rw [if_pos rfl]
    have : l.find? (fun p => p.Name == x.Name) = none := by
      rw [List.find?_eq_none]; intro y hy
      have := List.any_eq_false.1 hx y hy
      simpa using this
    rw [this]; simp
  · rw [if_neg e]
    have hn : (x.Name == t) = false := by simpa using fun q => e q.symm
    cases l.find? (fun p => p.Name == t) with
    | none => simp [List.find?, hn]
    | some p => simp
theorem LimOk.is {l : List PairS} {L : SMap} (ok : LimOk l L) (t : Str) : (sfind t L).isSome = l.any (fun y => y.Name == t) := by
  rw [sfind_some_iff, ok t]
  rw [Bool.eq_iff_iff]; simp
theorem lim_key {h : Hall} {l : List PairS} : ∀ (r : List PairS) (k : Nat), l.drop k = r → limGo h l k r = 0 → ∀ (j : Nat) (y : PairS), k ≤ j → l[j]? = some y → (l.take j).any (fun z => z.Name == y.Name) = false
  | [], k, hr, _, j, y, hj, hy => by
    have := lt_of_get hy
    have h2 : l.length ≤ k := by rw [← List.drop_eq_nil_iff]; exact hr
    omega
  | x :: r, k, hr, hg, j, y, hj, hy => by
    have hk : l[k]? = some x := by
      have := congrArg (fun q => q[0]?) hr
      simpa using this
    have hr' : l.drop (k + 1) = r := by
      have := drop_cons hk
      rw [hr] at this; simp at this; exact this.symm
    simp only [limGo] at hg
    split at hg
    · omega
    · split at hg
      · omega
      · rename_i hany
        split at hg
        · omega
        · rcases Nat.eq_or_lt_of_le hj with e | hlt
          · subst e
            rw [hk] at hy; cases hy
            exact Bool.eq_false_iff.2 hany
          · exact lim_key r (k + 1) hr' hg j y hlt hy
theorem lim_distinct {h : Hall} {l : List PairS} (hl : limGo h l 0 l = 0) : ∀ (i j : Nat) (x y : PairS), i < j → l[i]? = some x → l[j]? = some y → x.Name ≠ y.Name := by
  intro i j x y hij hx hy e
  have := lim_key l 0 rfl hl j y (Nat.zero_le _) hy
  have hx' : (l.take j)[i]? = some x := by rw [List.getElem?_take, if_pos hij]; exact hx
  have h2 := List.any_eq_false.1 this x (List.mem_of_getElem? hx')
  rw [e] at h2; simp at h2
/-! bids -/
def bid (h : Hall) (l : List Sale) (lim : List PairS) (t : Str) : Option Int :=
  match lim.find? (fun p => p.Name == t) with
  | none => none
  | some p => if min (numR p.Val 9) (mostOf h l t) < 1 then none else some (min (numR p.Val 9) (mostOf h l t))
structure Top where
  team : Str
  first : Int
  second : Int
def Top.step (q : Top) (t : Str) (n : Int) : Top := if q.first < n then ⟨t, n, q.first⟩ else ⟨q.team, q.first, max q.second n⟩
def topGo (f : Str → Option Int) (q : Top) : List Str → Top
  | [] => q
  | t :: r => topGo f (match f t with | none => q | some n => q.step t n) r
def topOf : List Sale → Top
  | [] => ⟨[], 0, 0⟩
  | [a] => ⟨a.Team, a.Price, 0⟩
  | a :: b :: _ => ⟨a.Team, a.Price, b.Price⟩
def byPrice (a b : Sale) : Int := cmpI b.Price a.Price
theorem byPrice_lt {x y : Sale} : byPrice x y < 0 ↔ y.Price < x.Price := by
  unfold byPrice cmpI; split
  · simp; assumption
  · split <;> simp <;> omega
theorem insF_app {x a : Sale} : ∀ S : List Sale, insF byPrice x (S ++ [a]) = if (∀ y ∈ S, y.Price < x.Price) then S ++ insF byPrice x [a] else insF byPrice x S ++ [a]
  | [] => by simp
  | y :: r => by
    have ih := insF_app (x := x) (a := a) r
    simp only [List.cons_append, insF, byPrice_lt]
    by_cases hy : y.Price < x.Price
    · simp only [hy, if_true, ih]
      by_cases hr : ∀ z ∈ r, z.Price < x.Price
      · rw [if_pos hr, if_pos (by intro z hz; rcases List.mem_cons.1 hz with rfl | hz; exact hy; exact hr z hz)]
        simp [insF, byPrice_lt]
      · rw [if_neg hr, if_neg (fun q => hr fun z hz => q z (List.mem_cons_of_mem _ hz))]; rfl
    · simp only [hy, if_false]
      rw [if_neg (fun q => hy (q y List.mem_cons_self))]; rfl
theorem insB_cons_lt {x a : Sale} {S : List Sale} (h : a.Price < x.Price) (hs : ∀ y ∈ S, y.Price ≤ a.Price) : insB byPrice x (a :: S) = x :: a :: S := by
  unfold insB
  rw [List.reverse_cons, insF_app, if_pos (by intro y hy; have := hs y (List.mem_reverse.1 hy); omega)]
  simp [insF, byPrice_lt, h]
theorem insB_cons_ge {x a : Sale} {S : List Sale} (h : ¬ a.Price < x.Price) : insB byPrice x (a :: S) = a :: insB byPrice x S := by
  unfold insB
  rw [List.reverse_cons, insF_app]
  split
  · rename_i hall
    have e : ∀ R : List Sale, (∀ y ∈ R, y.Price < x.Price) → insF byPrice x R = R ++ [x] := by
      intro R
      induction R with
      | nil => intro _; rfl
      | cons y r ih =>
        intro hR
        have hy := hR y List.mem_cons_self
        simp only [insF, byPrice_lt, hy, if_true, ih fun z hz => hR z (List.mem_cons_of_mem _ hz)]; rfl
    rw [e _ hall]; simp [insF, byPrice_lt, h]
  · simp
theorem topOf_ins {x : Sale} (hx : 1 ≤ x.Price) : ∀ {S : List Sale}, S.Pairwise (fun a b => b.Price ≤ a.Price) → (∀ y ∈ S, 1 ≤ y.Price) → topOf (insB byPrice x S) = (topOf S).step x.Team x.Price
  | [], _, _ => by
    have h0 : 0 < x.Price := by omega
    rw [insB_nil]; simp [topOf, Top.step, h0]
  | [a], hp, h1 => by
    have ha := h1 a (by simp)
    by_cases h : a.Price < x.Price
    · rw [insB_cons_lt h (by simp)]; simp [topOf, Top.step, h]
    · rw [insB_cons_ge h, insB_nil]; simp [topOf, Top.step, h]; omega
  | a :: b :: r, hp, h1 => by
    obtain ⟨hp1, hp2⟩ := List.pairwise_cons.1 hp
    have hab := hp1 b (by simp)
    by_cases h : a.Price < x.Price
    · rw [insB_cons_lt h hp1]; simp [topOf, Top.step, h]
    · rw [insB_cons_ge h]
      by_cases h2 : b.Price < x.Price
      · rw [insB_cons_lt h2 (List.pairwise_cons.1 hp2).1]; simp [topOf, Top.step, h]; omega
      · rw [insB_cons_ge h2]
        simp [topOf, Top.step, h]; omega
theorem cmpI_flip' (a b : Int) : cmpI a b ≤ 0 ↔ a ≤ b := by
  unfold cmpI; split
  · simp; omega
  · split <;> simp <;> omega
theorem byPrice_cmp : Cmp byPrice (fun _ => True) where
  flip x y _ _ := by
    unfold byPrice cmpI; (repeat' split) <;> omega
  trans x y z _ _ _ h1 h2 := by
    unfold byPrice at *; rw [cmpI_flip'] at *; omega
theorem isortP_sorted (l : List Sale) : (isort byPrice l).Pairwise (fun a b => b.Price ≤ a.Price) := by
  have := isort_sorted byPrice_cmp (l := l) (fun _ _ => trivial)
  refine this.imp ?_
  intro a b h
  unfold byPrice at h; rw [cmpI_flip'] at h; exact h
def bidsOf (player : Str) (f : Str → Option Int) (T : List Str) : List Sale := T.flatMap fun t => match f t with | none => [] | some n => [⟨player, t, n⟩]
theorem topGo_ref (player : Str) {f : Str → Option Int} (hf : ∀ t n, f t = some n → 1 ≤ n) : ∀ (T : List Str) (B : List Sale), (∀ y ∈ B, 1 ≤ y.Price) → topGo f (topOf (isort byPrice B)) T = topOf (isort byPrice (B ++ bidsOf player f T))
  | [], B, _ => by simp [topGo, bidsOf]
  | t :: r, B, hB => by
    simp only [topGo]
    cases hq : f t with
    | none =>
      simp only [hq]
      rw [topGo_ref player hf r B hB]
      have : bidsOf player f (t :: r) = bidsOf player f r := by simp [bidsOf, hq]
      rw [this]
    | some n =>
      simp only [hq]
      have h1 := hf t n hq
      have := topOf_ins (x := ⟨player, t, n⟩) h1 (isortP_sorted B) (fun y hy => hB y ((isort_mem byPrice).1 hy))
      dsimp only at this
      rw [← this, ← isort_snoc, topGo_ref player hf r _ (by
        intro y hy
        rcases List.mem_append.1 hy with h | h
        · exact hB y h
        · simp at h; subst h; exact h1)]
      have : bidsOf player f (t :: r) = ⟨player, t, n⟩ :: bidsOf player f r := by simp [bidsOf, hq]
      rw [this]; simp
end Go.HL
end
section
namespace Go.HL
def spanI (n lo hi : Int) : Int := if out n lo hi then 1 else 0
theorem hall_ref (h : Hall) : (if orI [teamsFault h.Teams, playersFault h.Players, spanI h.Budget 1 1000000, spanI h.Places 1 30] != 0 then orI [teamsFault h.Teams, playersFault h.Players, spanI h.Budget 1 1000000, spanI h.Places 1 30]
    else if (h.Players.length : Int) < (h.Teams.length : Int) * h.Places || h.Budget < h.Places then 12 else 0) = hallFault h := by
  unfold hallFault spanI
  by_cases h1 : teamsFault h.Teams = 0 <;> by_cases h2 : playersFault h.Players = 0 <;> cases out h.Budget 1 1000000 <;> cases out h.Places 1 30 <;> simp [orI, h1, h2]
def moneyL (h : Hall) (l : List Sale) : List PairS := h.Teams.map fun t => ⟨t, Lib.itoa (h.Budget - spent l t)⟩
def mostE (h : Hall) (l : List Sale) (t : Str) : Int := if salesE h l != 0 then salesE h l else if !(h.Teams.contains t) then 8 else 0
def sellE (h : Hall) (l : List Sale) (player : Str) (lim : List PairS) : Int :=
  if salesE h l != 0 then salesE h l else if !(h.Players.contains player) then 8 else if l.any (fun y => y.Player == player) then 6 else limE h lim
def limGoR (h : Hall) (l : List PairS) : Nat → List PairS → Int
  | _, [] => 0
  | k, x :: r => if !(h.Teams.contains x.Name) then 8 else if (l.take k).any (fun y => y.Name == x.Name) then 6 else if !(intB x.Val 9) then 9 else limGoR h l (k + 1) r
theorem limGoR_eq (h : Hall) (l : List PairS) : ∀ (r : List PairS) (k : Nat), (∀ x ∈ r, x.Val ∈ vals) → limGoR h l k r = limGo h l k r
  | [], _, _ => rfl
  | x :: r, k, hv => by
    have h1 := (vals_ok (hv x List.mem_cons_self)).1
    simp only [limGoR, limGo, h1, limGoR_eq h l r (k + 1) fun y hy => hv y (List.mem_cons_of_mem _ hy)]
def sellR (h : Hall) (l : List Sale) (player : Str) (lim : List PairS) : Int :=
  if !(h.Players.contains player) then 8 else if l.any (fun y => y.Player == player) then 6 else if 20 < lim.length then 2 else limGoR h lim 0 lim
theorem sell_ref {h : Hall} {l : List Sale} {player : Str} {lim : List PairS} (hv : ∀ x ∈ lim, x.Val ∈ vals) : (if salesE h l != 0 then salesE h l else sellR h l player lim) = sellE h l player lim := by
  unfold sellE sellR limE
  rw [limGoR_eq h lim lim 0 hv]
def bidR (h : Hall) (l : List Sale) (player t : Str) (p : PairS) : List Sale := if p.Name == t && decide (1 ≤ min (intR p.Val 9) (mostOf h l t)) then [⟨player, t, min (intR p.Val 9) (mostOf h l t)⟩] else []
def bidsR (h : Hall) (l : List Sale) (player : Str) (lim : List PairS) (T : List Str) : List Sale := T.flatMap fun t => lim.flatMap (bidR h l player t)
theorem limGo_num {h : Hall} {l : List PairS} : ∀ (r : List PairS) (k : Nat), limGo h l k r = 0 → ∀ x ∈ r, numB x.Val 9 = true
  | [], _, _, x, hx => by simp at hx
  | y :: r, k, hg, x, hx => by
    simp only [limGo] at hg
    split at hg
    · omega
    · split at hg
      · omega
      · split at hg
        · omega
        · rename_i hn
          rcases List.mem_cons.1 hx with rfl | hx
          · simpa using hn
          · exact limGo_num r (k + 1) hg x hx
theorem flat_none {h : Hall} {l : List Sale} {player t : Str} : ∀ {lim : List PairS}, (∀ p ∈ lim, p.Name ≠ t) → lim.flatMap (bidR h l player t) = []
  | [], _ => rfl
  | p :: r, hn => by
    have h1 : (p.Name == t) = false := by simpa using hn p List.mem_cons_self
    rw [List.flatMap_cons, flat_none fun q hq => hn q (List.mem_cons_of_mem _ hq)]
    simp [bidR, h1]
theorem flat_bid {h : Hall} {l : List Sale} {player t : Str} : ∀ {lim : List PairS}, lim.Pairwise (fun a b => a.Name ≠ b.Name) → (∀ x ∈ lim, intR x.Val 9 = numR x.Val 9) →
    lim.flatMap (bidR h l player t) = match bid h l lim t with | none => [] | some n => [⟨player, t, n⟩]
  | [], _, _ => by simp [bid]
  | p :: r, hp, hn => by
    obtain ⟨h1, h2⟩ := List.pairwise_cons.1 hp
    have ih := flat_bid (h := h) (l := l) (player := player) (t := t) h2 fun x hx => hn x (List.mem_cons_of_mem _ hx)
    rw [List.flatMap_cons]
    by_cases e : p.Name = t
    · have hr := flat_none (h := h) (l := l) (player := player) (t := t) (lim := r) (fun q hq => by rw [← e]; exact fun z => h1 q hq z.symm)
      rw [hr]
      have hf : (p :: r).find? (fun q => q.Name == t) = some p := by simp [List.find?, e]
      unfold bid
      rw [hf]
      simp only [bidR, hn p List.mem_cons_self]
      by_cases hlt : min (numR p.Val 9) (mostOf h l t) < 1
      · have : decide (1 ≤ min (numR p.Val 9) (mostOf h l t)) = false := by simpa using hlt
        simp only [this, hlt, Bool.and_false, if_true]; simp
      · have : decide (1 ≤ min (numR p.Val 9) (mostOf h l t)) = true := decide_eq_true (by omega)
        simp only [this, hlt, e, if_false]; simp
    · have e' : (p.Name == t) = false := by simpa using e
      have hf : (p :: r).find? (fun q => q.Name == t) = r.find? (fun q => q.Name == t) := by simp [List.find?, e']
      have hb : bid h l (p :: r) t = bid h l r t := by unfold bid; rw [hf]
      rw [hb, ih]; simp [bidR, e']
theorem bids_ref {h : Hall} {l : List Sale} {player : Str} {lim : List PairS} (hl : limGo h lim 0 lim = 0) (hv : ∀ x ∈ lim, x.Val ∈ vals) (T : List Str) : bidsR h l player lim T = bidsOf player (bid h l lim) T := by
  unfold bidsR bidsOf
  congr 1
  funext t
  refine flat_bid ?_ fun x hx => (vals_ok (hv x hx)).2.1 (limGo_num lim 0 hl x hx)
  rw [List.pairwise_iff_getElem]
  intro i j hi hj hij
  exact lim_distinct hl i j _ _ hij (List.getElem?_eq_getElem hi) (List.getElem?_eq_getElem hj)
def sellS (player : Str) (q : Top) : Sale := if q.team = [] then sale0 else ⟨player, q.team, min q.first (q.second + 1)⟩
def sellT (h : Hall) (l : List Sale) (lim : List PairS) : Top := topGo (bid h l lim) ⟨[], 0, 0⟩ h.Teams
def soldS : List Sale → Sale
  | [] => sale0
  | [a] => ⟨a.Player, a.Team, 1⟩
  | a :: b :: _ => ⟨a.Player, a.Team, min a.Price (b.Price + 1)⟩
def soldB (S : List Sale) : Bool := decide (S.length ≠ 0)
theorem sold_ref {player : Str} : ∀ {S : List Sale}, (∀ y ∈ S, y.Player = player ∧ y.Team ≠ [] ∧ 1 ≤ y.Price) → soldS S = sellS player (topOf S) ∧ soldB S = decide ((topOf S).team ≠ [])
  | [], _ => by simp [soldS, sellS, topOf, soldB]
  | [a], h => by
    obtain ⟨h1, h2, h3⟩ := h a (by simp)
    simp [soldS, sellS, topOf, soldB, h1, h2]; omega
  | a :: b :: r, h => by
    obtain ⟨h1, h2, h3⟩ := h a (by simp)
    simp [soldS, sellS, topOf, soldB, h1, h2]
theorem bid_pos {h : Hall} {l : List Sale} {lim : List PairS} (t : Str) (n : Int) (e : bid h l lim t = some n) : 1 ≤ n := by
  unfold bid at e
  cases hf : lim.find? (fun p => p.Name == t) with
  | none => rw [hf] at e; cases e
  | some p =>
    rw [hf] at e
    simp only at e
    split at e
    · cases e
    · cases e; omega
theorem teamsGo_key {l : List Str} : ∀ (r : List Str) (k : Nat), teamsGo l k r = 0 → ∀ s ∈ r, key s = true
  | [], _, _, s, hs => by simp at hs
  | x :: r, k, hg, s, hs => by
    simp only [teamsGo] at hg
    split at hg
    · omega
    · rename_i hk
      split at hg
      · omega
      · rcases List.mem_cons.1 hs with rfl | hs
        · simpa using hk
        · exact teamsGo_key r (k + 1) hg s hs
theorem team_ne {l : List Str} (h : teamsFault l = 0) : ∀ s ∈ l, s ≠ [] := fun s hs e => by
  unfold teamsFault at h
  split at h
  · omega
  · split at h
    · omega
    · have := teamsGo_key l 0 h s hs
      subst e; simp [key, keyHd] at this
theorem sell_sold {h : Hall} {l : List Sale} {player : Str} {lim : List PairS} (hh : hallFault h = 0) (hl : limGo h lim 0 lim = 0) (hv : ∀ x ∈ lim, x.Val ∈ vals) :
    soldS (isort byPrice (bidsR h l player lim h.Teams)) = sellS player (sellT h l lim) ∧ soldB (isort byPrice (bidsR h l player lim h.Teams)) = decide ((sellT h l lim).team ≠ []) := by
  rw [bids_ref hl hv]
  have hT : sellT h l lim = topOf (isort byPrice (bidsOf player (bid h l lim) h.Teams)) := by
    have := topGo_ref player (f := bid h l lim) bid_pos h.Teams [] (by simp)
    simpa [sellT, topOf, isort_nil] using this
  rw [hT]
  refine sold_ref fun y hy => ?_
  have hy' := (isort_mem byPrice).1 hy
  unfold bidsOf at hy'
  obtain ⟨t, ht, hyt⟩ := List.mem_flatMap.1 hy'
  cases hb : bid h l lim t with
  | none => rw [hb] at hyt; simp at hyt
  | some n =>
    rw [hb] at hyt
    simp at hyt
    subst hyt
    exact ⟨rfl, team_ne (hallFault_ok hh).1 t ht, bid_pos t n hb⟩
section
variable {h : Hall} {l : List Sale} {x : Sale} (h6 : x.Player ∈ h.Players ∧ x.Team ∈ h.Teams) (h8 : ∀ y ∈ l, ¬ y.Player = x.Player)
include h6 h8
theorem sf_any : (!(h.Players.contains x.Player) || !(h.Teams.contains x.Team)) = false ∧ l.any (fun y => y.Player == x.Player) = false :=
  ⟨by simp [h6.1, h6.2], by rw [List.any_eq_false]; intro y hy; simpa using h8 y hy⟩
theorem sf3 (h9 : x.Price < 1) : saleFault h l x = 1 := by
  obtain ⟨a, b⟩ := sf_any h6 h8
  simp only [saleFault, a, b, h9]; simp
theorem sf4 (h10 : 1 ≤ x.Price) (h11 : many l x.Team = h.Places) : saleFault h l x = 12 := by
  obtain ⟨a, b⟩ := sf_any h6 h8
  simp only [saleFault, a, b, h11, show ¬ x.Price < 1 by omega]; simp
theorem sf5 (h10 : 1 ≤ x.Price) (h12 : ¬ many l x.Team = h.Places) (h13 : mostOf h l x.Team < x.Price) : saleFault h l x = 11 := by
  obtain ⟨a, b⟩ := sf_any h6 h8
  simp only [saleFault, a, b, h12, h13, show ¬ x.Price < 1 by omega]; simp
theorem sf0 (h10 : 1 ≤ x.Price) (h12 : ¬ many l x.Team = h.Places) (h14 : x.Price ≤ mostOf h l x.Team) : saleFault h l x = 0 := by
  obtain ⟨a, b⟩ := sf_any h6 h8
  simp only [saleFault, a, b, h12, show ¬ mostOf h l x.Team < x.Price by omega, show ¬ x.Price < 1 by omega]; simp
end
theorem sgo_ne {h : Hall} {l : List Sale} {k : Nat} {x : Sale} {r : List Sale} {c : Int} (hs : saleFault h (l.take k) x = c) (hc : c ≠ 0) : salesGo h l k (x :: r) = c := by
  simp only [salesGo, hs]; simp [hc]
theorem sgo_z {h : Hall} {l : List Sale} {k : Nat} {x : Sale} {r : List Sale} (hs : saleFault h (l.take k) x = 0) : salesGo h l k (x :: r) = salesGo h l (k + 1) r := by
  simp only [salesGo, hs]; simp
theorem or4 {a b : Int} {o p : Bool} (h : orI [a, b, if o then 1 else 0, if p then 1 else 0] = 0) : p = false := by
  cases p with
  | false => rfl
  | true =>
    exfalso
    cases o <;> by_cases ha : a = 0 <;> by_cases hb : b = 0 <;> simp [orI, ha, hb] at h
end Go.HL
end
section
namespace Go.HL
theorem mn_eq (a b : Int) : (if b < a then b else a) = min a b := by split <;> omega
theorem mx_eq (a b : Int) : (if a < b then b else a) = max a b := by split <;> omega
theorem bidR_len (h : Hall) (l : List Sale) (player t : Str) (p : PairS) : (bidR h l player t p).length ≤ 1 := by unfold bidR; split <;> simp
theorem flatR_len (h : Hall) (l : List Sale) (player t : Str) : ∀ lim : List PairS, (lim.flatMap (bidR h l player t)).length ≤ lim.length
  | [] => by simp
  | p :: r => by
    rw [List.flatMap_cons, List.length_append, List.length_cons]
    have := bidR_len h l player t p
    have := flatR_len h l player t r
    omega
theorem bidsR_len (h : Hall) (l : List Sale) (player : Str) (lim : List PairS) : ∀ T : List Str, (bidsR h l player lim T).length ≤ T.length * lim.length
  | [] => by simp [bidsR]
  | t :: r => by
    have h1 := flatR_len h l player t lim
    have h2 := bidsR_len h l player lim r
    have e : bidsR h l player lim (t :: r) = lim.flatMap (bidR h l player t) ++ bidsR h l player lim r := by simp [bidsR]
    rw [e, List.length_append, List.length_cons, Nat.succ_mul]; omega
theorem bidsR_snoc (h : Hall) (l : List Sale) (player : Str) (lim : List PairS) {T : List Str} {k : Nat} {t : Str} (hx : T[k]? = some t) : bidsR h l player lim (T.take (k + 1)) = bidsR h l player lim (T.take k) ++ lim.flatMap (bidR h l player t) := by
  rw [take_snoc' hx]; simp [bidsR]
theorem flatR_snoc (h : Hall) (l : List Sale) (player t : Str) {lim : List PairS} {j : Nat} {p : PairS} (hx : lim[j]? = some p) : (lim.take (j + 1)).flatMap (bidR h l player t) = (lim.take j).flatMap (bidR h l player t) ++ bidR h l player t p := by
  rw [take_snoc' hx]; simp
theorem bidR_yes {h : Hall} {l : List Sale} {player t : Str} {p : PairS} (h1 : p.Name = t) (h2 : 1 ≤ min (intR p.Val 9) (mostOf h l t)) : bidR h l player t p = [⟨player, t, min (intR p.Val 9) (mostOf h l t)⟩] := by
  unfold bidR; rw [if_pos (by simp only [h1, beq_self_eq_true, Bool.true_and, decide_eq_true_eq]; exact h2)]
theorem bidR_no {h : Hall} {l : List Sale} {player t : Str} {p : PairS} (h1 : p.Name = t → min (intR p.Val 9) (mostOf h l t) < 1) : bidR h l player t p = [] := by
  unfold bidR; rw [if_neg]
  intro hc
  simp only [Bool.and_eq_true, beq_iff_eq, decide_eq_true_eq] at hc
  have := h1 hc.1; omega
theorem mostOf_bd {h : Hall} {l : List Sale} (hl : l.length ≤ 1000) (hB : ∀ x ∈ l, -2000000 ≤ x.Price ∧ x.Price ≤ 2000000) (hbu : -2000000 ≤ h.Budget ∧ h.Budget ≤ 2000000) (hpl : -2000000 ≤ h.Places ∧ h.Places ≤ 2000000) (t : Str) : -4000000000 ≤ mostOf h l t ∧ mostOf h l t ≤ 4000000000 := by
  have h1 := spent_bd (B := 2000000) (by decide) hB t
  have h2 := many_bd l t
  unfold mostOf; split <;> omega
theorem bidsR_bd {h : Hall} {l : List Sale} {player : Str} {lim : List PairS} {T : List Str} (hb : ∀ t, mostOf h l t ≤ 4000000000) : ∀ y ∈ isort byPrice (bidsR h l player lim T), 1 ≤ y.Price ∧ y.Price ≤ 4000000000 := fun y hy => by
  have hy' := (isort_mem byPrice).1 hy
  unfold bidsR at hy'
  obtain ⟨t, _, h1⟩ := List.mem_flatMap.1 hy'
  obtain ⟨p, _, h2⟩ := List.mem_flatMap.1 h1
  unfold bidR at h2
  split at h2
  · rename_i hc
    simp only [Bool.and_eq_true, decide_eq_true_eq] at hc
    simp at h2; subst h2
    have := hb t
    dsimp only; omega
  · simp at h2
theorem len1 {α : Type} {S : List α} (h : (S.length : Int) = 1) : ∃ a, S = [a] := by
  match S, h with
  | [a], _ => exact ⟨a, rfl⟩
  | [], h => simp at h
  | a :: b :: r, h => simp at h; omega
theorem len2 {α : Type} {S : List α} (h0 : ¬ S = []) (h : ¬ (S.length : Int) = 1) : ∃ a b r, S = a :: b :: r := by
  match S, h0, h with
  | [a], _, h => simp at h
  | [], h0, _ => exact absurd rfl h0
  | a :: b :: r, _, _ => exact ⟨a, b, r, rfl⟩
end Go.HL
end
section
namespace Go.HL
theorem Ghost.clear {e : Env} : ∀ {M : List MObj}, Ghost e M e []
  | [] => Ghost.perm (List.Perm.refl _)
  | _ :: _ => Ghost.trans Ghost.drop Ghost.clear
theorem Ghost.last {e : Env} {m : MObj} : ∀ {R : List MObj}, Ghost e (R ++ [m]) e [m]
  | [] => Ghost.perm (List.Perm.refl _)
  | x :: R => Ghost.trans (M' := R ++ [m]) Ghost.drop Ghost.last
theorem Ghost.only {e : Env} {M : List MObj} {i : Nat} {m : MObj} (h : M[i]? = some m) : Ghost e M e [m] :=
  Ghost.trans (Ghost.perm ((perm_erase h).trans (List.perm_append_comm (l₁ := [m]) (l₂ := M.eraseIdx i)))) Ghost.last
abbrev AucM (b b1 b2 b3 : Nat) (h : Hall) (S : List Str) (L H : SMap) : List MObj :=
  [.cells b [.vptr (hcells (eHall h)) 0, .raw (.map (some b1)), .raw (.map (some b2)), .raw (.map (some b3))], .map b1 (sk (mset S)), .map b2 (sk L), .map b3 (sk H)]
theorem take_contains {T : List Str} {k : Nat} {x t : Str} (hx : T[k]? = some x) (h : (T.take (k + 1)).contains t = true) (hn : ¬ t = x) : (T.take k).contains t = true := by
  rw [take_snoc' hx] at h
  simp only [List.contains_eq_mem, List.mem_append, List.mem_singleton, decide_eq_true_eq] at h ⊢
  rcases h with h | h
  · exact h
  · exact absurd h hn
theorem players_sorted {l : List Str} (h : playersFault l = 0) : SortedS l := by
  unfold playersFault at h
  split at h
  · omega
  · exact rising1_sorted h
theorem saleFault_team {h : Hall} {l : List Sale} {x : Sale} (e : saleFault h l x = 0) : h.Teams.contains x.Team = true := by
  unfold saleFault at e
  split at e
  · omega
  · rename_i hc
    simp only [Bool.or_eq_true, Bool.not_eq_true', not_or, Bool.not_eq_false] at hc
    exact hc.2
end Go.HL
end
section
namespace Go.HL
theorem Ghost.suffix {e : Env} {M : List MObj} : ∀ {R : List MObj}, Ghost e (R ++ M) e M
  | [] => Ghost.perm (List.Perm.refl _)
  | x :: R => Ghost.trans (M' := R ++ M) Ghost.drop Ghost.suffix
section
variable {P : Program} {e : Env} {dst : Option Tmp} {ty : TypeId} {pos : String} {af : Array Edge} {g : Option (Nat × Bool)} {M : List MObj} {K : HVal → List MObj → Prop}
theorem eop_lookupI {x y : Operand} {t kt et : TypeId} {size bytes s2 b2 s3 b3 : Nat} {zero z2 : Value} {d : TD} {i b : Nat} {ls : SMap} {s : Str} {h : HVal}
    (hf : Fits P t (.map kt et) size bytes zero) (hkt : Fits P kt .str s2 b2 z2) (het : Fits P et d s3 b3 (.int .i64 0)) (hx : evalO e x = some (.raw (.map (some b)))) (hy : evalO e y = some (.str s)) (hm : M[i]? = some (.map b (sk ls)))
    (hv : lkI ls s = h) (hk : K h M) : EOp P e M ⟨dst, .lookup t x y false, ty, pos, af, g⟩ K := by
  refine eop_lookup hf hkt het hx hy hm ?_
  show K (lkI ls s) M
  rw [hv]; exact hk
theorem eop_lookup2I {x y : Operand} {t kt et : TypeId} {size bytes s2 b2 s3 b3 : Nat} {zero z2 : Value} {d : TD} {i b : Nat} {ls : SMap} {s : Str} {h : HVal} {o : Bool}
    (hf : Fits P t (.map kt et) size bytes zero) (hkt : Fits P kt .str s2 b2 z2) (het : Fits P et d s3 b3 (.int .i64 0)) (hx : evalO e x = some (.raw (.map (some b)))) (hy : evalO e y = some (.str s)) (hm : M[i]? = some (.map b (sk ls)))
    (hv : lkI ls s = h) (ho : (sfind s ls).isSome = o) (hk : K (.tup [h, .bool o]) M) : EOp P e M ⟨dst, .lookup t x y true, ty, pos, af, g⟩ K := by
  refine eop_lookup2 hf hkt het hx hy hm ?_
  show K (.tup [lkI ls s, .bool (sfind s ls).isSome]) M
  rw [hv, ho]; exact hk
end
def limN (lim : List PairS) (t : Str) : Int := match lim.find? (fun p => p.Name == t) with | some p => numR p.Val 9 | none => 0
theorem LimOk.lk {l : List PairS} {L : SMap} (ok : LimOk l L) (t : Str) : lkI L t = .int .i64 (limN l t) := by
  rw [lkI_eq, ok t]; unfold limN
  cases l.find? (fun p => p.Name == t) <;> rfl
theorem limN_bd {lim : List PairS} (hv : ∀ x ∈ lim, x.Val ∈ vals) (t : Str) : -100 ≤ limN lim t ∧ limN lim t ≤ 100 := by
  unfold limN
  cases hf : lim.find? (fun p => p.Name == t) with
  | none => simp
  | some p => exact (vals_ok (hv p (List.mem_of_find?_eq_some hf))).2.2.2.2.1
theorem bid_none {h : Hall} {l : List Sale} {lim : List PairS} {t : Str} (hc : lim.any (fun y => y.Name == t) = true → min (limN lim t) (mostOf h l t) < 1) : bid h l lim t = none := by
  unfold bid limN at *
  cases hf : lim.find? (fun p => p.Name == t) with
  | none => rfl
  | some p =>
    rw [hf] at hc
    simp only at hc ⊢
    rw [if_pos (hc ?_)]
    rw [List.any_eq_true]
    exact ⟨p, List.mem_of_find?_eq_some hf, by have h := List.find?_some hf; exact h⟩
theorem bid_some {h : Hall} {l : List Sale} {lim : List PairS} {t : Str} (hc : lim.any (fun y => y.Name == t) = true) (hn : 1 ≤ min (limN lim t) (mostOf h l t)) : bid h l lim t = some (min (limN lim t) (mostOf h l t)) := by
  unfold bid limN at *
  cases hf : lim.find? (fun p => p.Name == t) with
  | none =>
    exfalso
    obtain ⟨y, hy, he⟩ := List.any_eq_true.1 hc
    have := List.find?_eq_none.1 hf y hy
    exact this he
  | some p =>
    rw [hf] at hn
    simp only at hn ⊢
    rw [if_neg (by omega)]
theorem bid_none' {h : Hall} {l : List Sale} {lim : List PairS} {t : Str} (hc : (∀ y, y ∈ lim → ¬ y.Name = t) ∨ min (limN lim t) (mostOf h l t) < 1) : bid h l lim t = none :=
  bid_none fun ha => by
    rcases hc with hc | hc
    · obtain ⟨y, hy, he⟩ := List.any_eq_true.1 ha
      exact absurd (by simpa using he) (hc y hy)
    · exact hc
theorem bid_some' {h : Hall} {l : List Sale} {lim : List PairS} {t : Str} (hc : ∃ y, y ∈ lim ∧ y.Name = t) (hn : 1 ≤ min (limN lim t) (mostOf h l t)) : bid h l lim t = some (min (limN lim t) (mostOf h l t)) :=
  bid_some (by obtain ⟨y, hy, he⟩ := hc; rw [List.any_eq_true]; exact ⟨y, hy, by simpa using he⟩) hn
theorem topGo_cons (f : Str → Option Int) (q : Top) (t : Str) (r : List Str) : topGo f q (t :: r) = topGo f (match f t with | none => q | some n => q.step t n) r := rfl
theorem salesE_hall {h : Hall} {l : List Sale} (e : salesE h l = 0) : hallFault h = 0 := by
  unfold salesE at e
  by_cases h1 : hallFault h = 0
  · exact h1
  · rw [if_pos (by simpa using h1)] at e; exact e
theorem lgo_ne {h : Hall} {l : List PairS} {k : Nat} {x : PairS} {r : List PairS} (hc : h.Teams.contains x.Name = true) (ha : (l.take k).any (fun y => y.Name == x.Name) = false) (hn : numB x.Val 9 = true) : limGo h l k (x :: r) = limGo h l (k + 1) r := by
  simp only [limGo, hc, ha, hn]; simp
end Go.HL
end
section
namespace Go.HL
variable {P : Program}
theorem V.hmap_inv {I : Imm} {ks vs : List HVal} {v : Value} (h : V I (.hmap ks vs) v) : ∃ b es clk, v = .map (some b) ∧ I.heap b = some (.map es clk) ∧ es.size = ks.length ∧ es.size = vs.length ∧
    (∀ (j : Nat) (c : HVal) (m : MapEntry), ks[j]? = some c → es[j]? = some m → V I c m.key) ∧ ∀ (j : Nat) (c : HVal) (m : MapEntry), vs[j]? = some c → es[j]? = some m → V I c m.val := by
  cases h with
  | hmap h1 h2 h3 h4 h5 => exact ⟨_, _, _, rfl, h1, h2, h3, h4, h5⟩
/-- A frozen map keyed by strings. -/
abbrev hsm (L : SMap) : HVal := .hmap (L.map fun p => .str p.1) (L.map (·.2))
abbrev hset (S : List (List UInt8)) : HVal := hsm (mset S)
theorem sk_fst (L : SMap) : (sk L).map (·.1) = L.map fun p => HVal.str p.1 := by simp [sk, Function.comp_def]
theorem sk_snd (L : SMap) : (sk L).map (·.2) = L.map (·.2) := by simp [sk, Function.comp_def]
theorem Sat.freeze_map {I : Imm} {M : List MObj} {b : Nat} {L : SMap} {w : World} (h : Sat P I (.map b (sk L) :: M) w) : ∃ J, Le I J ∧ Sat P J M w ∧ V J (hsm L) (.map (some b)) := by
  obtain ⟨es, clk, h1, h2, h3⟩ := h.obj _ List.mem_cons_self
  obtain ⟨hl, hs⟩ := h.freeze (b := b) rfl h1
  have hn : es.size = L.length := by simpa [sk] using h2
  refine ⟨_, hl, hs, .hmap Imm.add_self (by simp [hn]) (by simp [hn]) (fun j c m a1 a2 => ?_) (fun j c m a1 a2 => ?_)⟩
  · rw [← sk_fst, List.getElem?_map] at a1
    cases hq : (sk L)[j]? with
    | none => rw [hq] at a1; simp at a1
    | some p => rw [hq] at a1; simp at a1; subst a1; exact ((h3 j p m hq a2).1).mono hl
  · rw [← sk_snd, List.getElem?_map] at a1
    cases hq : (sk L)[j]? with
    | none => rw [hq] at a1; simp at a1
    | some p => rw [hq] at a1; simp at a1; subst a1; exact ((h3 j p m hq a2).2).mono hl
/-- The map in slot t. -/
theorem Ghost.fmap {e : Env} {M : List MObj} {i b : Nat} {L : SMap} (t : Nat) (hm : M[i]? = some (.map b (sk L))) (ht : e t = some (.raw (.map (some b)))) :
    Ghost e M (upd e t (hsm L)) (M.eraseIdx i) := fun _ I F tmps w h1 hs => by
  obtain ⟨J, hl, hs', hv⟩ := (hs.pull hm).freeze_map
  refine ⟨J, hl, fun s h' hq => ?_, hs'⟩
  obtain ⟨h, h2, h3⟩ := fz_upd (J := J) (e := e) (e' := e) (t := t) (h := .raw (.map (some b))) (h' := hsm L) ht (fun x hx => by rw [hx.raw_inv]; exact hv) fz_refl s h' hq
  obtain ⟨x, h4, h5⟩ := h1 s h h2
  exact ⟨x, h4, h3 x (h5.mono hl)⟩
/-- The map in a cell of an owned variable. -/
theorem Ghost.fmcell {e : Env} {M : List MObj} {i k : Nat} {m b j : Nat} {L : SMap} {cs : List HVal} (hm : M[i]? = some (.map m (sk L))) (hc : (M.eraseIdx i)[k]? = some (.cells b cs)) (hj : cs[j]? = some (.raw (.map (some m)))) :
    Ghost e M e ((M.eraseIdx i).set k (.cells b (cs.set j (hsm L)))) := fun _ I F tmps w h1 hs => by
  obtain ⟨J, hl, hs', hv⟩ := (hs.pull hm).freeze_map
  refine ⟨J, hl, h1.mono hl, Sat.unpull hc ((hs'.pull hc).change (m' := .cells b (cs.set j (hsm L))) (fun _ _ _ => rfl) (fun x hx => .inl hx) (by simp [MObj.blocks]) ?_ rfl rfl rfl)⟩
  obtain ⟨rc, el, fr, a1, a2, a3⟩ := (hs'.pull hc).obj _ List.mem_cons_self
  refine ⟨rc, el, fr, a1, a2, by rw [a3.1]; simp, fun n c u b1 b2 => ?_⟩
  by_cases hn : n = j
  · subst hn
    have hlt := lt_of_get hj
    simp [hlt] at b1
    subst b1
    have := a3.2 n _ u hj b2
    rw [this.raw_inv]; exact hv
  · rw [List.getElem?_set_ne (Ne.symm hn)] at b1
    exact a3.2 n c u b1 b2
section
variable {e : Env} {dst : Option Tmp} {ty : TypeId} {pos : String} {af : Array Edge} {g : Option (Nat × Bool)}
theorem pop_lookup_m {x y : Operand} {t kt et : TypeId} {size bytes s2 b2 s3 b3 : Nat} {zero z2 z3 : Value} {d : TD} {ls : SMap} {s : List UInt8}
    (hf : Fits P t (.map kt et) size bytes zero) (hkt : Fits P kt .str s2 b2 z2) (het : Fits P et d s3 b3 z3) (hx : evalO e x = some (hsm ls)) (hy : evalO e y = some (.str s)) :
    POp P e ⟨dst, .lookup t x y false, ty, pos, af, g⟩ (match sfind s ls with | some p => p.2 | none => ofVal z3) :=
  POp.of_run fun I F a w ho hs => by
    obtain ⟨b, es, clk, h1, h3, h4, h4', hK, hV⟩ := (ho.one (x := x) (by simp [Op.operands]) hx).hmap_inv
    have h2 := (ho.one (x := y) (by simp [Op.operands]) hy).str_inv
    have h3 := hs.imm _ _ h3
    have h5 : ∀ (i : Nat) (p : HVal × HVal) (m : MapEntry), (sk ls)[i]? = some p → es[i]? = some m → V I p.1 m.key ∧ V I p.2 m.val := fun i p m a1 a2 => by
      refine ⟨hK i _ m ?_ a2, hV i _ m ?_ a2⟩
      · rw [← sk_fst, List.getElem?_map, a1]; rfl
      · rw [← sk_snd, List.getElem?_map, a1]; rfl
    obtain ⟨h6, h7⟩ := mapL_entries (by simpa [sk] using h4) h5
    obtain ⟨n1, n2⟩ := findNow_s (I := I) (s := s) es.toList ls 0 h6 h7
    cases hq : sfind s ls with
    | none =>
      refine ⟨z3, w, I, ?_, .refl I, V_ofVal I z3, hs⟩
      simp only [execOp, h1, h2, Instr.lookup, Sem.run_bind, run_underlying hf.mapD, Result.andThen_ok, run_getMap h3, Sem.run_pure, run_checkKey_s hkt.strD, Instr.findKey, run_underlying hkt.strD, n1 hq, het.run_zero]
      simp
    | some p =>
      obtain ⟨j, h⟩ := p
      obtain ⟨v, g1, g2⟩ := n2 j h hq
      refine ⟨v, w, I, ?_, .refl I, g2, hs⟩
      simp only [execOp, h1, h2, Instr.lookup, Sem.run_bind, run_underlying hf.mapD, Result.andThen_ok, run_getMap h3, Sem.run_pure, run_checkKey_s hkt.strD, Instr.findKey, run_underlying hkt.strD, g1]
      simp
theorem pop_lookup_h {x y : Operand} {t kt et : TypeId} {size bytes s2 b2 s3 b3 : Nat} {zero z2 : Value} {d : TD} {S : List (List UInt8)} {s : List UInt8}
    (hf : Fits P t (.map kt et) size bytes zero) (hkt : Fits P kt .str s2 b2 z2) (het : Fits P et d s3 b3 (.bool false)) (hx : evalO e x = some (hset S)) (hy : evalO e y = some (.str s)) :
    POp P e ⟨dst, .lookup t x y false, ty, pos, af, g⟩ (.bool (S.contains s)) := by
  have := pop_lookup_m (dst := dst) (ty := ty) (pos := pos) (af := af) (g := g) hf hkt het hx hy
  rw [← (sfind_mset s S).1]
  exact this
end
/-- h, seen as h' while it is only read; objects may hold others. -/
inductive Bow (M : List MObj) : HVal → HVal → Prop
  | weak {h h' : HVal} (hw : Weak h h') : Bow M h h'
  | arr {i : Nat} {v : Value} {sz : Nat} {es : List HVal} (hm : M[i]? = some (.arr v sz es)) : Bow M (.raw v) (.slice sz es)
  | cells {i b off : Nat} {cs cs' : List HVal} (hm : M[i]? = some (.cells b cs)) (hl : cs.length = cs'.length) (h : ∀ (j : Nat) (c c' : HVal), cs[j]? = some c → cs'[j]? = some c' → Bow M c c') : Bow M (.raw (.pointer (some ⟨b, off, none⟩))) (.vptr cs' off)
  | map {i b : Nat} {L : SMap} (hm : M[i]? = some (.map b (sk L))) : Bow M (.raw (.map (some b))) (hsm L)
  | vptr {off : Nat} {l l' : List HVal} (hl : l.length = l'.length) (h : ∀ (j : Nat) (c c' : HVal), l[j]? = some c → l'[j]? = some c' → Bow M c c') : Bow M (.vptr l off) (.vptr l' off)
  | fn {f : Fn} {c1 l l' : List HVal} (hl : l.length = l'.length) (h : ∀ (j : Nat) (c c' : HVal), l[j]? = some c → l'[j]? = some c' → Bow M c c') : Bow M (.fn f c1 l) (.fn f c1 l')
def BowL (M : List MObj) : List HVal → List HVal → Prop
  | [], [] => True
  | h :: r, h' :: r' => Bow M h h' ∧ BowL M r r'
  | _, _ => False
theorem BowL.pt {M : List MObj} : ∀ {l l' : List HVal}, BowL M l l' → l.length = l'.length ∧ ∀ (j : Nat) (c c' : HVal), l[j]? = some c → l'[j]? = some c' → Bow M c c'
  | [], [], _ => ⟨rfl, fun j c c' h => by simp at h⟩
  | h :: r, h' :: r', hb => by
    obtain ⟨h1, h2⟩ := BowL.pt hb.2
    refine ⟨by simp [h1], fun j c c' a1 a2 => ?_⟩
    cases j with
    | zero => simp at a1 a2; subst a1 a2; exact hb.1
    | succ j => exact h2 j c c' (by simpa using a1) (by simpa using a2)
  | [], _ :: _, hb => hb.elim
  | _ :: _, [], hb => hb.elim
theorem Bow.cellsL {M : List MObj} {i b off : Nat} {cs cs' : List HVal} (hm : M[i]? = some (.cells b cs)) (h : BowL M cs cs') : Bow M (.raw (.pointer (some ⟨b, off, none⟩))) (.vptr cs' off) := .cells hm h.pt.1 h.pt.2
theorem Bow.vptrL {M : List MObj} {off : Nat} {l l' : List HVal} (h : BowL M l l') : Bow M (.vptr l off) (.vptr l' off) := .vptr h.pt.1 h.pt.2
theorem Bow.fnL {M : List MObj} {f : Fn} {c1 l l' : List HVal} (h : BowL M l l') : Bow M (.fn f c1 l) (.fn f c1 l') := .fn h.pt.1 h.pt.2
theorem Bow.refl {M : List MObj} {h : HVal} : Bow M h h := .weak (Weak.refl _)
theorem V.vptr_inv' {I : Imm} {cs : List HVal} {off : Nat} {v : Value} (h : V I (.vptr cs off) v) : ∃ b base rc el fr, v = .pointer (some ⟨b, base + off, none⟩) ∧ I.heap b = some (.cells rc el fr) ∧ base + cs.length ≤ rc.size ∧
    ∀ (j : Nat) (c : HVal) (v : Value), cs[j]? = some c → rc[base + j]? = some v → V I c v := by
  cases h with
  | vptr h1 h2 h3 => exact ⟨_, _, _, _, _, rfl, h1, h2, h3⟩
theorem Bow.v {M : List MObj} {I : Imm} {F : List MObj} {w : World} {h h' : HVal} (hb : Bow M h h') (hs : Sat P I (M ++ F) w) : ∀ {v : Value}, V I h v → V (allI w) h' v := by
  induction hb with
  | weak hw => intro v hv; exact hw _ _ (hv.mono hs.le_all)
  | arr hm => intro v hv; exact (Bor.arr hm).v hs hv
  | @cells i b off cs cs' hm hl _ ih =>
    intro v hv
    rw [hv.raw_inv]
    obtain ⟨rc, el, fr, h2, h3, h4⟩ := hs.obj _ (List.mem_append_left _ (List.mem_of_getElem? hm))
    have := V.vptr (I := allI w) (cs := cs') (off := off) (base := 0) h2 (by have := h4.1; simp at this; omega) fun j c v a1 a2 => by
      have hj := lt_of_get a1
      have hj' := List.getElem?_eq_getElem (l := cs) (i := j) (by omega)
      exact ih j _ c hj' a1 (h4.2 j _ v hj' (by simpa using a2))
    rwa [Nat.zero_add] at this
  | @map i b L hm =>
    intro v hv
    rw [hv.raw_inv]
    obtain ⟨es, clk, h1, h2, h3⟩ := hs.obj _ (List.mem_append_left _ (List.mem_of_getElem? hm))
    have hn : es.size = L.length := by simpa [sk] using h2
    refine .hmap (I := allI w) h1 (by simp [hn]) (by simp [hn]) (fun j c m a1 a2 => ?_) (fun j c m a1 a2 => ?_)
    · rw [← sk_fst, List.getElem?_map] at a1
      cases hq : (sk L)[j]? with
      | none => rw [hq] at a1; simp at a1
      | some p => rw [hq] at a1; simp at a1; subst a1; exact ((h3 j p m hq a2).1).mono hs.le_all
    · rw [← sk_snd, List.getElem?_map] at a1
      cases hq : (sk L)[j]? with
      | none => rw [hq] at a1; simp at a1
      | some p => rw [hq] at a1; simp at a1; subst a1; exact ((h3 j p m hq a2).2).mono hs.le_all
  | @vptr off l l' hl _ ih =>
    intro v hv
    obtain ⟨b, base, rc, el, fr, rfl, h1, h2, h3⟩ := hv.vptr_inv'
    refine .vptr (I := allI w) (hs.imm _ _ h1) (by omega) fun j c u a1 a2 => ?_
    have hj := lt_of_get a1
    have hj' := List.getElem?_eq_getElem (l := l) (i := j) (by omega)
    exact ih j _ c hj' a1 (h3 j _ u hj' a2)
  | @fn f c1 l l' hl _ ih =>
    intro v hv
    cases hv with
    | fn g1 g2 g3 g4 =>
      refine .fn g1 (by omega) (fun j c u a1 a2 => (g3 j c u a1 a2).mono hs.le_all) fun j c u a1 a2 => ?_
      have hj := lt_of_get a1
      have hj' := List.getElem?_eq_getElem (l := l) (i := j) (by omega)
      exact ih j _ c hj' a1 (g4 j _ u hj' a2)
theorem BowL.vl {M : List MObj} {I : Imm} {F : List MObj} {w : World} (hs : Sat P I (M ++ F) w) : ∀ {hs1 hs2 : List HVal} {vs : List Value}, BowL M hs1 hs2 → VL I hs1 vs → VL (allI w) hs2 vs
  | [], [], vs, _, h => ⟨by have := h.1; simpa using this, fun j c v h1 _ => by simp at h1⟩
  | h :: r, h' :: r', [], _, hv => by have := hv.1; simp at this
  | h :: r, h' :: r', v :: vs, hb, hv => VL.cons (hb.1.v hs hv.head) (BowL.vl hs hb.2 hv.tail)
  | [], _ :: _, _, hb, _ => hb.elim
  | _ :: _, [], _, hb, _ => hb.elim
/-- A function that changes nothing, called while objects are owned that it reads; what it yields hangs on no memory. -/
theorem eop_callw {e : Env} {dst : Option Tmp} {ty : TypeId} {pos : String} {af : Array Edge} {g : Option (Nat × Bool)} {M : List MObj} {K : HVal → List MObj → Prop} {f : FuncId} {args : Array Operand} {ats : Array TypeId} {hs hs' : List HVal} {h : HVal} (hc : Callable P f) (ha : evalL e args.toList = some hs) (hb : BowL M hs hs') (hp : ConP P f hs' h)
    (hg : ground h = true) (hk : K h M) : EOp P e M ⟨dst, .call ⟨.value (.func f), args, ats⟩, ty, pos, af, g⟩ K := fun I F a w ho hsat => by
  have hrun : (execOp a.eval ⟨dst, .call ⟨.value (.func f), args, ats⟩, ty, pos, af, g⟩).run P w = .ok (.enter f (args.toList.map a.eval).toArray) w := by
    simp [execOp, resolve, Act.eval, Deferred.ofValue, invoke, run_callFunc hc]
    apply Array.ext'; simp
  have hv := evalL_V (I := I) (f := a.eval) _ _ ha fun x hx h hh => ho.one (by simp only [Op.operands, Call.operands]; exact Array.mem_append_right _ (by simpa using hx)) hh
  simp only [Oper.wp, hrun, Oper.upon]
  refine (hp (allI w) [] w _ (hb.vl hsat hv) (by simpa using sat_all hsat)).mono ?_
  rintro x w' ⟨v, y, M', J, rfl, h1, ⟨rfl, rfl⟩, h3, h4⟩
  exact ⟨v, _, M, I, rfl, .refl I, hk, ground_V h3 hg, hsat.back h1 h4⟩
end Go.HL
end
