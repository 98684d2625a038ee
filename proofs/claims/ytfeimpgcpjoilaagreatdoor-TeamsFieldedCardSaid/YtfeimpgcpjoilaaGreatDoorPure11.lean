/- Plain facts: a list has a repeat if its sorted form, repeats left out, is shorter; so the references on keeps and swaps answer as the program does; no conditions. -/
import Derived.Test.YtfeimpgcpjoilaaGreatDoorPure8
namespace Go.HL
open Op (bytesLess)
/-- A list without the elements that equal the one before (p ahead of the first). -/
def uniqP (p : Option Str) : List Str → List Str
  | [] => []
  | x :: r => if p = some x then uniqP (some x) r else x :: uniqP (some x) r
theorem uniqP_snoc (x : Str) : ∀ (l : List Str) (p : Option Str), uniqP p (l ++ [x]) = uniqP p l ++ if (l.getLast?.or p) = some x then [] else [x]
  | [], p => by
    by_cases h : p = some x
    · simp only [List.nil_append, uniqP]
      rw [if_pos h, if_pos (by simpa using h)]
    · simp only [List.nil_append, uniqP]
      rw [if_neg h, if_neg (by simpa using h)]
  | y :: l, p => by
    have ih := uniqP_snoc x l (some y)
    have e : (y :: l).getLast?.or p = l.getLast?.or (some y) := by
      cases l with
      | nil => simp
      | cons z r => simp [List.getLast?_cons_cons]; rw [List.getLast?_eq_some_getLast (by simp)]; simp
    rw [e]
    simp only [List.cons_append, uniqP, ih]
    split <;> simp
theorem compactUpTo_uniq (l : List Str) : ∀ m, m ≤ l.length → Lib.compactUpTo l.toArray m = uniqP none (l.take m)
  | 0, _ => by simp [Lib.compactUpTo, uniqP]
  | m + 1, h => by
    have hm : m < l.length := by omega
    have hx := List.getElem?_eq_getElem hm
    rw [Lib.compactUpTo_succ, compactUpTo_uniq l m (by omega), take_snoc' hx, uniqP_snoc]
    congr 1
    have e1 : l.toArray[m]! = l[m] := by simp [getElem!_pos, hm]
    rw [e1]
    cases m with
    | zero => simp [Lib.keeps]
    | succ m =>
      have hl : (l.take (m + 1)).getLast? = some l[m] := by
        rw [take_snoc' (List.getElem?_eq_getElem (show m < l.length by omega)), List.getLast?_append]; rfl
      have e2 : l.toArray[m]! = l[m] := by simp [getElem!_pos, show m < l.length by omega]
      rw [hl]
      simp only [Lib.keeps, e1, Nat.add_sub_cancel, e2]
      by_cases hh : l[m] = l[m + 1]
      · simp [hh]
      · have hh' : ¬ l[m + 1] = l[m] := fun h => hh h.symm
        simp [hh, hh']
theorem compact_uniq (l : List Str) : Lib.compact l = uniqP none l := by
  unfold Lib.compact
  rw [compactUpTo_uniq l _ (Nat.le_refl _), List.take_length]
theorem uniqP_le : ∀ (l : List Str) (p : Option Str), (uniqP p l).length ≤ l.length
  | [], _ => Nat.le_refl _
  | x :: r, p => by
    have := uniqP_le r (some x)
    simp only [uniqP]; split <;> simp <;> omega
theorem uniqP_nodup : ∀ (l : List Str) (p : Str), (p :: l).Pairwise (fun x y => x ≤ y) → ((uniqP (some p) l).length = l.length ↔ (p :: l).Nodup)
  | [], p, _ => by simp [uniqP]
  | x :: r, p, h => by
    have h1 := List.pairwise_cons.1 h
    have ih := uniqP_nodup r x h1.2
    have hle := uniqP_le r (some x)
    simp only [uniqP]
    by_cases hp : p = x
    · subst hp
      simp; omega
    · rw [if_neg (by simpa using hp)]
      simp only [List.length_cons, Nat.add_right_cancel_iff, ih]
      constructor
      · intro hn
        refine List.nodup_cons.2 ⟨fun hm => ?_, hn⟩
        rcases List.mem_cons.1 hm with h2 | h2
        · exact hp h2
        · have a1 := h1.1 x (by simp)
          have a2 := (List.pairwise_cons.1 h1.2).1 p h2
          exact hp (List.le_antisymm a1 a2)
      · intro hn; exact (List.nodup_cons.1 hn).2
theorem sortS_sorted (l : List Str) : (sortS l).Pairwise (fun x y => x ≤ y) := by
  have := List.pairwise_mergeSort (le := fun x y : Str => decide (x ≤ y)) (fun a b c h1 h2 => by
    simp only [decide_eq_true_eq] at *; exact List.le_trans h1 h2) (fun a b => by
    simp only [Bool.or_eq_true, decide_eq_true_eq]; exact List.le_total a b) l
  exact this.imp (fun h => by simpa using h)
theorem isTwice_eq (l : List Str) : isTwice l = !decide l.Nodup := by
  unfold isTwice
  rw [compact_uniq]
  have hp : (sortS l).Perm l := List.mergeSort_perm _ _
  have hs := sortS_sorted l
  rw [Bool.eq_iff_iff]
  simp only [decide_eq_true_eq, Bool.not_eq_true', decide_eq_false_iff_not]
  rw [← sortS_len l, ← hp.nodup_iff]
  revert hs
  generalize sortS l = s
  intro hs
  cases s with
  | nil => simp [uniqP]
  | cons x r =>
    have := uniqP_nodup r x hs
    have hle := uniqP_le r (some x)
    simp only [uniqP, reduceCtorEq, if_false, List.length_cons]
    rw [← this]; omega
theorem sadd_mem (s t : Str) (l : List Str) : t ∈ sadd s l ↔ t = s ∨ t ∈ l := by
  unfold sadd
  split
  · rename_i h
    simp only [List.contains_iff_mem] at h
    constructor
    · exact .inr
    · rintro (rfl | h')
      · exact h
      · exact h'
  · simp [or_comm]
theorem keepsGo_ref (r : Room) (l : List Keep) : ∀ (t : List Keep) (k : Nat) (kept who : List Str) (tw : Bool), (∀ s, s ∈ kept ↔ s ∈ who) → tw = !decide who.Nodup → keepsGo r l k kept tw t = refKeepsGo r l k who t
  | [], k, kept, who, tw, h1, h2 => by simp [keepsGo, refKeepsGo, isTwice_eq, h2]
  | x :: t, k, kept, who, tw, h1, h2 => by
    simp only [keepsGo, refKeepsGo]
    rw [keepsGo_ref r l t (k + 1) (sadd x.Player kept) (who ++ [x.Player]) (tw || kept.contains x.Player)]
    · intro s; rw [sadd_mem, h1]; simp [or_comm]
    · rw [h2]
      have : kept.contains x.Player = who.contains x.Player := by
        rw [Bool.eq_iff_iff]; simp only [List.contains_iff_mem]; exact h1 _
      rw [this, Bool.eq_iff_iff]
      simp only [Bool.or_eq_true, Bool.not_eq_true', decide_eq_false_iff_not, List.contains_iff_mem, List.nodup_append]
      constructor
      · rintro (h | h) hn
        · exact h hn.1
        · exact hn.2.2 _ h _ (by simp) rfl
      · intro h
        by_cases hm : x.Player ∈ who
        · exact .inr hm
        · refine .inl fun hn => h ⟨hn, by simp, fun a ha b hb => ?_⟩
          simp at hb; subst hb
          exact fun e => hm (e ▸ ha)
theorem checkKeeps_ref (r : Room) (l : List Keep) : checkKeeps r l = if checkRoom r != 0 then checkRoom r else refKeeps r l := by
  unfold checkKeeps refKeeps
  rw [keepsGo_ref r l l 0 [] [] false (fun _ => Iff.rfl) (by simp)]
theorem checkSwaps_ref (r : Room) (l : List Swap) : checkSwaps r l = if checkRoom r != 0 then checkRoom r else refSwaps r l := rfl
theorem openFault_ref (r : Room) (k : List Keep) (s : List Swap) : refOpenFault r k s = openFault r k s := by
  unfold refOpenFault openFault draftFault
  rw [checkKeeps_ref, checkSwaps_ref]
  by_cases h : checkRoom r = 0
  · simp [h]
  · have : (checkRoom r != 0) = true := by simpa using h
    simp only [this, if_true]
    simp [orI, h]
end Go.HL
