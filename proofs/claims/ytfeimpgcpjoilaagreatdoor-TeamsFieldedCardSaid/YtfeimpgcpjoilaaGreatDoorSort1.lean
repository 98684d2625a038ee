/- Plain facts on sorting by insertion with a comparison that answers a number; no conditions. -/
import Derived.Test.YtfeimpgcpjoilaaGreatDoorPure8
namespace Go.HL
section
variable {α : Type} (c : α → α → Int)
def insF (x : α) : List α → List α
  | [] => [x]
  | y :: t => if c x y < 0 then y :: insF x t else x :: y :: t
def insB (x : α) (S : List α) : List α := (insF c x S.reverse).reverse
def isort (l : List α) : List α := l.foldl (fun S x => insB c x S) []
theorem insB_nil (x : α) : insB c x [] = [x] := rfl
theorem insB_snoc (x y : α) (S : List α) : insB c x (S ++ [y]) = if c x y < 0 then insB c x S ++ [y] else S ++ [y, x] := by
  unfold insB
  rw [List.reverse_append]
  simp only [List.reverse_cons, List.reverse_nil, List.nil_append, List.singleton_append, insF]
  split <;> simp
theorem isort_nil : isort c [] = [] := rfl
theorem isort_snoc (l : List α) (x : α) : isort c (l ++ [x]) = insB c x (isort c l) := by simp [isort, List.foldl_append]
theorem isort_one (x : α) : isort c [x] = [x] := rfl
theorem insF_perm (x : α) : ∀ l, (insF c x l).Perm (x :: l)
  | [] => .refl _
  | y :: t => by
    simp only [insF]; split
    · exact ((insF_perm x t).cons y).trans (.swap _ _ _)
    · exact .refl _
theorem insB_perm (x : α) (S : List α) : (insB c x S).Perm (x :: S) := by
  unfold insB
  exact (List.reverse_perm _).trans ((insF_perm c x _).trans ((List.reverse_perm S).cons x))
theorem foldl_perm : ∀ (l S : List α), (l.foldl (fun S x => insB c x S) S).Perm (S ++ l)
  | [], S => by simp
  | x :: l, S => by
    simp only [List.foldl_cons]
    refine (foldl_perm l _).trans ?_
    refine ((insB_perm c x S).append_right l).trans ?_
    exact (List.perm_middle (a := x) (l₁ := S) (l₂ := l)).symm
theorem isort_perm (l : List α) : (isort c l).Perm l := by
  have := foldl_perm c l []
  simpa [isort] using this
theorem isort_len (l : List α) : (isort c l).length = l.length := (isort_perm c l).length_eq
theorem isort_mem {l : List α} {x : α} : x ∈ isort c l ↔ x ∈ l := (isort_perm c l).mem_iff
theorem insB_len (x : α) (S : List α) : (insB c x S).length = S.length + 1 := (insB_perm c x S).length_eq

/-- A comparison by which things stand in one line, as far as they are in s. -/
structure Cmp (s : α → Prop) : Prop where
  flip : ∀ x y, s x → s y → (c x y < 0 ↔ 0 < c y x)
  trans : ∀ x y z, s x → s y → s z → c x y ≤ 0 → c y z ≤ 0 → c x z ≤ 0
variable {c}
theorem insF_sorted {s : α → Prop} (hc : Cmp c s) {x : α} (hx : s x) : ∀ {l : List α}, (∀ y ∈ l, s y) → l.Pairwise (fun a b => c b a ≤ 0) → (insF c x l).Pairwise (fun a b => c b a ≤ 0)
  | [], _, _ => by simp [insF]
  | y :: t, hs, hp => by
    have hy := hs y (by simp)
    have ht : ∀ z ∈ t, s z := fun z hz => hs z (List.mem_cons_of_mem _ hz)
    obtain ⟨h1, h2⟩ := List.pairwise_cons.1 hp
    simp only [insF]
    split
    · rename_i hlt
      refine List.pairwise_cons.2 ⟨fun z hz => ?_, insF_sorted hc hx ht h2⟩
      rcases List.mem_cons.1 ((insF_perm c x t).mem_iff.1 hz) with rfl | hz
      · omega
      · exact h1 z hz
    · rename_i hge
      have hyx : c y x ≤ 0 := by
        have := (hc.flip x y hx hy)
        omega
      refine List.pairwise_cons.2 ⟨fun z hz => ?_, hp⟩
      rcases List.mem_cons.1 hz with rfl | hz
      · exact hyx
      · exact hc.trans z y x (ht z hz) hy hx (h1 z hz) hyx
theorem insB_sorted {s : α → Prop} (hc : Cmp c s) {x : α} (hx : s x) {l : List α} (hs : ∀ y ∈ l, s y) (hp : l.Pairwise (fun a b => c a b ≤ 0)) : (insB c x l).Pairwise (fun a b => c a b ≤ 0) := by
  unfold insB
  rw [List.pairwise_reverse]
  exact insF_sorted hc hx (fun y hy => hs y (List.mem_reverse.1 hy)) (List.pairwise_reverse.2 hp)
theorem isort_sorted {s : α → Prop} (hc : Cmp c s) {l : List α} (hs : ∀ y ∈ l, s y) : (isort c l).Pairwise (fun a b => c a b ≤ 0) := by
  have key : ∀ (n : Nat), n ≤ l.length → (isort c (l.take n)).Pairwise (fun a b => c a b ≤ 0) := by
    intro n
    induction n with
    | zero => intro _; simp [isort]
    | succ n ih =>
      intro hn
      have hx := List.getElem?_eq_getElem (l := l) (i := n) (by omega)
      rw [take_snoc' hx, isort_snoc]
      exact insB_sorted hc (hs _ (List.mem_of_getElem? hx)) (fun y hy => hs y (List.mem_of_mem_take ((isort_perm c _).mem_iff.1 hy))) (ih (by omega))
  have := key l.length (Nat.le_refl _)
  rwa [List.take_length] at this
/-- Where no two are alike the order is that of the things, however they came. -/
theorem isort_unique {s : α → Prop} (hc : Cmp c s) {l m : List α} (hs : ∀ y ∈ l, s y) (he : ∀ x y, x ∈ l → y ∈ l → c x y = 0 → x = y) (hp : l.Perm m) : isort c l = isort c m := by
  have hm : ∀ y ∈ m, s y := fun y hy => hs y (hp.mem_iff.2 hy)
  refine List.Perm.eq_of_pairwise (le := fun a b => c a b ≤ 0) ?_ (isort_sorted hc hs) (isort_sorted hc hm) ((isort_perm c l).trans (hp.trans (isort_perm c m).symm))
  intro a b ha hb h1 h2
  have ha' := (isort_perm c l).mem_iff.1 ha
  have hb' := hp.mem_iff.2 ((isort_perm c m).mem_iff.1 hb)
  refine he a b ha' hb' ?_
  have f1 := hc.flip a b (hs a ha') (hs b hb')
  have f2 := hc.flip b a (hs b hb') (hs a ha')
  omega
/-- Two comparisons that answer alike of what comes later against what came before. -/
theorem isort_congr {c d : α → α → Int} {l : List α} (h : ∀ (i j : Nat) (x y : α), i < j → l[i]? = some y → l[j]? = some x → (c x y < 0 ↔ d x y < 0)) : isort c l = isort d l := by
  have hF : ∀ (x : α) (S : List α), (∀ y ∈ S, (c x y < 0 ↔ d x y < 0)) → insF c x S = insF d x S := by
    intro x S
    induction S with
    | nil => intro _; rfl
    | cons y t ih =>
      intro hy
      have h0 := hy y (by simp)
      simp only [insF]
      rw [ih fun z hz => hy z (List.mem_cons_of_mem _ hz)]
      by_cases hh : c x y < 0
      · rw [if_pos hh, if_pos (h0.1 hh)]
      · rw [if_neg hh, if_neg (fun h => hh (h0.2 h))]
  have key : ∀ n, n ≤ l.length → isort c (l.take n) = isort d (l.take n) := by
    intro n
    induction n with
    | zero => intro _; rfl
    | succ n ih =>
      intro hn
      have hx := List.getElem?_eq_getElem (l := l) (i := n) (by omega)
      rw [take_snoc' hx, isort_snoc, isort_snoc, ih (by omega)]
      unfold insB
      rw [hF]
      intro y hy
      have hy' := (isort_perm d _).mem_iff.1 (List.mem_reverse.1 hy)
      obtain ⟨i, hi, rfl⟩ := List.getElem_of_mem hy'
      have hi' : i < n := by simp at hi; omega
      exact h i n _ _ hi' (by rw [List.getElem_take]; exact List.getElem?_eq_getElem _) hx
  have := key l.length (Nat.le_refl _)
  rwa [List.take_length] at this
end
end Go.HL
