/- Plain facts on the keeps and swaps that are drawn; no conditions. -/
import Derived.Test.YtfeimpgcpjoilaaGreatDoorPure10
import Derived.Test.YtfeimpgcpjoilaaGreatDoorPure11
namespace Go.HL
def Sh (s : Str) : Prop := s.length ≤ 1000000
structure GoodKeeps (k : List Keep) : Prop where
  len : k.length ≤ 20
  str : ∀ x ∈ k, Sh x.Team ∧ Sh x.Player
structure GoodSwaps (k : List Swap) : Prop where
  len : k.length ≤ 20
  str : ∀ x ∈ k, Sh x.Of ∧ Sh x.Team
/-- The state of KeepList's loops. -/
structure KLs where
  u : Value
  out : List Keep
  lv : Value
  left : List Str
  a : Nat
structure KLok (n a : Nat) (q : KLs) : Prop where
  out : q.out.length ≤ n
  left : q.left.length ≤ 20
  ls : ∀ s ∈ q.left, Sh s
  os : ∀ x ∈ q.out, Sh x.Team ∧ Sh x.Player
  a : q.a ≤ a + 2 * n
theorem mem_uniqP : ∀ (l : List Str) (p : Option Str) (s : Str), s ∈ uniqP p l → s ∈ l
  | [], _, s, h => by simp [uniqP] at h
  | x :: r, p, s, h => by
    simp only [uniqP] at h
    split at h
    · exact List.mem_cons_of_mem _ (mem_uniqP r _ s h)
    · rcases List.mem_cons.1 h with h | h
      · subst h; simp
      · exact List.mem_cons_of_mem _ (mem_uniqP r _ s h)
theorem mem_cs {l : List Str} {s : Str} (h : s ∈ Lib.compact (sortS l)) : s ∈ l := by
  rw [compact_uniq] at h
  have := mem_uniqP _ _ _ h
  exact (List.mergeSort_perm _ _).mem_iff.1 this
theorem mem_compact {l : List Str} {s : Str} (h : s ∈ Lib.compact l) : s ∈ l := by
  rw [compact_uniq] at h
  exact mem_uniqP _ _ _ h
theorem cs_len (l : List Str) : (Lib.compact (sortS l)).length ≤ l.length := by
  have := compact_le (sortS l); rw [sortS_len] at this; exact this
theorem KLok.more {n a : Nat} {u lv : Value} {out : List Keep} {left : List Str} {a1 a2 : Nat} (h : KLok n a ⟨u, out, lv, left, a1⟩) (h1 : a2 ≤ a1 + 2) : KLok (n + 1) a ⟨u, out, lv, left, a2⟩ :=
  ⟨by have := h.out; dsimp only at *; omega, h.left, h.ls, h.os, by have := h.a; dsimp only at *; omega⟩
theorem KLok.add {n a : Nat} {u u' lv lv' : Value} {out : List Keep} {left : List Str} {a1 a2 k : Nat} {t p : Str} {rd : Int} (h : KLok n a ⟨u, out, lv, left, a1⟩) (h1 : a2 ≤ a1 + 2) (ht : Sh t) (hp : left[k]? = some p) :
    KLok (n + 1) a ⟨u', out ++ [⟨t, p, rd⟩], lv', left.eraseIdx k, a2⟩ :=
  ⟨by have := h.out; simp at *; omega, by have := h.left; have := List.length_eraseIdx_le left k; dsimp only at *; omega, fun s hs => h.ls s (List.mem_of_mem_eraseIdx hs), fun x hx => by
    rcases List.mem_append.1 hx with hx | hx
    · exact h.os x hx
    · simp at hx; subst hx; exact ⟨ht, h.ls p (List.mem_of_getElem? hp)⟩, by have := h.a; dsimp only at *; omega⟩
theorem set_self {α : Type} {l : List α} {j : Nat} {x y : α} (h : l[j]? = some y) : (l.set j x)[j]? = some x := by
  rw [List.getElem?_set_self (lt_of_get h)]
theorem map_get {α β : Type} {f : α → β} {l : List α} {j : Nat} {x : α} (h : l[j]? = some x) : (l.map f)[j]? = some (f x) := by
  rw [List.getElem?_map, h]; rfl
theorem zz_sh : Sh [122, 122] := by simp [Sh]
theorem mem_set_of {α : Type} {l : List α} {j : Nat} {x y : α} (h : x ∈ l.set j y) : x = y ∨ x ∈ l := by
  rcases List.mem_or_eq_of_mem_set h with h | h
  · exact .inr h
  · exact .inl h
theorem keeps_set {k : List Keep} {j : Nat} {y : Keep} (h : ∀ x ∈ k, Sh x.Team ∧ Sh x.Player) (h1 : Sh y.Team) (h2 : Sh y.Player) : ∀ x ∈ k.set j y, Sh x.Team ∧ Sh x.Player := fun x hx => by
  rcases mem_set_of hx with rfl | hx
  · exact ⟨h1, h2⟩
  · exact h x hx
theorem swaps_set {k : List Swap} {j : Nat} {y : Swap} (h : ∀ x ∈ k, Sh x.Of ∧ Sh x.Team) (h1 : Sh y.Of) (h2 : Sh y.Team) : ∀ x ∈ k.set j y, Sh x.Of ∧ Sh x.Team := fun x hx => by
  rcases mem_set_of hx with rfl | hx
  · exact ⟨h1, h2⟩
  · exact h x hx
/-- The state of SwapList's loops: what is out, the row of teams, the draws. -/
structure SLs where
  u : Value
  out : List Swap
  row : List Str
  a : Nat
structure SLok (n a : Nat) (q : SLs) : Prop where
  out : q.out.length ≤ n
  row : q.row.length ≤ 4
  rs : ∀ s ∈ q.row, Sh s
  os : ∀ x ∈ q.out, Sh x.Of ∧ Sh x.Team
  a : q.a ≤ a + 2 * n
theorem SLok.more {n a : Nat} {u : Value} {out : List Swap} {row : List Str} {a1 a2 : Nat} (h : SLok n a ⟨u, out, row, a1⟩) (h1 : a2 ≤ a1 + 2) : SLok (n + 1) a ⟨u, out, row, a2⟩ :=
  ⟨by have := h.out; dsimp only at *; omega, h.row, h.rs, h.os, by have := h.a; dsimp only at *; omega⟩
theorem SLok.mono {n m a : Nat} {q : SLs} (h : SLok n a q) (hm : n ≤ m) : SLok m a q :=
  ⟨by have := h.out; omega, h.row, h.rs, h.os, by have := h.a; omega⟩
theorem KLok.mono {n m a : Nat} {q : KLs} (h : KLok n a q) (hm : n ≤ m) : KLok m a q :=
  ⟨by have := h.out; omega, h.left, h.ls, h.os, by have := h.a; omega⟩
theorem SLok.rowTo {n a : Nat} {u : Value} {out : List Swap} {row row' : List Str} {a1 : Nat} (h : SLok n a ⟨u, out, row, a1⟩) (h1 : row'.length ≤ 4) (h2 : ∀ s ∈ row', Sh s) : SLok n a ⟨u, out, row', a1⟩ :=
  ⟨h.out, h1, h2, h.os, h.a⟩
def fillUp (n : Nat) (l : List Str) : List Str := l ++ List.replicate (n - l.length) []
theorem fillUp_len {n : Nat} {l : List Str} (h : l.length ≤ n) : (fillUp n l).length = n := by simp [fillUp]; omega
theorem fillUp_get {n k : Nat} {l : List Str} {x : Str} (h : l[k]? = some x) : (fillUp n l)[k]? = some x := by
  unfold fillUp; rw [List.getElem?_append_left (lt_of_get h)]; exact h
theorem fillUp_sh {n : Nat} {l : List Str} (h : ∀ s ∈ l, Sh s) : ∀ s ∈ fillUp n l, Sh s := fun s hs => by
  rcases List.mem_append.1 hs with h1 | h1
  · exact h s h1
  · rw [(List.mem_replicate.1 h1).2]; simp [Sh]
theorem SLok.add {n a : Nat} {u u' : Value} {out : List Swap} {row : List Str} {a1 a2 : Nat} {t p : Str} {rd : Int} (h : SLok n a ⟨u, out, row, a1⟩) (h1 : a2 ≤ a1 + 2) (ht : Sh t) (hp : Sh p) :
    SLok (n + 1) a ⟨u', out ++ [⟨rd, t, p⟩], row, a2⟩ :=
  ⟨by have := h.out; simp at *; omega, h.row, h.rs, fun x hx => by
    rcases List.mem_append.1 hx with hx | hx
    · exact h.os x hx
    · simp at hx; subst hx; exact ⟨ht, hp⟩, by have := h.a; dsimp only at *; omega⟩
end Go.HL
