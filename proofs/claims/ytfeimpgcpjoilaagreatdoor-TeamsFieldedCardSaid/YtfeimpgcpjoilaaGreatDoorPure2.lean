/- Plain functions: what the library's small functions compute, and the order of strings; no conditions. -/
import Derived.Test.YtfeimpgcpjoilaaGreatDoorPure1
import Derived.Lib.Bytealg
namespace Go.HL
open Op (bytesLess)
def cmpI (a b : Int) : Int := if a < b then -1 else if b < a then 1 else 0
def orI : List Int → Int
  | [] => 0
  | x :: r => if x ≠ 0 then x else orI r
abbrev cmpS (a b : Str) : Int := Lib.compareBytes a b

theorem less_irrefl : ∀ a : Str, bytesLess a a = false
  | [] => rfl
  | x :: r => by simp [bytesLess, less_irrefl r]
theorem less_trans : ∀ {a b c : Str}, bytesLess a b = true → bytesLess b c = true → bytesLess a c = true
  | _, [], _, h, _ => by simp [bytesLess] at h
  | _, _ :: _, [], _, h => by simp [bytesLess] at h
  | [], _ :: _, _ :: _, _, _ => by simp [bytesLess]
  | x :: a, y :: b, z :: c, h1, h2 => by
    simp only [bytesLess, Bool.or_eq_true, decide_eq_true_eq, Bool.and_eq_true, beq_iff_eq] at h1 h2 ⊢
    rcases h1 with h1 | ⟨rfl, h1⟩
    · rcases h2 with h2 | ⟨rfl, h2⟩
      · exact .inl (UInt8.lt_trans h1 h2)
      · exact .inl h1
    · rcases h2 with h2 | ⟨rfl, h2⟩
      · exact .inl h2
      · exact .inr ⟨rfl, less_trans h1 h2⟩
theorem less_total : ∀ a b : Str, bytesLess a b = true ∨ a = b ∨ bytesLess b a = true
  | [], [] => .inr (.inl rfl)
  | [], _ :: _ => .inl (by simp [bytesLess])
  | _ :: _, [] => .inr (.inr (by simp [bytesLess]))
  | x :: a, y :: b => by
    rcases UInt8.lt_or_lt_of_ne' x y with h | h | h
    · exact .inl (by simp [bytesLess, h])
    · subst h
      rcases less_total a b with h | h | h
      · exact .inl (by simp [bytesLess, h])
      · exact .inr (.inl (by rw [h]))
      · exact .inr (.inr (by simp [bytesLess, h]))
    · exact .inr (.inr (by simp [bytesLess, h]))
where
  UInt8.lt_or_lt_of_ne' (x y : UInt8) : x < y ∨ x = y ∨ y < x := by
    rcases Nat.lt_trichotomy x.toNat y.toNat with h | h | h
    · exact .inl (UInt8.lt_iff_toNat_lt.2 h)
    · exact .inr (.inl (UInt8.toNat_inj.1 h))
    · exact .inr (.inr (UInt8.lt_iff_toNat_lt.2 h))
theorem less_asymm {a b : Str} (h : bytesLess a b = true) : bytesLess b a = false := by
  cases h2 : bytesLess b a with
  | false => rfl
  | true => have := less_trans h h2; rw [less_irrefl] at this; cases this
theorem leS_iff {a b : Str} : leS a b = !(bytesLess b a) := by
  unfold leS
  rcases less_total a b with h | h | h
  · simp [h, less_asymm h]
  · subst h; simp [less_irrefl]
  · have hne : a ≠ b := fun e => by subst e; rw [less_irrefl] at h; cases h
    simp [h, less_asymm h, hne]
theorem cmpS_eq : ∀ a b : Str, cmpS a b = if bytesLess a b then -1 else if a = b then 0 else 1
  | [], [] => rfl
  | [], _ :: _ => rfl
  | _ :: _, [] => rfl
  | x :: a, y :: b => by
    have ih := cmpS_eq a b
    simp only [cmpS, Lib.compareBytes] at ih ⊢
    by_cases h1 : x < y
    · simp [bytesLess, h1]
    · by_cases h2 : y < x
      · have hne : ¬ x = y := fun e => by subst e; exact absurd h2 h1
        simp [bytesLess, h1, h2, hne]
      · have he : x = y := by
          rcases Nat.lt_trichotomy x.toNat y.toNat with h | h | h
          · exact absurd (UInt8.lt_iff_toNat_lt.2 h) h1
          · exact UInt8.toNat_inj.1 h
          · exact absurd (UInt8.lt_iff_toNat_lt.2 h) h2
        subst he
        simp [bytesLess, h1, ih]

theorem mid_eq {i j : Nat} (h : i + j ≤ 2000000) : HVal.int .i64 (IntKind.wrap .i64 ((IntKind.wrap .u64 ((i : Int) + (j : Int))).fdiv (2 ^ min (Int.toNat 1) (IntKind.bits .u64)))) = .int .i64 (((i + j) / 2 : Nat) : Int) := by
  have h1 : IntKind.wrap .u64 ((i : Int) + (j : Int)) = ((i + j : Nat) : Int) := by simp [IntKind.wrap, IntKind.bits, IntKind.signed]; omega
  have h2 : min (Int.toNat 1) (IntKind.bits .u64) = 1 := by decide
  rw [h1, h2]
  have h3 : (((i + j : Nat) : Int).fdiv (2 ^ 1)) = (((i + j) / 2 : Nat) : Int) := by
    rw [Int.fdiv_eq_ediv_of_nonneg _ (by decide)]; rfl
  rw [h3, wrap64 (by omega) (by omega)]

def SortedS (l : List Str) : Prop := List.Pairwise (fun a b => bytesLess a b = true) l
theorem SortedS.get {l : List Str} (h : SortedS l) {i j : Nat} {a b : Str} (hij : i < j) (ha : l[i]? = some a) (hb : l[j]? = some b) : bytesLess a b = true := by
  have h1 := lt_of_get ha
  have h2 := lt_of_get hb
  have := List.pairwise_iff_getElem.1 h i j h1 h2 hij
  rw [List.getElem?_eq_getElem h1] at ha
  rw [List.getElem?_eq_getElem h2] at hb
  simp at ha hb
  rw [← ha, ← hb]; exact this
theorem bs_up {l : List Str} (hs : SortedS l) {s x : Str} {m : Nat} (hx : l[m]? = some x) (h : Op.bytesLess x s = true) : ∀ (k : Nat) (y : Str), k < m + 1 → l[k]? = some y → Op.bytesLess y s = true := fun k y hk hy => by
  by_cases e : k = m
  · subst e; rw [hx] at hy; cases hy; exact h
  · exact less_trans (hs.get (by omega : k < m) hy hx) h
theorem bs_dn {l : List Str} (hs : SortedS l) {s x : Str} {m : Nat} (hx : l[m]? = some x) (h : Op.bytesLess x s = false) : ∀ (k : Nat) (y : Str), m ≤ k → l[k]? = some y → Op.bytesLess y s = false := fun k y hk hy => by
  by_cases e : k = m
  · subst e; rw [hx] at hy; cases hy; exact h
  · cases hq : Op.bytesLess y s with
    | false => rfl
    | true => have := less_trans (hs.get (by omega : m < k) hx hy) hq; rw [h] at this; cases this
theorem bs_found {l : List Str} {s : Str} {i : Nat} (b : Bool) : (bif decide ((i : Int) < (l.length : Int)) then bif l.getD i [] == s then true else bif false then b else false else false) = (l[i]? == some s) := by
  by_cases h : i < l.length
  · have h' : (i : Int) < (l.length : Int) := by omega
    simp only [h', decide_true, cond_true, cond_false, getD_some (d := []) h]
    cases hb : l.getD i [] == s with
    | true => simp at hb; simp [hb]
    | false => simp at hb; simp [hb]
  · have h' : ¬ (i : Int) < (l.length : Int) := by omega
    simp [h', List.getElem?_eq_none (by omega : l.length ≤ i)]
/-- where s stands, or would stand -/
def posS (l : List Str) (s : Str) : Nat := l.countP fun x => bytesLess x s
theorem posS_eq {l : List Str} {s : Str} {i : Nat} (hi : i ≤ l.length) (h1 : ∀ (k : Nat) (x : Str), k < i → l[k]? = some x → bytesLess x s = true) (h2 : ∀ (k : Nat) (x : Str), i ≤ k → l[k]? = some x → bytesLess x s = false) :
    posS l s = i := by
  unfold posS
  have e : l = l.take i ++ l.drop i := (List.take_append_drop i l).symm
  rw [e, List.countP_append]
  have a1 : (l.take i).countP (fun x => bytesLess x s) = (l.take i).length := by
    rw [List.countP_eq_length]
    intro x hx
    obtain ⟨k, hk, rfl⟩ := List.getElem_of_mem hx
    simp only [List.length_take] at hk
    refine h1 k _ (by omega) ?_
    rw [List.getElem_take]
    exact List.getElem?_eq_getElem (by omega)
  have a2 : (l.drop i).countP (fun x => bytesLess x s) = 0 := by
    rw [List.countP_eq_zero]
    intro x hx
    obtain ⟨k, hk, rfl⟩ := List.getElem_of_mem hx
    simp at hk
    have := h2 (i + k) (l[i + k]) (by omega) (List.getElem?_eq_getElem (by omega))
    rw [List.getElem_drop]
    simp [this]
  rw [a1, a2]
  simp; omega
theorem found_eq {l : List Str} {s : Str} (hs : SortedS l) {i : Nat} (hi : i ≤ l.length) (h1 : ∀ (k : Nat) (x : Str), k < i → l[k]? = some x → bytesLess x s = true) (h2 : ∀ (k : Nat) (x : Str), i ≤ k → l[k]? = some x → bytesLess x s = false) :
    (l[i]? == some s) = l.contains s := by
  rw [Bool.eq_iff_iff]
  simp
  constructor
  · intro h; exact List.mem_of_getElem? h
  · intro h
    obtain ⟨k, hk, rfl⟩ := List.getElem_of_mem h
    have hk' := List.getElem?_eq_getElem hk
    rcases Nat.lt_trichotomy k i with h3 | h3 | h3
    · have := h1 k _ h3 hk'; rw [less_irrefl] at this; cases this
    · subst h3; exact hk'
    · have hii : i < l.length := by omega
      have hlt := hs.get h3 (List.getElem?_eq_getElem hii) hk'
      have := h2 i _ (Nat.le_refl _) (List.getElem?_eq_getElem hii)
      rw [hlt] at this; cases this
/-- slices.IndexFunc -/
def idxF {α : Type} (p : α → Bool) : List α → Int → Int
  | [], _ => -1
  | x :: r, k => if p x then k else idxF p r (k + 1)
theorem idxF_nonneg {α : Type} (p : α → Bool) : ∀ (l : List α) (k : Int), 0 ≤ k → decide (0 ≤ idxF p l k) = l.any p
  | [], k, h => by simp [idxF]
  | x :: r, k, h => by
    have ih := idxF_nonneg p r (k + 1) (by omega)
    by_cases hx : p x = true
    · simp [idxF, hx, h]
    · have e1 : idxF p (x :: r) k = idxF p r (k + 1) := by simp [idxF, hx]
      rw [e1, ih]; simp [hx]
def eqPick (a b : Pick) : Bool := eqHL (hcells (ePick a)) (hcells (ePick b))
def eqPicks : List Pick → List Pick → Bool
  | [], [] => true
  | a :: r, b :: r' => eqPick a b && eqPicks r r'
  | _, _ => false
theorem eqPicks_len : ∀ {l m : List Pick}, l.length ≠ m.length → eqPicks l m = false
  | [], [], h => absurd rfl h
  | [], _ :: _, _ => rfl
  | _ :: _, [], _ => rfl
  | a :: r, b :: r', h => by simp [eqPicks, eqPicks_len (l := r) (m := r') (by simpa using h)]
end Go.HL
