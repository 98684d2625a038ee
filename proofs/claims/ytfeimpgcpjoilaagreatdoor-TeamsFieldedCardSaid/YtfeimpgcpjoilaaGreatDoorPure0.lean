/- Plain functions on lists and numbers: what the small functions of the program compute; no conditions. -/
import Derived.Test.YtfeimpgcpjoilaaGreatDoorHl10
namespace Go.HL
abbrev Str := List UInt8
theorem drop_cons {α : Type} {l : List α} {k : Nat} {x : α} (h : l[k]? = some x) : l.drop k = x :: l.drop (k + 1) := by
  have hlt := lt_of_get h
  rw [List.getElem?_eq_getElem hlt] at h
  rw [List.drop_eq_getElem_cons hlt]
  simp at h
  rw [h]
theorem take_snoc' {α : Type} {l : List α} {k : Nat} {x : α} (h : l[k]? = some x) : l.take (k + 1) = l.take k ++ [x] := by
  have hlt := lt_of_get h
  rw [List.getElem?_eq_getElem hlt] at h
  rw [List.take_succ_eq_append_getElem hlt]
  simp at h
  rw [h]
theorem drop_all {α : Type} {l : List α} {k : Nat} (h : l.length ≤ k) : l.drop k = [] := List.drop_eq_nil_of_le h

theorem hd0 {s : Str} (h : s ≠ []) : s[0]? = some (s.headD 0) := by
  cases s with
  | nil => exact absurd rfl h
  | cons a r => rfl
abbrev eSs (l : List Str) : HVal := .slice 1 (l.map .str)
abbrev eIs (l : List Int) : HVal := .slice 1 (l.map (.int .i64))

def out (n lo hi : Int) : Bool := decide (n < lo) || decide (hi < n)
theorem out_f {n lo hi : Int} (h : out n lo hi = false) : lo ≤ n ∧ n ≤ hi := by simp [out] at h; omega
theorem mul_bd {a b A B : Int} (h1 : 0 ≤ a) (h2 : a ≤ A) (h3 : 0 ≤ b) (h4 : b ≤ B) : 0 ≤ a * b ∧ a * b ≤ A * B :=
  ⟨Int.mul_nonneg h1 h3, Int.mul_le_mul h2 h4 h3 (by omega)⟩
def moment (n : Int) : Bool := !(out n 0 345686399999)
def keyCh (c : UInt8) : Bool := (decide (97 ≤ c.toNat) && decide (c.toNat ≤ 122)) || (decide (48 ≤ c.toNat) && decide (c.toNat ≤ 57)) || c.toNat == 45 || c.toNat == 95
def keyHd (s : Str) : Bool := s != [] && decide (s.length ≤ 40) && decide (97 ≤ (s.headD 0).toNat) && decide ((s.headD 0).toNat ≤ 122)
theorem keyHd_t {s : Str} (h : ((¬s = [] ∧ (s.length : Int) ≤ 40) ∧ 97 ≤ (((List.head? s).getD 0).toNat : Int)) ∧ (((List.head? s).getD 0).toNat : Int) ≤ 122) : keyHd s = true := by
  obtain ⟨⟨⟨h1, h2⟩, h3⟩, h4⟩ := h
  simp [keyHd]; exact ⟨⟨⟨h1, by omega⟩, by omega⟩, by omega⟩
theorem keyHd_f {s : Str} (h : ((s = [] ∨ 40 < (s.length : Int)) ∨ (((List.head? s).getD 0).toNat : Int) < 97) ∨ 122 < (((List.head? s).getD 0).toNat : Int)) : keyHd s = false := by
  rw [Bool.eq_false_iff]; simp [keyHd]
  intro h1 h2 h3
  rcases h with ((h | h) | h) | h
  · exact absurd h h1
  all_goals omega
theorem keyCh_t {x : UInt8} (h : (x.toNat : Int) < 97 ∨ 122 < (x.toNat : Int) → (x.toNat : Int) < 48 ∨ 57 < (x.toNat : Int) → ¬(x.toNat : Int) = 45 → (x.toNat : Int) = 95) : keyCh x = true := by
  simp [keyCh]; omega
theorem keyCh_f {x : UInt8} (h : ((((x.toNat : Int) < 97 ∨ 122 < (x.toNat : Int)) ∧ ((x.toNat : Int) < 48 ∨ 57 < (x.toNat : Int))) ∧ ¬(x.toNat : Int) = 45) ∧ ¬(x.toNat : Int) = 95) : keyCh x = false := by
  rw [Bool.eq_false_iff]; simp [keyCh]; omega
def key (s : Str) : Bool := keyHd s && s.all keyCh
/-- slices.Index of strings -/
def idxOf (s : Str) : List Str → Int → Int
  | [], _ => -1
  | x :: r, k => if s = x then k else idxOf s r (k + 1)
theorem idxOf_nonneg (s : Str) : ∀ (l : List Str) (k : Int), 0 ≤ k → decide (0 ≤ idxOf s l k) = l.contains s
  | [], k, h => by simp [idxOf]
  | x :: r, k, h => by
    have ih := idxOf_nonneg s r (k + 1) (by omega)
    by_cases hx : s = x
    · simp [idxOf, hx, h]
    · have e1 : idxOf s (x :: r) k = idxOf s r (k + 1) := by simp [idxOf, hx]
      rw [e1, ih]; simp [hx]
/-- base.Rising: what is wrong with keys from the k-th on; p: the one before. -/
def rising : Option Str → List Str → Int
  | _, [] => 0
  | p, s :: r => if !key s then 5 else if (match p with | some q => Op.bytesLess s q || s == q | none => false) then 7 else rising (some s) r
end Go.HL
