/- Plain facts on sets of bytes and on trimming; no conditions. -/
import Derived.Test.YtfeimpgcpjoilaaGreatDoorPure5
import Derived.Test.YtfeimpgcpjoilaaGreatDoorHl11
namespace Go.HL
def asciiSet (l : List UInt8) : List HVal := (List.range 256).map fun i => .bool (l.contains (UInt8.ofNat i))
theorem asciiSet_len (l : List UInt8) : (asciiSet l).length = 256 := by simp [asciiSet]
theorem asciiSet_get (l : List UInt8) (c : UInt8) : (asciiSet l)[c.toNat]? = some (.bool (l.contains c)) := by
  have := c.toNat_lt
  simp [asciiSet, List.getElem?_range, this]
theorem flat_bools {α : Type} (f : α → Bool) : ∀ l : List α, flat (l.map fun i => .bool (f i)) = true
  | [] => rfl
  | x :: l => by simp only [List.map_cons, flat]; exact flat_bools f l
theorem asciiSet_flat (l : List UInt8) : flat (asciiSet l) = true := flat_bools _ _
theorem asciiSet_add (l : List UInt8) (c : UInt8) : setL (asciiSet l) (0 + c.toNat * 1) [.bool true] = asciiSet (l ++ [c]) := by
  have hc := c.toNat_lt
  have hl : 0 + c.toNat * 1 = c.toNat := by omega
  rw [hl]
  apply List.ext_getElem?
  intro i
  have hlen := asciiSet_len l
  simp only [setL, List.length_singleton]
  by_cases hi : i < c.toNat
  · rw [List.getElem?_append_left (by simp; omega), List.getElem?_append_left (by simp [hlen]; omega), List.getElem?_take_of_lt hi]
    have h256 : i < 256 := by omega
    have hne : UInt8.ofNat i ≠ c := fun h => by
      have := congrArg UInt8.toNat h
      rw [UInt8.toNat_ofNat_of_lt' (by simpa [UInt8.size] using h256)] at this; omega
    simp [asciiSet, List.getElem?_range, h256, hne]
  · by_cases he : i = c.toNat
    · subst he
      rw [List.getElem?_append_left (by simp [hlen]; omega), List.getElem?_append_right (by simp [hlen]; omega)]
      rw [asciiSet_get]
      simp [hlen, Nat.min_eq_left (Nat.le_of_lt hc)]
    · rw [List.getElem?_append_right (by simp [hlen]; omega), List.getElem?_drop]
      have e1 : c.toNat + 1 + (i - ((asciiSet l).take c.toNat ++ [HVal.bool true]).length) = i := by simp [hlen]; omega
      rw [e1]
      by_cases h256 : i < 256
      · have hne : UInt8.ofNat i ≠ c := fun h => by
          have := congrArg UInt8.toNat h
          rw [UInt8.toNat_ofNat_of_lt' (by simpa [UInt8.size] using h256)] at this; omega
        simp [asciiSet, List.getElem?_range, h256, hne]
      · rw [List.getElem?_eq_none (by rw [asciiSet_len]; omega), List.getElem?_eq_none (by rw [asciiSet_len]; omega)]
def rtrim (p : UInt8 → Bool) (s : Str) : Str := (s.reverse.dropWhile p).reverse
theorem rtrim_snoc (p : UInt8 → Bool) (s : Str) (c : UInt8) : rtrim p (s ++ [c]) = if p c then rtrim p s else s ++ [c] := by
  unfold rtrim
  rw [List.reverse_append]
  simp only [List.reverse_cons, List.reverse_nil, List.nil_append, List.singleton_append, List.dropWhile_cons]
  split <;> simp
theorem dw_len (p : UInt8 → Bool) : ∀ s : Str, (s.dropWhile p).length ≤ s.length
  | [] => Nat.le_refl _
  | x :: s => by
    rw [List.dropWhile_cons]
    split
    · exact Nat.le_succ_of_le (dw_len p s)
    · exact Nat.le_refl _
theorem rtrim_len (p : UInt8 → Bool) (s : Str) : (rtrim p s).length ≤ s.length := by
  unfold rtrim
  rw [List.length_reverse]
  have := dw_len p s.reverse
  rwa [List.length_reverse] at this
theorem dw_nil (p : UInt8 → Bool) : ∀ s : Str, s.dropWhile p = [] → ∀ c ∈ s, p c = true
  | [], _, c, h => by cases h
  | x :: s, h, c, hc => by
    rw [List.dropWhile_cons] at h
    by_cases hx : p x = true
    · rw [if_pos hx] at h
      rcases List.mem_cons.1 hc with rfl | hc
      · exact hx
      · exact dw_nil p s h c hc
    · rw [if_neg hx] at h; cases h
theorem trim_nil (p : UInt8 → Bool) (s : Str) : ((rtrim p s).dropWhile p == []) = s.all p := by
  induction s using List.reverseRecOn' with
  | nil => rfl
  | snoc s c ih =>
    rw [rtrim_snoc]
    by_cases hc : p c = true
    · rw [if_pos hc, ih]; simp [hc]
    · rw [if_neg hc]
      have : (s ++ [c]).all p = false := by simp [hc]
      rw [this]
      cases hd : (s ++ [c]).dropWhile p with
      | nil => exact absurd (dw_nil _ _ hd c (by simp)) hc
      | cons _ _ => rfl
where
  List.reverseRecOn' {motive : Str → Prop} (nil : motive []) (snoc : ∀ s c, motive s → motive (s ++ [c])) (l : Str) : motive l := by
    have : ∀ n (l : Str), l.length = n → motive l := by
      intro n
      induction n with
      | zero => intro l h; rw [List.length_eq_zero_iff.1 h]; exact nil
      | succ n ih =>
        intro l h
        have hne : l ≠ [] := fun h0 => by subst h0; simp at h
        rw [← List.dropLast_concat_getLast hne]
        exact snoc _ _ (ih _ (by simp [h]))
    exact this l.length l rfl
def cut38 : Str := [97, 98, 99, 100, 101, 102, 103, 104, 105, 106, 107, 108, 109, 110, 111, 112, 113, 114, 115, 116, 117, 118, 119, 120, 121, 122, 48, 49, 50, 51, 52, 53, 54, 55, 56, 57, 45, 95]
def small26 : Str := [97, 98, 99, 100, 101, 102, 103, 104, 105, 106, 107, 108, 109, 110, 111, 112, 113, 114, 115, 116, 117, 118, 119, 120, 121, 122]
theorem all256 {p : UInt8 → Bool} (h : (List.range 256).all (fun i => p (UInt8.ofNat i)) = true) (c : UInt8) : p c = true := by
  have := List.all_eq_true.1 h c.toNat (List.mem_range.2 c.toNat_lt)
  simpa using this
theorem cut38_eq (c : UInt8) : cut38.contains c = keyCh c := by
  have := all256 (p := fun c => cut38.contains c == keyCh c) (by kernel_rfl) c
  simpa using this
theorem small26_eq (c : UInt8) : decide (0 ≤ Lib.indexByte small26 c) = (decide (97 ≤ c.toNat) && decide (c.toNat ≤ 122)) := by
  have := all256 (p := fun c => decide (0 ≤ Lib.indexByte small26 c) == (decide (97 ≤ c.toNat) && decide (c.toNat ≤ 122))) (by kernel_rfl) c
  simpa using this
theorem key_ref (s : Str) : key s = ((!(out s.length 1 40) && ((rtrim (cut38.contains ·) s).dropWhile (cut38.contains ·) == [])) && decide (0 ≤ Lib.indexByte small26 (s.headD 0))) := by
  rw [trim_nil, small26_eq]
  have : (fun x => cut38.contains x) = keyCh := funext cut38_eq
  rw [this]
  unfold key keyHd
  cases s with
  | nil => simp [out]
  | cons x r =>
    simp only [List.headD_cons]
    have h1 : (!(out ((x :: r).length : Int) 1 40)) = decide ((x :: r).length ≤ 40) := by
      simp only [out, List.length_cons]
      rw [Bool.eq_iff_iff]; simp; omega
    rw [h1]
    have h2 : ((x :: r) != []) = true := rfl
    rw [h2]
    have hb : ∀ a b c d : Bool, (true && a && c && d && b) = (a && b && (c && d)) := by decide
    exact hb _ _ _ _
theorem moment_ref (n : Int) : (if out n 0 345686399999 then (1 : Int) else 0) = if moment n then 0 else 1 := by
  have : out n 0 345686399999 = !(moment n) := by
    simp only [out, moment]; rw [Bool.eq_iff_iff]; simp; try omega
  rw [this]; cases moment n <;> rfl
def ownFrom (r : Room) : Nat → List Str
  | 0 => []
  | n + 1 => ownFrom r n ++ (if backwards r.Way ((n : Int) + 1) then r.Teams.reverse else r.Teams)
def ownTurns (r : Room) : List Str := ownFrom r r.Rounds.toNat
theorem ownFrom_len (r : Room) : ∀ n, (ownFrom r n).length = n * r.Teams.length
  | 0 => by simp [ownFrom]
  | n + 1 => by
    have : (if backwards r.Way ((n : Int) + 1) then r.Teams.reverse else r.Teams).length = r.Teams.length := by split <;> simp
    simp only [ownFrom, List.length_append, ownFrom_len r n, this, Nat.succ_mul]
end Go.HL
