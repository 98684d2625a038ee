/- The statement is proved: the card of the law, out of its function's contract; no conditions. -/
import Derived.Test.YtbfikmihcpfgaaaGreatDoorPSwapsWeighed3
import Derived.Ground.Names2Prog
import Derived.Handed
import Derived.LaidMore
import Derived.Laws.Cover4
import Derived.Lay
import Derived.Lib.Strings
import Derived.OpenShut
import Derived.ProofKit
import Derived.SevenTiedAt
import Derived.Shelf.Slices.CompactS
import Derived.Shelf.Slices.Delete
import Derived.Shelf.Sort.Plain
import Derived.Shelf.Strconv.Atoi
import Derived.Shelf.Strconv.Itoa3
import Derived.Shelf.Strings.Count
import Derived.Shelf.Strings.Cut
import Derived.Shelf.Strings.Prefix
import Derived.Shelf.Strings.Split
import Derived.Shelf.Strings.SplitShaped
import Derived.Stop.Joined
import Derived.Test.YtbfikmihcpfgaaaGreatDoorCards
import Derived.Test.YtbfikmihcpfgaaaGreatDoorProg
import Derived.Test.YtbfikmihcpfgaaaGreatDoorTie
set_option linter.unusedVariables false
set_option linter.unusedSimpArgs false
section
namespace Go.HL
theorem numB_1g {s : Str} {m : Int} (h : (cutMinus s = [] ∨ m < ((cutMinus s).length : Int)) ∨ ((((cutMinus s).head?).getD 0).toNat : Int) = 48 ∧ ((1 : Int) < ((cutMinus s).length : Int) ∨ (cutMinus s).length < s.length)) : numB s m = false := by
 have : numC s m = true := decide_eq_true h
 simp [numB, this]
theorem numC_2g {s : Str} {m : Int} (h : (¬ cutMinus s = [] ∧ ((cutMinus s).length : Int) ≤ m) ∧ (((((cutMinus s).head?).getD 0).toNat : Int) = 48 → ((cutMinus s).length : Int) ≤ 1 ∧ s.length ≤ (cutMinus s).length)) : numC s m = false := by
 refine decide_eq_false ?_
 rintro ((a | a) | ⟨a, b⟩)
 ·exact h.1.1 a
 ·omega
 ·have := h.2 a; omega
set_option maxRecDepth 100000 in
theorem dig_dig10 : ∀ c : UInt8, dig c = dig10.contains c := fun c => by
 have : ∀ n, n < 256 → dig (UInt8.ofNat n) = dig10.contains (UInt8.ofNat n) := by decide
 have h := this c.toNat c.toNat_lt
 simpa using h
theorem digitVal_dig : ∀ c : UInt8, dig c = true → ∃ d, d < 10 ∧ Lib.digitVal c = some d ∧ c = UInt8.ofNat (48 + d) := fun c h => by
 simp only [dig, Bool.and_eq_true, decide_eq_true_eq] at h
 refine ⟨c.toNat - 48, by omega, by unfold Lib.digitVal; rw [if_pos h], ?_⟩
 rw [show 48 + (c.toNat - 48) = c.toNat by omega]; simp
theorem decDigits_big {u : Nat} (h : 10 ≤ u) : Lib.decDigits u = Lib.decDigits (u / 10) ++ [UInt8.ofNat (48 + u % 10)] := by
 rw [Lib.decDigits, dif_neg (by omega)]
theorem decDigits_small {u : Nat} (h : u < 10) : Lib.decDigits u = [UInt8.ofNat (48 + u)] := by
 rw [Lib.decDigits, dif_pos h]
/-- Digits without a nought ahead are the numeral of what they spell. -/
theorem canon_aux : ∀ (n : Nat) (t : Str), t.length = n + 1 → (∀ c ∈ t, dig c = true) → (t.length = 1 ∨ (t.head?).getD 0 ≠ 48) → ∃ v, Lib.decFrom 0 t = some v ∧ Lib.decDigits v = t ∧ ((t.head?).getD 0 ≠ 48 → 1 ≤ v)
 | 0, t, hl, hd, _ => by
   match t, hl with
   | [c], _ =>
     obtain ⟨d, hd1, hd2, hd3⟩ := digitVal_dig c (hd c (by simp))
     refine ⟨d, by simp [Lib.decFrom, hd2], by rw [decDigits_small hd1, hd3], fun h => ?_⟩
     rcases Nat.eq_zero_or_pos d with h0 | h0
     ·subst h0; exact absurd (by simp [hd3]) h
     ·exact h0
 | n + 1, t, hl, hd, hc => by
   obtain ⟨t', c, rfl⟩ : ∃ t' c, t = t' ++ [c] := by
    rcases List.eq_nil_or_concat t with h | ⟨t', c, h⟩
    ·subst h; simp at hl
    ·exact ⟨t', c, by simpa using h⟩
   simp only [List.length_append, List.length_cons, List.length_nil] at hl hc
   have hne : t' ≠ [] := by rintro rfl; simp at hl
   have hhd : ((t' ++ [c]).head?).getD 0 = (t'.head?).getD 0 := by
    cases t' with
    | nil => exact absurd rfl hne
    | cons a r => rfl
   rw [hhd] at hc ⊢
   have hc' : (t'.head?).getD 0 ≠ 48 := by
    rcases hc with h | h
    ·omega
    ·exact h
   obtain ⟨v, h1, h2, h3⟩ := canon_aux n t' (by omega) (fun x hx => hd x (List.mem_append_left _ hx)) (.inr hc')
   have hv := h3 hc'
   obtain ⟨d, hd1, hd2, hd3⟩ := digitVal_dig c (hd c (by simp))
   refine ⟨v * 10 + d, ?_, ?_, fun _ => by omega⟩
   ·rw [decFrom_app, h1]; simp [Lib.decFrom, hd2]
   ·rw [decDigits_big (by omega), show (v * 10 + d) / 10 = v by omega, show (v * 10 + d) % 10 = d by omega, h2, ← hd3]
theorem canon {t : Str} (h0 : t ≠ []) (hd : ∀ c ∈ t, dig c = true) (hc : t.length = 1 ∨ (t.head?).getD 0 ≠ 48) : ∃ v, Lib.decFrom 0 t = some v ∧ Lib.decDigits v = t ∧ ((t.head?).getD 0 ≠ 48 → 1 ≤ v) := by
 obtain ⟨n, hn⟩ : ∃ n, t.length = n + 1 := ⟨t.length - 1, by have := List.length_pos_iff.2 h0; omega⟩
 exact canon_aux n t hn hd hc
theorem head48 : ∀ u : Nat, ((Lib.decDigits u).head?).getD 0 = 48 → u = 0 := fun u => by
 induction u using Nat.strongRecOn with
 | ind u ih =>
   intro h
   by_cases hu : u < 10
   ·rw [decDigits_small hu] at h
    have : ∀ d, d < 10 → (UInt8.ofNat (48 + d)) = 48 → d = 0 := by decide
    exact this u hu (by simpa using h)
   ·rw [decDigits_big (by omega)] at h
    have h2 : ((Lib.decDigits (u / 10)).head?).getD 0 = 48 := by
     cases hq : Lib.decDigits (u / 10) with
     | nil => exact absurd hq (digits_ne _)
     | cons a r => rw [hq] at h; simpa using h
    have := ih (u / 10) (by omega) h2
    omega
theorem head_nat (t : Str) : (((t.head?).getD 0).toNat : Int) = 48 ↔ (t.head?).getD 0 = 48 := by
 constructor
 ·intro h
  have h' : ((t.head?).getD 0).toNat = 48 := by omega
  exact UInt8.toNat_inj.1 (h'.trans rfl)
 ·intro h; rw [h]; rfl
theorem cutMinus_cases (s : Str) : (∃ r, s = 45 :: r ∧ cutMinus s = r) ∨ ((∀ r, s ≠ 45 :: r) ∧ cutMinus s = s) := by
 cases s with
 | nil => exact .inr ⟨fun r h => (by cases h), rfl⟩
 | cons b r =>
   by_cases hb : b = 45
   ·subst hb; exact .inl ⟨r, rfl, rfl⟩
   ·refine .inr ⟨fun r' h => hb (List.cons.inj h).1, ?_⟩
    unfold cutMinus; split
    ·rename_i heq; exact absurd (List.cons.inj heq).1 hb
    ·rfl
theorem dig_not : dig 45 = false ∧ dig 43 = false := by decide
theorem atoi_pos {s : Str} {v : Nat} (h0 : s ≠ []) (hd : ∀ c ∈ s, dig c = true) (hv : Lib.decFrom 0 s = some v) : Lib.atoi s = some (v : Int) := by
 cases s with
 | nil => exact absurd rfl h0
 | cons b r =>
   have hb := hd b List.mem_cons_self
   have e1 : (b == 45) = false := by rw [beq_eq_false_iff_ne]; rintro rfl; rw [dig_not.1] at hb; cases hb
   have e2 : (b == 43) = false := by rw [beq_eq_false_iff_ne]; rintro rfl; rw [dig_not.2] at hb; cases hb
   simp [Lib.atoi, e1, e2, Lib.decNat, hv]
theorem atoi_minus {r : Str} {v : Nat} (h0 : r ≠ []) (hv : Lib.decFrom 0 r = some v) : Lib.atoi (45 :: r) = some (-(v : Int)) := by
 have : r.isEmpty = false := by cases r with
  | nil => exact absurd rfl h0
  | cons _ _ => rfl
 simp [Lib.atoi, Lib.decNat, hv, this]
/-- What is taken for a number strictly is its own numeral. -/
theorem numB_canon {s : Str} {m : Int} (h : numB s m = true) : (cutMinus s ≠ [] ∧ ((cutMinus s).length : Int) ≤ m ∧ ∀ c ∈ cutMinus s, dig c = true) ∧ (Lib.atoi s).isSome = true ∧ Lib.itoa (numV s) = s := by
 unfold numB at h
 rw [Bool.and_eq_true, Bool.not_eq_true'] at h
 obtain ⟨h1, h2⟩ := h
 have hd : ∀ c ∈ cutMinus s, dig c = true := List.all_eq_true.1 h2
 have h3 := of_decide_eq_false h1
 simp only [not_or, not_and] at h3
 obtain ⟨⟨h4, h5⟩, h6⟩ := h3
 rw [head_nat] at h6
 have hc : (cutMinus s).length = 1 ∨ ((cutMinus s).head?).getD 0 ≠ 48 := by
  by_cases e : ((cutMinus s).head?).getD 0 = 48
  ·have := h6 e
   have hp := List.length_pos_iff.2 h4
   left; omega
  ·exact .inr e
 obtain ⟨v, v1, v2, v3⟩ := canon h4 hd hc
 refine ⟨⟨h4, by omega, hd⟩, ?_⟩
 rcases cutMinus_cases s with ⟨r, rfl, hr⟩ | ⟨_, hr⟩
 ·rw [hr] at h4 h6 v1 v2 v3
  have ha := atoi_minus h4 v1
  have hne : (r.head?).getD 0 ≠ 48 := fun e => by have := h6 e; simp at this
  refine ⟨by rw [ha]; rfl, ?_⟩
  unfold numV
  rw [ha]
  show Lib.itoa (-(v : Int)) = _
  rw [Lib.itoa_neg v (v3 hne), v2]
 ·rw [hr] at h4 hd v1 v2
  have ha := atoi_pos h4 hd v1
  refine ⟨by rw [ha]; rfl, ?_⟩
  unfold numV
  rw [ha]
  show Lib.itoa (v : Int) = _
  rw [Lib.itoa_nonneg, v2]
theorem intC_f {s : Str} {m : Int} (h1 : cutMinus s ≠ []) (h2 : ((cutMinus s).length : Int) ≤ m) (h3 : ∀ c ∈ cutMinus s, dig c = true) : intC s m = false := by
 unfold intC
 have hp := List.length_pos_iff.2 h1
 rw [Bool.or_eq_false_iff]
 constructor
 ·simp [out]; omega
 ·have h : ∀ c ∈ cutMinus s, dig10.contains c = true := fun c hc => by rw [← dig_dig10]; exact h3 c hc
  unfold trim10 rtrim
  rw [dropW_all (s := (cutMinus s).reverse) fun c hc => h c (List.mem_reverse.1 hc)]
  rfl
theorem intC_of {s : Str} {m : Int} (h : intC s m = false) : cutMinus s ≠ [] ∧ ((cutMinus s).length : Int) ≤ m ∧ ∀ c ∈ cutMinus s, dig c = true := by
 unfold intC at h
 rw [Bool.or_eq_false_iff] at h
 obtain ⟨h1, h2⟩ := h
 have h1 := out_f h1
 have h3 := trim10_nil (by simpa using h2)
 refine ⟨fun e => by rw [e] at h1; simp at h1, h1.2, fun c hc => by rw [dig_dig10]; exact h3 c hc⟩
/-- Both ways to read a number say the same. -/
theorem num_int (s : Str) (m : Int) : numB s m = intB s m ∧ (numB s m = true → intR s m = numV s ∧ numR s m = numV s) := by
 cases hn : numB s m with
 | true =>
   obtain ⟨⟨a1, a2, a3⟩, _, a4⟩ := numB_canon hn
   have hc := intC_f (m := m) a1 a2 a3
   exact ⟨by simp [intB, hc, a4], fun _ => ⟨by simp [intR, hc], by simp [numR, hn]⟩⟩
 | false =>
   refine ⟨?_, fun h => by cases h⟩
   cases hc : intC s m with
   | true => simp [intB, hc]
   | false =>
     obtain ⟨a1, a2, a3⟩ := intC_of hc
     have hall : (cutMinus s).all dig = true := List.all_eq_true.2 a3
     have hC : numC s m = true := by
      unfold numB at hn
      rw [hall, Bool.and_true, Bool.not_eq_false'] at hn
      exact hn
     have h48 := of_decide_eq_true hC
     rw [head_nat] at h48
     have h48' : ((cutMinus s).head?).getD 0 = 48 ∧ ((1 : Int) < ((cutMinus s).length : Int) ∨ (cutMinus s).length < s.length) := by
      rcases h48 with (h | h) | h
      ·exact absurd h a1
      ·omega
      ·exact h
     have : Lib.itoa (numV s) ≠ s := by
      intro e
      rcases Int.lt_or_le (numV s) 0 with hneg | hpos
      ·obtain ⟨u, hu⟩ : ∃ u : Nat, numV s = -(u : Int) := ⟨(numV s).natAbs, by omega⟩
       rw [hu, Lib.itoa_neg u (by omega)] at e
       have hcut : cutMinus s = Lib.decDigits u := by rw [← e]; rfl
       rw [hcut] at h48'
       have := head48 u h48'.1
       omega
      ·obtain ⟨u, hu⟩ : ∃ u : Nat, numV s = (u : Int) := ⟨(numV s).toNat, by omega⟩
       rw [hu, Lib.itoa_nonneg] at e
       have hcut : cutMinus s = Lib.decDigits u := by rw [← e]; exact cut_digits u
       rw [hcut, ← e] at h48'
       have := head48 u h48'.1
       subst this
       have hl : (Lib.decDigits 0).length = 1 := by rw [decDigits_small (by omega)]; rfl
       omega
     simp [intB, this]
/-- What is taken for a number is read, and is not great. -/
theorem num_read {s : Str} {m : Int} (hm : m ≤ 17) (h : intC s m = false) : (Lib.atoi s).isSome = true ∧ s.length ≤ 18 ∧ -1000000000000000000 < numV s ∧ numV s < 1000000000000000000 := by
 obtain ⟨a1, a2, a3⟩ := intC_of h
 have a4 : ∀ c ∈ cutMinus s, dig10.contains c = true := fun c hc => by rw [← dig_dig10]; exact a3 c hc
 obtain ⟨n, hn⟩ := decFrom_some (cutMinus s) 0 a4
 have hl : s.length ≤ 18 := by
  have : s.length ≤ (cutMinus s).length + 1 := by
   unfold cutMinus; split <;> simp
  omega
 have hs : ∃ z, Lib.atoi s = some z := by
  rcases cutMinus_cases s with ⟨r, rfl, hr⟩ | ⟨_, hr⟩
  ·rw [hr] at a1 hn; exact ⟨_, atoi_minus a1 hn⟩
  ·rw [hr] at a1 a3 hn; exact ⟨_, atoi_pos a1 a3 hn⟩
 obtain ⟨z, hz⟩ := hs
 refine ⟨by rw [hz]; rfl, hl, ?_⟩
 have := Lib.atoi_bound hz hl
 unfold numV; rw [hz]; exact this
theorem numB_intC {s : Str} {m : Int} (h : numB s m = true) : intC s m = false := by
 obtain ⟨⟨a1, a2, a3⟩, _, _⟩ := numB_canon h
 exact intC_f a1 a2 a3
end Go.HL
end
section
namespace Go.HL
def wordsB (line : Str) (many : Int) : Bool := decide (((spl 32 line).length : Int) = many) && (spl 32 line).all (fun w => !w.isEmpty)
def wordsL (line : Str) (many : Int) : List Str := if wordsB line many then spl 32 line else []
theorem wordsB_1 {line : Str} {many : Int} (h : ((spl 32 line).length : Int) ≠ many) : wordsB line many = false := by simp [wordsB, h]
theorem wordsB_2 {line : Str} {many : Int} (h : (spl 32 line).all (fun w => !w.isEmpty) = false) : wordsB line many = false := by simp [wordsB, h]
theorem wordsB_3 {line : Str} {many : Int} (h0 : ((spl 32 line).length : Int) = many) (h : (spl 32 line).all (fun w => !w.isEmpty) = true) : wordsB line many = true := by simp [wordsB, h0, h]
theorem all_nilW {x : Str} {r : List Str} (h : x = []) : (x :: r).all (fun w => !w.isEmpty) = false := by subst h; rfl
def lnsL (text : Str) : List Str := if text = [] then [] else spl 10 (Lib.trimSuffix text [10])
def lnsE (text : Str) : Bool := if text = [] then true else Lib.hasSuffix text [10]
/-- The lines that a line feed ends. -/
def lns (text : Str) : List Str := (spl 10 text).dropLast
def goL (ok : Str → Bool) : Nat → List Str → Int × Bool
 | _, [] => (0, true)
 | k, [s] => if s = [] then (0, true) else ((k : Int), false)
 | k, s :: t :: r => if ok s then goL ok (k + 1) (t :: r) else ((k : Int), false)
def eachP (ok : Str → Bool) (ends : Bool) (n : Nat) : Nat → List Str → Int × Bool
 | _, [] => (0, true)
 | k, s :: r => if (!ends && decide ((k : Int) = (n : Int) - 1)) || !(ok s) then ((k : Int), false) else eachP ok ends n (k + 1) r
theorem eachP_cons (ok : Str → Bool) (ends : Bool) (n k : Nat) (s : Str) (r : List Str) : eachP ok ends n k (s :: r) = if (!ends && decide ((k : Int) = (n : Int) - 1)) || !(ok s) then ((k : Int), false) else eachP ok ends n (k + 1) r := rfl
theorem hasSuffix_iff {t : Str} : Lib.hasSuffix t [10] = true ↔ ∃ body, t = body ++ [10] := by
 unfold Lib.hasSuffix
 rw [List.isSuffixOf_iff_suffix]
 constructor
 ·rintro ⟨b, h⟩; exact ⟨b, h.symm⟩
 ·rintro ⟨b, h⟩; exact ⟨b, h.symm⟩
theorem trimSuffix_app (body : Str) : Lib.trimSuffix (body ++ [10]) [10] = body := by
 have : Lib.hasSuffix (body ++ [10]) [10] = true := hasSuffix_iff.2 ⟨_, rfl⟩
 unfold Lib.trimSuffix
 rw [if_pos this]
 simp
theorem trimSuffix_no {t : Str} (h : Lib.hasSuffix t [10] = false) : Lib.trimSuffix t [10] = t := by
 unfold Lib.trimSuffix
 rw [if_neg (by simp [h])]
theorem spl_snoc (c : UInt8) : ∀ b : Str, spl c (b ++ [c]) = spl c b ++ [[]]
 | [] => by simp [spl]
 | x :: b => by
   by_cases h : x = c
   ·subst h; rw [List.cons_append, spl_eq, spl_eq, spl_snoc x b]; rfl
   ·obtain ⟨y, r, hy⟩ := spl_cons (c := c) b
    have h2 := spl_snoc c b
    rw [hy] at h2
    rw [List.cons_append, spl_of_ne h hy, spl_of_ne h (x := y) (r := r ++ [[]]) (by rw [h2]; rfl)]
    rfl
theorem spl_last (c : UInt8) : ∀ b : Str, (∀ t, b ≠ t ++ [c]) → b ≠ [] → (spl c b).getLast (spl_ne c b) ≠ []
 | [], _, h => absurd rfl h
 | x :: b, h, _ => by
   by_cases hb : b = []
   ·subst hb
    have : x ≠ c := fun e => h [] (by simp [e])
    have h2 : spl c [x] = [[x]] := spl_of_ne this rfl
    simp [h2]
   ·have ih := spl_last c b (fun t e => h (x :: t) (by rw [e]; rfl)) hb
    by_cases hx : x = c
    ·subst hx
     have h2 := spl_eq x b
     simp only [h2]
     rw [List.getLast_cons (spl_ne x b)]; exact ih
    ·obtain ⟨y, r, hy⟩ := spl_cons (c := c) b
     have h2 := spl_of_ne hx hy
     simp only [h2]
     cases r with
     | nil => simp
     | cons z r =>
       simp only [hy] at ih
       rw [List.getLast_cons (by simp)] at ih ⊢
       exact ih
theorem lnsL_ends {text : Str} (h0 : text ≠ []) (h : lnsE text = true) : lnsE text = Lib.hasSuffix text [10] ∧ spl 10 text = lnsL text ++ [[]] ∧ lns text = lnsL text := by
 have e : lnsE text = Lib.hasSuffix text [10] := by unfold lnsE; rw [if_neg h0]
 obtain ⟨body, rfl⟩ := hasSuffix_iff.1 (e ▸ h)
 have h1 : lnsL (body ++ [10]) = spl 10 body := by unfold lnsL; rw [if_neg h0, trimSuffix_app]
 have h2 := spl_snoc 10 body
 refine ⟨e, by rw [h2, h1], ?_⟩
 unfold lns; rw [h2, h1]; simp
theorem lnsL_open {text : Str} (h : lnsE text = false) : text ≠ [] ∧ lnsL text = spl 10 text ∧ (lnsL text).getLast? ≠ some [] := by
 have h0 : text ≠ [] := by rintro rfl; simp [lnsE] at h
 have e : Lib.hasSuffix text [10] = false := by unfold lnsE at h; rw [if_neg h0] at h; exact h
 have h1 : lnsL text = spl 10 text := by unfold lnsL; rw [if_neg h0, trimSuffix_no e]
 refine ⟨h0, h1, ?_⟩
 rw [h1, List.getLast?_eq_some_getLast (spl_ne 10 text)]
 have := spl_last 10 text (fun t et => by rw [hasSuffix_iff.2 ⟨t, et⟩] at e; cases e) h0
 intro hh; exact this (Option.some.inj hh)
theorem eachP_ends (ok : Str → Bool) (n : Nat) : ∀ (l : List Str) (k : Nat), eachP ok true n k l = goL ok k (l ++ [[]])
 | [], k => by simp [eachP, goL]
 | s :: r, k => by
   have ih := eachP_ends ok n r (k + 1)
   obtain ⟨t, q, hq⟩ : ∃ t q, r ++ [[]] = t :: q := by
    cases r with
    | nil => exact ⟨[], [], rfl⟩
    | cons a b => exact ⟨a, b ++ [[]], rfl⟩
   rw [List.cons_append, hq]
   rw [hq] at ih
   simp only [eachP, goL, Bool.not_true, Bool.false_and, Bool.false_or, ih]
   cases ok s <;> simp
theorem eachP_open (ok : Str → Bool) (n : Nat) : ∀ (l : List Str) (k : Nat), l ≠ [] → n = k + l.length → l.getLast? ≠ some [] → eachP ok false n k l = goL ok k l
 | [], k, h, _, _ => absurd rfl h
 | [s], k, _, hn, hl => by
   have : s ≠ [] := fun e => hl (by simp [e])
   simp only [List.length_cons, List.length_nil] at hn
   have h2 : decide ((k : Int) = (n : Int) - 1) = true := decide_eq_true (by omega)
   simp [eachP, goL, this, h2]
 | s :: t :: r, k, _, hn, hl => by
   simp only [List.length_cons] at hn
   have ih := eachP_open ok n (t :: r) (k + 1) (by simp) (by simp only [List.length_cons]; omega) (by simpa using hl)
   have h2 : decide ((k : Int) = (n : Int) - 1) = false := decide_eq_false (by omega)
   rw [eachP, goL, h2, ih]
   cases ok s <;> simp
theorem eachP_goL (ok : Str → Bool) (text : Str) : eachP ok (lnsE text) (lnsL text).length 0 (lnsL text) = goL ok 0 (spl 10 text) := by
 by_cases h0 : text = []
 ·subst h0; simp [lnsL, eachP, goL, spl]
 ·cases he : lnsE text with
  | true =>
    obtain ⟨_, h1, _⟩ := lnsL_ends h0 he
    rw [h1]; exact eachP_ends ok _ _ _
  | false =>
    obtain ⟨_, h1, h2⟩ := lnsL_open he
    rw [eachP_open ok _ _ _ (by rw [h1]; exact spl_ne 10 text) (by omega) h2, h1]
/-- All lines were taken: the text ends with a line feed. -/
theorem eachP_true {ok : Str → Bool} {text : Str} (h : (goL ok 0 (spl 10 text)).2 = true) : lns text = lnsL text := by
 by_cases h0 : text = []
 ·subst h0; rfl
 ·cases he : lnsE text with
  | true => exact (lnsL_ends h0 he).2.2
  | false =>
    exfalso
    rw [← eachP_goL] at h
    obtain ⟨_, h1, h2⟩ := lnsL_open he
    rw [he] at h
    have key : ∀ (l : List Str) (k : Nat), l ≠ [] → (lnsL text).length = k + l.length → (eachP ok false (lnsL text).length k l).2 = false := by
     intro l
     induction l with
     | nil => intro k h; exact absurd rfl h
     | cons s r ih =>
       intro k _ hn
       simp only [List.length_cons] at hn
       simp only [eachP]
       by_cases hr : r = []
       ·subst hr
        simp only [List.length_nil] at hn
        have : decide ((k : Int) = ((lnsL text).length : Int) - 1) = true := decide_eq_true (by omega)
        rw [this]; rfl
       ·split
        ·rfl
        ·exact ih (k + 1) hr (by omega)
    rw [key _ 0 (by rw [h1]; exact spl_ne 10 text) (by omega)] at h
    cases h
theorem trimSuffix_len (text : Str) : (Lib.trimSuffix text [10]).length ≤ text.length := by unfold Lib.trimSuffix; split <;> simp
theorem lnsL_many (text : Str) : (lnsL text).length ≤ text.length := by
 by_cases h0 : text = []
 ·subst h0; simp [lnsL]
 ·cases he : lnsE text with
  | true =>
    obtain ⟨e, h1, _⟩ := lnsL_ends h0 he
    obtain ⟨body, hb⟩ := hasSuffix_iff.1 (e ▸ he)
    have h2 := spl_len 10 text
    rw [h1] at h2
    have h3 := List.count_le_length (a := (10 : UInt8)) (l := text)
    simp at h2; omega
  | false =>
    obtain ⟨_, h1, _⟩ := lnsL_open he
    have e : Lib.hasSuffix text [10] = false := by unfold lnsE at he; rw [if_neg h0] at he; exact he
    rw [h1, spl_len]
    have h4 : text.count 10 ≤ text.length := List.count_le_length
    rcases Nat.lt_or_ge (text.count 10) text.length with h | h
    ·omega
    ·exfalso
     have hall : ∀ c ∈ text, c = 10 := fun c hc => (List.count_eq_length.1 (by omega : text.count 10 = text.length) c hc).symm
     rcases List.eq_nil_or_concat text with h5 | ⟨t', c, h5⟩
     ·exact h0 h5
     ·have : c = 10 := hall c (by rw [h5]; simp)
      subst this
      have h6 : text = t' ++ [10] := by rw [h5]; simp
      rw [hasSuffix_iff.2 ⟨t', h6⟩] at e; cases e
theorem lnsL_len {text : Str} : ∀ x ∈ lnsL text, x.length ≤ text.length := fun x hx => by
 unfold lnsL at hx
 split at hx
 ·cases hx
 ·exact Nat.le_trans (spl_mem_len 10 _ x hx) (trimSuffix_len text)
/-- The step of the reference. -/
theorem goL_cut {ok : Str → Bool} {k : Nat} {t : Str} (h0 : t ≠ []) (hc : (cutF 10 t).2.2 = true) : goL ok k (spl 10 t) = if ok (cutF 10 t).1 then goL ok (k + 1) (spl 10 (cutF 10 t).2.1) else ((k : Int), false) := by
 rw [cutF_spl 10 t hc]
 obtain ⟨x, r, hx⟩ := spl_cons (c := 10) (cutF 10 t).2.1
 rw [hx]; rfl
theorem goL_no {ok : Str → Bool} {k : Nat} {t : Str} (h0 : t ≠ []) (hc : (cutF 10 t).2.2 = false) : goL ok k (spl 10 t) = ((k : Int), false) := by
 rw [cutF_no 10 t hc]; simp [goL, h0]
theorem goL_f {ok : Str → Bool} {k : Nat} {t : Str} (h0 : t ≠ []) (h : (cutF 10 t).2.2 = true → ok (cutF 10 t).1 = false) : goL ok k (spl 10 t) = ((k : Int), false) := by
 cases hc : (cutF 10 t).2.2 with
 | true => rw [goL_cut h0 hc, h hc]; rfl
 | false => exact goL_no h0 hc
theorem lns_cut {t : Str} (hc : (cutF 10 t).2.2 = true) : lns t = (cutF 10 t).1 :: lns (cutF 10 t).2.1 := by
 unfold lns
 rw [cutF_spl 10 t hc]
 obtain ⟨x, r, hx⟩ := spl_cons (c := 10) (cutF 10 t).2.1
 rw [hx]; rfl
end Go.HL
end
section
namespace Go.HL
end Go.HL
end
section
namespace Go.HL
theorem ret_gw [Tracks] {rs : List ResultVar} {e e' : Env} {M M' : List MObj} {h h' : HVal} {Q : HVal → List MObj → Prop} (hg : Ghost e M e' M') (hr : resH e' rs = some h) (hw : Weak h h') (hh : Q h' M') : RetQ rs Q .ret e M :=
 ⟨e', M', hg, h, h', hr, hw, hh⟩
theorem weakW [Tracks] {line : Str} {many : Int} (h : wordsB line many = false) : Weak (.tup [.raw (.slice none 0 0), .bool false]) (.tup [eSs (wordsL line many), .bool (wordsB line many)]) := by
 rw [wordsL, h]; exact weak_tup2 (weak_nil 1) (Weak.refl _)
theorem eqW {line : Str} {many : Int} (h : wordsB line many = true) : HVal.tup [eSs (spl 32 line), .bool true] = .tup [eSs (wordsL line many), .bool (wordsB line many)] := by
 rw [wordsL, h]; rfl
theorem weakLn [Tracks] {text : Str} (h : text = []) : Weak (.tup [.raw (.slice none 0 0), .bool true]) (.tup [eSs (lnsL text), .bool (lnsE text)]) := by
 subst h; exact weak_tup2 (weak_nil 1) (Weak.refl _)
theorem eqLn {text : Str} (h : text ≠ []) : HVal.tup [eSs (spl 10 (Lib.trimSuffix text [10])), .bool (Lib.hasSuffix text [10])] = .tup [eSs (lnsL text), .bool (lnsE text)] := by
 rw [lnsL, lnsE, if_neg h, if_neg h]
end Go.HL
end
section
namespace Go.Proofs.YtbfikmihcpfgaaaGreatDoor
open Go.HL
set_option maxRecDepth 100000
set_option linter.unusedVariables false
set_option linter.unusedSimpArgs false
theorem VL_two [Tracks] {I : Imm} {c d : HVal} {vs : List Value} (h : VL I [c, d] vs) : ∃ u v, vs = [u, v] ∧ V I c u ∧ V I d v := by
 have h1 := h.1
 rcases vs with _ | ⟨u, _ | ⟨v, _ | ⟨w, r⟩⟩⟩
 ·simp at h1
 ·simp at h1
 ·exact ⟨u, v, rfl, h.head, h.tail.head⟩
 ·simp at h1
theorem trimMinus [Tracks] (s : Str) : Lib.trimPrefix s [45] = cutMinus s := by
 unfold Lib.trimPrefix Lib.hasPrefix
 cases s with
 | nil => rfl
 | cons c r =>
   by_cases h : c = 45
   ·subst h; simp [cutMinus]
   ·have h' : ¬ (45 : UInt8) = c := fun e => h e.symm
    simp only [List.isPrefixOf, beq_iff_eq, h', Bool.and_eq_true, false_and, if_false]
    unfold cutMinus
    split
    ·rename_i heq; simp at heq; exact absurd heq.1 h
    ·rfl
/-- strings.TrimPrefix of a minus -/
theorem c_strings_TrimPrefix [Tracks] {s : Str} : ConP Tryz.prog 81 [.str s, .str [45]] (.str (cutMinus s)) :=
 conp_of_calls fun I w args ha => by
  obtain ⟨u, v, rfl, hu, hv⟩ := VL_two ha
  obtain rfl := hu.str_inv
  obtain rfl := hv.str_inv
  refine ⟨_, .str _, ?_⟩
  have := Any.strings_TrimPrefix Tryz.lays101 ⟨s.toArray⟩ ⟨[45].toArray⟩ w
  rw [show (⟨s.toArray⟩ : ByteArray).data.toList = s by simp, show (⟨[45].toArray⟩ : ByteArray).data.toList = [45] by simp, trimMinus] at this
  exact this
/-- strconv.Atoi of a short numeral -/
theorem c_strconv_Atoi [Tracks] {s : Str} (hl : s.length ≤ 18) (h : (Lib.atoi s).isSome = true) : ConP Tryz.prog 82 [.str s] (.tup [.int .i64 (numV s), .raw .nilIface]) :=
 conp_atoi fun w => Any.strconv_Atoi Tryz.lays172 ⟨s.toArray⟩ (numV s) (by simpa [ByteArray.size] using hl) (by
  obtain ⟨n, hn⟩ := Option.isSome_iff_exists.1 h
  simp [numV, hn]) w

/-- benchwarmer/base.Words -/
theorem c_base_Words [Tracks] {line : Str} {many : Int} (hl : line.length ≤ 1000000) : ConP Tryz.prog 41 [.str line, .int .i64 many] (.tup [eSs (wordsL line many), .bool (wordsB line many)]) := by
 have hsl := spl_len 32 line
 have hsc := List.count_le_length (a := (32 : UInt8)) (l := line)
 refine Con.of_body Tryz.func41 rfl Tryz.ntmps41 rfl rfl ?_
 refine hw_reg ?_
 refine dp rfl (pop_assign rfl) ?_
 refine dp rfl (pop_assign rfl) ?_
 refine dn ?_
 refine hw_reg ?_
 refine dp rfl (pop_move rfl) ?_
 refine dp rfl (pop_call ca72 rfl (WeakL.refl _) (c_strings_Split (c := 32) (by omega))) ?_
 refine dp rfl (pop_assign rfl) ?_
 refine dn ?_
 refine hw_seq ?_
 refine hw_reg ?_
 refine dp rfl (pop_move rfl) ?_
 refine dp rfl (pop_lenm ty44 rfl) ?_
 refine dp rfl (pop_move rfl) ?_
 refine dp rfl (pop_neq rfl rfl) ?_
 refine dn ?_
 refine hw_cond rfl (fun h1 => ?_) (fun h2 => ?_)
 ·try simp at h1
  refine hw_reg ?_
  refine dp rfl (pop_assign rfl) ?_
  refine dp rfl (pop_assign rfl) ?_
  refine dn ?_
  refine hw_ret ?_
  first
  | exact ret_w rfl (weakW (wordsB_1 h1))
  | exact ret_w rfl (weakW (wordsB_2 (hg.trans (all_nilW h5))))
  | exact ret_p rfl (eqW (wordsB_3 h2 hg))
 ·try simp at h2
  refine hw_skip ?_
  refine seqQ_n ?_
  refine hw_seq ?_
  refine hw_reg ?_
  refine dp rfl (pop_move rfl) ?_
  refine dp rfl (pop_lenm ty44 rfl) ?_
  refine dp rfl (pop_move rfl) ?_
  refine dn ?_
  refine hw_block ?_
  refine hw_loopw [4, 5, 8, 17, 18, 19, 20, 21, 22, 23] (fun (k : Nat) => [(17, .int .i64 k)]) (fun (k : Nat) => []) (fun (k : Nat) => k ≤ (spl 32 line).length ∧ ((spl 32 line).all (fun w => !w.isEmpty) = ((spl 32 line).drop k).all (fun w => !w.isEmpty))) (fun (k : Nat) => (spl 32 line).length - k) (0) ?_ ?_ ?_ ?_
  ·exact ⟨Nat.zero_le _, rfl⟩
  ·exact ⟨rfl, trivial⟩
  ·exact List.Perm.refl _
  ·intro k hinv
   obtain ⟨hk, hg⟩ := hinv
   refine hw_reg ?_
   refine dp rfl (pop_lss rfl rfl) ?_
   refine dn ?_
   refine hw_seq ?_
   refine hw_cond rfl (fun h3 => ?_) (fun h4 => ?_)
   ·try simp at h3
    obtain ⟨x, hx⟩ : ∃ x, (spl 32 line)[k]? = some x := ⟨_, List.getElem?_eq_getElem h3⟩
    have hdx := drop_cons hx
    rw [hdx] at hg
    refine hw_skip ?_
    refine seqQ_n ?_
    refine hw_seq ?_
    refine hw_block ?_
    refine hw_reg ?_
    refine dp rfl (pop_idx ty44 ty9 rfl rfl rfl (by first | assumption | simp_all)) ?_
    refine dp rfl (pop_load ty9 rfl rfl rfl) ?_
    refine dp rfl (pop_assign rfl) ?_
    refine dn ?_
    refine hw_reg ?_
    refine dp rfl (pop_move rfl) ?_
    refine dp rfl (pop_eqls rfl rfl) ?_
    refine dn ?_
    refine hw_cond rfl (fun h5 => ?_) (fun h6 => ?_)
    ·try simp at h5
     refine hw_reg ?_
     refine dp rfl (pop_assign rfl) ?_
     refine dp rfl (pop_assign rfl) ?_
     refine dn ?_
     refine hw_ret ?_
     first
     | exact ret_w rfl (weakW (wordsB_1 h1))
     | exact ret_w rfl (weakW (wordsB_2 (hg.trans (all_nilW h5))))
     | exact ret_p rfl (eqW (wordsB_3 h2 hg))
    ·try simp at h6
     refine hw_skip ?_
     refine blockQ_n ?_
     refine seqQ_n ?_
     refine hw_reg1 ?_
     refine dp rfl (pop_add64 rfl rfl (by omega) (by omega)) ?_
     refine dp rfl (pop_move rfl) ?_
     refine dn ?_
     refine ⟨k + 1, ?_, ?_, ⟨rfl, trivial⟩, (by repeat (first | exact keeps_refl | refine keeps_upd rfl ?_ | refine keeps_loop rfl rfl ?_)), List.Perm.refl _⟩
     ·refine ⟨by omega, ?_⟩
      rw [hg]; simp_all
     ·dsimp only; omega
   ·try simp at h4
    have hnk : (spl 32 line).length ≤ k := by omega
    obtain rfl : k = (spl 32 line).length := by omega
    rw [drop_all (Nat.le_refl _)] at hg
    refine hw_exit ?_
    refine seqQ_x ?_
    refine loopQ_x ?_
    refine blockQ_eq ?_
    refine seqQ_n ?_
    refine hw_reg ?_
    refine dp rfl (pop_move rfl) ?_
    refine dp rfl (pop_assign rfl) ?_
    refine dp rfl (pop_assign rfl) ?_
    refine dn ?_
    refine hw_ret ?_
    first
    | exact ret_w rfl (weakW (wordsB_1 h1))
    | exact ret_w rfl (weakW (wordsB_2 (hg.trans (all_nilW h5))))
    | exact ret_p rfl (eqW (wordsB_3 h2 hg))

/-- benchwarmer/base.Lines -/
theorem c_base_Lines [Tracks] {text : Str} (ht : text.length ≤ 1000000) : ConP Tryz.prog 80 [.str text] (.tup [eSs (lnsL text), .bool (lnsE text)]) := by
 have htl : (Lib.trimSuffix text [10]).length ≤ text.length := by unfold Lib.trimSuffix; split <;> simp
 refine Con.of_body Tryz.func80 rfl Tryz.ntmps80 rfl rfl ?_
 refine hw_reg ?_
 refine dp rfl (pop_assign rfl) ?_
 refine dp rfl (pop_assign rfl) ?_
 refine dn ?_
 refine hw_seq ?_
 refine hw_reg ?_
 refine dp rfl (pop_move rfl) ?_
 refine dp rfl (pop_eqls rfl rfl) ?_
 refine dn ?_
 refine hw_cond rfl (fun h1 => ?_) (fun h2 => ?_)
 ·try simp at h1
  refine hw_reg ?_
  refine dp rfl (pop_assign rfl) ?_
  refine dp rfl (pop_assign rfl) ?_
  refine dn ?_
  refine hw_ret ?_
  first
  | exact ret_w rfl (weakLn h1)
  | exact ret_p rfl (eqLn h2)
 ·try simp at h2
  refine hw_skip ?_
  refine seqQ_n ?_
  refine hw_reg ?_
  refine dp rfl (pop_move rfl) ?_
  refine dp rfl (pop_call ca118 rfl (WeakL.refl _) (c_strings_CutSuffix (p := [10]) (by omega))) ?_
  refine dp rfl (pop_move rfl) ?_
  refine dp rfl (pop_extract rfl rfl) ?_
  refine dp rfl (pop_extract rfl rfl) ?_
  refine dp rfl (pop_assign rfl) ?_
  refine dp rfl (pop_assign rfl) ?_
  refine dn ?_
  refine hw_reg ?_
  refine dp rfl (pop_move rfl) ?_
  refine dp rfl (pop_call ca72 rfl (WeakL.refl _) (c_strings_Split (c := 10) (by omega))) ?_
  refine dp rfl (pop_move rfl) ?_
  refine dp rfl (pop_assign rfl) ?_
  refine dp rfl (pop_assign rfl) ?_
  refine dn ?_
  refine hw_ret ?_
  first
  | exact ret_w rfl (weakLn h1)
  | exact ret_p rfl (eqLn h2)

/-- benchwarmer/base.Number -/
theorem c_base_Number_g [Tracks] {s : Str} {m : Int} (hs : s.length ≤ 1000000) (hm : m ≤ 17) : ConP Tryz.prog 42 [.str s, .int .i64 m] (.tup [.int .i64 (numR s m), .bool (numB s m)]) := by
 have hcl := cutMinus_len s
 refine Con.of_body Tryz.func42 rfl Tryz.ntmps42 rfl rfl ?_
 refine hw_reg ?_
 refine dp rfl (pop_assign rfl) ?_
 refine dp rfl (pop_assign rfl) ?_
 refine dn ?_
 refine hw_reg ?_
 refine dp rfl (pop_move rfl) ?_
 refine dp rfl (pop_call ca81 rfl (WeakL.refl _) c_strings_TrimPrefix) ?_
 refine dp rfl (pop_assign rfl) ?_
 refine dn ?_
 refine hw_seq ?_
 refine hw_reg ?_
 refine dp rfl (pop_move rfl) ?_
 refine dp rfl (pop_eqls rfl rfl) ?_
 refine dp rfl (pop_move rfl) ?_
 refine dg rfl rfl (fun hc => ⟨_, OpenTo.refl _, pop_move rfl⟩) ?_
 refine dg rfl rfl (fun hc => ⟨_, OpenTo.upd (t := 15) rfl (by first | exact hc | simp_all) (OpenTo.refl _), pop_lens ty9 rfl⟩) ?_
 refine dg rfl rfl (fun hc => ⟨_, OpenTo.refl _, pop_move rfl⟩) ?_
 refine dg rfl rfl (fun hc => ⟨_, OpenTo.upd (t := 17) rfl (by first | exact hc | simp_all) (OpenTo.upd (t := 16) rfl (by first | exact hc | simp_all) (OpenTo.refl _)), pop_gtr rfl rfl⟩) ?_
 refine dp rfl (pop_picko rfl (.inl rfl) (.inr ⟨_, rfl, fun h => by simp_all⟩)) ?_
 refine dp rfl (pop_move rfl) ?_
 refine dg rfl rfl (fun hc => ⟨_, OpenTo.refl _, pop_move rfl⟩) ?_
 refine dg rfl rfl (fun hc => ⟨_, OpenTo.upd (t := 21) rfl (by first | exact hc | simp_all) (OpenTo.refl _), pop_indexs (j := 0) (b := (cutMinus s).headD 0) ty9 rfl rfl rfl (hd0 (by simp_all))⟩) ?_
 refine dg rfl rfl (fun hc => ⟨_, OpenTo.upd (t := 22) rfl (by first | exact hc | simp_all) (OpenTo.refl _), pop_eql rfl rfl⟩) ?_
 refine dg rfl rfl (fun hc => ⟨_, OpenTo.upd (t := 23) rfl (by first | exact hc | simp_all) (OpenTo.refl _), pop_move rfl⟩) ?_
 refine dg rfl rfl (fun hc => ⟨_, OpenTo.refl _, pop_move rfl⟩) ?_
 refine dg rfl rfl (fun hc => ⟨_, OpenTo.upd (t := 25) rfl (by first | exact hc | simp_all) (OpenTo.refl _), pop_lens ty9 rfl⟩) ?_
 refine dg rfl rfl (fun hc => ⟨_, OpenTo.upd (t := 26) rfl (by first | exact hc | simp_all) (OpenTo.refl _), pop_gtr rfl rfl⟩) ?_
 refine dg rfl rfl (fun hc => ⟨_, OpenTo.upd (t := 27) rfl (by first | exact hc | simp_all) (OpenTo.refl _), pop_move rfl⟩) ?_
 refine dg rfl rfl (fun hc => ⟨_, OpenTo.refl _, pop_move rfl⟩) ?_
 refine dg rfl rfl (fun hc => ⟨_, OpenTo.upd (t := 29) rfl (by first | exact hc | simp_all) (OpenTo.refl _), pop_lens ty9 rfl⟩) ?_
 refine dg rfl rfl (fun hc => ⟨_, OpenTo.refl _, pop_move rfl⟩) ?_
 refine dg rfl rfl (fun hc => ⟨_, OpenTo.upd (t := 31) rfl (by first | exact hc | simp_all) (OpenTo.refl _), pop_lens ty9 rfl⟩) ?_
 refine dg rfl rfl (fun hc => ⟨_, OpenTo.upd (t := 32) rfl (by first | exact hc | simp_all) (OpenTo.upd (t := 30) rfl (by first | exact hc | simp_all) (OpenTo.refl _)), pop_gtr rfl rfl⟩) ?_
 refine dg rfl rfl (fun hc => ⟨_, OpenTo.upd (t := 28) rfl (by first | exact hc | simp_all) (OpenTo.refl _), pop_picko rfl (.inl rfl) (.inr ⟨_, rfl, fun h => by simp_all⟩)⟩) ?_
 refine dg rfl rfl (fun hc => ⟨_, OpenTo.upd (t := 24) rfl (by first | exact hc | simp_all) (OpenTo.refl _), pop_picko rfl (.inr ⟨_, rfl, fun h => by simp_all⟩) (.inl rfl)⟩) ?_
 refine dp rfl (pop_picko rfl (.inl rfl) (.inr ⟨_, rfl, fun h => by simp_all⟩)) ?_
 refine dn ?_
 refine hw_cond rfl (fun h1 => ?_) (fun h2 => ?_)
 ·try simp at h1
  refine hw_reg ?_
  refine dp rfl (pop_assign rfl) ?_
  refine dp rfl (pop_assign rfl) ?_
  refine dn ?_
  refine hw_ret ?_
  refine ret_p rfl ?_
  show HVal.tup _ = _
  first | (rw [numR, numB_1g h1]; rfl) | (rw [numR, show numB s m = false by rw [numB, hg, List.all_cons, dig_f h5]; simp]; rfl) | (rw [numR, hnb]; rfl)
 ·try simp at h2
  refine hw_skip ?_
  refine seqQ_n ?_
  refine hw_seq ?_
  refine hw_reg ?_
  refine dp rfl (pop_move rfl) ?_
  refine dp rfl (pop_lens ty9 rfl) ?_
  refine dp rfl (pop_move rfl) ?_
  refine dn ?_
  refine hw_block ?_
  refine hw_loopw [4, 5, 7, 39, 40, 41, 42, 43, 44, 45, 46, 47, 48, 49, 50, 51, 52] (fun (k : Nat) => [(39, .int .i64 k)]) (fun (k : Nat) => []) (fun (k : Nat) => k ≤ (cutMinus s).length ∧ (cutMinus s).all dig = ((cutMinus s).drop k).all dig) (fun (k : Nat) => (cutMinus s).length - k) (0) ?_ ?_ ?_ ?_
  ·exact ⟨Nat.zero_le _, rfl⟩
  ·exact ⟨rfl, trivial⟩
  ·exact List.Perm.refl _
  ·intro k hinv
   obtain ⟨hk, hg⟩ := hinv
   refine hw_reg ?_
   refine dp rfl (pop_lss rfl rfl) ?_
   refine dn ?_
   refine hw_seq ?_
   refine hw_cond rfl (fun h3 => ?_) (fun h4 => ?_)
   ·try simp at h3
    obtain ⟨x, hx⟩ : ∃ x, (cutMinus s)[k]? = some x := ⟨_, List.getElem?_eq_getElem h3⟩
    have hd := drop_cons hx
    rw [hd] at hg
    refine hw_skip ?_
    refine seqQ_n ?_
    refine hw_seq ?_
    refine hw_block ?_
    refine hw_reg ?_
    refine dp rfl (pop_move rfl) ?_
    refine dp rfl (pop_assign rfl) ?_
    refine dn ?_
    refine hw_reg ?_
    refine dp rfl (pop_move rfl) ?_
    refine dp rfl (pop_move rfl) ?_
    refine dp rfl (pop_indexs ty9 rfl rfl rfl (by first | assumption | simp_all)) ?_
    refine dp rfl (pop_lss rfl rfl) ?_
    refine dp rfl (pop_move rfl) ?_
    refine dg rfl rfl (fun hc => ⟨_, OpenTo.refl _, pop_move rfl⟩) ?_
    refine dg rfl rfl (fun hc => ⟨_, OpenTo.refl _, pop_move rfl⟩) ?_
    refine dg rfl rfl (fun hc => ⟨_, OpenTo.upd (t := 48) rfl (by first | exact hc | simp_all) (OpenTo.upd (t := 47) rfl (by first | exact hc | simp_all) (OpenTo.refl _)), pop_indexs ty9 rfl rfl rfl (by first | assumption | simp_all)⟩) ?_
    refine dg rfl rfl (fun hc => ⟨_, OpenTo.upd (t := 49) rfl (by first | exact hc | simp_all) (OpenTo.refl _), pop_gtr rfl rfl⟩) ?_
    refine dp rfl (pop_picko rfl (.inl rfl) (.inr ⟨_, rfl, fun h => by simp_all⟩)) ?_
    refine dn ?_
    refine hw_cond rfl (fun h5 => ?_) (fun h6 => ?_)
    ·try simp at h5
     refine hw_reg ?_
     refine dp rfl (pop_assign rfl) ?_
     refine dp rfl (pop_assign rfl) ?_
     refine dn ?_
     refine hw_ret ?_
     refine ret_p rfl ?_
     show HVal.tup _ = _
     first | (rw [numR, numB_1g h1]; rfl) | (rw [numR, show numB s m = false by rw [numB, hg, List.all_cons, dig_f h5]; simp]; rfl) | (rw [numR, hnb]; rfl)
    ·try simp at h6
     refine hw_skip ?_
     refine blockQ_n ?_
     refine seqQ_n ?_
     refine hw_reg1 ?_
     refine dp rfl (pop_add64 rfl rfl (by omega) (by omega)) ?_
     refine dp rfl (pop_move rfl) ?_
     refine dn ?_
     refine ⟨k + 1, ?_, ?_, ⟨rfl, trivial⟩, (by repeat (first | exact keeps_refl | refine keeps_upd rfl ?_ | refine keeps_loop rfl rfl ?_)), List.Perm.refl _⟩
     ·refine ⟨by omega, ?_⟩
      rw [hg, List.all_cons, dig_t h6]; rfl
     ·dsimp only; omega
   ·try simp at h4
    rw [drop_all (by omega)] at hg
    refine hw_exit ?_
    refine seqQ_x ?_
    refine loopQ_x ?_
    refine blockQ_eq ?_
    refine seqQ_n ?_
    refine hw_reg ?_
    refine dp rfl (pop_move rfl) ?_
    have hnb : numB s m = true := by simp [numB, numC_2g h2, hg]
    obtain ⟨hvat, hv18, _, _⟩ := num_read hm (numB_intC hnb)
    refine dp rfl (pop_call ca82 rfl (WeakL.refl _) (c_strconv_Atoi hv18 hvat)) ?_
    refine dp rfl (pop_move rfl) ?_
    refine dp rfl (pop_extract rfl rfl) ?_
    refine dp rfl (pop_extract rfl rfl) ?_
    refine dp rfl (pop_assign rfl) ?_
    refine dp rfl (pop_assign rfl) ?_
    refine dn ?_
    refine hw_draw (fun _ => True) [] mixed ?_
    refine ahp 0 rfl rfl (by kernel_rfl) (by kernel_rfl) (pop_move rfl) ?_
    refine ahp 1 rfl rfl (by kernel_rfl) (by kernel_rfl) (pop_move rfl) ?_
    refine ahp 2 rfl rfl (by kernel_rfl) (by kernel_rfl) (pop_eqnilI Tryz.underlying72 rfl) ?_
    refine ahp 3 rfl rfl (by kernel_rfl) (by kernel_rfl) (pop_assign rfl) ?_
    refine ahp 4 rfl rfl (by kernel_rfl) (by kernel_rfl) (pop_assign rfl) ?_
    refine ahz (by kernel_rfl) ?_
    refine hw_ret ?_
    refine ret_p rfl ?_
    show HVal.tup _ = _
    first | (rw [numR, numB_1g h1]; rfl) | (rw [numR, show numB s m = false by rw [numB, hg, List.all_cons, dig_f h5]; simp]; rfl) | (rw [numR, hnb]; rfl)

/-- benchwarmer/benchref1.Int -/
theorem c_benchref1_Int_m [Tracks] {s : Str} {m : Int} (hs : s.length ≤ 1000000) (hm : m ≤ 17) : ConP Tryz.prog 73 [.str s, .int .i64 m] (.tup [.int .i64 (intR s m), .bool (intB s m)]) := by
 have hcl := cutMinus_len s
 refine Con.of_body Tryz.func73 rfl Tryz.ntmps73 rfl rfl ?_
 refine hw_reg ?_
 refine dp rfl (pop_assign rfl) ?_
 refine dp rfl (pop_assign rfl) ?_
 refine dn ?_
 refine hw_reg ?_
 refine dp rfl (pop_move rfl) ?_
 refine dp rfl (pop_call ca81 rfl (WeakL.refl _) c_strings_TrimPrefix) ?_
 refine dp rfl (pop_assign rfl) ?_
 refine dn ?_
 refine hw_seq ?_
 refine hw_reg ?_
 refine dp rfl (pop_move rfl) ?_
 refine dp rfl (pop_lens ty9 rfl) ?_
 refine dp rfl (pop_move rfl) ?_
 refine dp rfl (pop_call ca34 rfl (WeakL.refl _) c_benchref1_in) ?_
 refine dp rfl (pop_not rfl) ?_
 refine dp rfl (pop_move rfl) ?_
 refine dg rfl rfl (fun hc => ⟨_, OpenTo.refl _, pop_move rfl⟩) ?_
 refine dg rfl rfl (fun hc => by have hq := hc; (try simp at hq); exact ⟨_, OpenTo.upd (t := 17) rfl (by first | exact hc | simp_all) (OpenTo.refl _), pop_call ca76 rfl (WeakL.refl _) (c_strings_Trim (l := dig10) (by omega) (by decide) (by decide) (by decide))⟩) ?_
 refine dg rfl rfl (fun hc => ⟨_, OpenTo.upd (t := 18) rfl (by first | exact hc | simp_all) (OpenTo.refl _), pop_neqs rfl rfl⟩) ?_
 refine dp rfl (pop_picko rfl (.inl rfl) (.inr ⟨_, rfl, fun h => by simp_all⟩)) ?_
 refine dn ?_
 refine hw_cond rfl (fun h1 => ?_) (fun h2 => ?_)
 ·try simp at h1
  refine hw_reg ?_
  refine dp rfl (pop_assign rfl) ?_
  refine dp rfl (pop_assign rfl) ?_
  refine dn ?_
  refine hw_ret ?_
  refine ret_p rfl ?_
  show HVal.tup _ = _
  first | (simp [intR, intB, hic]; done) | (have hic : intC s m = true := (by simpa [intC, trim10] using h1); simp [intR, intB, hic, ofVal, ofVal1]; done)
 ·try simp at h2
  refine hw_skip ?_
  refine seqQ_n ?_
  refine hw_reg ?_
  refine dp rfl (pop_move rfl) ?_
  have hic : intC s m = false := by simpa [intC, trim10] using h2
  obtain ⟨hvat, hv18, hvb1, hvb2⟩ := num_read hm hic
  refine dp rfl (pop_call ca82 rfl (WeakL.refl _) (c_strconv_Atoi hv18 hvat)) ?_
  refine dp rfl (pop_move rfl) ?_
  refine dp rfl (pop_extract rfl rfl) ?_
  refine dp rfl (pop_extract rfl rfl) ?_
  refine dp rfl (pop_assign rfl) ?_
  refine dp rfl (pop_assign rfl) ?_
  refine dn ?_
  refine hw_reg ?_
  refine dp rfl (pop_move rfl) ?_
  refine dp rfl (pop_move rfl) ?_
  refine dp rfl (pop_eqnilI Tryz.underlying72 rfl) ?_
  refine dp rfl (pop_move rfl) ?_
  refine dg rfl rfl (fun hc => ⟨_, OpenTo.refl _, pop_move rfl⟩) ?_
  refine dg rfl rfl (fun hc => by have hq := hc; (try simp at hq); exact ⟨_, OpenTo.upd (t := 30) rfl (by first | exact hc | simp_all) (OpenTo.refl _), pop_call ca30 rfl (WeakL.refl _) (c_Itoa (n := numV s) (by omega) (by omega))⟩) ?_
  refine dg rfl rfl (fun hc => ⟨_, OpenTo.refl _, pop_move rfl⟩) ?_
  refine dg rfl rfl (fun hc => ⟨_, OpenTo.upd (t := 32) rfl (by first | exact hc | simp_all) (OpenTo.upd (t := 31) rfl (by first | exact hc | simp_all) (OpenTo.refl _)), pop_eqls rfl rfl⟩) ?_
  refine dp rfl (pop_picko rfl (.inr ⟨_, rfl, fun h => by simp_all⟩) (.inl rfl)) ?_
  refine dp rfl (pop_assign rfl) ?_
  refine dp rfl (pop_assign rfl) ?_
  refine dn ?_
  refine hw_ret ?_
  refine ret_p rfl ?_
  show HVal.tup _ = _
  first | (simp [intR, intB, hic]; done) | (have hic : intC s m = true := (by simpa [intC, trim10] using h1); simp [intR, intB, hic, ofVal, ofVal1]; done)
end Go.Proofs.YtbfikmihcpfgaaaGreatDoor
end
section
namespace Go.HL
section
variable {κ : Type}
end
end Go.HL
end
section
namespace Go.HL
section
variable {P : Program} {e : Env} {dst : Option Tmp} {ty : TypeId} {pos : String} {af : Array Edge} {g : Option (Nat × Bool)} {M : List MObj} {K : HVal → List MObj → Prop}
end
end Go.HL
end
section
namespace Go.HL
section
variable {P : Program} {e : Env} {dst : Option Tmp} {ty : TypeId} {pos : String} {af : Array Edge} {g : Option (Nat × Bool)}
end
section
variable {P : Program} {n : Nat} {e e' : Env} {M M' : List MObj} {Q Q' : Exit → Env → List MObj → Prop} {c c' : Code}
def LoopW4 {α β γ δ : Type} (e : Env) (ks : List Nat) (W : α → β → γ → δ → List (Nat × HVal)) (MM : α → β → γ → δ → List MObj) (Iv : α → β → γ → δ → Prop) (μ : α → β → γ → δ → Nat) (x : α) (y : β) (u : γ) (v : δ) (Q : Exit → Env → List MObj → Prop) : Exit → Env → List MObj → Prop
 | .normal, e', M => ∃ j k l m, Iv j k l m ∧ μ j k l m < μ x y u v ∧ HoldsW e' (W j k l m) ∧ Keeps ks e e' ∧ M.Perm (MM j k l m)
 | z, e', M => Q z e' M
theorem loopQ4_x {α β γ δ : Type} {e0 : Env} {ks : List Nat} {W : α → β → γ → δ → List (Nat × HVal)} {MM : α → β → γ → δ → List MObj} {Iv : α → β → γ → δ → Prop} {μ : α → β → γ → δ → Nat} {x : α} {y : β} {u : γ} {v : δ} {id : Nat} (h : Q (.exit id) e M) :
 LoopW4 e0 ks W MM Iv μ x y u v Q (.exit id) e M := h
theorem hw_loopw4 [Tracks] {α β γ δ : Type} (ks : List Nat) (W : α → β → γ → δ → List (Nat × HVal)) (MM : α → β → γ → δ → List MObj) (Iv : α → β → γ → δ → Prop) (μ : α → β → γ → δ → Nat) (x : α) (y : β) (u : γ) (v : δ) (h0 : Iv x y u v) (hW : HoldsW e (W x y u v)) (hM : M.Perm (MM x y u v))
 (hb : ∀ x y u v, Iv x y u v → HWp P n c (loopE e ks (W x y u v)) (MM x y u v) (LoopW4 e ks W MM Iv μ x y u v Q)) : HWp P n (.loop c) e M Q := by
 refine hw_loopw (ι := α × β × γ × δ) ks (fun p => W p.1 p.2.1 p.2.2.1 p.2.2.2) (fun p => MM p.1 p.2.1 p.2.2.1 p.2.2.2) (fun p => Iv p.1 p.2.1 p.2.2.1 p.2.2.2) (fun p => μ p.1 p.2.1 p.2.2.1 p.2.2.2) (x, y, u, v) h0 hW hM fun p hp => hw_mono (hb p.1 p.2.1 p.2.2.1 p.2.2.2 hp) ?_
 intro z e1 M1 hq
 cases z with
 | normal => obtain ⟨j, k, l, m, h⟩ := hq; exact ⟨(j, k, l, m), h⟩
 | _ => exact hq
end
end Go.HL
end
section
namespace Go.Proofs.YtbfikmihcpfgaaaGreatDoor
open Go.HL
set_option maxRecDepth 100000
set_option linter.unusedVariables false
set_option linter.unusedSimpArgs false
/-- benchwarmer/base.Each -/
theorem c_base_Each [Tracks] {σ : Type} {S : σ → List MObj} {Inv : List Str → σ → Prop} {ok : Str → Bool} {fid : FuncId} {caps : List HVal} {st0 : σ} {text : Str}  (hca : Callable Tryz.prog fid) (hp : ∀ (done : List Str) (s : Str) (st : σ), done.length ≤ 1000000 → s.length ≤ 1000000 → Inv done st → Con Tryz.prog fid ([.str s] ++ caps) (S st) fun x M' => ∃ st', x = .bool (ok s) ∧ M' = S st' ∧ (ok s = true → Inv (done ++ [s]) st')) (h0 : Inv [] st0) (ht : text.length ≤ 1000000) : Con Tryz.prog 39 [.str text, .fn (.func fid) [] caps] (S st0) (fun x M' => ∃ st', x = .tup [.int .i64 (goL ok 0 (spl 10 text)).1, .bool (goL ok 0 (spl 10 text)).2] ∧ M' = S st' ∧ ((goL ok 0 (spl 10 text)).2 = true → Inv (lns text) st')) := by
 have hll := lnsL_many text
 refine Con.of_body Tryz.func39 rfl Tryz.ntmps39 rfl rfl ?_
 refine hw_reg ?_
 refine dp rfl (pop_assign rfl) ?_
 refine dp rfl (pop_assign rfl) ?_
 refine dn ?_
 refine hw_reg ?_
 refine dp rfl (pop_move rfl) ?_
 refine dp rfl (pop_call ca80 rfl (WeakL.refl _) (c_base_Lines (by first | assumption | omega | (simp; omega) | simp_all))) ?_
 refine dp rfl (pop_move rfl) ?_
 refine dp rfl (pop_extract rfl rfl) ?_
 refine dp rfl (pop_extract rfl rfl) ?_
 refine dp rfl (pop_assign rfl) ?_
 refine dp rfl (pop_assign rfl) ?_
 refine dn ?_
 refine hw_seq ?_
 refine hw_reg ?_
 refine dp rfl (pop_move rfl) ?_
 refine dp rfl (pop_lenm ty44 rfl) ?_
 refine dp rfl (pop_move rfl) ?_
 refine dn ?_
 refine hw_block ?_
 refine hw_loopw2 [4, 5, 8, 9, 17, 18, 19, 20, 21, 22, 23, 24, 25, 26, 27, 28, 29, 30, 31, 32, 33, 34, 35, 36, 37, 38] (fun (k : Nat) (st : σ) => [(17, .int .i64 k)]) (fun (k : Nat) (st : σ) => (S st)) (fun (k : Nat) (st : σ) => k ≤ (lnsL text).length ∧ (Inv ((lnsL text).take k) st ∧ goL ok 0 (spl 10 text) = eachP ok (lnsE text) (lnsL text).length k ((lnsL text).drop k))) (fun (k : Nat) (st : σ) => (lnsL text).length - k) (0) (st0) ?_ ?_ ?_ ?_
 ·exact ⟨Nat.zero_le _, h0, (eachP_goL ok text).symm⟩
 ·exact ⟨rfl, trivial⟩
 ·exact perm_eq rfl
 ·intro k st hinv
  obtain ⟨hk, ⟨hq, hg⟩⟩ := hinv
  refine hw_reg ?_
  refine dp rfl (pop_lss rfl rfl) ?_
  refine dn ?_
  refine hw_seq ?_
  refine hw_cond rfl (fun h1 => ?_) (fun h2 => ?_)
  ·try simp at h1
   obtain ⟨x, hx⟩ : ∃ x, (lnsL text)[k]? = some x := ⟨_, List.getElem?_eq_getElem h1⟩
   have hdx := drop_cons hx
   rw [hdx, eachP_cons] at hg
   refine hw_skip ?_
   refine seqQ_n ?_
   refine hw_seq ?_
   refine hw_block ?_
   refine hw_reg ?_
   refine dp rfl (pop_move rfl) ?_
   refine dp rfl (pop_idx ty44 ty9 rfl rfl rfl (by first | assumption | simp_all)) ?_
   refine dp rfl (pop_load ty9 rfl rfl rfl) ?_
   refine dp rfl (pop_assign rfl) ?_
   refine dp rfl (pop_assign rfl) ?_
   refine dn ?_
   refine hw_reg ?_
   refine dp rfl (pop_move rfl) ?_
   refine dp rfl (pop_not rfl) ?_
   refine dp rfl (pop_move rfl) ?_
   refine dg rfl rfl (fun hc => ⟨_, OpenTo.refl _, pop_move rfl⟩) ?_
   refine dg rfl rfl (fun hc => ⟨_, OpenTo.refl _, pop_move rfl⟩) ?_
   refine dg rfl rfl (fun hc => ⟨_, OpenTo.upd (t := 26) rfl (by first | exact hc | simp_all) (OpenTo.refl _), pop_lenm ty44 rfl⟩) ?_
   refine dg rfl rfl (fun hc => by have hq := hc; (try simp at hq); exact ⟨_, OpenTo.upd (t := 27) rfl (by first | exact hc | simp_all) (OpenTo.refl _), pop_sub64 rfl rfl (by omega) (by omega)⟩) ?_
   refine dg rfl rfl (fun hc => ⟨_, OpenTo.upd (t := 28) rfl (by first | exact hc | simp_all) (OpenTo.upd (t := 25) rfl (by first | exact hc | simp_all) (OpenTo.refl _)), pop_eql rfl rfl⟩) ?_
   refine dp rfl (pop_picko rfl (.inr ⟨_, rfl, fun h => by simp_all⟩) (.inl rfl)) ?_
   refine dp rfl (pop_move rfl) ?_
   refine dg rfl rfl (fun hc => ⟨_, OpenTo.refl _, pop_move rfl⟩) ?_
   refine dg rfl rfl (fun hc => ⟨_, OpenTo.refl _, pop_move rfl⟩) ?_
   refine dgx (fun xq M' => ∃ st', xq = .bool (ok x) ∧ M' = S st' ∧ ((!(lnsE text) && decide ((k : Int) = ((lnsL text).length : Int) - 1)) = false → ok x = true → Inv ((lnsL text).take k ++ [x]) st')) rfl rfl (fun hc => ⟨_, st, rfl, rfl, fun h => (by simp_all)⟩) (fun hc => ⟨_, OpenTo.upd (t := 33) rfl (by first | exact hc | simp_all) (OpenTo.upd (t := 32) rfl (by first | exact hc | simp_all) (OpenTo.refl _)), EOp.mono (fun _ _ ⟨st', h1, h2, h3⟩ => ⟨st', h1, h2, fun _ => h3⟩) (eop_callv hca rfl rfl (WeakL.refl _) (hp ((lnsL text).take k) x st (by rw [List.length_take]; omega) (Nat.le_trans (lnsL_len x (List.mem_of_getElem? hx)) ht) hq))⟩) ?_
   rintro _ _ ⟨st2, rfl, rfl, hst2⟩
   refine dg rfl rfl (fun hc => ⟨_, OpenTo.upd (t := 34) rfl (by first | exact hc | simp_all) (OpenTo.refl _), pop_not rfl⟩) ?_
   refine dp rfl (pop_picko rfl (.inl rfl) (.inr ⟨_, rfl, fun h => by simp_all⟩)) ?_
   refine dn ?_
   refine hw_cond rfl (fun h3 => ?_) (fun h4 => ?_)
   ·try simp at h3
    refine hw_reg ?_
    refine dp rfl (pop_move rfl) ?_
    refine dp rfl (pop_assign rfl) ?_
    refine dp rfl (pop_assign rfl) ?_
    refine dn ?_
    refine hw_ret ?_
    first
    | (have hgf : goL ok 0 (spl 10 text) = ((k : Int), false) := hg.trans (if_pos (by simp; simpa using h3))
       exact ret_q rfl ⟨st2, by rw [hgf]; rfl, rfl, fun h => by rw [hgf] at h; cases h⟩)
    | (refine ret_q rfl ⟨st, ?_, rfl, fun h => ?_⟩
       ·rw [hg]; rfl
       ·rw [eachP_true h]; exact hq)
   ·try simp at h4
    refine hw_skip ?_
    refine blockQ_n ?_
    refine seqQ_n ?_
    refine hw_reg1 ?_
    refine dp rfl (pop_add64 rfl rfl (by omega) (by omega)) ?_
    refine dp rfl (pop_move rfl) ?_
    refine dn ?_
    exact ⟨k + 1, st2, ⟨by omega, (by simp_all [take_snoc' hx]), (by simp_all)⟩, by dsimp only; omega, ⟨rfl, trivial⟩, (by repeat (first | exact keeps_refl | refine keeps_upd rfl ?_ | refine keeps_loop rfl rfl ?_)), perm_eq rfl⟩
  ·try simp at h2
   have hnk : (lnsL text).length ≤ k := by omega
   obtain rfl : k = (lnsL text).length := by omega
   rw [drop_all (Nat.le_refl _)] at hg
   rw [List.take_length] at hq
   refine hw_exit ?_
   refine seqQ_x ?_
   refine loopQ2_x ?_
   refine blockQ_eq ?_
   refine seqQ_n ?_
   refine hw_reg ?_
   refine dp rfl (pop_assign rfl) ?_
   refine dp rfl (pop_assign rfl) ?_
   refine dn ?_
   refine hw_ret ?_
   first
   | (have hgf : goL ok 0 (spl 10 text) = ((k : Int), false) := hg.trans (if_pos (by simp; simpa using h3))
      exact ret_q rfl ⟨st2, by rw [hgf]; rfl, rfl, fun h => by rw [hgf] at h; cases h⟩)
   | (refine ret_q rfl ⟨st, ?_, rfl, fun h => ?_⟩
      ·rw [hg]; rfl
      ·rw [eachP_true h]; exact hq)

/-- benchwarmer/benchref1.Lines -/
theorem c_benchref1_Lines [Tracks] {σ : Type} {S : σ → List MObj} {Inv : List Str → σ → Prop} {ok : Str → Bool} {fid : FuncId} {caps : List HVal} {st0 : σ} {text : Str}  (hca : Callable Tryz.prog fid) (hp : ∀ (done : List Str) (s : Str) (st : σ), done.length ≤ 1000000 → s.length ≤ 1000000 → Inv done st → Con Tryz.prog fid ([.str s] ++ caps) (S st) fun x M' => ∃ st', x = .bool (ok s) ∧ M' = S st' ∧ (ok s = true → Inv (done ++ [s]) st')) (h0 : Inv [] st0) (ht : text.length ≤ 1000000) : Con Tryz.prog 70 [.str text, .fn (.func fid) [] caps] (S st0) (fun x M' => ∃ st', x = .tup [.int .i64 (goL ok 0 (spl 10 text)).1, .bool (goL ok 0 (spl 10 text)).2] ∧ M' = S st' ∧ ((goL ok 0 (spl 10 text)).2 = true → Inv (lns text) st')) := by
 refine Con.of_body Tryz.func70 rfl Tryz.ntmps70 rfl rfl ?_
 refine hw_reg ?_
 refine dp rfl (pop_assign rfl) ?_
 refine dp rfl (pop_assign rfl) ?_
 refine dn ?_
 refine hw_seq ?_
 refine hw_reg ?_
 refine dp rfl (pop_assign rfl) ?_
 refine dn ?_
 refine hw_block ?_
 refine hw_loopw4 [0, 4, 5, 6, 7, 8, 9, 10, 11, 12, 13, 14, 15, 16, 17, 18, 19, 20, 21, 22, 23, 24, 25, 26, 27, 28, 29] (fun (k : Nat) (t : Str) (st : σ) (done : List Str) => [(6, .int .i64 (k : Int)), (0, .str t)]) (fun (k : Nat) (t : Str) (st : σ) (done : List Str) => (S st)) (fun (k : Nat) (t : Str) (st : σ) (done : List Str) => goL ok 0 (spl 10 text) = goL ok k (spl 10 t) ∧ lns text = done ++ lns t ∧ Inv done st ∧ done.length = k ∧ k + t.length ≤ text.length) (fun (k : Nat) (t : Str) (st : σ) (done : List Str) => t.length) (0) (text) (st0) ([]) ?_ ?_ ?_ ?_
 ·exact ⟨rfl, rfl, h0, rfl, by omega⟩
 ·exact ⟨rfl, rfl, trivial⟩
 ·exact perm_eq rfl
 ·intro k t st done hinv
  obtain ⟨hg, hl, hq, hk, hlen⟩ := hinv
  refine hw_seq ?_
  refine hw_reg ?_
  refine dp rfl (pop_move rfl) ?_
  refine dp rfl (pop_neqs rfl rfl) ?_
  refine dn ?_
  refine hw_cond rfl (fun h1 => ?_) (fun h2 => ?_)
  ·try simp at h1
   obtain ⟨hc1, hc2, hc3⟩ := cutF_len 10 t
   refine hw_skip ?_
   refine seqQ_n ?_
   refine hw_seq ?_
   refine hw_block ?_
   refine hw_reg ?_
   refine dp rfl (pop_move rfl) ?_
   refine dp rfl (pop_call ca105 rfl (WeakL.refl _) (c_strings_Cut (c := 10) (by omega))) ?_
   refine dp rfl (pop_move rfl) ?_
   refine dp rfl (pop_extract rfl rfl) ?_
   refine dp rfl (pop_extract rfl rfl) ?_
   refine dp rfl (pop_extract rfl rfl) ?_
   refine dp rfl (pop_assign rfl) ?_
   refine dp rfl (pop_assign rfl) ?_
   refine dp rfl (pop_assign rfl) ?_
   refine dn ?_
   refine hw_seq ?_
   refine hw_reg ?_
   refine dp rfl (pop_move rfl) ?_
   refine dp rfl (pop_not rfl) ?_
   refine dp rfl (pop_move rfl) ?_
   refine dg rfl rfl (fun hc => ⟨_, OpenTo.refl _, pop_move rfl⟩) ?_
   refine dg rfl rfl (fun hc => ⟨_, OpenTo.refl _, pop_move rfl⟩) ?_
   refine dgx (fun xq M' => ∃ st', xq = .bool (ok (cutF 10 t).1) ∧ M' = S st' ∧ ((cutF 10 t).2.2 = true → ok (cutF 10 t).1 = true → Inv (done ++ [(cutF 10 t).1]) st')) rfl rfl (fun hc => ⟨_, st, rfl, rfl, fun h => (by simp_all)⟩) (fun hc => ⟨_, OpenTo.upd (t := 24) rfl (by first | exact hc | simp_all) (OpenTo.upd (t := 23) rfl (by first | exact hc | simp_all) (OpenTo.refl _)), EOp.mono (fun _ _ ⟨st', h1, h2, h3⟩ => ⟨st', h1, h2, fun _ => h3⟩) (eop_callv hca rfl rfl (WeakL.refl _) (hp done (cutF 10 t).1 st (by omega) (by omega) hq))⟩) ?_
   rintro _ _ ⟨st2, rfl, rfl, hst2⟩
   refine dg rfl rfl (fun hc => ⟨_, OpenTo.upd (t := 25) rfl (by first | exact hc | simp_all) (OpenTo.refl _), pop_not rfl⟩) ?_
   refine dp rfl (pop_picko rfl (.inl rfl) (.inr ⟨_, rfl, fun h => by simp_all⟩)) ?_
   refine dn ?_
   refine hw_cond rfl (fun h3 => ?_) (fun h4 => ?_)
   ·try simp at h3
    refine hw_reg ?_
    refine dp rfl (pop_move rfl) ?_
    refine dp rfl (pop_assign rfl) ?_
    refine dp rfl (pop_assign rfl) ?_
    refine dn ?_
    refine hw_ret ?_
    first
    | (have hgf : goL ok 0 (spl 10 text) = ((k : Int), false) := hg.trans (goL_f h1 (fun hh => by simpa [hh] using h3))
       exact ret_q rfl ⟨st2, by rw [hgf]; rfl, rfl, fun h => by rw [hgf] at h; cases h⟩)
    | (subst h2
       exact ret_q rfl ⟨st, by rw [hg]; rfl, rfl, fun h => by rw [hl]; simpa [lns, spl] using hq⟩)
   ·try simp at h4
    refine hw_skip ?_
    refine seqQ_n ?_
    refine hw_reg1 ?_
    refine dp rfl (pop_move rfl) ?_
    refine dp rfl (pop_assign rfl) ?_
    refine dn ?_
    refine blockQ_n ?_
    refine seqQ_n ?_
    refine hw_reg1 ?_
    refine dp rfl (pop_move rfl) ?_
    refine dp rfl (pop_add64 rfl rfl (by omega) (by omega)) ?_
    refine dp rfl (pop_assign rfl) ?_
    refine dn ?_
    obtain ⟨h4a, h4b⟩ := h4
    have hc4 := hc3 h4a
    exact ⟨k + 1, (cutF 10 t).2.1, st2, done ++ [(cutF 10 t).1], ⟨hg.trans ((goL_cut h1 h4a).trans (if_pos h4b)), by rw [hl, lns_cut h4a]; simp, hst2 h4a h4b, by simp [hk], by omega⟩, by dsimp only; omega, ⟨rfl, rfl, trivial⟩, (by repeat (first | exact keeps_refl | refine keeps_upd rfl ?_ | refine keeps_loop rfl rfl ?_)), perm_eq rfl⟩
  ·try simp at h2
   refine hw_exit ?_
   refine seqQ_x ?_
   refine loopQ4_x ?_
   refine blockQ_eq ?_
   refine seqQ_n ?_
   refine hw_reg ?_
   refine dp rfl (pop_assign rfl) ?_
   refine dp rfl (pop_assign rfl) ?_
   refine dn ?_
   refine hw_ret ?_
   first
   | (have hgf : goL ok 0 (spl 10 text) = ((k : Int), false) := hg.trans (goL_f h1 (fun hh => by simpa [hh] using h3))
      exact ret_q rfl ⟨st2, by rw [hgf]; rfl, rfl, fun h => by rw [hgf] at h; cases h⟩)
   | (subst h2
      exact ret_q rfl ⟨st, by rw [hg]; rfl, rfl, fun h => by rw [hl]; simpa [lns, spl] using hq⟩)
end Go.Proofs.YtbfikmihcpfgaaaGreatDoor
end
section
namespace Go.HL
theorem keyS_len {s : Str} (h : key s = true) : s.length ≤ 40 := by
 unfold key keyHd at h
 simp only [Bool.and_eq_true, decide_eq_true_eq] at h
 exact h.1.1.1.2
theorem spl_getD_len {line : Str} (j : Nat) : ((spl 32 line).getD j []).length ≤ line.length := by
 rw [List.getD_eq_getElem?_getD]
 cases h : (spl 32 line)[j]? with
 | none => simp
 | some x => exact spl_mem_len 32 line x (List.mem_of_getElem? h)
theorem contains_nil (l : List Str) : l.contains [] = !(l.all fun w => !w.isEmpty) := by
 induction l with
 | nil => rfl
 | cons x r ih =>
   rw [List.contains_cons, ih, List.all_cons]
   cases x <;> simp
end Go.HL
end
section
namespace Go.HL
variable {P : Program}
end Go.HL
end
section
namespace Go.Proofs.YtbfikmihcpfgaaaGreatDoor
open Go.HL
set_option maxRecDepth 100000
set_option linter.unusedVariables false
set_option linter.unusedSimpArgs false
/-- benchwarmer/benchref1.Key -/
theorem c_benchref1_Key_u [Tracks] {s : Str}  : ConP Tryz.prog 33 [.str s] (.bool (key s)) := by
 refine Con.of_body Tryz.func33 rfl Tryz.ntmps33 rfl rfl ?_
 refine hw_reg ?_
 refine dp rfl (pop_assign rfl) ?_
 refine dn ?_
 refine hw_reg ?_
 refine dp rfl (pop_move rfl) ?_
 refine dp rfl (pop_lens ty9 rfl) ?_
 refine dp rfl (pop_call ca34 rfl (WeakL.refl _) c_benchref1_in) ?_
 refine dp rfl (pop_move rfl) ?_
 refine dg rfl rfl (fun hc => ⟨_, OpenTo.refl _, pop_move rfl⟩) ?_
 refine dg rfl rfl (fun hc => by
  have hs40 := out_f (n := (s.length : Int)) (lo := 1) (hi := 40) (by simpa using hc)
  exact ⟨_, OpenTo.upd (t := 7) rfl (by first | exact hc | simp_all) (OpenTo.refl _), pop_call ca76 rfl (WeakL.refl _) (c_strings_Trim (l := cut38) (by omega) (by decide) (by decide) (by decide))⟩) ?_
 refine dg rfl rfl (fun hc => ⟨_, OpenTo.upd (t := 8) rfl (by first | exact hc | simp_all) (OpenTo.refl _), pop_eqls rfl rfl⟩) ?_
 refine dp rfl (pop_picko rfl (.inr ⟨_, rfl, fun h => by simp_all⟩) (.inl rfl)) ?_
 refine dp rfl (pop_move rfl) ?_
 refine dg rfl rfl (fun hc => ⟨_, OpenTo.refl _, pop_move rfl⟩) ?_
 refine dg rfl rfl (fun hc => ⟨_, OpenTo.upd (t := 12) rfl (by first | exact hc | simp_all) (OpenTo.refl _), pop_indexs (j := 0) (b := s.headD 0) ty9 rfl rfl rfl (hd0 (by rintro rfl; simp [out] at hc))⟩) ?_
 refine dg rfl rfl (fun hc => ⟨_, OpenTo.upd (t := 13) rfl (by first | exact hc | simp_all) (OpenTo.refl _), pop_call ca77 rfl (WeakL.refl _) c_strings_IndexByte⟩) ?_
 refine dg rfl rfl (fun hc => ⟨_, OpenTo.upd (t := 14) rfl (by first | exact hc | simp_all) (OpenTo.refl _), pop_geq rfl rfl⟩) ?_
 refine dp rfl (pop_picko rfl (.inr ⟨_, rfl, fun h => by simp_all⟩) (.inl rfl)) ?_
 refine dp rfl (pop_assign rfl) ?_
 refine dn ?_
 refine hw_ret ?_
 refine ret_p rfl ?_
 show HVal.bool _ = _
 rw [key_ref]
 simp [cut38, small26]
end Go.Proofs.YtbfikmihcpfgaaaGreatDoor
end
section
namespace Go.HL
variable {P : Program}
/-- What a rune reads as. -/
def runeS (m : Int) : List UInt8 := (Utf8.encode m).data.toList
theorem runeS_len (m : Int) : (runeS m).length ≤ 4 := by
 show (Utf8.encode m).data.toList.length ≤ 4
 rw [Array.length_toList]; exact encode_size_le m
theorem pop_runeS [Tracks] {e : Env} {dst : Option Tmp} {ty : TypeId} {pos : String} {af : Array Edge} {g : Option (Nat × Bool)} {x : Operand} {t d' : TypeId} {k : IntKind} {m : Int} {s1 s2 b1 b2 : Nat} {z1 z2 : Value} {ds : TD} (hs : Fits P t ds s1 b1 z1) (hf : Fits P d' .str s2 b2 z2) (hx : evalO e x = some (.int k m)) :
 POp P e ⟨dst, .convert t d' x, ty, pos, af, g⟩ (.str (runeS m)) :=
 POp.of_val fun I a w ho => ⟨.string (Utf8.encode m), by
  have h1 := (ho.one (x := x) (by simp [Op.operands]) hx).int_inv
  obtain ⟨u, hu, _⟩ := hs.underlying
  simp only [execOp, h1, convert, Sem.run_bind, run_underlying hu, run_underlying hf.strD, Result.andThen_ok, Sem.run_pure, Conv.intToString], by
  have : Value.string (Utf8.encode m) = .string ⟨(runeS m).toArray⟩ := by simp [runeS]
  rw [this]; exact .str _⟩
end Go.HL
end
section
namespace Go.Proofs.YtbfikmihcpfgaaaGreatDoor
open Go.HL
set_option maxRecDepth 100000
set_option linter.unusedVariables false
set_option linter.unusedSimpArgs false
/-- (*benchwarmer/benchmake.Stream).Changed -/
theorem c_benchmake_Stream_Changed [Tracks] {b : Nat} {l : List Int} {a : Nat} {t w : Str} (ha : a ≤ 900000) (ht : t.length ≤ 1000000) (hw : w.length ≤ 1000000) : Con Tryz.prog 43 [pAt b, .str t, .str w] [St b l a] (fun x M' => ∃ (y : Str) (a' : Nat), x = .str y ∧ y.length ≤ t.length + w.length + 4 ∧ a' ≤ a + 3 ∧ M' = [St b l a']) := by
 refine Con.of_body Tryz.func43 rfl Tryz.ntmps43 rfl rfl ?_
 refine hw_reg ?_
 refine dp rfl (pop_assign rfl) ?_
 refine dn ?_
 refine hw_seq ?_
 refine hw_reg ?_
 refine dp rfl (pop_move rfl) ?_
 refine dp rfl (pop_eqls rfl rfl) ?_
 refine dp rfl (pop_move rfl) ?_
 refine dg rfl rfl (fun hc => ⟨_, OpenTo.refl _, pop_move rfl⟩) ?_
 refine dg rfl rfl (fun hc => ⟨_, OpenTo.upd (t := 12) rfl (by first | exact hc | simp_all) (OpenTo.refl _), pop_eqls rfl rfl⟩) ?_
 refine dp rfl (pop_picko rfl (.inl rfl) (.inr ⟨_, rfl, fun h => by simp_all⟩)) ?_
 refine dn ?_
 refine hw_cond rfl (fun h1 => ?_) (fun h2 => ?_)
 ·try simp at h1
  refine hw_reg ?_
  refine dp rfl (pop_move rfl) ?_
  refine dp rfl (pop_assign rfl) ?_
  refine dn ?_
  refine hw_ret ?_
  first
  | exact ret_q rfl ⟨_, a, rfl, by omega, by omega, rfl⟩
  | (refine ret_q rfl ⟨_, a + 1 + 1 + 1, rfl, ?_, by omega, rfl⟩
     simp only [List.length_append, List.length_drop, List.length_take]
     (try simp only [List.getD_eq_getElem?_getD])
     omega)
 ·try simp at h2
  refine hw_skip ?_
  refine seqQ_n ?_
  refine hw_reg ?_
  refine dp rfl (pop_move rfl) ?_
  refine dp rfl (pop_move rfl) ?_
  refine dp rfl (pop_lens ty9 rfl) ?_
  first
  | refine de rfl (eop_callx (i := 0) ca31 rfl (WeakL.refl _) rfl (c_benchmake_Stream_Next (by first | assumption | omega | (simp; omega) | simp_all) (by first | assumption | omega | (simp; omega) | simp_all)) ?_)
  | refine de rfl (eop_callx (i := 1) ca31 rfl (WeakL.refl _) rfl (c_benchmake_Stream_Next (by first | assumption | omega | (simp; omega) | simp_all) (by first | assumption | omega | (simp; omega) | simp_all)) ?_)
  | refine de rfl (eop_callx (i := 2) ca31 rfl (WeakL.refl _) rfl (c_benchmake_Stream_Next (by first | assumption | omega | (simp; omega) | simp_all) (by first | assumption | omega | (simp; omega) | simp_all)) ?_)
  | refine de rfl (eop_callx (i := 3) ca31 rfl (WeakL.refl _) rfl (c_benchmake_Stream_Next (by first | assumption | omega | (simp; omega) | simp_all) (by first | assumption | omega | (simp; omega) | simp_all)) ?_)
  rintro _ _ ⟨y19, rfl, hy19, rfl⟩
  refine dp rfl (pop_assign rfl) ?_
  refine dn ?_
  have hlt : y19 < t.length := by have := List.length_pos_iff.2 h2.1; omega
  have hwp := List.length_pos_iff.2 h2.2
  refine hw_reg ?_
  refine dp rfl (pop_move rfl) ?_
  refine dp rfl (pop_move rfl) ?_
  refine dp rfl (pop_move rfl) ?_
  refine dp rfl (pop_lens ty9 rfl) ?_
  first
  | refine de rfl (eop_callx (i := 0) ca31 rfl (WeakL.refl _) rfl (c_benchmake_Stream_Next (by first | assumption | omega | (simp; omega) | simp_all) (by first | assumption | omega | (simp; omega) | simp_all)) ?_)
  | refine de rfl (eop_callx (i := 1) ca31 rfl (WeakL.refl _) rfl (c_benchmake_Stream_Next (by first | assumption | omega | (simp; omega) | simp_all) (by first | assumption | omega | (simp; omega) | simp_all)) ?_)
  | refine de rfl (eop_callx (i := 2) ca31 rfl (WeakL.refl _) rfl (c_benchmake_Stream_Next (by first | assumption | omega | (simp; omega) | simp_all) (by first | assumption | omega | (simp; omega) | simp_all)) ?_)
  | refine de rfl (eop_callx (i := 3) ca31 rfl (WeakL.refl _) rfl (c_benchmake_Stream_Next (by first | assumption | omega | (simp; omega) | simp_all) (by first | assumption | omega | (simp; omega) | simp_all)) ?_)
  rintro _ _ ⟨y24, rfl, hy24, rfl⟩
  refine dp rfl (pop_indexs (j := y24) (b := w.getD y24 0) ty9 rfl rfl rfl (getD_some (by omega))) ?_
  refine dp rfl (pop_assign rfl) ?_
  refine dn ?_
  refine hw_seq ?_
  have hru : (runeS (IntKind.i32.wrap (((w[y24]?.getD 0).toNat : Nat) : Int))).length ≤ 4 := runeS_len _
  refine hw_reg ?_
  refine dp rfl (pop_move rfl) ?_
  first
  | refine de rfl (eop_callx (i := 0) ca31 rfl (WeakL.refl _) rfl (c_benchmake_Stream_Next (by first | assumption | omega | (simp; omega) | simp_all) (by first | assumption | omega | (simp; omega) | simp_all)) ?_)
  | refine de rfl (eop_callx (i := 1) ca31 rfl (WeakL.refl _) rfl (c_benchmake_Stream_Next (by first | assumption | omega | (simp; omega) | simp_all) (by first | assumption | omega | (simp; omega) | simp_all)) ?_)
  | refine de rfl (eop_callx (i := 2) ca31 rfl (WeakL.refl _) rfl (c_benchmake_Stream_Next (by first | assumption | omega | (simp; omega) | simp_all) (by first | assumption | omega | (simp; omega) | simp_all)) ?_)
  | refine de rfl (eop_callx (i := 3) ca31 rfl (WeakL.refl _) rfl (c_benchmake_Stream_Next (by first | assumption | omega | (simp; omega) | simp_all) (by first | assumption | omega | (simp; omega) | simp_all)) ?_)
  rintro _ _ ⟨y27, rfl, hy27, rfl⟩
  refine dn ?_
  refine hw_block ?_
  refine hw_reg ?_
  refine dp rfl (pop_eql rfl rfl) ?_
  refine dp rfl (pop_assign rfl) ?_
  refine dn ?_
  refine hw_cond rfl (fun h3 => ?_) (fun h4 => ?_)
  ·try simp at h3
   refine hw_draw (fun _ => True) [] mixed ?_
   refine ahp 0 rfl rfl (by kernel_rfl) (by kernel_rfl) (pop_move rfl) ?_
   refine ahp 1 rfl rfl (by kernel_rfl) (by kernel_rfl) (pop_move rfl) ?_
   refine ahp 2 rfl rfl (by kernel_rfl) (by kernel_rfl) (pop_slices ty9 rfl rfl ⟨_, _, rfl, rfl⟩ (by omega) (by omega)) ?_
   refine ahp 3 rfl rfl (by kernel_rfl) (by kernel_rfl) (pop_move rfl) ?_
   refine ahp 4 rfl rfl (by kernel_rfl) (by kernel_rfl) (pop_conv ty5 ty21 rfl) ?_
   refine ahp 5 rfl rfl (by kernel_rfl) (by kernel_rfl) (pop_runeS ty21 ty9 rfl) ?_
   refine ahp 6 rfl rfl (by kernel_rfl) (by kernel_rfl) (pop_adds rfl rfl (by first | assumption | (simp; omega))) ?_
   refine ahp 7 rfl rfl (by kernel_rfl) (by kernel_rfl) (pop_move rfl) ?_
   refine ahp 8 rfl rfl (by kernel_rfl) (by kernel_rfl) (pop_move rfl) ?_
   refine ahp 9 rfl rfl (by kernel_rfl) (by kernel_rfl) (pop_add64 rfl rfl (by omega) (by omega)) ?_
   refine ahp 10 rfl rfl (by kernel_rfl) (by kernel_rfl) (pop_slices (l := y19 + 1) (h := t.length) ty9 rfl ⟨_, _, rfl, by omega⟩ rfl (by omega) (by omega)) ?_
   refine ahp 11 rfl rfl (by kernel_rfl) (by kernel_rfl) (pop_adds rfl rfl (by first | assumption | (simp; omega))) ?_
   refine ahp 12 rfl rfl (by kernel_rfl) (by kernel_rfl) (pop_assign rfl) ?_
   refine ahz (by kernel_rfl) ?_
   refine hw_ret ?_
   first
   | exact ret_q rfl ⟨_, a, rfl, by omega, by omega, rfl⟩
   | (refine ret_q rfl ⟨_, a + 1 + 1 + 1, rfl, ?_, by omega, rfl⟩
      simp only [List.length_append, List.length_drop, List.length_take]
      (try simp only [List.getD_eq_getElem?_getD])
      omega)
  ·try simp at h4
   refine hw_reg ?_
   refine dp rfl (pop_eql rfl rfl) ?_
   refine dp rfl (pop_assign rfl) ?_
   refine dn ?_
   refine hw_cond rfl (fun h5 => ?_) (fun h6 => ?_)
   ·try simp at h5
    refine hw_draw (fun _ => True) [] mixed ?_
    refine ahp 0 rfl rfl (by kernel_rfl) (by kernel_rfl) (pop_move rfl) ?_
    refine ahp 1 rfl rfl (by kernel_rfl) (by kernel_rfl) (pop_move rfl) ?_
    refine ahp 2 rfl rfl (by kernel_rfl) (by kernel_rfl) (pop_slices ty9 rfl rfl ⟨_, _, rfl, rfl⟩ (by omega) (by omega)) ?_
    refine ahp 3 rfl rfl (by kernel_rfl) (by kernel_rfl) (pop_move rfl) ?_
    refine ahp 4 rfl rfl (by kernel_rfl) (by kernel_rfl) (pop_conv ty5 ty21 rfl) ?_
    refine ahp 5 rfl rfl (by kernel_rfl) (by kernel_rfl) (pop_runeS ty21 ty9 rfl) ?_
    refine ahp 6 rfl rfl (by kernel_rfl) (by kernel_rfl) (pop_adds rfl rfl (by first | assumption | (simp; omega))) ?_
    refine ahp 7 rfl rfl (by kernel_rfl) (by kernel_rfl) (pop_move rfl) ?_
    refine ahp 8 rfl rfl (by kernel_rfl) (by kernel_rfl) (pop_move rfl) ?_
    refine ahp 9 rfl rfl (by kernel_rfl) (by kernel_rfl) (pop_slices ty9 rfl ⟨_, _, rfl, rfl⟩ rfl (by omega) (by omega)) ?_
    refine ahp 10 rfl rfl (by kernel_rfl) (by kernel_rfl) (pop_adds rfl rfl (by first | assumption | (simp; omega))) ?_
    refine ahp 11 rfl rfl (by kernel_rfl) (by kernel_rfl) (pop_assign rfl) ?_
    refine ahz (by kernel_rfl) ?_
    refine hw_ret ?_
    first
    | exact ret_q rfl ⟨_, a, rfl, by omega, by omega, rfl⟩
    | (refine ret_q rfl ⟨_, a + 1 + 1 + 1, rfl, ?_, by omega, rfl⟩
       simp only [List.length_append, List.length_drop, List.length_take]
       (try simp only [List.getD_eq_getElem?_getD])
       omega)
   ·try simp at h6
    refine hw_skip ?_
    refine blockQ_n ?_
    refine seqQ_n ?_
    refine hw_draw (fun _ => True) [] mixed ?_
    refine ahp 0 rfl rfl (by kernel_rfl) (by kernel_rfl) (pop_move rfl) ?_
    refine ahp 1 rfl rfl (by kernel_rfl) (by kernel_rfl) (pop_move rfl) ?_
    refine ahp 2 rfl rfl (by kernel_rfl) (by kernel_rfl) (pop_slices ty9 rfl rfl ⟨_, _, rfl, rfl⟩ (by omega) (by omega)) ?_
    refine ahp 3 rfl rfl (by kernel_rfl) (by kernel_rfl) (pop_move rfl) ?_
    refine ahp 4 rfl rfl (by kernel_rfl) (by kernel_rfl) (pop_move rfl) ?_
    refine ahp 5 rfl rfl (by kernel_rfl) (by kernel_rfl) (pop_add64 rfl rfl (by omega) (by omega)) ?_
    refine ahp 6 rfl rfl (by kernel_rfl) (by kernel_rfl) (pop_slices (l := y19 + 1) (h := t.length) ty9 rfl ⟨_, _, rfl, by omega⟩ rfl (by omega) (by omega)) ?_
    refine ahp 7 rfl rfl (by kernel_rfl) (by kernel_rfl) (pop_adds rfl rfl (by first | assumption | (simp; omega))) ?_
    refine ahp 8 rfl rfl (by kernel_rfl) (by kernel_rfl) (pop_assign rfl) ?_
    refine ahz (by kernel_rfl) ?_
    refine hw_ret ?_
    first
    | exact ret_q rfl ⟨_, a, rfl, by omega, by omega, rfl⟩
    | (refine ret_q rfl ⟨_, a + 1 + 1 + 1, rfl, ?_, by omega, rfl⟩
       simp only [List.length_append, List.length_drop, List.length_take]
       (try simp only [List.getD_eq_getElem?_getD])
       omega)
end Go.Proofs.YtbfikmihcpfgaaaGreatDoor
end
section
namespace Go.HL
end Go.HL
end
section
namespace Go.HL
theorem itoa_cases (n : Int) : (∃ u : Nat, n = (u : Int) ∧ Lib.itoa n = Lib.decDigits u ∧ cutMinus (Lib.itoa n) = Lib.decDigits u) ∨ (∃ u : Nat, 1 ≤ u ∧ n = -(u : Int) ∧ Lib.itoa n = 45 :: Lib.decDigits u ∧ cutMinus (Lib.itoa n) = Lib.decDigits u) := by
 rcases Int.lt_or_le n 0 with h | h
 ·obtain ⟨u, rfl⟩ : ∃ u : Nat, n = -(u : Int) := ⟨n.natAbs, by omega⟩
  have e := Lib.itoa_neg u (by omega)
  exact .inr ⟨u, by omega, rfl, e, by rw [e]; rfl⟩
 ·obtain ⟨u, rfl⟩ : ∃ u : Nat, n = (u : Int) := ⟨n.toNat, by omega⟩
  have e := Lib.itoa_nonneg u
  exact .inl ⟨u, rfl, e, by rw [e]; exact cut_digits u⟩
theorem cut_itoa (n : Int) : cutMinus (Lib.itoa n) = Lib.decDigits n.natAbs := by
 rcases itoa_cases n with ⟨u, rfl, _, h⟩ | ⟨u, _, rfl, _, h⟩
 ·rw [h]; congr 1
 ·rw [h]; congr 1; omega
theorem itoa_len (n : Int) : (Lib.itoa n).length ≤ (Lib.decDigits n.natAbs).length + 1 := by
 have h := cut_itoa n
 rcases cutMinus_cases (Lib.itoa n) with ⟨r, e1, e2⟩ | ⟨_, e2⟩
 ·rw [e2] at h; rw [e1, h]; simp
 ·rw [e2] at h; rw [h]; omega
end Go.HL
end
section
namespace Go.HL
def assetLn (x : Asset) : Str := x.Player ++ [32] ++ x.Position ++ [32] ++ Lib.itoa x.Value ++ [10]
def assetT (l : List Asset) : Str := (l.map assetLn).flatten
theorem assetT_snoc (l : List Asset) (x : Asset) : assetT (l ++ [x]) = assetT l ++ assetLn x := by simp [assetT]
theorem assetF_z {x : Asset} (h : assetFault x = 0) : key x.Player = true ∧ key x.Position = true ∧ (-1000000 ≤ x.Value ∧ x.Value ≤ 1000000) := by
 unfold assetFault at h
 split at h
 ·cases h
 ·rename_i h1
  split at h
  ·cases h
  ·rename_i h2
   have a := out_f (by simpa using h2 : out x.Value (-1000000) 1000000 = false)
   simp at h1
   exact ⟨h1.1, h1.2, a⟩
theorem assets_z {l : List Asset} (h : checkAssets l = 0) : l.length ≤ 300 ∧ ∀ x ∈ l, assetFault x = 0 := by
 refine ⟨?_, (checkAssets_ok h).2⟩
 unfold checkAssets at h
 split at h
 ·cases h
 ·omega
theorem assetLn_len {x : Asset} (h : assetFault x = 0) : (assetLn x).length ≤ 120 := by
 obtain ⟨h1, h2, h3⟩ := assetF_z h
 have a1 := keyS_len h1
 have a2 := keyS_len h2
 have a3 := itoa_len x.Value
 have a4 : (Lib.decDigits x.Value.natAbs).length ≤ 7 := by rw [Lib.decDigits_length]; exact nDigits_le 6 _ (by omega)
 unfold assetLn
 simp only [List.length_append, List.length_cons, List.length_nil]
 omega
theorem assetT_len {l : List Asset} : (∀ x ∈ l, assetFault x = 0) → (assetT l).length ≤ 120 * l.length := by
 induction l with
 | nil => intro _; simp [assetT]
 | cons p r ih =>
   intro h
   have h1 := assetLn_len (h p (by simp))
   have h2 := ih fun q hq => h q (by simp [hq])
   simp only [assetT, List.map_cons, List.flatten_cons, List.length_append, List.length_cons] at h2 ⊢
   omega
def textA (l : List Asset) : Str := if checkAssets l = 0 then assetT l else []
/-- A line as an asset, and whether it is one. -/
def raB (line : Str) : Bool := wordsB line 3 && numB ((spl 32 line).getD 2 []) 7
def raP (line : Str) : Asset := ⟨(spl 32 line).getD 0 [], (spl 32 line).getD 1 [], numR ((spl 32 line).getD 2 []) 7⟩
def arB (text : Str) : Bool := (goL raB 0 (spl 10 text)).2
def arL (text : Str) : List Asset := (lns text).map raP
def arE (text : Str) : Int := if (200000 : Int) < (text.length : Int) then 2 else if arB text then checkAssets (arL text) else 9
def arI (text : Str) : Int := if (200000 : Int) < (text.length : Int) then 0 else if arB text then 0 else (goL raB 0 (spl 10 text)).1
def arP (text : Str) : List Asset := if arE text = 0 then arL text else []
end Go.HL
end
section
namespace Go.HL
theorem lns_len (text : Str) : (lns text).length ≤ text.length := by
 unfold lns; rw [List.length_dropLast, spl_len]; simp only [Nat.add_sub_cancel]; exact List.count_le_length
end Go.HL
end
section
namespace Go.HL
def SAs (bo : Nat) (q : Value × List Asset) : List MObj := [.cells bo [.raw q.1], .arr q.1 3 (q.2.map eAsset)]
theorem weakAs [Tracks] {text : Str} {i e : Int} (h1 : arE text = e) (he : e ≠ 0) (h2 : arI text = i) : Weak (.tup [.raw (.slice none 0 0), .int .i64 i, .int .i64 e]) (.tup [eAssets (arP text), .int .i64 (arI text), .int .i64 (arE text)]) := by
 have : arP text = [] := by unfold arP; rw [if_neg (by rw [h1]; exact he)]
 rw [this, h1, h2]; exact weak_tup3 (weak_nil 3) (Weak.refl _) (Weak.refl _)
theorem eqAs {text : Str} (h1 : arE text = 0) (h2 : arI text = 0) : HVal.tup [eAssets (arL text), .int .i64 0, .int .i64 0] = .tup [eAssets (arP text), .int .i64 (arI text), .int .i64 (arE text)] := by
 have : arP text = arL text := by unfold arP; rw [if_pos h1]
 rw [this, h1, h2]
theorem ar_1 {text : Str} (h : (200000 : Int) < (text.length : Int)) : arE text = 2 ∧ arI text = 0 := by
 unfold arE arI; rw [if_pos h, if_pos h]; exact ⟨rfl, rfl⟩
theorem ar_2 {text : Str} (h : (text.length : Int) ≤ 200000) (h2 : (goL raB 0 (spl 10 text)).2 = false) : arE text = 9 ∧ arI text = (goL raB 0 (spl 10 text)).1 := by
 have h' : ¬ (200000 : Int) < (text.length : Int) := by omega
 unfold arE arI arB; simp only [h', if_false, h2]; exact ⟨rfl, rfl⟩
theorem ar_3 {text : Str} (h : (text.length : Int) ≤ 200000) (h2 : (goL raB 0 (spl 10 text)).2 = true) : arE text = checkAssets (arL text) ∧ arI text = 0 := by
 have h' : ¬ (200000 : Int) < (text.length : Int) := by omega
 unfold arE arI arB; simp only [h', if_false, h2]; exact ⟨rfl, rfl⟩
theorem arL_len (text : Str) : (arL text).length ≤ text.length := by
 unfold arL; rw [List.length_map]; exact lns_len text
theorem arP_len (text : Str) : (arP text).length ≤ text.length := by
 unfold arP; split
 ·exact arL_len text
 ·simp
end Go.HL
end
section
namespace Go.HL
theorem ra_w {line : Str} (h : wordsB line 3 = true) : wordsL line 3 = spl 32 line ∧ (spl 32 line).length = 3 ∧ raB line = numB ((spl 32 line).getD 2 []) 7 := by
 refine ⟨by unfold wordsL; rw [if_pos h], ?_, by unfold raB; rw [h]; rfl⟩
 unfold wordsB at h
 rw [Bool.and_eq_true, decide_eq_true_eq] at h
 omega
theorem ra_f {line : Str} (h : wordsB line 3 = false) : raB line = false := by unfold raB; rw [h]; rfl
theorem ra_gf {line : Str} (h : [] ∈ spl 32 line ∨ ¬((spl 32 line).length : Int) = 3) : raB line = false := by
 refine ra_f ?_
 unfold wordsB
 rcases h with h | h
 ·have hc : (spl 32 line).contains [] = true := List.contains_iff_mem.2 h
  rw [contains_nil, Bool.not_eq_true'] at hc
  rw [hc]; simp
 ·rw [decide_eq_false (by omega)]; rfl
theorem ra_gt {line : Str} (h : ¬[] ∈ spl 32 line ∧ ((spl 32 line).length : Int) = 3) : (spl 32 line).length = 3 ∧ raB line = intB ((spl 32 line).getD 2 []) 7 ∧ (raB line = true → (⟨(spl 32 line).getD 0 [], (spl 32 line).getD 1 [], intR ((spl 32 line).getD 2 []) 7⟩ : Asset) = raP line) := by
 obtain ⟨h1, h2⟩ := h
 have hall : (spl 32 line).all (fun w => !w.isEmpty) = true := by
  cases hc : (spl 32 line).contains [] with
  | false => rw [contains_nil, Bool.not_eq_false'] at hc; exact hc
  | true => exact absurd (List.contains_iff_mem.1 hc) h1
 have hw : wordsB line 3 = true := by unfold wordsB; rw [hall, decide_eq_true (by omega)]; rfl
 have hn := num_int ((spl 32 line).getD 2 []) 7
 have hb : raB line = numB ((spl 32 line).getD 2 []) 7 := (ra_w hw).2.2
 refine ⟨by omega, hb.trans hn.1, fun hr => ?_⟩
 rw [hb] at hr
 unfold raP
 rw [(hn.2 hr).1, (hn.2 hr).2]
theorem eqAs_refl : ∀ l : List Asset, eqSts eAsset l l = true
 | [] => rfl
 | a :: r => by simp [eqSts, eqSt, eqAs_refl r, hcells, eqHL, eqH]
end Go.HL
end
section
namespace Go.Proofs.YtbfikmihcpfgaaaGreatDoor
open Go.HL
set_option maxRecDepth 100000
set_option linter.unusedVariables false
set_option linter.unusedSimpArgs false
/-- benchwarmer/value.Read$1 -/
theorem c_value_Read_1 [Tracks] {line : Str} {bo : Nat} {v : Value} {ps : List Asset}  (hl : line.length ≤ 1000000) (hps : ps.length ≤ 1000000) : Con Tryz.prog 40 [.str line, pAt bo] [.cells bo [.raw v], .arr v 3 (ps.map eAsset)] (fun x M' => ∃ v' ps', x = .bool (raB line) ∧ M' = [.cells bo [.raw v'], .arr v' 3 (ps'.map eAsset)] ∧ (raB line = true → ps' = ps ++ [raP line])) := by
 refine Con.of_body Tryz.func40 rfl Tryz.ntmps40 rfl rfl ?_
 refine hw_reg ?_
 refine dp rfl (pop_assign rfl) ?_
 refine dn ?_
 refine hw_reg ?_
 refine dp rfl (pop_move rfl) ?_
 refine dp rfl (pop_call ca41 rfl (WeakL.refl _) (c_base_Words (by first | assumption | omega | (simp; omega) | simp_all))) ?_
 refine dp rfl (pop_move rfl) ?_
 refine dp rfl (pop_extract rfl rfl) ?_
 refine dp rfl (pop_extract rfl rfl) ?_
 refine dp rfl (pop_assign rfl) ?_
 refine dp rfl (pop_assign rfl) ?_
 refine dn ?_
 refine hw_seq ?_
 refine hw_reg ?_
 refine dp rfl (pop_move rfl) ?_
 refine dp rfl (pop_not rfl) ?_
 refine dn ?_
 refine hw_cond rfl (fun h1 => ?_) (fun h2 => ?_)
 ·try simp at h1
  refine hw_reg ?_
  refine dp rfl (pop_assign rfl) ?_
  refine dn ?_
  refine hw_ret ?_
  first
  | exact ret_q rfl ⟨v, ps, by rw [ra_f h1]; rfl, rfl, fun h => by rw [ra_f h1] at h; cases h⟩
  | exact ret_q rfl ⟨v31, ps ++ [raP line], by rw [hw3], by simp [setL, hcells, raP], fun _ => rfl⟩
 ·try simp at h2
  refine hw_skip ?_
  refine seqQ_n ?_
  obtain ⟨hw1, hw2, hw3⟩ := ra_w h2
  simp only [hw1]
  refine hw_reg ?_
  refine dp rfl (pop_move rfl) ?_
  refine dp rfl (pop_idx (j := 2) (a := (spl 32 line).getD 2 []) ty44 ty9 rfl rfl (by omega) (getD_some (by omega))) ?_
  refine dp rfl (pop_load ty9 rfl rfl rfl) ?_
  refine dp rfl (pop_call ca42 rfl (WeakL.refl _) (c_base_Number_g (Nat.le_trans (spl_getD_len 2) hl) (by omega))) ?_
  refine dp rfl (pop_move rfl) ?_
  refine dp rfl (pop_extract rfl rfl) ?_
  refine dp rfl (pop_extract rfl rfl) ?_
  refine dp rfl (pop_assign rfl) ?_
  refine dp rfl (pop_assign rfl) ?_
  refine dn ?_
  refine hw_draw (fun M => ∃ i : Nat, M[i]? = some (.cells bo [.raw v])) [0] mixed ?_
  refine ahl 0 rfl rfl (by kernel_rfl) (by kernel_rfl) (by simp) ⟨0, rfl⟩ (fun M hM => by obtain ⟨i, hi⟩ := hM; exact eop_load (i := i) ty26 rfl hi (.inl ⟨rfl, rfl⟩) ⟨rfl, rfl⟩) ?_
  refine ahp 1 rfl rfl (by kernel_rfl) (by kernel_rfl) (pop_move rfl) ?_
  refine ahp 2 rfl rfl (by kernel_rfl) (by kernel_rfl) (pop_idx (j := 0) (a := (spl 32 line).getD 0 []) ty44 ty9 rfl rfl (by omega) (getD_some (by omega))) ?_
  refine ahp 3 rfl rfl (by kernel_rfl) (by kernel_rfl) (pop_load ty9 rfl rfl rfl) ?_
  refine ahp 4 rfl rfl (by kernel_rfl) (by kernel_rfl) (pop_move rfl) ?_
  refine ahp 5 rfl rfl (by kernel_rfl) (by kernel_rfl) (pop_idx (j := 1) (a := (spl 32 line).getD 1 []) ty44 ty9 rfl rfl (by omega) (getD_some (by omega))) ?_
  refine ahp 6 rfl rfl (by kernel_rfl) (by kernel_rfl) (pop_load ty9 rfl rfl rfl) ?_
  refine ahp 7 rfl rfl (by kernel_rfl) (by kernel_rfl) (pop_move rfl) ?_
  refine ahp 8 rfl rfl (by kernel_rfl) (by kernel_rfl) (pop_build (cs := [_, _, _]) ty36 pl36 rfl) ?_
  refine ahp 9 rfl rfl (by kernel_rfl) (by kernel_rfl) (pop_buildSlice (hs := [_]) ty26 ty36 rfl rfl (by decide) (by decide) rfl) ?_
  refine ahe 10 rfl (by kernel_rfl) ?_
  refine hop_e rfl (eop_append (i := 1) ty26 ty36 rfl rfl rfl rfl rfl (by simp [flat, hcells]) (by simp; omega) fun v31 => ?_)
  refine ⟨fun _ => .inl ⟨0, rfl⟩, ?_⟩
  refine ahe 11 rfl (by kernel_rfl) ?_
  refine hop_e0 (eop_store (i := 0) ty26 rfl rfl rfl rfl rfl (by simp) ?_)
  refine ⟨fun _ => .inr (by simp [Before, Region.binds]), ?_⟩
  refine ahz (by kernel_rfl) ?_
  refine hw_reg ?_
  refine dp rfl (pop_move rfl) ?_
  refine dp rfl (pop_assign rfl) ?_
  refine dn ?_
  refine hw_ret ?_
  first
  | exact ret_q rfl ⟨v, ps, by rw [ra_f h1]; rfl, rfl, fun h => by rw [ra_f h1] at h; cases h⟩
  | exact ret_q rfl ⟨v31, ps ++ [raP line], by rw [hw3], by simp [setL, hcells, raP], fun _ => rfl⟩

/-- benchwarmer/benchref1.AssetsRead$1 -/
theorem c_benchref1_AssetsRead_1 [Tracks] {line : Str} {bo : Nat} {v : Value} {ps : List Asset}  (hl : line.length ≤ 1000000) (hps : ps.length ≤ 1000000) : Con Tryz.prog 71 [.str line, pAt bo] [.cells bo [.raw v], .arr v 3 (ps.map eAsset)] (fun x M' => ∃ v' ps', x = .bool (raB line) ∧ M' = [.cells bo [.raw v'], .arr v' 3 (ps'.map eAsset)] ∧ (raB line = true → ps' = ps ++ [raP line])) := by
 have hct : line.count 32 ≤ line.length := List.count_le_length
 have hsl := spl_len 32 line
 refine Con.of_body Tryz.func71 rfl Tryz.ntmps71 rfl rfl ?_
 refine hw_reg ?_
 refine dp rfl (pop_assign rfl) ?_
 refine dn ?_
 refine hw_reg ?_
 refine dp rfl (pop_move rfl) ?_
 refine dp rfl (pop_call ca72 rfl (WeakL.refl _) (c_strings_Split (c := 32) (by omega))) ?_
 refine dp rfl (pop_assign rfl) ?_
 refine dn ?_
 refine hw_seq ?_
 refine hw_reg ?_
 refine dp rfl (pop_move rfl) ?_
 refine dp rfl (pop_call ca57 rfl (WeakL.refl _) (c_slices_Contains_string_string (l := spl 32 line) (by omega))) ?_
 refine dp rfl (pop_move rfl) ?_
 refine dg rfl rfl (fun hc => ⟨_, OpenTo.refl _, pop_move rfl⟩) ?_
 refine dg rfl rfl (fun hc => ⟨_, OpenTo.upd (t := 12) rfl (by first | exact hc | simp_all) (OpenTo.refl _), pop_lenm ty44 rfl⟩) ?_
 refine dg rfl rfl (fun hc => ⟨_, OpenTo.upd (t := 13) rfl (by first | exact hc | simp_all) (OpenTo.refl _), pop_neq rfl rfl⟩) ?_
 refine dp rfl (pop_picko rfl (.inl rfl) (.inr ⟨_, rfl, fun h => by simp_all⟩)) ?_
 refine dn ?_
 refine hw_cond rfl (fun h1 => ?_) (fun h2 => ?_)
 ·try simp at h1
  refine hw_reg ?_
  refine dp rfl (pop_assign rfl) ?_
  refine dn ?_
  refine hw_ret ?_
  first
  | exact ret_q rfl ⟨v, ps, by rw [ra_gf h1]; rfl, rfl, fun h => by rw [ra_gf h1] at h; cases h⟩
  | exact ret_q rfl ⟨v33, ps ++ [⟨(spl 32 line).getD 0 [], (spl 32 line).getD 1 [], intR ((spl 32 line).getD 2 []) 7⟩], by rw [hw2], by simp [setL, hcells], fun hr => by rw [hw3 hr]⟩
 ·try simp at h2
  refine hw_skip ?_
  refine seqQ_n ?_
  obtain ⟨hw1, hw2, hw3⟩ := ra_gt h2
  refine hw_reg ?_
  refine dp rfl (pop_move rfl) ?_
  refine dp rfl (pop_idx (j := 2) (a := (spl 32 line).getD 2 []) ty44 ty9 rfl rfl (by omega) (getD_some (by omega))) ?_
  refine dp rfl (pop_load ty9 rfl rfl rfl) ?_
  refine dp rfl (pop_call ca73 rfl (WeakL.refl _) (c_benchref1_Int_m (Nat.le_trans (spl_getD_len 2) hl) (by omega))) ?_
  refine dp rfl (pop_move rfl) ?_
  refine dp rfl (pop_extract rfl rfl) ?_
  refine dp rfl (pop_extract rfl rfl) ?_
  refine dp rfl (pop_assign rfl) ?_
  refine dp rfl (pop_assign rfl) ?_
  refine dn ?_
  refine hw_draw (fun M => ∃ i : Nat, M[i]? = some (.cells bo [.raw v])) [0] mixed ?_
  refine ahl 0 rfl rfl (by kernel_rfl) (by kernel_rfl) (by simp) ⟨0, rfl⟩ (fun M hM => by obtain ⟨i, hi⟩ := hM; exact eop_load (i := i) ty26 rfl hi (.inl ⟨rfl, rfl⟩) ⟨rfl, rfl⟩) ?_
  refine ahp 1 rfl rfl (by kernel_rfl) (by kernel_rfl) (pop_move rfl) ?_
  refine ahp 2 rfl rfl (by kernel_rfl) (by kernel_rfl) (pop_idx (j := 0) (a := (spl 32 line).getD 0 []) ty44 ty9 rfl rfl (by omega) (getD_some (by omega))) ?_
  refine ahp 3 rfl rfl (by kernel_rfl) (by kernel_rfl) (pop_load ty9 rfl rfl rfl) ?_
  refine ahp 4 rfl rfl (by kernel_rfl) (by kernel_rfl) (pop_move rfl) ?_
  refine ahp 5 rfl rfl (by kernel_rfl) (by kernel_rfl) (pop_idx (j := 1) (a := (spl 32 line).getD 1 []) ty44 ty9 rfl rfl (by omega) (getD_some (by omega))) ?_
  refine ahp 6 rfl rfl (by kernel_rfl) (by kernel_rfl) (pop_load ty9 rfl rfl rfl) ?_
  refine ahp 7 rfl rfl (by kernel_rfl) (by kernel_rfl) (pop_move rfl) ?_
  refine ahp 8 rfl rfl (by kernel_rfl) (by kernel_rfl) (pop_build (cs := [_, _, _]) ty36 pl36 rfl) ?_
  refine ahp 9 rfl rfl (by kernel_rfl) (by kernel_rfl) (pop_buildSlice (hs := [_]) ty26 ty36 rfl rfl (by decide) (by decide) rfl) ?_
  refine ahe 10 rfl (by kernel_rfl) ?_
  refine hop_e rfl (eop_append (i := 1) ty26 ty36 rfl rfl rfl rfl rfl (by simp [flat, hcells]) (by simp; omega) fun v33 => ?_)
  refine ⟨fun _ => .inl ⟨0, rfl⟩, ?_⟩
  refine ahe 11 rfl (by kernel_rfl) ?_
  refine hop_e0 (eop_store (i := 0) ty26 rfl rfl rfl rfl rfl (by simp) ?_)
  refine ⟨fun _ => .inr (by simp [Before, Region.binds]), ?_⟩
  refine ahz (by kernel_rfl) ?_
  refine hw_reg ?_
  refine dp rfl (pop_move rfl) ?_
  refine dp rfl (pop_assign rfl) ?_
  refine dn ?_
  refine hw_ret ?_
  first
  | exact ret_q rfl ⟨v, ps, by rw [ra_gf h1]; rfl, rfl, fun h => by rw [ra_gf h1] at h; cases h⟩
  | exact ret_q rfl ⟨v33, ps ++ [⟨(spl 32 line).getD 0 [], (spl 32 line).getD 1 [], intR ((spl 32 line).getD 2 []) 7⟩], by rw [hw2], by simp [setL, hcells], fun hr => by rw [hw3 hr]⟩

theorem h_vRead1 [Tracks] {bo : Nat} : ∀ (done : List Str) (s : Str) (st : Value × List Asset), done.length ≤ 1000000 → s.length ≤ 1000000 → st.2 = done.map raP → Con Tryz.prog 40 ([.str s] ++ [pAt bo]) (SAs bo st) fun x M' => ∃ st', x = .bool (raB s) ∧ M' = SAs bo st' ∧ (raB s = true → st'.2 = (done ++ [s]).map raP) :=
 fun done s st h1 h2 h3 => (c_value_Read_1 h2 (by rw [h3, List.length_map]; exact h1)).mono fun x M' ⟨v', ps', hx, hM, hp⟩ => ⟨(v', ps'), hx, hM, fun h => by rw [hp h, h3]; simp⟩

/-- benchwarmer/value.Read -/
theorem c_value_Read [Tracks] {text : Str} (ht : text.length ≤ 1000000) : ConP Tryz.prog 8 [.str text] (.tup [eAssets (arP text), .int .i64 (arI text), .int .i64 (arE text)]) := by
 have hpl := arL_len text
 refine Con.of_body Tryz.func8 rfl Tryz.ntmps8 rfl rfl ?_
 refine hw_reg ?_
 refine dp rfl (pop_assign rfl) ?_
 refine dp rfl (pop_assign rfl) ?_
 refine dp rfl (pop_assign rfl) ?_
 refine dn ?_
 refine hw_seq ?_
 refine hw_reg ?_
 refine dp rfl (pop_move rfl) ?_
 refine dp rfl (pop_lens ty9 rfl) ?_
 refine dp rfl (pop_gtr rfl rfl) ?_
 refine dn ?_
 refine hw_cond rfl (fun h1 => ?_) (fun h2 => ?_)
 ·try simp at h1
  refine hw_reg ?_
  refine dp rfl (pop_assign rfl) ?_
  refine dp rfl (pop_assign rfl) ?_
  refine dp rfl (pop_assign rfl) ?_
  refine dn ?_
  refine hw_ret ?_
  first
  | exact ret_w rfl (weakAs (ar_1 h1).1 (by decide) (ar_1 h1).2)
  | exact ret_gw Ghost.clear rfl (weakAs (ar_2 (by omega) h3).1 (by decide) (ar_2 (by omega) h3).2) ⟨rfl, rfl⟩
  | exact ret_w rfl (weakAs (ar_3 (by omega) h4).1 h5 (ar_3 (by omega) h4).2)
  | exact ret_p rfl (eqAs ((ar_3 (by omega) h4).1.trans h6) (ar_3 (by omega) h4).2)
 ·try simp at h2
  refine hw_skip ?_
  refine seqQ_n ?_
  refine hw_reg ?_
  refine de rfl (eop_alloc ty26 rfl fun b5 => ?_)
  refine dn ?_
  refine hw_ghost (Ghost.arr_nil 3) ?_
  refine hw_reg ?_
  refine dp rfl (pop_move rfl) ?_
  refine dp rfl (pop_makeFunc rfl rfl) ?_
  refine de rfl (eop_callf (M1 := SAs b5 (.slice none 0 0, [])) (R := []) ca39 rfl (WeakL.refl _) (List.Perm.swap _ _ _) (c_base_Each (S := SAs b5) (Inv := fun done st => st.2 = done.map raP) (ok := raB) (caps := [pAt b5]) (st0 := (.slice none 0 0, [])) ca40 h_vRead1 rfl ht) ?_)
  rintro _ _ ⟨st2, rfl, rfl, hst2⟩
  refine dp rfl (pop_move rfl) ?_
  refine dp rfl (pop_extract rfl rfl) ?_
  refine dp rfl (pop_extract rfl rfl) ?_
  refine dp rfl (pop_assign rfl) ?_
  refine dp rfl (pop_assign rfl) ?_
  refine dn ?_
  refine hw_seq ?_
  refine hw_reg ?_
  refine dp rfl (pop_move rfl) ?_
  refine dp rfl (pop_not rfl) ?_
  refine dn ?_
  refine hw_cond rfl (fun h3 => ?_) (fun h4 => ?_)
  ·try simp at h3
   refine hw_reg ?_
   refine dp rfl (pop_move rfl) ?_
   refine dp rfl (pop_assign rfl) ?_
   refine dp rfl (pop_assign rfl) ?_
   refine dp rfl (pop_assign rfl) ?_
   refine dn ?_
   refine hw_ret ?_
   first
   | exact ret_w rfl (weakAs (ar_1 h1).1 (by decide) (ar_1 h1).2)
   | exact ret_gw Ghost.clear rfl (weakAs (ar_2 (by omega) h3).1 (by decide) (ar_2 (by omega) h3).2) ⟨rfl, rfl⟩
   | exact ret_w rfl (weakAs (ar_3 (by omega) h4).1 h5 (ar_3 (by omega) h4).2)
   | exact ret_p rfl (eqAs ((ar_3 (by omega) h4).1.trans h6) (ar_3 (by omega) h4).2)
  ·try simp at h4
   refine hw_skip ?_
   refine seqQ_n ?_
   refine hw_seq ?_
   obtain ⟨v2, ps2⟩ := st2
   obtain rfl : ps2 = arL text := hst2 h4
   refine hw_ghost (Ghost.of_eq (M' := [.cells b5 [.raw v2], .arr v2 3 ((arL text).map eAsset)]) rfl) ?_
   refine hw_ghost (Ghost.fcell (i := 1) (k := 0) (j := 0) rfl rfl rfl) ?_
   refine hw_ghost (Ghost.of_eq (M' := [.cells b5 [eAssets (arL text)]]) rfl) ?_
   refine hw_ghost (Ghost.fc 5 (i := 0) rfl rfl) ?_
   refine hw_reg ?_
   refine dp rfl (pop_load ty26 rfl rfl rfl) ?_
   refine dp rfl (pop_call ca35 rfl (WeakL.refl _) (c_value_CheckAssets (l := arL text) (by omega))) ?_
   refine dp rfl (pop_assign rfl) ?_
   refine dn ?_
   refine hw_reg ?_
   refine dp rfl (pop_move rfl) ?_
   refine dp rfl (pop_neq rfl rfl) ?_
   refine dn ?_
   refine hw_cond rfl (fun h5 => ?_) (fun h6 => ?_)
   ·try simp at h5
    refine hw_reg ?_
    refine dp rfl (pop_move rfl) ?_
    refine dp rfl (pop_assign rfl) ?_
    refine dp rfl (pop_assign rfl) ?_
    refine dp rfl (pop_assign rfl) ?_
    refine dn ?_
    refine hw_ret ?_
    first
    | exact ret_w rfl (weakAs (ar_1 h1).1 (by decide) (ar_1 h1).2)
    | exact ret_gw Ghost.clear rfl (weakAs (ar_2 (by omega) h3).1 (by decide) (ar_2 (by omega) h3).2) ⟨rfl, rfl⟩
    | exact ret_w rfl (weakAs (ar_3 (by omega) h4).1 h5 (ar_3 (by omega) h4).2)
    | exact ret_p rfl (eqAs ((ar_3 (by omega) h4).1.trans h6) (ar_3 (by omega) h4).2)
   ·try simp at h6
    refine hw_skip ?_
    refine seqQ_n ?_
    refine hw_reg ?_
    refine dp rfl (pop_load ty26 rfl rfl rfl) ?_
    refine dp rfl (pop_assign rfl) ?_
    refine dp rfl (pop_assign rfl) ?_
    refine dp rfl (pop_assign rfl) ?_
    refine dn ?_
    refine hw_ret ?_
    first
    | exact ret_w rfl (weakAs (ar_1 h1).1 (by decide) (ar_1 h1).2)
    | exact ret_gw Ghost.clear rfl (weakAs (ar_2 (by omega) h3).1 (by decide) (ar_2 (by omega) h3).2) ⟨rfl, rfl⟩
    | exact ret_w rfl (weakAs (ar_3 (by omega) h4).1 h5 (ar_3 (by omega) h4).2)
    | exact ret_p rfl (eqAs ((ar_3 (by omega) h4).1.trans h6) (ar_3 (by omega) h4).2)

/-- benchwarmer/value.Text -/
theorem c_value_Text [Tracks] {l : List Asset} (hl : l.length ≤ 1000000) : ConP Tryz.prog 7 [eAssets l] (.tup [.str (textA l), .int .i64 (checkAssets l)]) := by
 refine Con.of_body Tryz.func7 rfl Tryz.ntmps7 rfl rfl ?_
 refine hw_reg ?_
 refine dp rfl (pop_assign rfl) ?_
 refine dp rfl (pop_assign rfl) ?_
 refine dn ?_
 refine hw_seq ?_
 refine hw_reg ?_
 refine dp rfl (pop_move rfl) ?_
 refine dp rfl (pop_call ca35 rfl (WeakL.refl _) (c_value_CheckAssets (by first | assumption | omega | (simp; omega) | simp_all))) ?_
 refine dp rfl (pop_assign rfl) ?_
 refine dn ?_
 refine hw_reg ?_
 refine dp rfl (pop_move rfl) ?_
 refine dp rfl (pop_neq rfl rfl) ?_
 refine dn ?_
 refine hw_cond rfl (fun h1 => ?_) (fun h2 => ?_)
 ·try simp at h1
  refine hw_reg ?_
  refine dp rfl (pop_move rfl) ?_
  refine dp rfl (pop_assign rfl) ?_
  refine dp rfl (pop_assign rfl) ?_
  refine dn ?_
  refine hw_ret ?_
  refine ret_p rfl ?_
  show HVal.tup _ = _
  first | (rw [textA, if_neg h1]; rfl) | (rw [textA, if_pos h2, h2]; rfl)
 ·try simp at h2
  refine hw_skip ?_
  refine seqQ_n ?_
  obtain ⟨hl6, hz⟩ := assets_z h2
  refine hw_reg ?_
  refine de rfl (eop_allocB 5 ty70 rfl fun b5 => ?_)
  refine dn ?_
  refine hw_seq ?_
  refine hw_reg ?_
  refine dp rfl (pop_move rfl) ?_
  refine dp rfl (pop_lenm ty26 rfl) ?_
  refine dp rfl (pop_move rfl) ?_
  refine dn ?_
  refine hw_block ?_
  refine hw_loopw2 [7, 15, 16, 17, 18, 19, 20, 21, 22, 23, 24, 25, 26, 27, 28, 29, 30, 31, 32] (fun (k : Nat) (v : Value) => [(15, .int .i64 k)]) (fun (k : Nat) (v : Value) => [.bld b5 70 5 v v (assetT (l.take k))]) (fun (k : Nat) (v : Value) => k ≤ l.length ∧ (True)) (fun (k : Nat) (v : Value) => l.length - k) (0) (.slice none 0 0) ?_ ?_ ?_ ?_
  ·exact ⟨Nat.zero_le _, trivial⟩
  ·exact ⟨rfl, trivial⟩
  ·exact perm_eq (by simp [assetT])
  ·intro k v hinv
   obtain ⟨hk, -⟩ := hinv
   refine hw_reg ?_
   refine dp rfl (pop_lss rfl rfl) ?_
   refine dn ?_
   refine hw_seq ?_
   refine hw_cond rfl (fun h3 => ?_) (fun h4 => ?_)
   ·try simp at h3
    obtain ⟨x, hx⟩ : ∃ x, l[k]? = some x := ⟨_, List.getElem?_eq_getElem h3⟩
    have hdx := drop_cons hx
    obtain ⟨hx1, hx2, hx3⟩ := assetF_z (hz x (List.mem_of_getElem? hx))
    have a1 := keyS_len hx1
    have a2 := keyS_len hx2
    have a3 := itoa_len x.Value
    have a4 : (Lib.decDigits x.Value.natAbs).length ≤ 7 := by rw [Lib.decDigits_length]; exact nDigits_le 6 _ (by omega)
    have hTk := assetT_len (l := l.take k) (fun p hp => hz p (List.mem_of_mem_take hp))
    have hT2 : (l.take k).length ≤ 300 := by rw [List.length_take]; omega
    refine hw_skip ?_
    refine seqQ_n ?_
    refine hw_seq ?_
    refine hw_block ?_
    refine hw_reg ?_
    refine dp rfl (pop_idx ty26 ty36 rfl rfl rfl (by first | assumption | simp_all)) ?_
    refine dp rfl (pop_loadw ty36 rfl rfl rfl rfl) ?_
    refine de rfl (eop_alloc ty36 rfl fun b7 => ?_)
    refine de0 (eop_storew ty36 rfl rfl rfl rfl rfl ?_)
    refine dn ?_
    refine hw_ghost (Ghost.fc0 7 rfl) ?_
    refine hw_draw1 (fun _ => True) [] mixed ?_
    refine ahp 0 rfl rfl (by kernel_rfl) (by kernel_rfl) (pop_fieldAddr ty36 rfl ty9 (by decide) rfl) ?_
    refine ahp 1 rfl rfl (by kernel_rfl) (by kernel_rfl) (pop_load ty9 rfl rfl rfl) ?_
    refine ahp 2 rfl rfl (by kernel_rfl) (by kernel_rfl) (pop_adds rfl rfl (by simp; omega)) ?_
    refine ahp 3 rfl rfl (by kernel_rfl) (by kernel_rfl) (pop_fieldAddr ty36 rfl ty9 (by decide) rfl) ?_
    refine ahp 4 rfl rfl (by kernel_rfl) (by kernel_rfl) (pop_load ty9 rfl rfl rfl) ?_
    refine ahp 5 rfl rfl (by kernel_rfl) (by kernel_rfl) (pop_adds rfl rfl (by simp; omega)) ?_
    refine ahp 6 rfl rfl (by kernel_rfl) (by kernel_rfl) (pop_adds rfl rfl (by simp; omega)) ?_
    refine ahp 7 rfl rfl (by kernel_rfl) (by kernel_rfl) (pop_fieldAddr ty36 rfl ty3 (by decide) rfl) ?_
    refine ahp 8 rfl rfl (by kernel_rfl) (by kernel_rfl) (pop_load ty3 rfl rfl rfl) ?_
    refine ahp 9 rfl rfl (by kernel_rfl) (by kernel_rfl) (pop_call ca30 rfl (WeakL.refl _) (c_Itoa (by omega) (by omega))) ?_
    refine ahp 10 rfl rfl (by kernel_rfl) (by kernel_rfl) (pop_adds rfl rfl (by simp; omega)) ?_
    refine ahp 11 rfl rfl (by kernel_rfl) (by kernel_rfl) (pop_adds rfl rfl (by simp; omega)) ?_
    refine ahe 12 rfl (by kernel_rfl) ?_
    refine hop_e rfl (eop_callx (i := 0) ca36 rfl (WeakL.refl _) rfl (c_strings_Builder_WriteString (by simp; omega)) ?_)
    rintro _ _ ⟨v31, rfl, rfl⟩
    refine ⟨fun _ => .inl trivial, ?_⟩
    refine ahz (by kernel_rfl) ?_
    refine blockQ_n ?_
    refine seqQ_n ?_
    refine hw_reg1 ?_
    refine dp rfl (pop_add64 rfl rfl (by omega) (by omega)) ?_
    refine dp rfl (pop_move rfl) ?_
    refine dn ?_
    exact ⟨k + 1, v31, ⟨by omega, trivial⟩, by dsimp only; omega, ⟨rfl, trivial⟩, (by repeat (first | exact keeps_refl | refine keeps_upd rfl ?_ | refine keeps_loop rfl rfl ?_)), perm_eq (by dsimp only; rw [take_snoc' hx, assetT_snoc]; simp [assetLn])⟩
   ·try simp at h4
    have hnk : l.length ≤ k := by omega
    obtain rfl : k = l.length := by omega
    rw [List.take_length]
    have hTl := assetT_len (l := l) hz
    refine hw_exit ?_
    refine seqQ_x ?_
    refine loopQ2_x ?_
    refine blockQ_eq ?_
    refine seqQ_n ?_
    refine hw_seq ?_
    refine hw_reg ?_
    refine de rfl (eop_callx (i := 0) ca37 rfl (WeakL.refl _) rfl c_strings_Builder_Len ?_)
    rintro _ _ ⟨rfl, rfl⟩
    refine dp rfl (pop_gtr rfl rfl) ?_
    refine dn ?_
    refine hw_cond rfl (fun h5 => ?_) (fun h5 => ?_)
    ·exfalso
     try simp at h5
     omega
    ·try simp at h5
     refine hw_skip ?_
     refine seqQ_n ?_
     refine hw_reg ?_
     refine de rfl (eop_callx (i := 0) ca38 rfl (WeakL.refl _) rfl c_strings_Builder_String ?_)
     rintro _ _ ⟨rfl, rfl⟩
     refine dp rfl (pop_assign rfl) ?_
     refine dp rfl (pop_assign rfl) ?_
     refine dn ?_
     refine hw_ret ?_
     refine ret_p rfl ?_
     show HVal.tup _ = _
     first | (rw [textA, if_neg h1]; rfl) | (rw [textA, if_pos h2, h2]; rfl)

/-- benchwarmer/benchref1.AssetLines -/
theorem c_benchref1_AssetLines [Tracks] {l : List Asset} (hz0 : checkAssets l = 0) : ConP Tryz.prog 26 [eAssets l] (.str (assetT l)) := by
 obtain ⟨hl6, hz⟩ := assets_z hz0
 refine Con.of_body Tryz.func26 rfl Tryz.ntmps26 rfl rfl ?_
 refine hw_reg ?_
 refine dp rfl (pop_assign rfl) ?_
 refine dn ?_
 refine hw_reg ?_
 refine de rfl (eop_allocB 5 ty70 rfl fun b3 => ?_)
 refine dn ?_
 refine hw_seq ?_
 refine hw_reg ?_
 refine dp rfl (pop_move rfl) ?_
 refine dp rfl (pop_lenm ty26 rfl) ?_
 refine dp rfl (pop_move rfl) ?_
 refine dn ?_
 refine hw_block ?_
 refine hw_loopw2 [5, 8, 9, 10, 11, 12, 13, 14, 15, 16, 17, 18, 19, 20, 21, 22, 23, 24, 25] (fun (k : Nat) (v : Value) => [(8, .int .i64 k)]) (fun (k : Nat) (v : Value) => [.bld b3 70 5 v v (assetT (l.take k))]) (fun (k : Nat) (v : Value) => k ≤ l.length ∧ (True)) (fun (k : Nat) (v : Value) => l.length - k) (0) (.slice none 0 0) ?_ ?_ ?_ ?_
 ·exact ⟨Nat.zero_le _, trivial⟩
 ·exact ⟨rfl, trivial⟩
 ·exact perm_eq (by simp [assetT])
 ·intro k v hinv
  obtain ⟨hk, -⟩ := hinv
  refine hw_reg ?_
  refine dp rfl (pop_lss rfl rfl) ?_
  refine dn ?_
  refine hw_seq ?_
  refine hw_cond rfl (fun h1 => ?_) (fun h2 => ?_)
  ·try simp at h1
   obtain ⟨x, hx⟩ : ∃ x, l[k]? = some x := ⟨_, List.getElem?_eq_getElem h1⟩
   have hdx := drop_cons hx
   obtain ⟨hx1, hx2, hx3⟩ := assetF_z (hz x (List.mem_of_getElem? hx))
   have a1 := keyS_len hx1
   have a2 := keyS_len hx2
   have a3 := itoa_len x.Value
   have a4 : (Lib.decDigits x.Value.natAbs).length ≤ 7 := by rw [Lib.decDigits_length]; exact nDigits_le 6 _ (by omega)
   have hTk := assetT_len (l := l.take k) (fun p hp => hz p (List.mem_of_mem_take hp))
   have hT2 : (l.take k).length ≤ 300 := by rw [List.length_take]; omega
   refine hw_skip ?_
   refine seqQ_n ?_
   refine hw_seq ?_
   refine hw_block ?_
   refine hw_reg ?_
   refine dp rfl (pop_idx ty26 ty36 rfl rfl rfl (by first | assumption | simp_all)) ?_
   refine dp rfl (pop_loadw ty36 rfl rfl rfl rfl) ?_
   refine de rfl (eop_alloc ty36 rfl fun b5 => ?_)
   refine de0 (eop_storew ty36 rfl rfl rfl rfl rfl ?_)
   refine dn ?_
   refine hw_ghost (Ghost.fc0 5 rfl) ?_
   refine hw_draw1 (fun _ => True) [] mixed ?_
   refine ahp 0 rfl rfl (by kernel_rfl) (by kernel_rfl) (pop_fieldAddr ty36 rfl ty9 (by decide) rfl) ?_
   refine ahp 1 rfl rfl (by kernel_rfl) (by kernel_rfl) (pop_load ty9 rfl rfl rfl) ?_
   refine ahp 2 rfl rfl (by kernel_rfl) (by kernel_rfl) (pop_adds rfl rfl (by simp; omega)) ?_
   refine ahp 3 rfl rfl (by kernel_rfl) (by kernel_rfl) (pop_fieldAddr ty36 rfl ty9 (by decide) rfl) ?_
   refine ahp 4 rfl rfl (by kernel_rfl) (by kernel_rfl) (pop_load ty9 rfl rfl rfl) ?_
   refine ahp 5 rfl rfl (by kernel_rfl) (by kernel_rfl) (pop_adds rfl rfl (by simp; omega)) ?_
   refine ahp 6 rfl rfl (by kernel_rfl) (by kernel_rfl) (pop_adds rfl rfl (by simp; omega)) ?_
   refine ahp 7 rfl rfl (by kernel_rfl) (by kernel_rfl) (pop_fieldAddr ty36 rfl ty3 (by decide) rfl) ?_
   refine ahp 8 rfl rfl (by kernel_rfl) (by kernel_rfl) (pop_load ty3 rfl rfl rfl) ?_
   refine ahp 9 rfl rfl (by kernel_rfl) (by kernel_rfl) (pop_call ca30 rfl (WeakL.refl _) (c_Itoa (by omega) (by omega))) ?_
   refine ahp 10 rfl rfl (by kernel_rfl) (by kernel_rfl) (pop_adds rfl rfl (by simp; omega)) ?_
   refine ahp 11 rfl rfl (by kernel_rfl) (by kernel_rfl) (pop_adds rfl rfl (by simp; omega)) ?_
   refine ahe 12 rfl (by kernel_rfl) ?_
   refine hop_e rfl (eop_callx (i := 0) ca36 rfl (WeakL.refl _) rfl (c_strings_Builder_WriteString (by simp; omega)) ?_)
   rintro _ _ ⟨v24, rfl, rfl⟩
   refine ⟨fun _ => .inl trivial, ?_⟩
   refine ahz (by kernel_rfl) ?_
   refine blockQ_n ?_
   refine seqQ_n ?_
   refine hw_reg1 ?_
   refine dp rfl (pop_add64 rfl rfl (by omega) (by omega)) ?_
   refine dp rfl (pop_move rfl) ?_
   refine dn ?_
   exact ⟨k + 1, v24, ⟨by omega, trivial⟩, by dsimp only; omega, ⟨rfl, trivial⟩, (by repeat (first | exact keeps_refl | refine keeps_upd rfl ?_ | refine keeps_loop rfl rfl ?_)), perm_eq (by dsimp only; rw [take_snoc' hx, assetT_snoc]; simp [assetLn])⟩
  ·try simp at h2
   have hnk : l.length ≤ k := by omega
   obtain rfl : k = l.length := by omega
   rw [List.take_length]
   refine hw_exit ?_
   refine seqQ_x ?_
   refine loopQ2_x ?_
   refine blockQ_eq ?_
   refine seqQ_n ?_
   refine hw_reg ?_
   refine de rfl (eop_callx (i := 0) ca38 rfl (WeakL.refl _) rfl c_strings_Builder_String ?_)
   rintro _ _ ⟨rfl, rfl⟩
   refine dp rfl (pop_assign rfl) ?_
   refine dn ?_
   refine hw_ret ?_
   refine ret_p rfl ?_
   rfl

/-- (*benchwarmer/benchmake.Stream).AssetString -/
theorem c_benchmake_Stream_AssetString [Tracks] {b : Nat} {l : List Int} {a : Nat}  (ha : a ≤ 600000) : Con Tryz.prog 10 [pAt b] [St b l a] (fun x M' => ∃ (t : Str) (a' : Nat), x = .str t ∧ t.length ≤ 200000 ∧ a' ≤ a + 200 ∧ M' = [St b l a']) := by
 refine Con.of_body Tryz.func10 rfl Tryz.ntmps10 rfl rfl ?_
 refine hw_reg ?_
 refine dp rfl (pop_assign rfl) ?_
 refine dn ?_
 refine hw_reg ?_
 refine dp rfl (pop_assign rfl) ?_
 refine dn ?_
 refine hw_join [3, 4, 5, 6, 7, 8, 9, 10, 11] (fun (q : Str × Nat) => [(3, .str q.1)]) (fun (q : Str × Nat) => [St b l q.2]) (fun (q : Str × Nat) => q.1.length ≤ 1200 ∧ q.2 ≤ a + 120) ?_ ?_
 ·skip
  refine hw_reg ?_
  refine dp rfl (pop_move rfl) ?_
  first
  | refine de rfl (eop_callx (i := 0) ca5 rfl (WeakL.refl _) rfl (c_benchmake_Stream_AssetList (by first | assumption | omega | (simp; omega) | simp_all) (by first | assumption | omega | (simp; omega) | simp_all)) ?_)
  | refine de rfl (eop_callx (i := 1) ca5 rfl (WeakL.refl _) rfl (c_benchmake_Stream_AssetList (by first | assumption | omega | (simp; omega) | simp_all) (by first | assumption | omega | (simp; omega) | simp_all)) ?_)
  | refine de rfl (eop_callx (i := 2) ca5 rfl (WeakL.refl _) rfl (c_benchmake_Stream_AssetList (by first | assumption | omega | (simp; omega) | simp_all) (by first | assumption | omega | (simp; omega) | simp_all)) ?_)
  | refine de rfl (eop_callx (i := 3) ca5 rfl (WeakL.refl _) rfl (c_benchmake_Stream_AssetList (by first | assumption | omega | (simp; omega) | simp_all) (by first | assumption | omega | (simp; omega) | simp_all)) ?_)
  rintro _ _ ⟨l6, a6, rfl, hl6, ha6, rfl⟩
  refine dp rfl (pop_assign rfl) ?_
  refine dn ?_
  refine hw_reg ?_
  refine dp rfl (pop_move rfl) ?_
  refine dp rfl (pop_call ca6 rfl (WeakL.refl _) (c_benchref1_AssetsFault (l := l6) (by have := hl6.len; omega) hl6.all)) ?_
  refine dp rfl (pop_eql rfl rfl) ?_
  refine dn ?_
  refine hw_cond rfl (fun h1 => ?_) (fun h2 => ?_)
  ·try simp at h1
   refine hw_reg1 ?_
   refine dp rfl (pop_move rfl) ?_
   refine dp rfl (pop_call ca26 rfl (WeakL.refl _) (c_benchref1_AssetLines (l := l6) (by simpa using h1))) ?_
   refine dp rfl (pop_assign rfl) ?_
   refine dn ?_
   exact ⟨(assetT l6, a6), ⟨by have h5 := assetT_len (assets_z (by simpa using h1)).2; have h6 := hl6.len; dsimp only; omega, by dsimp only; omega⟩, ⟨rfl, trivial⟩, (by repeat (first | exact keeps_refl | refine keeps_upd rfl ?_ | refine keeps_loop rfl rfl ?_)), perm_eq rfl⟩
  ·try simp at h2
   refine hw_skip ?_
   exact ⟨(_, a6), ⟨by simp, by dsimp only; omega⟩, ⟨rfl, trivial⟩, (by repeat (first | exact keeps_refl | refine keeps_upd rfl ?_ | refine keeps_loop rfl rfl ?_)), perm_eq rfl⟩
 ·intro q hq
  obtain ⟨t0, a1⟩ := q
  dsimp only at hq
  obtain ⟨hq1, hq2⟩ := hq
  refine hw_seq ?_
  refine hw_reg ?_
  refine dp rfl (pop_move rfl) ?_
  refine dp rfl (pop_buildSlice (hs := [_, _, _, _]) ty22 ty3 rfl rfl (by decide) (by decide) rfl) ?_
  first
  | refine de rfl (eop_callx (i := 0) ca13 rfl (WeakL.refl _) rfl (c_benchmake_Stream_Pick (L := [_, _, _, _]) (by first | assumption | omega | (simp; omega) | simp_all) (by first | assumption | omega | (simp; omega) | simp_all) (by first | assumption | omega | (simp; omega) | simp_all)) ?_)
  | refine de rfl (eop_callx (i := 1) ca13 rfl (WeakL.refl _) rfl (c_benchmake_Stream_Pick (L := [_, _, _, _]) (by first | assumption | omega | (simp; omega) | simp_all) (by first | assumption | omega | (simp; omega) | simp_all) (by first | assumption | omega | (simp; omega) | simp_all)) ?_)
  | refine de rfl (eop_callx (i := 2) ca13 rfl (WeakL.refl _) rfl (c_benchmake_Stream_Pick (L := [_, _, _, _]) (by first | assumption | omega | (simp; omega) | simp_all) (by first | assumption | omega | (simp; omega) | simp_all) (by first | assumption | omega | (simp; omega) | simp_all)) ?_)
  | refine de rfl (eop_callx (i := 3) ca13 rfl (WeakL.refl _) rfl (c_benchmake_Stream_Pick (L := [_, _, _, _]) (by first | assumption | omega | (simp; omega) | simp_all) (by first | assumption | omega | (simp; omega) | simp_all) (by first | assumption | omega | (simp; omega) | simp_all)) ?_)
  rintro _ _ ⟨y14, rfl, hy14, rfl⟩
  refine dp rfl (pop_move rfl) ?_
  refine dn ?_
  have hy2 : y14 ≤ 2 := by simp at hy14; omega
  refine hw_block ?_
  refine hw_loopw3 [3, 15, 16, 17, 18, 19, 20] (fun (k : Nat) (t : Str) (a2 : Nat) => [(15, .int .i64 (k : Int)), (3, .str t)]) (fun (k : Nat) (t : Str) (a2 : Nat) => [St b l a2]) (fun (k : Nat) (t : Str) (a2 : Nat) => k ≤ 2 ∧ t.length ≤ 1200 + 20 * k ∧ a2 ≤ a1 + 1 + 3 * k) (fun (k : Nat) (t : Str) (a2 : Nat) => 2 - k) (0) (t0) (a1 + 1) ?_ ?_ ?_ ?_
  ·exact ⟨by omega, by omega, by omega⟩
  ·exact ⟨rfl, rfl, trivial⟩
  ·exact perm_eq rfl
  ·intro k t a2 hinv
   obtain ⟨hk, hlt, hat⟩ := hinv
   refine hw_reg ?_
   refine dp rfl (pop_lss rfl rfl) ?_
   refine dn ?_
   refine hw_seq ?_
   refine hw_cond rfl (fun h3 => ?_) (fun h4 => ?_)
   ·try simp at h3
    refine hw_skip ?_
    refine seqQ_n ?_
    refine hw_seq ?_
    refine hw_block ?_
    refine hw_reg1 ?_
    refine dp rfl (pop_move rfl) ?_
    refine dp rfl (pop_move rfl) ?_
    first
    | refine de rfl (eop_callx (i := 0) ca43 rfl (WeakL.refl _) rfl (c_benchmake_Stream_Changed (by first | assumption | omega | (simp; omega) | simp_all) (by first | assumption | omega | (simp; omega) | simp_all) (by first | assumption | omega | (simp; omega) | simp_all)) ?_)
    | refine de rfl (eop_callx (i := 1) ca43 rfl (WeakL.refl _) rfl (c_benchmake_Stream_Changed (by first | assumption | omega | (simp; omega) | simp_all) (by first | assumption | omega | (simp; omega) | simp_all) (by first | assumption | omega | (simp; omega) | simp_all)) ?_)
    | refine de rfl (eop_callx (i := 2) ca43 rfl (WeakL.refl _) rfl (c_benchmake_Stream_Changed (by first | assumption | omega | (simp; omega) | simp_all) (by first | assumption | omega | (simp; omega) | simp_all) (by first | assumption | omega | (simp; omega) | simp_all)) ?_)
    | refine de rfl (eop_callx (i := 3) ca43 rfl (WeakL.refl _) rfl (c_benchmake_Stream_Changed (by first | assumption | omega | (simp; omega) | simp_all) (by first | assumption | omega | (simp; omega) | simp_all) (by first | assumption | omega | (simp; omega) | simp_all)) ?_)
    rintro _ _ ⟨s19, a19, rfl, hs19, ha19, rfl⟩
    refine dp rfl (pop_assign rfl) ?_
    refine dn ?_
    refine blockQ_n ?_
    refine seqQ_n ?_
    refine hw_reg1 ?_
    refine dp rfl (pop_add64 rfl rfl (by omega) (by omega)) ?_
    refine dp rfl (pop_move rfl) ?_
    refine dn ?_
    exact ⟨k + 1, s19, a19, ⟨by omega, by simp at hs19; omega, by omega⟩, by dsimp only; omega, ⟨rfl, rfl, trivial⟩, (by repeat (first | exact keeps_refl | refine keeps_upd rfl ?_ | refine keeps_loop rfl rfl ?_)), perm_eq rfl⟩
   ·try simp at h4
    refine hw_exit ?_
    refine seqQ_x ?_
    refine loopQ3_x ?_
    refine blockQ_eq ?_
    refine seqQ_n ?_
    refine hw_reg ?_
    refine dp rfl (pop_move rfl) ?_
    refine dp rfl (pop_assign rfl) ?_
    refine dn ?_
    refine hw_ret ?_
    exact ret_q rfl ⟨t, a2, rfl, by omega, by omega, rfl⟩
end Go.Proofs.YtbfikmihcpfgaaaGreatDoor
end
section
namespace Go.HL
section
variable {P : Program} {e : Env} {dst : Option Tmp} {ty : TypeId} {pos : String} {af : Array Edge} {g : Option (Nat × Bool)}
/-- What a variable holds that is nil or has elements. -/
def nilO (o : Option (List HVal)) : HVal :=
 match o with
 | none => .raw (.slice none 0 0)
 | some es => .slice 1 es
theorem nil_val [Tracks] {I : Imm} {o : Option (List HVal)} {v : Value} (hne : ∀ es, o = some es → es ≠ []) (hv : V I (nilO o) v) : ∃ p n cap, v = .slice p n cap ∧ p.isNone = o.isNone := by
 cases o with
 | none => exact ⟨_, _, _, hv.raw_inv, rfl⟩
 | some es =>
   rcases hv.slice_inv with ⟨h0, _⟩ | ⟨b, off, cap', rc, el', fr, h3, _⟩
   ·exact absurd h0 (hne es rfl)
   ·exact ⟨_, _, _, h3, rfl⟩
theorem pop_eqnilS [Tracks] {x y : Operand} {t t' el : TypeId} {size bytes : Nat} {zero : Value} {o : Option (List HVal)} (hf : Fits P t (.slice el) size bytes zero) (hne : ∀ es, o = some es → es ≠ []) (hx : evalO e x = some (nilO o)) (hy : evalO e y = some (.raw (.slice none 0 0))) :
 POp P e ⟨dst, .binOp .eql t x y t', ty, pos, af, g⟩ (.bool o.isNone) :=
 POp.of_val fun I a w ho => by
  have hv := ho.one (x := x) (by simp [Op.operands]) hx
  have h2 := (ho.one (x := y) (by simp [Op.operands]) hy).raw_inv
  obtain ⟨p, n, cap, h1, h3⟩ := nil_val hne hv
  refine ⟨.bool o.isNone, ?_, .bool _⟩
  rw [← h3]
  simp [execOp, h1, h2, eqGuard, binOp, run_equal_nil hf.slice]
theorem pop_neqnilS [Tracks] {x y : Operand} {t t' el : TypeId} {size bytes : Nat} {zero : Value} {o : Option (List HVal)} (hf : Fits P t (.slice el) size bytes zero) (hne : ∀ es, o = some es → es ≠ []) (hx : evalO e x = some (nilO o)) (hy : evalO e y = some (.raw (.slice none 0 0))) :
 POp P e ⟨dst, .binOp .neq t x y t', ty, pos, af, g⟩ (.bool (!o.isNone)) :=
 POp.of_val fun I a w ho => by
  have hv := ho.one (x := x) (by simp [Op.operands]) hx
  have h2 := (ho.one (x := y) (by simp [Op.operands]) hy).raw_inv
  obtain ⟨p, n, cap, h1, h3⟩ := nil_val hne hv
  refine ⟨.bool (!o.isNone), ?_, .bool _⟩
  rw [← h3]
  simp [execOp, h1, h2, eqGuard, binOp, run_equal_nil hf.slice]
def lenO (o : Option (List HVal)) : Nat := match o with | none => 0 | some es => es.length
theorem pop_lenS [Tracks] {x : Operand} {t el : TypeId} {size bytes : Nat} {zero : Value} {o : Option (List HVal)} (hf : Fits P t (.slice el) size bytes zero) (hx : evalO e x = some (nilO o)) :
 POp P e ⟨dst, .call ⟨.builtin .len, #[x], #[t]⟩, ty, pos, af, g⟩ (.int .i64 (lenO o : Nat)) := by
 cases o with
 | none => exact pop_len_raw hf hx
 | some es => exact pop_len hf hx
end
/-- A list of names that the best offer so far bears. -/
def namesO (f : OfferS → List Str) (s : Option OfferS) : Option (List HVal) := s.map fun o => (f o).map .str
theorem weak_give [Tracks] (s : Option OfferS) : Weak (nilO (namesO (·.give) s)) (eSs (giveS s)) := by
 cases s with
 | none => exact weak_nil 1
 | some o => exact Weak.refl _
theorem weak_take [Tracks] (s : Option OfferS) : Weak (nilO (namesO (·.take) s)) (eSs (takeS s)) := by
 cases s with
 | none => exact weak_nil 1
 | some o => exact Weak.refl _
theorem len_give (s : Option OfferS) : lenO (namesO (·.give) s) = (giveS s).length := by
 cases s with
 | none => rfl
 | some o => exact List.length_map _
theorem len_take (s : Option OfferS) : lenO (namesO (·.take) s) = (takeS s).length := by
 cases s with
 | none => rfl
 | some o => exact List.length_map _
theorem none_names (f : OfferS → List Str) (s : Option OfferS) : (namesO f s).isNone = s.isNone := by cases s <;> rfl
theorem give_off (s : Option OfferS) : giveS s = (s.getD off0).give ∧ takeS s = (s.getD off0).take ∧ leastS s = (s.getD off0).less ∧ bothS s = (s.getD off0).sum := by
 cases s <;> exact ⟨rfl, rfl, rfl, rfl⟩
/-- The best so far gives somebody. -/
theorem fold_gives {n : Int} (hn : 1 ≤ n ∧ n ≤ 2) {a b : List Asset} {p : List Place} {i j : Nat} {g : List Str} (hg : (choicesL n a)[i]? = some g) {s : Option OfferS}
 (hs : foldO (offersL a b p ((choicesL n a).take i) (choicesL n b) ++ ((choicesL n b).take j).map (mkO a b p g)) = s) :
 (∀ es, namesO (·.give) s = some es → es ≠ []) ∧ ∀ o, s = some o → o.give.length ≤ 2 ∧ o.take.length ≤ 2 ∧ (∃ g' t', o = mkO a b p g' t' ∧ g'.length ≤ 2 ∧ t'.length ≤ 2) := by
 have key : ∀ o, s = some o → 1 ≤ o.give.length ∧ o.give.length ≤ 2 ∧ o.take.length ≤ 2 ∧ (∃ g' t', o = mkO a b p g' t' ∧ g'.length ≤ 2 ∧ t'.length ≤ 2) := by
  intro o ho
  subst ho
  have hm := ((foldO_ok _).yes o hs).2.1
  have sg : ∀ {l : List Asset} {t : List Str}, t ∈ choicesL n l → 1 ≤ t.length ∧ t.length ≤ 2 := fun ht => by
   have := ch_small hn ht
   omega
  rcases List.mem_append.1 hm with hm | hm
  ·unfold offersL at hm
   obtain ⟨g', hg', hm⟩ := List.mem_flatMap.1 hm
   obtain ⟨t', ht', rfl⟩ := List.mem_map.1 hm
   have h1 := sg (List.mem_of_mem_take hg')
   have h2 := sg ht'
   exact ⟨h1.1, h1.2, h2.2, g', t', rfl, h1.2, h2.2⟩
  ·obtain ⟨t', ht', rfl⟩ := List.mem_map.1 hm
   have h1 := sg (List.mem_of_getElem? hg)
   have h2 := sg (List.mem_of_mem_take ht')
   exact ⟨h1.1, h1.2, h2.2, g, t', rfl, h1.2, h2.2⟩
 refine ⟨fun es he => ?_, fun o ho => (key o ho).2⟩
 cases s with
 | none => cases he
 | some o =>
   have h1 := (key o rfl).1
   simp only [namesO, Option.map_some, Option.some.injEq] at he
   subst he
   intro h0
   have := congrArg List.length h0
   simp at this
   rw [this] at h1
   simp at h1
end Go.HL
end
section
namespace Go.HL
theorem with_ok {base zs : List Asset} (hn : ((base ++ zs).map (·.Player)).Nodup) (hl : (base ++ zs).length ≤ 16) {k : Nat} {z : Asset} (hz : zs[k]? = some z) : (withL base (zs.take k)).length ≤ 15 ∧ ((withL base (zs.take k) ++ [z]).map (·.Player)).Nodup := by
 have hk := lt_of_get hz
 have hp := withL_perm base (zs.take k)
 have h1 := hp.length_eq
 simp only [List.length_append, List.length_take] at h1 hl
 refine ⟨by omega, ?_⟩
 have hp2 : (withL base (zs.take k) ++ [z]).Perm (base ++ zs.take (k + 1)) := by
  rw [take_snoc' hz]
  have := hp.append_right [z]
  rwa [List.append_assoc] at this
 rw [(hp2.map (·.Player)).nodup_iff]
 exact hn.sublist (((List.Sublist.refl base).append (List.take_sublist _ _)).map _)
structure SwR (a b : List Asset) (p : List Place) (give take : List Str) : Prop where
 nd : (((a.filter fun x => !(give.contains x.Player)) ++ (b.filter fun x => take.contains x.Player)).map (·.Player)).Nodup
 len : ((a.filter fun x => !(give.contains x.Player)) ++ (b.filter fun x => take.contains x.Player)).length ≤ 16
 xl : (withL (a.filter fun x => !(give.contains x.Player)) (b.filter fun x => take.contains x.Player)).length ≤ 16
 xv : ∀ x ∈ withL (a.filter fun x => !(give.contains x.Player)) (b.filter fun x => take.contains x.Player), -1000000 ≤ x.Value ∧ x.Value ≤ 1000000
 xb : -160000000 ≤ sumV (fieldedL (ofR (withL (a.filter fun x => !(give.contains x.Player)) (b.filter fun x => take.contains x.Player))) p) ∧ sumV (fieldedL (ofR (withL (a.filter fun x => !(give.contains x.Player)) (b.filter fun x => take.contains x.Player))) p) ≤ 160000000
 ab : -160000000 ≤ sumV (fieldedL (ofR a) p) ∧ sumV (fieldedL (ofR a) p) ≤ 160000000
 is : sumV (fieldedL (ofR (withL (a.filter fun x => !(give.contains x.Player)) (b.filter fun x => take.contains x.Player))) p) - sumV (fieldedL (ofR a) p) = gainL a b p give take
theorem sumR_bd {l : List Asset} {p : List Place} (hl : l.length ≤ 16) (hp : p.length ≤ 10) (hv : ∀ x ∈ l, -1000000 ≤ x.Value ∧ x.Value ≤ 1000000) : -160000000 ≤ sumV (fieldedL (ofR l) p) ∧ sumV (fieldedL (ofR l) p) ≤ 160000000 := by
 have h := field_bdN (f := ofR l) (p := p) (i := p.length) (fun s m y => mem_chosenR) (fun s => Nat.le_trans (ofR_len l s) hl) hp hv
 rw [List.take_length] at h
 exact h.2
theorem sw_r {a b : List Asset} {p : List Place} {give take : List Str} (ok : SwapOk a b p) (hb0 : bothP a b = false) (ha : a.length ≤ 8) (hb : b.length ≤ 8) : SwR a b p give take := by
 have hn := traded_nodup (give := give) (take := take) ok.da ok.db hb0
 have hl := traded_lenN (give := give) (take := take) ha hb
 have hp := withL_perm (a.filter fun x => !(give.contains x.Player)) (b.filter fun x => take.contains x.Player)
 have hxl : (withL (a.filter fun x => !(give.contains x.Player)) (b.filter fun x => take.contains x.Player)).length ≤ 16 := by rw [hp.length_eq]; exact hl
 have hxv : ∀ x ∈ withL (a.filter fun x => !(give.contains x.Player)) (b.filter fun x => take.contains x.Player), -1000000 ≤ x.Value ∧ x.Value ≤ 1000000 := fun x hx => by
  have hx' := hp.mem_iff.1 hx
  rcases List.mem_append.1 hx' with hx' | hx'
  ·exact ok.va x (List.mem_filter.1 hx').1
  ·exact ok.vb x (List.mem_filter.1 hx').1
 exact ⟨hn, hl, hxl, hxv, sumR_bd hxl ok.p10 hxv, sumR_bd (by omega) ok.p10 ok.va, swapped_ref (checkAssets_ok ok.ca).1 ok.db hb0⟩
theorem cmpSs_end {l m : List Str} (h : m.length ≤ 0 ∨ m = []) (hl : l ≠ []) : cmpSs l m = 1 := by
 have hm : m = [] := by
  rcases h with h | h
  ·cases m with
   | nil => rfl
   | cons _ _ => simp at h
  ·exact h
 subst hm
 cases l with
 | nil => exact absurd rfl hl
 | cons _ _ => rfl
theorem cmpSs_cons {a b : Str} {l m : List Str} (h : cmpS a b = 0) : cmpSs (a :: l) (b :: m) = cmpSs l m := by rw [cmpSs, if_neg (by simp [h])]
theorem cmpSs_head {a b : Str} {l m : List Str} (h : cmpS a b ≠ 0) : cmpSs (a :: l) (b :: m) = cmpS a b := by rw [cmpSs, if_pos h]
theorem drop_getD {m : List Str} {k : Nat} (h : k < m.length) : m.drop k = m.getD k [] :: m.drop (k + 1) := by
 rw [List.drop_eq_getElem_cons h, List.getD_eq_getElem?_getD, List.getElem?_eq_getElem h]; rfl
theorem cmpSs_nil {m : List Str} (k : Nat) : cmpSs [] (m.drop k) = if k < m.length then -1 else 0 := by
 split
 ·rename_i h; rw [drop_getD h]; rfl
 ·rename_i h; rw [List.drop_eq_nil_of_le (by omega)]; rfl
theorem best_gives {a b : List Asset} {p : List Place} {n : Int} (hn : 1 ≤ n ∧ n ≤ 2) : ∀ es, namesO (·.give) (bestO a b p n) = some es → es ≠ [] := fun es he => by
 cases hs : bestO a b p n with
 | none => rw [hs] at he; cases he
 | some o =>
   rw [hs] at he
   have h1 := ch_small hn (best_is hs).give
   simp only [namesO, Option.map_some, Option.some.injEq] at he
   subst he
   intro h0
   have := congrArg List.length h0
   simp at this
   rw [this] at h1
   simp at h1
/-- The reference's order, of the words that the walk has. -/
theorem ordO_is {a b : List Asset} {p : List Place} {g t : List Str} (s : Option OfferS) :
 orI [cmpI (leastS s) (min (gainL a b p g t) (gainL b a p t g)), cmpI (bothS s) (gainL a b p g t + gainL b a p t g), cmpI ((g.length : Int) + (t.length : Int)) ((lenO (namesO (·.give) s) : Nat) + (lenO (namesO (·.take) s) : Nat) : Int), cmpSs g (giveS s), cmpSs t (takeS s)] = ordR (s.getD off0) (mkO a b p g t) := by
 obtain ⟨h1, h2, h3, h4⟩ := give_off s
 rw [len_give, len_take, h1, h2, h3, h4]; rfl
theorem step_yes {s : Option OfferS} {z : OfferS} {m : Int} (hm : z.less = m) (h : 1 ≤ m ∧ (namesO (fun x => x.give) s = none ∨ ordR (s.getD off0) z < 0)) : (decide (1 ≤ z.less) && (s.isNone || decide (ordR (s.getD off0) z < 0))) = true := by
 subst hm
 obtain ⟨h1, h2 | h2⟩ := h
 ·have : s.isNone = true := by
   cases s with
   | none => rfl
   | some o => cases h2
  rw [this]; simp [h1]
 ·simp [h1, h2]
theorem step_no {s : Option OfferS} {z : OfferS} {m : Int} (hm : z.less = m) (h : 1 ≤ m → (namesO (fun x => x.give) s).isSome = true ∧ 0 ≤ ordR (s.getD off0) z) : ¬ (decide (1 ≤ z.less) && (s.isNone || decide (ordR (s.getD off0) z < 0))) = true := by
 subst hm
 intro hq
 rw [Bool.and_eq_true, decide_eq_true_eq, Bool.or_eq_true, decide_eq_true_eq] at hq
 obtain ⟨h1, h2⟩ := h hq.1
 rcases hq.2 with q | q
 ·cases s with
  | none => cases h1
  | some o => cases q
 ·omega
theorem least_bd {a b : List Asset} {p : List Place} (ok : SwapOk a b p) (ha : a.length ≤ 8) (hb : b.length ≤ 8) (g t : List Str) : (-320000000 ≤ gainL a b p g t ∧ gainL a b p g t ≤ 320000000) ∧ (-320000000 ≤ gainL b a p t g ∧ gainL b a p t g ≤ 320000000) := by
 obtain ⟨_, h1, h2⟩ := gain_bd (give := g) (take := t) ok ha hb
 obtain ⟨_, h3, h4⟩ := gain_bd (give := t) (take := g) ok.flip hb ha
 unfold gainL
 omega
theorem best_lens (a b : List Asset) (p : List Place) (n : Int) : (giveS (bestS a b p n)).length ≤ 1000000 ∧ (takeS (bestS a b p n)).length ≤ 1000000 := by
 by_cases h : bestE a b p n = 0
 ·obtain ⟨_, hn⟩ := bestE_z h
  unfold bestS
  rw [if_pos h]
  cases hs : bestO a b p n with
  | none => exact ⟨Nat.zero_le _, Nat.zero_le _⟩
  | some o =>
    have h1 := ch_small hn (best_is hs).give
    have h2 := ch_small hn (best_is hs).take
    refine ⟨?_, ?_⟩
    ·show o.give.length ≤ 1000000
     omega
    ·show o.take.length ≤ 1000000
     omega
 ·unfold bestS
  rw [if_neg h]
  exact ⟨Nat.zero_le _, Nat.zero_le _⟩
theorem swapNM_z {a b : List Asset} {p : List Place} {give take : List Str} (h : swapG a b p give take = 0) : swapN a b p give take = gainL a b p give take ∧ swapM a b p give take = gainL b a p take give := by
 unfold swapN swapM; rw [if_pos h, if_pos h]; exact ⟨rfl, rfl⟩
theorem swapNM_f {a b : List Asset} {p : List Place} {give take : List Str} (h : swapG a b p give take ≠ 0) : swapN a b p give take = 0 ∧ swapM a b p give take = 0 := by
 unfold swapN swapM; rw [if_neg h, if_neg h]; exact ⟨rfl, rfl⟩
theorem bestS_z {a b : List Asset} {p : List Place} {n : Int} (h : bestE a b p n = 0) : bestS a b p n = bestO a b p n := by unfold bestS; rw [if_pos h]
theorem bestS_f {a b : List Asset} {p : List Place} {n : Int} (h : bestE a b p n ≠ 0) : bestS a b p n = none := by unfold bestS; rw [if_neg h]
end Go.HL
end
section
namespace Go.Proofs.YtbfikmihcpfgaaaGreatDoor
open Go.HL
set_option maxRecDepth 100000
set_option linter.unusedVariables false
set_option linter.unusedSimpArgs false
/-- benchwarmer/benchref1.of -/
theorem c_benchref1_of_g [Tracks] {l : List Asset} {pos : Str} (hl : l.length ≤ 16) : ConP Tryz.prog 97 [eAssets l, .str pos] (eAssets (ofR l pos)) := by
 refine Con.of_body Tryz.func97 rfl Tryz.ntmps97 rfl rfl ?_
 refine hw_reg ?_
 refine dp rfl (pop_box rfl rfl) ?_
 refine dp rfl (pop_assign rfl) ?_
 refine dn ?_
 refine hw_reg ?_
 refine dp rfl (pop_move rfl) ?_
 refine de rfl (eop_calla ca60 rfl (WeakL.refl _) (c_slices_Clone_api_Asset_api_Asset (by first | assumption | omega | (simp; omega) | simp_all)) fun v6 => ?_)
 refine dp rfl (pop_makeFunc rfl rfl) ?_
 refine de rfl (eop_callx (i := 0) ca59 rfl (WeakL.refl _) rfl (c_slices_DeleteFunc_api_Asset_api_Asset (l := l) (p := fun x => !(x.Position == pos)) ca134 (fun x => c_benchref1_of_1) (by omega)) ?_)
 rintro _ _ ⟨u8, rfl, rfl⟩
 refine dp rfl (pop_assign rfl) ?_
 refine dn ?_
 refine hw_ghost (Ghost.of_eq (M' := [.arr u8 3 ((atPos l pos).map eAsset)]) (by simp [atPos])) ?_
 refine hw_reg ?_
 refine dp rfl (pop_move rfl) ?_
 refine de rfl (eop_callx (i := 0) ca135 rfl (WeakL.refl _) rfl (c_slices_SortStableFunc_api_Asset_api_Asset (l := atPos l pos) (c := byVal) (caps := []) ca136 (fun x y => c_benchref1_of_2) (by have := atPos_le l pos; omega)) ?_)
 rintro _ _ ⟨rfl, rfl⟩
 refine dn ?_
 refine hw_reg ?_
 refine dp rfl (pop_move rfl) ?_
 refine dp rfl (pop_assign rfl) ?_
 refine dn ?_
 refine hw_ret ?_
 exact ret_fa (M := []) 4 rfl rfl rfl

set_option maxHeartbeats 1000000 in
/-- benchwarmer/benchref1.FieldedOf -/
theorem c_benchref1_FieldedOf_g [Tracks] {l : List Asset} {p : List HL.Place} (hl : l.length ≤ 16) (hp : p.length ≤ 10) (hm : ∀ x ∈ p, 0 ≤ x.Many) (hv : ∀ x ∈ l, -1000000 ≤ x.Value ∧ x.Value ≤ 1000000) : ConP Tryz.prog 63 [eAssets l, ePlaces p] (.tup [.int .i64 (sumV (fieldedL (ofR l) p)), eSs (namesV (fieldedL (ofR l) p))]) := by
 have hon : ∀ s, (ofR l s).length ≤ 16 := fun s => Nat.le_trans (ofR_len l s) hl
 refine Con.of_body Tryz.func63 rfl Tryz.ntmps63 rfl rfl ?_
 refine hw_reg ?_
 refine dp rfl (pop_assign rfl) ?_
 refine dp rfl (pop_assign rfl) ?_
 refine dn ?_
 refine hw_reg ?_
 refine dp rfl (pop_assign rfl) ?_
 refine dn ?_
 refine hw_reg ?_
 refine dp rfl (pop_assign rfl) ?_
 refine dn ?_
 refine hw_ghost (Ghost.arr_nil 1) ?_
 refine hw_seq ?_
 refine hw_reg ?_
 refine dp rfl (pop_move rfl) ?_
 refine dp rfl (pop_lenm ty40 rfl) ?_
 refine dp rfl (pop_move rfl) ?_
 refine dn ?_
 refine hw_block ?_
 refine hw_loopw2 [6, 7, 9, 10, 12, 15, 16, 17, 18, 19, 20, 21, 22, 23, 24, 25, 26, 27, 28, 29, 30, 31, 32, 33, 34, 35, 36, 37, 38, 39, 40, 41, 42, 43, 44, 45, 46, 47, 48] (fun (i : Nat) (u : Value) => [(15, .int .i64 i), (6, .int .i64 (sumV (fieldedL (ofR l) (p.take i)))), (7, .raw u)]) (fun (i : Nat) (u : Value) => [.arr u 1 (((fieldedL (ofR l) (p.take i)).map (·.Player)).map .str)]) (fun (i : Nat) (u : Value) => i ≤ p.length ∧ (True)) (fun (i : Nat) (u : Value) => p.length - i) (0) (.slice none 0 0) ?_ ?_ ?_ ?_
 ·exact ⟨Nat.zero_le _, by simp_all⟩
 ·exact ⟨rfl, some_int (by simp [fieldedL, sumV]), rfl, trivial⟩
 ·exact perm_eq (by simp [fieldedL])
 ·intro i u hinv
  obtain ⟨hi, -⟩ := hinv
  refine hw_reg ?_
  refine dp rfl (pop_lss rfl rfl) ?_
  refine dn ?_
  refine hw_seq ?_
  refine hw_cond rfl (fun h1 => ?_) (fun h2 => ?_)
  ·try simp at h1
   obtain ⟨x, hx⟩ : ∃ x, p[i]? = some x := ⟨_, List.getElem?_eq_getElem h1⟩
   have hdx := drop_cons hx
   refine hw_skip ?_
   refine seqQ_n ?_
   refine hw_seq ?_
   refine hw_block ?_
   refine hw_reg ?_
   refine dp rfl (pop_idx ty40 ty95 rfl rfl rfl (by first | assumption | simp_all)) ?_
   refine dp rfl (pop_loadw ty95 rfl rfl rfl rfl) ?_
   refine de rfl (eop_alloc ty95 rfl fun b9 => ?_)
   refine de0 (eop_storew ty95 rfl rfl rfl rfl rfl ?_)
   refine dn ?_
   refine hw_ghost (Ghost.fc0 9 rfl) ?_
   refine hw_reg ?_
   refine dp rfl (pop_move rfl) ?_
   refine dp rfl (pop_fieldAddr ty95 rfl ty9 (by decide) rfl) ?_
   refine dp rfl (pop_load ty9 rfl rfl rfl) ?_
   refine dp rfl (pop_call ca97 rfl (WeakL.refl _) (c_benchref1_of_g (l := l) (pos := x.Position) (by omega))) ?_
   refine dp rfl (pop_assign rfl) ?_
   refine dn ?_
   have hx0 := hm x (List.mem_of_getElem? hx)
   have hon1 := hon x.Position
   obtain ⟨N, hN⟩ : ∃ N : Nat, (if ((ofR l x.Position).length : Int) < x.Many then ((ofR l x.Position).length : Int) else x.Many) = (N : Int) := ⟨_, (Int.toNat_of_nonneg (by split <;> omega)).symm⟩
   have hNle : N ≤ (ofR l x.Position).length := by split at hN <;> omega
   refine hw_reg ?_
   refine dp rfl (pop_move rfl) ?_
   refine dp rfl (pop_fieldAddr ty95 rfl ty3 (by decide) rfl) ?_
   refine dp rfl (pop_load ty3 rfl rfl rfl) ?_
   refine dp rfl (pop_move rfl) ?_
   refine dp rfl (pop_lenm ty26 rfl) ?_
   refine dp rfl (pop_eq (pop_min rfl rfl) (congrArg _ hN)) ?_
   refine dp rfl (pop_slicem (h := N) ty26 ty36 rfl rfl ⟨_, _, rfl, rfl⟩ (by omega) hNle) ?_
   refine dp rfl (pop_lenm ty26 rfl) ?_
   refine dp rfl (pop_move rfl) ?_
   refine dn ?_
   have hCl : ((List.drop 0 (List.take N (ofR l x.Position)))).length ≤ 16 := by simp; omega
   have hCm : ∀ y ∈ (List.drop 0 (List.take N (ofR l x.Position))), y ∈ l := fun y hy => by
    have := List.mem_of_mem_take (List.mem_of_mem_drop hy)
    unfold ofR atPos at this
    exact (List.mem_filter.1 ((isort_mem _).1 this)).1
   generalize hCd : List.drop 0 (List.take N (ofR l x.Position)) = C at *
   refine hw_block ?_
   refine hw_loopw2 [6, 7, 12, 31, 32, 33, 34, 35, 36, 37, 38, 39, 40, 41, 42, 43, 44, 45, 46, 47] (fun (k : Nat) (w : Value) => [(31, .int .i64 k), (6, .int .i64 (sumV ((fieldedL (ofR l) (p.take i)) ++ ((C.take k).filter (fun y => decide (0 < y.Value)))))), (7, .raw w)]) (fun (k : Nat) (w : Value) => [.arr w 1 ((((fieldedL (ofR l) (p.take i)) ++ ((C.take k).filter (fun y => decide (0 < y.Value)))).map (·.Player)).map .str)]) (fun (k : Nat) (w : Value) => k ≤ C.length ∧ (True)) (fun (k : Nat) (w : Value) => C.length - k) (0) (u) ?_ ?_ ?_ ?_
   ·exact ⟨Nat.zero_le _, by simp_all⟩
   ·exact ⟨rfl, some_int (by simp), rfl, trivial⟩
   ·exact perm_eq (by simp)
   ·intro k w hinv
    obtain ⟨hk, -⟩ := hinv
    refine hw_reg ?_
    refine dp rfl (pop_lss rfl rfl) ?_
    refine dn ?_
    refine hw_seq ?_
    refine hw_cond rfl (fun h3 => ?_) (fun h4 => ?_)
    ·try simp at h3
     obtain ⟨y, hy⟩ : ∃ y, C[k]? = some y := ⟨_, List.getElem?_eq_getElem h3⟩
     have hdy := drop_cons hy
     refine hw_skip ?_
     refine seqQ_n ?_
     refine hw_seq ?_
     refine hw_block ?_
     refine hw_reg ?_
     refine dp rfl (pop_idx ty26 ty36 rfl rfl rfl (by first | assumption | simp_all)) ?_
     refine dp rfl (pop_loadw ty36 rfl rfl rfl rfl) ?_
     refine de rfl (eop_alloc ty36 rfl fun b12 => ?_)
     refine de0 (eop_storew ty36 rfl rfl rfl rfl rfl ?_)
     refine dn ?_
     refine hw_ghost (Ghost.fc0 12 rfl) ?_
     refine hw_reg ?_
     refine dp rfl (pop_fieldAddr ty36 rfl ty3 (by decide) rfl) ?_
     refine dp rfl (pop_load ty3 rfl rfl rfl) ?_
     refine dp rfl (pop_gtr rfl rfl) ?_
     refine dn ?_
     refine hw_cond rfl (fun h5 => ?_) (fun h6 => ?_)
     ·try simp at h5
      refine hw_reg ?_
      refine dp rfl (pop_move rfl) ?_
      refine dp rfl (pop_fieldAddr ty36 rfl ty3 (by decide) rfl) ?_
      refine dp rfl (pop_load ty3 rfl rfl rfl) ?_
      have hb1 := field_bdN (f := ofR l) (p := p) (i := i) (fun s m y => mem_chosenR) hon hp hv
      have hb2 := pos_bdN (k := k) hCm hCl hv
      have hb3 := hv y (hCm y (List.mem_of_getElem? hy))
      have hb4 := sumV_app (fieldedL (ofR l) (p.take i)) ((C.take k).filter (fun y => decide (0 < y.Value)))
      refine dp rfl (pop_add64 rfl rfl (by omega) (by omega)) ?_
      refine dp rfl (pop_assign rfl) ?_
      refine dn ?_
      refine hw_reg1 ?_
      refine dp rfl (pop_move rfl) ?_
      refine dp rfl (pop_fieldAddr ty36 rfl ty9 (by decide) rfl) ?_
      refine dp rfl (pop_load ty9 rfl rfl rfl) ?_
      refine dp rfl (pop_buildSlice (hs := [_]) ty44 ty9 rfl rfl (by decide) (by decide) rfl) ?_
      refine de rfl (eop_append (i := 0) ty44 ty9 rfl rfl rfl rfl rfl (by simp [flat, hcells]) (by simp only [List.length_map, List.length_append, List.length_cons, List.length_nil]; omega) fun v46 => ?_)
      refine dp rfl (pop_assign rfl) ?_
      refine dn ?_
      refine blockQ_n ?_
      refine seqQ_n ?_
      refine hw_reg1 ?_
      refine dp rfl (pop_add64 rfl rfl (by omega) (by omega)) ?_
      refine dp rfl (pop_move rfl) ?_
      refine dn ?_
      exact ⟨k + 1, _, ⟨by omega, trivial⟩, by dsimp only; omega, ⟨rfl, some_int (by rw [pos_snoc hy, if_pos (by simp_all), ← List.append_assoc, sumV_app _ [y]]; simp [sumV]), rfl, trivial⟩, (by repeat (first | exact keeps_refl | refine keeps_upd rfl ?_ | refine keeps_loop rfl rfl ?_)), perm_eq (by dsimp only; rw [pos_snoc hy, if_pos (by simp_all)]; simp)⟩
     ·try simp at h6
      refine hw_skip ?_
      refine blockQ_n ?_
      refine seqQ_n ?_
      refine hw_reg1 ?_
      refine dp rfl (pop_add64 rfl rfl (by omega) (by omega)) ?_
      refine dp rfl (pop_move rfl) ?_
      refine dn ?_
      exact ⟨k + 1, _, ⟨by omega, trivial⟩, by dsimp only; omega, ⟨rfl, some_int (by rw [pos_snoc hy, if_neg (by omega)]; simp), rfl, trivial⟩, (by repeat (first | exact keeps_refl | refine keeps_upd rfl ?_ | refine keeps_loop rfl rfl ?_)), perm_eq (by dsimp only; rw [pos_snoc hy, if_neg (by omega)]; simp)⟩
    ·try simp at h4
     have hnk : C.length ≤ k := by omega
     obtain rfl : k = C.length := by omega
     refine hw_exit ?_
     refine seqQ_x ?_
     refine loopQ2_x ?_
     refine blockQ_eq ?_
     refine blockQ_n ?_
     refine seqQ_n ?_
     refine hw_reg1 ?_
     refine dp rfl (pop_add64 rfl rfl (by omega) (by omega)) ?_
     refine dp rfl (pop_move rfl) ?_
     refine dn ?_
     exact ⟨i + 1, _, ⟨by omega, trivial⟩, by dsimp only; omega, ⟨rfl, some_int (by rw [fieldedL_snoc _ hx, chosen_eq hN, hCd, List.take_length]), rfl, trivial⟩, (by repeat (first | exact keeps_refl | refine keeps_upd rfl ?_ | refine keeps_loop rfl rfl ?_)), perm_eq (by dsimp only; rw [fieldedL_snoc _ hx, chosen_eq hN, hCd, List.take_length])⟩
  ·try simp at h2
   have hni : p.length ≤ i := by omega
   obtain rfl : i = p.length := by omega
   refine hw_exit ?_
   refine seqQ_x ?_
   refine loopQ2_x ?_
   refine blockQ_eq ?_
   refine seqQ_n ?_
   rw [List.take_length]
   refine hw_reg ?_
   refine dp rfl (pop_move rfl) ?_
   refine de rfl (eop_callx (i := 0) ca98 rfl (WeakL.refl _) rfl (c_slices_Sort (l := (fieldedL (ofR l) p).map (·.Player)) (by have hb1 := field_bdN (f := ofR l) (p := p) (i := p.length) (fun s m y => mem_chosenR) hon hp hv; rw [List.take_length] at hb1; simp; omega)) ?_)
   rintro _ _ ⟨rfl, rfl⟩
   refine dn ?_
   refine hw_reg ?_
   refine dp rfl (pop_move rfl) ?_
   refine dp rfl (pop_move rfl) ?_
   refine dp rfl (pop_assign rfl) ?_
   refine dp rfl (pop_assign rfl) ?_
   refine dn ?_
   refine hw_ret ?_
   exact ret_fa (M := []) 5 rfl rfl rfl

/-- benchwarmer/benchref1.with -/
theorem c_benchref1_with_g [Tracks] {l : List Asset} {x : Asset} (hl : l.length ≤ 15) (hn : ((l ++ [x]).map (·.Player)).Nodup) : ConP Tryz.prog 65 [eAssets l, eAsset x] (eAssets (isort byPlayer (l ++ [x]))) := by
 refine Con.of_body Tryz.func65 rfl Tryz.ntmps65 rfl rfl ?_
 refine hw_reg ?_
 refine dp rfl (pop_box rfl rfl) ?_
 refine dp rfl (pop_assign rfl) ?_
 refine dn ?_
 refine hw_draw (fun _ => True) [] mixed ?_
 refine ahp 0 rfl rfl (by kernel_rfl) (by kernel_rfl) (pop_move rfl) ?_
 refine ahp 2 rfl rfl (by kernel_rfl) (by kernel_rfl) (pop_loadw ty36 rfl rfl rfl rfl) ?_
 refine ahp 3 rfl rfl (by kernel_rfl) (by kernel_rfl) (pop_buildSlice (hs := [_]) ty26 ty36 rfl rfl (by decide) (by decide) rfl) ?_
 refine ahe 1 rfl (by kernel_rfl) ?_
 refine hop_e rfl (eop_calla ca60 rfl (WeakL.refl _) (c_slices_Clone_api_Asset_api_Asset (by first | assumption | omega | (simp; omega) | simp_all)) fun v6 => ?_)
 refine ⟨fun _ => .inl trivial, ?_⟩
 refine ahe 4 rfl (by kernel_rfl) ?_
 refine hop_e rfl (eop_append (i := 0) ty26 ty36 rfl rfl rfl rfl rfl (by simp [flat, hcells]) (by simp; omega) fun v9 => ?_)
 refine ⟨fun _ => .inl trivial, ?_⟩
 refine ahp 5 rfl rfl (by kernel_rfl) (by kernel_rfl) (pop_assign rfl) ?_
 refine ahz (by kernel_rfl) ?_
 refine hw_ghost (Ghost.of_eq (M' := [.arr v9 3 ((l ++ [x]).map eAsset)]) (by simp)) ?_
 refine hw_reg ?_
 refine dp rfl (pop_move rfl) ?_
 refine de rfl (eop_callx (i := 0) ca100 rfl (WeakL.refl _) rfl (c_sort_Asset (c := byPlayer) (swo_cmp byPlayer_cmp) ca101 (fun _ _ => @c_benchref1_with_1 trackOn _ _) (l := l ++ [x]) (by simp; omega)) ?_)
 rintro _ _ ⟨l', rfl, hp', hw', rfl⟩
 obtain rfl := with_is hn hp' hw'
 refine dn ?_
 refine hw_reg ?_
 refine dp rfl (pop_move rfl) ?_
 refine dp rfl (pop_assign rfl) ?_
 refine dn ?_
 refine hw_ret ?_
 exact ret_fa (M := []) 4 rfl rfl rfl

/-- benchwarmer/benchref1.AssetsFault -/
theorem c_benchref1_AssetsFault_u [Tracks] {l : List Asset} (hl : l.length ≤ 1000000) : ConP Tryz.prog 6 [eAssets l] (.int .i64 (checkAssets l)) := by
 refine Con.of_body Tryz.func6 rfl Tryz.ntmps6 rfl rfl ?_
 refine hw_reg ?_
 refine dp rfl (pop_assign rfl) ?_
 refine dn ?_
 refine hw_seq ?_
 refine hw_reg ?_
 refine dp rfl (pop_move rfl) ?_
 refine dp rfl (pop_lenm ty26 rfl) ?_
 refine dp rfl (pop_gtr rfl rfl) ?_
 refine dn ?_
 refine hw_cond rfl (fun h1 => ?_) (fun h2 => ?_)
 ·try simp at h1
  refine hw_reg ?_
  refine dp rfl (pop_assign rfl) ?_
  refine dn ?_
  refine hw_ret ?_
  refine ret_p rfl ?_
  show HVal.int .i64 _ = _
  first | (rw [checkAssets, if_pos (by omega)]; done) | (rw [hg]; simp_all [assetsGo, leS, assetFault]; done) | (rw [hg]; rfl)
 ·try simp at h2
  refine hw_skip ?_
  refine seqQ_n ?_
  refine hw_seq ?_
  refine hw_reg ?_
  refine dp rfl (pop_move rfl) ?_
  refine dp rfl (pop_lenm ty26 rfl) ?_
  refine dp rfl (pop_move rfl) ?_
  refine dn ?_
  refine hw_block ?_
  refine hw_loopw [2, 3, 4, 10, 11, 12, 13, 14, 15, 16, 17, 18, 19, 20, 21, 22, 23, 24, 25, 26, 27, 28, 29, 30, 31, 32, 33, 34, 35, 36, 37, 38, 39, 40, 41, 42, 43, 44, 45] (fun (k : Nat) => [(10, .int .i64 k)]) (fun (k : Nat) => []) (fun (k : Nat) => k ≤ l.length ∧ (checkAssets l = assetsGo l k (l.drop k))) (fun (k : Nat) => l.length - k) (0) ?_ ?_ ?_ ?_
  ·refine ⟨Nat.zero_le _, ?_⟩
   rw [checkAssets, if_neg (by omega)]; rfl
  ·exact ⟨rfl, trivial⟩
  ·exact List.Perm.refl _
  ·intro k hinv
   obtain ⟨hk, hg⟩ := hinv
   refine hw_reg ?_
   refine dp rfl (pop_lss rfl rfl) ?_
   refine dn ?_
   refine hw_seq ?_
   refine hw_cond rfl (fun h3 => ?_) (fun h4 => ?_)
   ·try simp at h3
    obtain ⟨x, hx⟩ : ∃ x, l[k]? = some x := ⟨_, List.getElem?_eq_getElem h3⟩
    have hdx := drop_cons hx
    rw [hdx] at hg
    refine hw_skip ?_
    refine seqQ_n ?_
    refine hw_seq ?_
    refine hw_block ?_
    refine hw_reg ?_
    refine dp rfl (pop_move rfl) ?_
    refine dp rfl (pop_idx ty26 ty36 rfl rfl rfl (by first | assumption | simp_all)) ?_
    refine dp rfl (pop_loadw ty36 rfl rfl rfl rfl) ?_
    refine de rfl (eop_alloc ty36 rfl fun b4 => ?_)
    refine dp rfl (pop_assign rfl) ?_
    refine de0 (eop_storew ty36 rfl rfl rfl rfl rfl ?_)
    refine dn ?_
    refine hw_ghost (Ghost.fc0 4 rfl) ?_
    refine hw_block ?_
    refine hw_reg ?_
    refine dp rfl (pop_fieldAddr ty36 rfl ty9 (by decide) rfl) ?_
    refine dp rfl (pop_load ty9 rfl rfl rfl) ?_
    refine dp rfl (pop_call ca33 rfl (WeakL.refl _) c_benchref1_Key_u) ?_
    refine dp rfl (pop_not rfl) ?_
    refine dp rfl (pop_move rfl) ?_
    refine dg rfl rfl (fun hc => ⟨_, OpenTo.refl _, pop_fieldAddr ty36 rfl ty9 (by decide) rfl⟩) ?_
    refine dg rfl rfl (fun hc => ⟨_, OpenTo.upd (t := 21) rfl (by first | exact hc | simp_all) (OpenTo.refl _), pop_load ty9 rfl rfl rfl⟩) ?_
    refine dg rfl rfl (fun hc => ⟨_, OpenTo.upd (t := 22) rfl (by first | exact hc | simp_all) (OpenTo.refl _), pop_call ca33 rfl (WeakL.refl _) c_benchref1_Key_u⟩) ?_
    refine dg rfl rfl (fun hc => ⟨_, OpenTo.upd (t := 23) rfl (by first | exact hc | simp_all) (OpenTo.refl _), pop_not rfl⟩) ?_
    refine dp rfl (pop_picko rfl (.inl rfl) (.inr ⟨_, rfl, fun h => by simp_all⟩)) ?_
    refine dp rfl (pop_assign rfl) ?_
    refine dn ?_
    refine hw_cond rfl (fun h5 => ?_) (fun h6 => ?_)
    ·try simp at h5
     refine hw_reg ?_
     refine dp rfl (pop_assign rfl) ?_
     refine dn ?_
     refine hw_ret ?_
     refine ret_p rfl ?_
     show HVal.int .i64 _ = _
     first | (rw [checkAssets, if_pos (by omega)]; done) | (rw [hg]; simp_all [assetsGo, leS, assetFault]; done) | (rw [hg]; rfl)
    ·try simp at h6
     refine hw_reg ?_
     refine dp rfl (pop_fieldAddr ty36 rfl ty3 (by decide) rfl) ?_
     refine dp rfl (pop_load ty3 rfl rfl rfl) ?_
     refine dp rfl (pop_call ca34 rfl (WeakL.refl _) c_benchref1_in) ?_
     refine dp rfl (pop_not rfl) ?_
     refine dp rfl (pop_assign rfl) ?_
     refine dn ?_
     refine hw_cond rfl (fun h7 => ?_) (fun h8 => ?_)
     ·try simp at h7
      refine hw_reg ?_
      refine dp rfl (pop_assign rfl) ?_
      refine dn ?_
      refine hw_ret ?_
      refine ret_p rfl ?_
      show HVal.int .i64 _ = _
      first | (rw [checkAssets, if_pos (by omega)]; done) | (rw [hg]; simp_all [assetsGo, leS, assetFault]; done) | (rw [hg]; rfl)
     ·try simp at h8
      refine hw_draw (fun _ => True) [] mixed ?_
      refine ahp 0 rfl rfl (by kernel_rfl) (by kernel_rfl) (pop_move rfl) ?_
      refine ahp 1 rfl rfl (by kernel_rfl) (by kernel_rfl) (pop_gtr rfl rfl) ?_
      refine ahp 2 rfl rfl (by kernel_rfl) (by kernel_rfl) (pop_move rfl) ?_
      refine ahg 3 rfl rfl (by kernel_rfl) (by kernel_rfl) rfl (fun hc => ⟨_, OpenTo.refl _, pop_fieldAddr ty36 rfl ty9 (by decide) rfl⟩) ?_
      refine ahg 4 rfl rfl (by kernel_rfl) (by kernel_rfl) rfl (fun hc => ⟨_, OpenTo.upd (t := 35) rfl (by first | exact hc | simp_all) (OpenTo.refl _), pop_load ty9 rfl rfl rfl⟩) ?_
      refine ahg 5 rfl rfl (by kernel_rfl) (by kernel_rfl) rfl (fun hc => ⟨_, OpenTo.refl _, pop_move rfl⟩) ?_
      refine ahg 6 rfl rfl (by kernel_rfl) (by kernel_rfl) rfl (fun hc => ⟨_, OpenTo.refl _, pop_move rfl⟩) ?_
      refine ahg 7 rfl rfl (by kernel_rfl) (by kernel_rfl) rfl (fun hc => by have hq := hc; (try simp at hq); exact ⟨_, OpenTo.upd (t := 38) rfl (by first | exact hc | simp_all) (OpenTo.refl _), pop_sub64 rfl rfl (by omega) (by omega)⟩) ?_
      refine ahg 8 rfl rfl (by kernel_rfl) (by kernel_rfl) rfl (fun hc => by have hq := hc; (try simp at hq); exact ⟨_, OpenTo.upd (t := 39) rfl (by first | exact hc | simp_all) (OpenTo.upd (t := 37) rfl (by first | exact hc | simp_all) (OpenTo.refl _)), pop_idx (j := k - 1) (a := l.getD (k - 1) asset0) ty26 ty36 rfl rfl (by omega) (getD_some (by omega))⟩) ?_
      refine ahg 9 rfl rfl (by kernel_rfl) (by kernel_rfl) rfl (fun hc => ⟨_, OpenTo.upd (t := 40) rfl (by first | exact hc | simp_all) (OpenTo.refl _), pop_fieldAddr ty36 rfl ty9 (by decide) rfl⟩) ?_
      refine ahg 10 rfl rfl (by kernel_rfl) (by kernel_rfl) rfl (fun hc => ⟨_, OpenTo.upd (t := 41) rfl (by first | exact hc | simp_all) (OpenTo.refl _), pop_load ty9 rfl rfl rfl⟩) ?_
      refine ahg 11 rfl rfl (by kernel_rfl) (by kernel_rfl) rfl (fun hc => ⟨_, OpenTo.upd (t := 42) rfl (by first | exact hc | simp_all) (OpenTo.upd (t := 36) rfl (by first | exact hc | simp_all) (OpenTo.refl _)), pop_leqs rfl rfl⟩) ?_
      refine ahp 12 rfl rfl (by kernel_rfl) (by kernel_rfl) (pop_picko rfl (.inr ⟨_, rfl, fun h => by simp_all⟩) (.inl rfl)) ?_
      refine ahp 13 rfl rfl (by kernel_rfl) (by kernel_rfl) (pop_assign rfl) ?_
      refine ahz (by kernel_rfl) ?_
      refine hw_cond rfl (fun h9 => ?_) (fun h10 => ?_)
      ·try simp at h9
       refine hw_reg ?_
       refine dp rfl (pop_assign rfl) ?_
       refine dn ?_
       refine hw_ret ?_
       refine ret_p rfl ?_
       show HVal.int .i64 _ = _
       first | (rw [checkAssets, if_pos (by omega)]; done) | (rw [hg]; simp_all [assetsGo, leS, assetFault]; done) | (rw [hg]; rfl)
      ·try simp at h10
       refine hw_skip ?_
       refine blockQ_n ?_
       refine blockQ_n ?_
       refine seqQ_n ?_
       refine hw_reg1 ?_
       refine dp rfl (pop_add64 rfl rfl (by omega) (by omega)) ?_
       refine dp rfl (pop_move rfl) ?_
       refine dn ?_
       refine ⟨k + 1, ?_, ?_, ⟨rfl, trivial⟩, (by repeat (first | exact keeps_refl | refine keeps_upd rfl ?_ | refine keeps_loop rfl rfl ?_)), List.Perm.refl _⟩
       ·refine ⟨by omega, ?_⟩
        rw [hg]; simp_all [assetsGo, leS, assetFault]
       ·dsimp only; omega
   ·try simp at h4
    have hnk : l.length ≤ k := by omega
    obtain rfl : k = l.length := by omega
    rw [drop_all (Nat.le_refl _)] at hg
    refine hw_exit ?_
    refine seqQ_x ?_
    refine loopQ_x ?_
    refine blockQ_eq ?_
    refine seqQ_n ?_
    refine hw_reg ?_
    refine dp rfl (pop_assign rfl) ?_
    refine dn ?_
    refine hw_ret ?_
    refine ret_p rfl ?_
    show HVal.int .i64 _ = _
    first | (rw [checkAssets, if_pos (by omega)]; done) | (rw [hg]; simp_all [assetsGo, leS, assetFault]; done) | (rw [hg]; rfl)

/-- benchwarmer/benchref1.choices -/
theorem c_benchref1_choices [Tracks] {l : List Asset} {n : Int} (hl : l.length ≤ 8) : ConP Tryz.prog 66 [eAssets l, .int .i64 n] (.slice 1 ((choicesL n l).map eSs)) := by
 refine Con.of_body Tryz.func66 rfl Tryz.ntmps66 rfl rfl ?_
 refine hw_reg ?_
 refine dp rfl (pop_assign rfl) ?_
 refine dn ?_
 refine hw_reg ?_
 refine dp rfl (pop_assign rfl) ?_
 refine dn ?_
 refine hw_ghost (Ghost.arr_nil 1) ?_
 refine hw_seq ?_
 refine hw_reg ?_
 refine dp rfl (pop_move rfl) ?_
 refine dp rfl (pop_lenm ty26 rfl) ?_
 refine dp rfl (pop_move rfl) ?_
 refine dn ?_
 refine hw_block ?_
 refine hw_loopw2 [5, 6, 7, 9, 12, 13, 14, 15, 16, 17, 18, 19, 20, 21, 22, 23, 24, 25, 26, 27, 28, 29, 30, 31, 32, 33, 34, 35, 36, 37, 38, 39, 40, 41, 42, 43] (fun (i : Nat) (u : Value) => [(12, .int .i64 i), (5, .raw u)]) (fun (i : Nat) (u : Value) => [.arr u 1 ((chPre n l i).map eSs)]) (fun (i : Nat) (u : Value) => i ≤ l.length ∧ (True)) (fun (i : Nat) (u : Value) => l.length - i) (0) (.slice none 0 0) ?_ ?_ ?_ ?_
 ·exact ⟨Nat.zero_le _, trivial⟩
 ·exact ⟨rfl, rfl, trivial⟩
 ·exact perm_eq (by simp [chPre])
 ·intro i u hinv
  obtain ⟨hi, -⟩ := hinv
  refine hw_reg ?_
  refine dp rfl (pop_lss rfl rfl) ?_
  refine dn ?_
  refine hw_seq ?_
  refine hw_cond rfl (fun h1 => ?_) (fun h2 => ?_)
  ·try simp at h1
   obtain ⟨x, hx⟩ : ∃ x, l[i]? = some x := ⟨_, List.getElem?_eq_getElem h1⟩
   have hdx := drop_cons hx
   refine hw_skip ?_
   refine seqQ_n ?_
   refine hw_seq ?_
   refine hw_block ?_
   refine hw_reg ?_
   refine dp rfl (pop_move rfl) ?_
   refine dp rfl (pop_idx ty26 ty36 rfl rfl rfl (by first | assumption | simp_all)) ?_
   refine dp rfl (pop_loadw ty36 rfl rfl rfl rfl) ?_
   refine de rfl (eop_alloc ty36 rfl fun b7 => ?_)
   refine dp rfl (pop_assign rfl) ?_
   refine de0 (eop_storew ty36 rfl rfl rfl rfl rfl ?_)
   refine dn ?_
   refine hw_ghost (Ghost.fc0 7 rfl) ?_
   refine hw_reg ?_
   refine dp rfl (pop_move rfl) ?_
   refine dp rfl ((by first | exact pop_fieldAddr ty36 rfl ty9 (by decide) rfl | exact pop_fieldAddr_raw ty36 rfl ty9 (by decide) rfl)) ?_
   refine dp rfl (pop_load ty9 rfl rfl rfl) ?_
   refine dp rfl (pop_buildSlice (hs := [_]) ty44 ty9 rfl rfl (by decide) (by decide) rfl) ?_
   refine dp rfl (pop_buildSlice (hs := [_]) ty105 ty44 rfl rfl (by decide) (by decide) rfl) ?_
   refine de rfl (eop_append (i := 0) ty105 ty44 rfl rfl rfl rfl rfl (by simp [flat, hcells]) (by have := chPre_len n l i; have : i * (1 + l.length) ≤ 8 * 9 := Nat.mul_le_mul (by omega) (by omega); simp only [List.length_map, List.length_cons, List.length_nil]; omega) fun v22 => ?_)
   refine dp rfl (pop_assign rfl) ?_
   refine dn ?_
   refine hw_reg ?_
   refine dp rfl (pop_move rfl) ?_
   refine dp rfl (pop_move rfl) ?_
   refine dp rfl (pop_add64 rfl rfl (by omega) (by omega)) ?_
   refine dp rfl (pop_slicem (l := i + 1) (h := l.length) ty26 ty36 rfl ⟨_, _, rfl, by omega⟩ rfl (by omega) (by omega)) ?_
   refine dp rfl (pop_lenm ty26 rfl) ?_
   refine dp rfl (pop_move rfl) ?_
   refine dn ?_
   rw [List.take_length]
   refine hw_block ?_
   refine hw_loopw2 [5, 9, 28, 29, 30, 31, 32, 33, 34, 35, 36, 37, 38, 39, 40, 41, 42] (fun (j : Nat) (w : Value) => [(28, .int .i64 j), (5, .raw w)]) (fun (j : Nat) (w : Value) => [.arr w 1 ((chPre n l i ++ [x.Player] :: (if 1 < n then ((l.drop (i + 1)).take j).map (fun y => [x.Player, y.Player]) else [])).map eSs)]) (fun (j : Nat) (w : Value) => j ≤ (l.drop (i + 1)).length ∧ (True)) (fun (j : Nat) (w : Value) => (l.drop (i + 1)).length - j) (0) (v22) ?_ ?_ ?_ ?_
   ·exact ⟨Nat.zero_le _, trivial⟩
   ·exact ⟨rfl, rfl, trivial⟩
   ·exact perm_eq (by simp)
   ·intro j w hinv
    obtain ⟨hj, -⟩ := hinv
    refine hw_reg ?_
    refine dp rfl (pop_lss rfl rfl) ?_
    refine dn ?_
    refine hw_seq ?_
    refine hw_cond rfl (fun h3 => ?_) (fun h4 => ?_)
    ·try simp at h3
     obtain ⟨y, hy⟩ : ∃ y, (l.drop (i + 1))[j]? = some y := ⟨_, List.getElem?_eq_getElem (by simp only [List.length_drop]; omega)⟩
     have hdy := drop_cons hy
     have hjd := lt_of_get hy
     have hjl : j < l.length := by have h9 := hjd; simp only [List.length_drop] at h9; omega
     refine hw_skip ?_
     refine seqQ_n ?_
     refine hw_seq ?_
     refine hw_block ?_
     refine hw_reg ?_
     refine dp rfl (pop_idx ty26 ty36 rfl rfl rfl (by first | assumption | simp_all)) ?_
     refine dp rfl (pop_loadw ty36 rfl rfl rfl rfl) ?_
     refine de rfl (eop_alloc ty36 rfl fun b9 => ?_)
     refine de0 (eop_storew ty36 rfl rfl rfl rfl rfl ?_)
     refine dn ?_
     refine hw_ghost (Ghost.fc0 9 rfl) ?_
     refine hw_reg ?_
     refine dp rfl (pop_move rfl) ?_
     refine dp rfl (pop_gtr rfl rfl) ?_
     refine dn ?_
     refine hw_cond rfl (fun h5 => ?_) (fun h6 => ?_)
     ·try simp at h5
      refine hw_reg1 ?_
      refine dp rfl (pop_move rfl) ?_
      refine dp rfl ((by first | exact pop_fieldAddr ty36 rfl ty9 (by decide) rfl | exact pop_fieldAddr_raw ty36 rfl ty9 (by decide) rfl)) ?_
      refine dp rfl (pop_load ty9 rfl rfl rfl) ?_
      refine dp rfl ((by first | exact pop_fieldAddr ty36 rfl ty9 (by decide) rfl | exact pop_fieldAddr_raw ty36 rfl ty9 (by decide) rfl)) ?_
      refine dp rfl (pop_load ty9 rfl rfl rfl) ?_
      refine dp rfl (pop_buildSlice (hs := [_, _]) ty44 ty9 rfl rfl (by decide) (by decide) rfl) ?_
      refine dp rfl (pop_buildSlice (hs := [_]) ty105 ty44 rfl rfl (by decide) (by decide) rfl) ?_
      refine de rfl (eop_append (i := 0) ty105 ty44 rfl rfl rfl rfl rfl (by simp [flat, hcells]) (by have h1 := chPre_len n l i; have h2 : i * (1 + l.length) ≤ 8 * 9 := Nat.mul_le_mul (by omega) (by omega); simp only [List.length_map, List.length_append, List.length_cons, List.length_nil]; split <;> simp <;> omega) fun v41 => ?_)
      refine dp rfl (pop_assign rfl) ?_
      refine dn ?_
      refine blockQ_n ?_
      refine seqQ_n ?_
      refine hw_reg1 ?_
      refine dp rfl (pop_add64 rfl rfl (by omega) (by omega)) ?_
      refine dp rfl (pop_move rfl) ?_
      refine dn ?_
      exact ⟨j + 1, _, ⟨by omega, trivial⟩, by dsimp only; omega, ⟨rfl, rfl, trivial⟩, (by repeat (first | exact keeps_refl | refine keeps_upd rfl ?_ | refine keeps_loop rfl rfl ?_)), perm_eq (by dsimp only; rw [take_snoc' hy]; simp [if_pos (show 1 < n by omega)])⟩
     ·try simp at h6
      refine hw_skip ?_
      refine blockQ_n ?_
      refine seqQ_n ?_
      refine hw_reg1 ?_
      refine dp rfl (pop_add64 rfl rfl (by omega) (by omega)) ?_
      refine dp rfl (pop_move rfl) ?_
      refine dn ?_
      exact ⟨j + 1, _, ⟨by omega, trivial⟩, by dsimp only; omega, ⟨rfl, rfl, trivial⟩, (by repeat (first | exact keeps_refl | refine keeps_upd rfl ?_ | refine keeps_loop rfl rfl ?_)), perm_eq (by dsimp only; rw [take_snoc' hy]; simp [if_neg (show ¬ 1 < n by omega)])⟩
    ·try simp at h4
     have hnj : (l.drop (i + 1)).length ≤ j := by simpa using h4
     obtain rfl : j = (l.drop (i + 1)).length := by omega
     refine hw_exit ?_
     refine seqQ_x ?_
     refine loopQ2_x ?_
     refine blockQ_eq ?_
     refine blockQ_n ?_
     refine seqQ_n ?_
     refine hw_reg1 ?_
     refine dp rfl (pop_add64 rfl rfl (by omega) (by omega)) ?_
     refine dp rfl (pop_move rfl) ?_
     refine dn ?_
     exact ⟨i + 1, w, ⟨by omega, trivial⟩, by dsimp only; omega, ⟨rfl, rfl, trivial⟩, (by repeat (first | exact keeps_refl | refine keeps_upd rfl ?_ | refine keeps_loop rfl rfl ?_)), perm_eq (by dsimp only; rw [chPre_succ, chAt_some hx, List.take_length])⟩
  ·try simp at h2
   have hni : l.length ≤ i := by omega
   obtain rfl : i = l.length := by omega
   refine hw_exit ?_
   refine seqQ_x ?_
   refine loopQ2_x ?_
   refine blockQ_eq ?_
   refine seqQ_n ?_
   refine hw_reg ?_
   refine dp rfl (pop_move rfl) ?_
   refine dp rfl (pop_assign rfl) ?_
   refine dn ?_
   refine hw_ret ?_
   exact ret_fa (M := []) 4 rfl rfl rfl

/-- cmp.Compare[string] -/
theorem c_cmp_Compare_string [Tracks] {a b : Str}  : ConP Tryz.prog 104 [.str a, .str b] (.int .i64 (cmpS a b)) := by
 refine Con.of_body Tryz.func104 rfl Tryz.ntmps104 rfl rfl ?_
 refine hw_reg ?_
 refine dp rfl (pop_assign rfl) ?_
 refine dn ?_
 refine hw_reg ?_
 refine dp rfl (pop_move rfl) ?_
 refine dp rfl (pop_call ca141 rfl (WeakL.refl _) c_cmp_isNaN_string) ?_
 refine dp rfl (pop_assign rfl) ?_
 refine dn ?_
 refine hw_reg ?_
 refine dp rfl (pop_move rfl) ?_
 refine dp rfl (pop_call ca141 rfl (WeakL.refl _) c_cmp_isNaN_string) ?_
 refine dp rfl (pop_assign rfl) ?_
 refine dn ?_
 refine hw_seq ?_
 refine hw_reg ?_
 refine dp rfl (pop_move rfl) ?_
 refine dn ?_
 refine hw_cond_f rfl ?_
 refine hw_skip ?_
 refine seqQ_n ?_
 refine hw_seq ?_
 refine hw_reg ?_
 refine dp rfl (pop_move rfl) ?_
 refine dn ?_
 refine hw_cond_f rfl ?_
 refine hw_skip ?_
 refine seqQ_n ?_
 refine hw_seq ?_
 refine hw_reg ?_
 refine dp rfl (pop_move rfl) ?_
 refine dp rfl (pop_move rfl) ?_
 refine dp rfl (pop_lsss rfl rfl) ?_
 refine dn ?_
 refine hw_cond rfl (fun h1 => ?_) (fun h2 => ?_)
 ·try simp at h1
  refine hw_reg ?_
  refine dp rfl (pop_assign rfl) ?_
  refine dn ?_
  refine hw_ret ?_
  refine ret_p rfl ?_
  show HVal.int .i64 _ = _
  rw [cmpS_eq]
  first
  | (rw [if_pos (by assumption)]; done)
  | (rw [if_neg (by simp_all), if_neg (by simp_all)]; done)
  | (rw [if_neg (by simp_all)]; simp_all; done)
  | (simp_all; done)
 ·try simp at h2
  refine hw_skip ?_
  refine seqQ_n ?_
  refine hw_seq ?_
  refine hw_reg ?_
  refine dp rfl (pop_move rfl) ?_
  refine dp rfl (pop_move rfl) ?_
  refine dp rfl (pop_gtrs rfl rfl) ?_
  refine dn ?_
  refine hw_cond rfl (fun h3 => ?_) (fun h4 => ?_)
  ·try simp at h3
   refine hw_reg ?_
   refine dp rfl (pop_assign rfl) ?_
   refine dn ?_
   refine hw_ret ?_
   refine ret_p rfl ?_
   show HVal.int .i64 _ = _
   rw [cmpS_eq]
   first
   | (rw [if_pos (by assumption)]; done)
   | (rw [if_neg (by simp_all), if_neg (by simp_all)]; done)
   | (rw [if_neg (by simp_all)]; simp_all; done)
   | (simp_all; done)
  ·try simp at h4
   refine hw_skip ?_
   refine seqQ_n ?_
   refine hw_reg ?_
   refine dp rfl (pop_assign rfl) ?_
   refine dn ?_
   refine hw_ret ?_
   refine ret_p rfl ?_
   show HVal.int .i64 _ = _
   rw [cmpS_eq]
   first
   | (rw [if_pos (by assumption)]; done)
   | (rw [if_neg (by simp_all), if_neg (by simp_all)]; done)
   | (rw [if_neg (by simp_all)]; simp_all; done)
   | (simp_all; done)

/-- slices.Compare[[]string,string] -/
theorem c_slices_Compare_string_string [Tracks] {l m : List Str} (hl : l.length ≤ 1000000) (hm : m.length ≤ 1000000) : ConP Tryz.prog 69 [eSs l, eSs m] (.int .i64 (cmpSs l m)) := by
 refine Con.of_body Tryz.func69 rfl Tryz.ntmps69 rfl rfl ?_
 refine hw_reg ?_
 refine dp rfl (pop_assign rfl) ?_
 refine dn ?_
 refine hw_seq ?_
 refine hw_reg ?_
 refine dp rfl (pop_move rfl) ?_
 refine dp rfl (pop_lenm ty44 rfl) ?_
 refine dp rfl (pop_move rfl) ?_
 refine dn ?_
 refine hw_block ?_
 refine hw_loopw [4, 5, 6, 7, 8, 11, 12, 13, 14, 15, 16, 17, 18, 19, 20, 21, 22, 23, 24, 25, 26, 27, 28, 29, 30] (fun (k : Nat) => [(11, .int .i64 k)]) (fun (k : Nat) => []) (fun (k : Nat) => k ≤ l.length ∧ (k ≤ m.length ∧ cmpSs l m = cmpSs (l.drop k) (m.drop k))) (fun (k : Nat) => l.length - k) (0) ?_ ?_ ?_ ?_
 ·exact ⟨Nat.zero_le _, Nat.zero_le _, rfl⟩
 ·exact ⟨rfl, trivial⟩
 ·exact List.Perm.refl _
 ·intro k hinv
  obtain ⟨hk, ⟨hkm, hg⟩⟩ := hinv
  refine hw_reg ?_
  refine dp rfl (pop_lss rfl rfl) ?_
  refine dn ?_
  refine hw_seq ?_
  refine hw_cond rfl (fun h1 => ?_) (fun h2 => ?_)
  ·try simp at h1
   obtain ⟨x, hx⟩ : ∃ x, l[k]? = some x := ⟨_, List.getElem?_eq_getElem h1⟩
   have hdx := drop_cons hx
   rw [hdx] at hg
   refine hw_skip ?_
   refine seqQ_n ?_
   refine hw_seq ?_
   refine hw_block ?_
   refine hw_reg ?_
   refine dp rfl (pop_move rfl) ?_
   refine dp rfl (pop_idx ty44 ty9 rfl rfl rfl (by first | assumption | simp_all)) ?_
   refine dp rfl (pop_load ty9 rfl rfl rfl) ?_
   refine dp rfl (pop_assign rfl) ?_
   refine dp rfl (pop_assign rfl) ?_
   refine dn ?_
   refine hw_seq ?_
   refine hw_reg ?_
   refine dp rfl (pop_move rfl) ?_
   refine dp rfl (pop_move rfl) ?_
   refine dp rfl (pop_lenm ty44 rfl) ?_
   refine dp rfl (pop_geq rfl rfl) ?_
   refine dn ?_
   refine hw_cond rfl (fun h3 => ?_) (fun h4 => ?_)
   ·try simp at h3
    refine hw_reg ?_
    refine dp rfl (pop_assign rfl) ?_
    refine dn ?_
    refine hw_ret ?_
    refine ret_p rfl ?_
    show HVal.int .i64 _ = _
    first
    | (rw [hg, cmpSs_end (.inr (List.drop_eq_nil_of_le (by omega))) (by simp)]; done)
    | (rw [hg, drop_getD (m := m) (k := k) h4, cmpSs_head (by rw [List.getD_eq_getElem?_getD]; exact h5)]; done)
    | (rw [hg, cmpSs_nil, if_pos (by omega)]; done)
    | (rw [hg, cmpSs_nil, if_neg (by omega)]; done)
   ·try simp at h4
    refine hw_skip ?_
    refine seqQ_n ?_
    refine hw_reg ?_
    refine dp rfl (pop_move rfl) ?_
    refine dp rfl (pop_move rfl) ?_
    refine dp rfl (pop_idx (j := k) (a := m.getD k []) ty44 ty9 rfl rfl rfl (getD_some (by omega))) ?_
    refine dp rfl (pop_load ty9 rfl rfl rfl) ?_
    refine dp rfl (pop_assign rfl) ?_
    refine dn ?_
    refine hw_reg ?_
    refine dp rfl (pop_move rfl) ?_
    refine dp rfl (pop_move rfl) ?_
    refine dp rfl (pop_call ca104 rfl (WeakL.refl _) c_cmp_Compare_string) ?_
    refine dp rfl (pop_assign rfl) ?_
    refine dn ?_
    refine hw_reg ?_
    refine dp rfl (pop_move rfl) ?_
    refine dp rfl (pop_neq rfl rfl) ?_
    refine dn ?_
    refine hw_cond rfl (fun h5 => ?_) (fun h6 => ?_)
    ·try simp at h5
     refine hw_reg ?_
     refine dp rfl (pop_move rfl) ?_
     refine dp rfl (pop_assign rfl) ?_
     refine dn ?_
     refine hw_ret ?_
     refine ret_p rfl ?_
     show HVal.int .i64 _ = _
     first
     | (rw [hg, cmpSs_end (.inr (List.drop_eq_nil_of_le (by omega))) (by simp)]; done)
     | (rw [hg, drop_getD (m := m) (k := k) h4, cmpSs_head (by rw [List.getD_eq_getElem?_getD]; exact h5)]; done)
     | (rw [hg, cmpSs_nil, if_pos (by omega)]; done)
     | (rw [hg, cmpSs_nil, if_neg (by omega)]; done)
    ·try simp at h6
     refine hw_skip ?_
     refine blockQ_n ?_
     refine seqQ_n ?_
     refine hw_reg1 ?_
     refine dp rfl (pop_add64 rfl rfl (by omega) (by omega)) ?_
     refine dp rfl (pop_move rfl) ?_
     refine dn ?_
     refine ⟨k + 1, ?_, ?_, ⟨rfl, trivial⟩, (by repeat (first | exact keeps_refl | refine keeps_upd rfl ?_ | refine keeps_loop rfl rfl ?_)), List.Perm.refl _⟩
     ·refine ⟨by omega, by omega, ?_⟩
      rw [hg, drop_getD (m := m) (k := k) h4]
      exact cmpSs_cons (by rw [List.getD_eq_getElem?_getD]; exact h6)
     ·dsimp only; omega
  ·try simp at h2
   have hnk : l.length ≤ k := by omega
   obtain rfl : k = l.length := by omega
   rw [drop_all (Nat.le_refl _)] at hg
   refine hw_exit ?_
   refine seqQ_x ?_
   refine loopQ_x ?_
   refine blockQ_eq ?_
   refine seqQ_n ?_
   refine hw_seq ?_
   refine hw_reg ?_
   refine dp rfl (pop_move rfl) ?_
   refine dp rfl (pop_lenm ty44 rfl) ?_
   refine dp rfl (pop_move rfl) ?_
   refine dp rfl (pop_lenm ty44 rfl) ?_
   refine dp rfl (pop_lss rfl rfl) ?_
   refine dn ?_
   refine hw_cond rfl (fun h7 => ?_) (fun h8 => ?_)
   ·try simp at h7
    refine hw_reg ?_
    refine dp rfl (pop_assign rfl) ?_
    refine dn ?_
    refine hw_ret ?_
    refine ret_p rfl ?_
    show HVal.int .i64 _ = _
    first
    | (rw [hg, cmpSs_end (.inr (List.drop_eq_nil_of_le (by omega))) (by simp)]; done)
    | (rw [hg, drop_getD (m := m) (k := k) h4, cmpSs_head (by rw [List.getD_eq_getElem?_getD]; exact h5)]; done)
    | (rw [hg, cmpSs_nil, if_pos (by omega)]; done)
    | (rw [hg, cmpSs_nil, if_neg (by omega)]; done)
   ·try simp at h8
    refine hw_skip ?_
    refine seqQ_n ?_
    refine hw_reg ?_
    refine dp rfl (pop_assign rfl) ?_
    refine dn ?_
    refine hw_ret ?_
    refine ret_p rfl ?_
    show HVal.int .i64 _ = _
    first
    | (rw [hg, cmpSs_end (.inr (List.drop_eq_nil_of_le (by omega))) (by simp)]; done)
    | (rw [hg, drop_getD (m := m) (k := k) h4, cmpSs_head (by rw [List.getD_eq_getElem?_getD]; exact h5)]; done)
    | (rw [hg, cmpSs_nil, if_pos (by omega)]; done)
    | (rw [hg, cmpSs_nil, if_neg (by omega)]; done)

/-- benchwarmer/benchref1.NamesFault$1 -/
theorem c_benchref1_NamesFault_1 [Tracks] {x : Asset} {s : Str}  : ConP Tryz.prog 56 [eAsset x, .vptr [.str s] 0] (.bool (x.Player == s)) := by
 refine Con.of_body Tryz.func56 rfl Tryz.ntmps56 rfl rfl ?_
 refine hw_reg ?_
 refine dp rfl (pop_box rfl rfl) ?_
 refine dp rfl (pop_assign rfl) ?_
 refine dn ?_
 refine hw_reg ?_
 refine dp rfl (pop_fieldAddr ty36 rfl ty9 (by decide) rfl) ?_
 refine dp rfl (pop_load ty9 rfl rfl rfl) ?_
 refine dp rfl (pop_load ty9 rfl rfl rfl) ?_
 refine dp rfl (pop_eqls rfl rfl) ?_
 refine dp rfl (pop_assign rfl) ?_
 refine dn ?_
 refine hw_ret ?_
 refine ret_p rfl ?_
 rfl

/-- benchwarmer/benchref1.NamesFault -/
theorem c_benchref1_NamesFault [Tracks] {l : List Asset} {who : List Str} (hl : l.length ≤ 1000000) (hw : who.length ≤ 1000000) : ConP Tryz.prog 21 [eAssets l, eSs who] (.int .i64 (giveE l who)) := by
 refine Con.of_body Tryz.func21 rfl Tryz.ntmps21 rfl rfl ?_
 refine hw_reg ?_
 refine dp rfl (pop_assign rfl) ?_
 refine dn ?_
 refine hw_seq ?_
 refine hw_reg ?_
 refine dp rfl (pop_move rfl) ?_
 refine dp rfl (pop_lenm ty44 rfl) ?_
 refine dp rfl (pop_move rfl) ?_
 refine dn ?_
 refine hw_block ?_
 refine hw_loopw [4, 5, 6, 9, 10, 11, 12, 13, 14, 15, 16, 17, 18, 19, 20, 21, 22, 23, 24, 25] (fun (k : Nat) => [(9, .int .i64 k)]) (fun (k : Nat) => []) (fun (k : Nat) => k ≤ who.length ∧ (giveGo l who 0 who = giveGo l who k (who.drop k))) (fun (k : Nat) => who.length - k) (0) ?_ ?_ ?_ ?_
 ·exact ⟨Nat.zero_le _, rfl⟩
 ·exact ⟨rfl, trivial⟩
 ·exact List.Perm.refl _
 ·intro k hinv
  obtain ⟨hk, hg⟩ := hinv
  refine hw_reg ?_
  refine dp rfl (pop_lss rfl rfl) ?_
  refine dn ?_
  refine hw_seq ?_
  refine hw_cond rfl (fun h1 => ?_) (fun h2 => ?_)
  ·try simp at h1
   obtain ⟨x, hx⟩ : ∃ x, who[k]? = some x := ⟨_, List.getElem?_eq_getElem h1⟩
   have hdx := drop_cons hx
   rw [hdx] at hg
   refine hw_skip ?_
   refine seqQ_n ?_
   refine hw_seq ?_
   refine hw_block ?_
   refine hw_reg ?_
   refine dp rfl (pop_move rfl) ?_
   refine dp rfl (pop_idx ty44 ty9 rfl rfl rfl (by first | assumption | simp_all)) ?_
   refine dp rfl (pop_load ty9 rfl rfl rfl) ?_
   refine de rfl (eop_alloc ty9 rfl fun b6 => ?_)
   refine dp rfl (pop_assign rfl) ?_
   refine de0 (eop_storew ty9 rfl rfl rfl rfl rfl ?_)
   refine dn ?_
   refine hw_ghost (Ghost.fc0 6 rfl) ?_
   refine hw_block ?_
   refine hw_reg ?_
   refine dp rfl (pop_move rfl) ?_
   refine dp rfl (pop_makeFunc rfl rfl) ?_
   refine dp rfl (pop_call ca47 rfl (WeakL.refl _) (c_slices_ContainsFunc_api_Asset_api_Asset (l := l) (p := fun y => y.Player == x) ca56 (fun _ => c_benchref1_NamesFault_1) hl)) ?_
   refine dp rfl (pop_not rfl) ?_
   refine dp rfl (pop_assign rfl) ?_
   refine dn ?_
   refine hw_cond rfl (fun h3 => ?_) (fun h4 => ?_)
   ·try simp at h3
    refine hw_reg ?_
    refine dp rfl (pop_assign rfl) ?_
    refine dn ?_
    refine hw_ret ?_
    refine ret_p rfl ?_
    show HVal.int .i64 _ = _
    unfold giveE
    first
    | (rw [hg]; rfl)
    | (rw [hg, giveGo, if_pos (by simp_all [hasP])]; done)
    | (rw [hg, giveGo, if_neg (by simp_all [hasP]), if_pos (by simp_all)]; done)
   ·try simp at h4
    refine hw_draw (fun _ => True) [] mixed ?_
    refine ahp 0 rfl rfl (by kernel_rfl) (by kernel_rfl) (pop_move rfl) ?_
    refine ahp 1 rfl rfl (by kernel_rfl) (by kernel_rfl) (pop_move rfl) ?_
    refine ahp 2 rfl rfl (by kernel_rfl) (by kernel_rfl) (pop_slicem (h := k) ty44 ty9 rfl rfl ⟨_, _, rfl, rfl⟩ (by omega) (by omega)) ?_
    refine ahp 3 rfl rfl (by kernel_rfl) (by kernel_rfl) (pop_load ty9 rfl rfl rfl) ?_
    refine ahp 4 rfl rfl (by kernel_rfl) (by kernel_rfl) (pop_call ca57 rfl (WeakL.refl _) (c_slices_Contains_string_string (l := List.drop 0 (who.take k)) (s := x) (by simp; omega))) ?_
    refine ahp 5 rfl rfl (by kernel_rfl) (by kernel_rfl) (pop_assign rfl) ?_
    refine ahz (by kernel_rfl) ?_
    refine hw_cond rfl (fun h5 => ?_) (fun h6 => ?_)
    ·try simp at h5
     refine hw_reg ?_
     refine dp rfl (pop_assign rfl) ?_
     refine dn ?_
     refine hw_ret ?_
     refine ret_p rfl ?_
     show HVal.int .i64 _ = _
     unfold giveE
     first
     | (rw [hg]; rfl)
     | (rw [hg, giveGo, if_pos (by simp_all [hasP])]; done)
     | (rw [hg, giveGo, if_neg (by simp_all [hasP]), if_pos (by simp_all)]; done)
    ·try simp at h6
     refine hw_skip ?_
     refine blockQ_n ?_
     refine blockQ_n ?_
     refine seqQ_n ?_
     refine hw_reg1 ?_
     refine dp rfl (pop_add64 rfl rfl (by omega) (by omega)) ?_
     refine dp rfl (pop_move rfl) ?_
     refine dn ?_
     refine ⟨k + 1, ?_, ?_, ⟨rfl, trivial⟩, (by repeat (first | exact keeps_refl | refine keeps_upd rfl ?_ | refine keeps_loop rfl rfl ?_)), List.Perm.refl _⟩
     ·refine ⟨by omega, ?_⟩
      rw [hg, giveGo, if_neg (by simp_all [hasP]), if_neg (by simp_all)]
     ·dsimp only; omega
  ·try simp at h2
   have hnk : who.length ≤ k := by omega
   obtain rfl : k = who.length := by omega
   rw [drop_all (Nat.le_refl _)] at hg
   refine hw_exit ?_
   refine seqQ_x ?_
   refine loopQ_x ?_
   refine blockQ_eq ?_
   refine seqQ_n ?_
   refine hw_reg ?_
   refine dp rfl (pop_assign rfl) ?_
   refine dn ?_
   refine hw_ret ?_
   refine ret_p rfl ?_
   show HVal.int .i64 _ = _
   unfold giveE
   first
   | (rw [hg]; rfl)
   | (rw [hg, giveGo, if_pos (by simp_all [hasP])]; done)
   | (rw [hg, giveGo, if_neg (by simp_all [hasP]), if_pos (by simp_all)]; done)

/-- benchwarmer/benchref1.SwappedOf$1$1 -/
theorem c_benchref1_SwappedOf_1_1 [Tracks] {x : Asset} {who : List Str} (hw : who.length ≤ 1000000) : ConP Tryz.prog 61 [eAsset x, .vptr [eSs who] 0] (.bool (!(who.contains x.Player))) := by
 refine Con.of_body Tryz.func61 rfl Tryz.ntmps61 rfl rfl ?_
 refine hw_reg ?_
 refine dp rfl (pop_box rfl rfl) ?_
 refine dp rfl (pop_assign rfl) ?_
 refine dn ?_
 refine hw_reg ?_
 refine dp rfl (pop_load ty44 rfl rfl rfl) ?_
 refine dp rfl (pop_fieldAddr ty36 rfl ty9 (by decide) rfl) ?_
 refine dp rfl (pop_load ty9 rfl rfl rfl) ?_
 refine dp rfl (pop_call ca57 rfl (WeakL.refl _) (c_slices_Contains_string_string (by first | assumption | omega | (simp; omega) | simp_all))) ?_
 refine dp rfl (pop_not rfl) ?_
 refine dp rfl (pop_assign rfl) ?_
 refine dn ?_
 refine hw_ret ?_
 refine ret_p rfl ?_
 rfl

/-- benchwarmer/benchref1.SwappedOf$1 -/
theorem c_benchref1_SwappedOf_1 [Tracks] {l : List Asset} {who : List Str} (hl : l.length ≤ 1000000) (hw : who.length ≤ 1000000) : ConP Tryz.prog 58 [eAssets l, eSs who] (eAssets (l.filter fun x => who.contains x.Player)) := by
 refine Con.of_body Tryz.func58 rfl Tryz.ntmps58 rfl rfl ?_
 refine hw_reg ?_
 refine dp rfl (pop_box rfl rfl) ?_
 refine dp rfl (pop_assign rfl) ?_
 refine dn ?_
 refine hw_reg ?_
 refine dp rfl (pop_move rfl) ?_
 refine de rfl (eop_calla ca60 rfl (WeakL.refl _) (c_slices_Clone_api_Asset_api_Asset (by first | assumption | omega | (simp; omega) | simp_all)) fun v6 => ?_)
 refine dp rfl (pop_makeFunc rfl rfl) ?_
 refine de rfl (eop_callx (i := 0) ca59 rfl (WeakL.refl _) rfl (c_slices_DeleteFunc_api_Asset_api_Asset (l := l) (p := fun x => !(who.contains x.Player)) ca61 (fun x => c_benchref1_SwappedOf_1_1 hw) hl) ?_)
 rintro _ _ ⟨u8, rfl, rfl⟩
 refine dp rfl (pop_assign rfl) ?_
 refine dn ?_
 refine hw_ghost (Ghost.of_eq (M' := [.arr u8 3 ((l.filter fun x => who.contains x.Player).map eAsset)]) (by simp)) ?_
 refine hw_ret ?_
 exact ret_fa (M := []) 4 rfl rfl rfl

/-- benchwarmer/benchref1.SwappedOf$2 -/
theorem c_benchref1_SwappedOf_2 [Tracks] {l : List Asset} {p : List HL.Place} (hl : l.length ≤ 16) (hp : p.length ≤ 10) (hm : ∀ x ∈ p, 0 ≤ x.Many) (hv : ∀ x ∈ l, -1000000 ≤ x.Value ∧ x.Value ≤ 1000000) : ConP Tryz.prog 62 [eAssets l, .vptr [ePlaces p] 0] (.int .i64 (sumV (fieldedL (ofR l) p))) := by
 refine Con.of_body Tryz.func62 rfl Tryz.ntmps62 rfl rfl ?_
 refine hw_reg ?_
 refine dp rfl (pop_assign rfl) ?_
 refine dn ?_
 refine hw_reg ?_
 refine dp rfl (pop_move rfl) ?_
 refine dp rfl (pop_load ty40 rfl rfl rfl) ?_
 refine dp rfl (pop_call ca63 rfl (WeakL.refl _) (c_benchref1_FieldedOf_g (l := l) (p := p) hl hp hm hv)) ?_
 refine dp rfl (pop_move rfl) ?_
 refine dp rfl (pop_extract rfl rfl) ?_
 refine dp rfl (pop_extract rfl rfl) ?_
 refine dp rfl (pop_assign rfl) ?_
 refine dp rfl (pop_assign rfl) ?_
 refine dn ?_
 refine hw_reg ?_
 refine dp rfl (pop_move rfl) ?_
 refine dp rfl (pop_assign rfl) ?_
 refine dn ?_
 refine hw_ret ?_
 refine ret_p rfl ?_
 rfl

set_option maxHeartbeats 1000000 in
/-- benchwarmer/benchref1.SwappedOf -/
theorem c_benchref1_SwappedOf [Tracks] {a b : List Asset} {p : List HL.Place} {give take : List Str} (ok : SwapOk a b p) (hb0 : bothP a b = false) (hla : a.length ≤ 8) (hlb : b.length ≤ 8) (hg : give.length ≤ 1000) (ht : take.length ≤ 1000) : ConP Tryz.prog 23 [eAssets a, eAssets b, ePlaces p, eSs give, eSs take] (.tup [.int .i64 (gainL a b p give take), .int .i64 (gainL b a p take give)]) := by
 have ra := sw_r (give := give) (take := take) ok hb0 hla hlb
 have rb := sw_r (give := take) (take := give) ok.flip (both_flip hb0) hlb hla
 obtain ⟨rax1, rax2⟩ := ra.xb
 obtain ⟨raa1, raa2⟩ := ra.ab
 obtain ⟨rbx1, rbx2⟩ := rb.xb
 obtain ⟨rba1, rba2⟩ := rb.ab
 have hfa := List.length_filter_le (fun x : Asset => give.contains x.Player) a
 have hfb := List.length_filter_le (fun x : Asset => take.contains x.Player) b
 refine Con.of_body Tryz.func23 rfl Tryz.ntmps23 rfl rfl ?_
 refine hw_reg ?_
 refine dp rfl (pop_box rfl rfl) ?_
 refine dp rfl (pop_assign rfl) ?_
 refine dp rfl (pop_assign rfl) ?_
 refine dn ?_
 refine hw_reg ?_
 refine dp rfl (pop_assign rfl) ?_
 refine dn ?_
 refine hw_reg ?_
 refine dp rfl (pop_makeFunc rfl rfl) ?_
 refine dp rfl (pop_assign rfl) ?_
 refine dn ?_
 refine hw_reg ?_
 refine dp rfl (pop_move rfl) ?_
 refine dp rfl (pop_move rfl) ?_
 refine dp rfl (pop_call ca64 rfl (WeakL.refl _) (c_benchref1_less (l := a) (who := give) (by omega) (by omega))) ?_
 refine dp rfl (pop_move rfl) ?_
 refine dp rfl (pop_move rfl) ?_
 refine dp rfl (pop_call ca64 rfl (WeakL.refl _) (c_benchref1_less (l := b) (who := take) (by omega) (by omega))) ?_
 refine dp rfl (pop_assign rfl) ?_
 refine dp rfl (pop_assign rfl) ?_
 refine dn ?_
 refine hw_seq ?_
 refine hw_reg ?_
 refine dp rfl (pop_move rfl) ?_
 refine dp rfl (pop_move rfl) ?_
 refine dp rfl (pop_move rfl) ?_
 refine dp rfl (pop_callv ca58 rfl rfl (WeakL.refl _) (c_benchref1_SwappedOf_1 (l := b) (who := take) (by omega) (by omega))) ?_
 refine dp rfl (pop_lenm (f := eAsset) (l := (b.filter fun x => take.contains x.Player)) ty26 rfl) ?_
 refine dp rfl (pop_move rfl) ?_
 refine dn ?_
 refine hw_block ?_
 refine hw_loopw [14, 17, 32, 33, 34, 35, 36, 37, 38, 39] (fun (k : Nat) => [(32, .int .i64 k), (14, eAssets (withL (a.filter fun x => !(give.contains x.Player)) ((b.filter fun x => take.contains x.Player).take k)))]) (fun (k : Nat) => []) (fun (k : Nat) => k ≤ (b.filter fun x => take.contains x.Player).length ∧ (True)) (fun (k : Nat) => (b.filter fun x => take.contains x.Player).length - k) (0) ?_ ?_ ?_ ?_
 ·exact ⟨Nat.zero_le _, trivial⟩
 ·exact ⟨rfl, rfl, trivial⟩
 ·exact List.Perm.refl _
 ·intro k hinv
  obtain ⟨hk, -⟩ := hinv
  refine hw_reg ?_
  refine dp rfl (pop_lss rfl rfl) ?_
  refine dn ?_
  refine hw_seq ?_
  refine hw_cond rfl (fun h1 => ?_) (fun h2 => ?_)
  ·try simp at h1
   obtain ⟨x, hx⟩ : ∃ x, (b.filter fun x => take.contains x.Player)[k]? = some x := ⟨_, List.getElem?_eq_getElem (by simpa using h1)⟩
   have hdx := drop_cons hx
   have hkk := lt_of_get hx
   obtain ⟨hw1, hw2⟩ := with_ok ra.nd ra.len hx
   refine hw_skip ?_
   refine seqQ_n ?_
   refine hw_seq ?_
   refine hw_block ?_
   refine hw_reg ?_
   refine dp rfl (pop_idx (f := eAsset) (l := (b.filter fun x => take.contains x.Player)) (j := k) (a := x) ty26 ty36 rfl rfl rfl hx) ?_
   refine dp rfl (pop_loadw ty36 rfl rfl rfl rfl) ?_
   refine de rfl (eop_alloc ty36 rfl fun b17 => ?_)
   refine de0 (eop_storew ty36 rfl rfl rfl rfl rfl ?_)
   refine dn ?_
   refine hw_ghost (Ghost.fc0 17 rfl) ?_
   refine hw_reg1 ?_
   refine dp rfl (pop_move rfl) ?_
   refine dp rfl (pop_loadw ty36 rfl rfl rfl rfl) ?_
   refine dp rfl (pop_call ca65 rfl (WeakL.refl _) (c_benchref1_with_g (l := withL (a.filter fun x => !(give.contains x.Player)) ((b.filter fun x => take.contains x.Player).take k)) (x := x) hw1 hw2)) ?_
   refine dp rfl (pop_assign rfl) ?_
   refine dn ?_
   refine blockQ_n ?_
   refine seqQ_n ?_
   refine hw_reg1 ?_
   refine dp rfl (pop_add64 rfl rfl (by omega) (by omega)) ?_
   refine dp rfl (pop_move rfl) ?_
   refine dn ?_
   exact ⟨k + 1, ⟨by omega, trivial⟩, by dsimp only; omega, ⟨rfl, by rw [withL_snoc hx]; rfl, trivial⟩, (by repeat (first | exact keeps_refl | refine keeps_upd rfl ?_ | refine keeps_loop rfl rfl ?_)), List.Perm.refl _⟩
  ·try simp at h2
   have hnk : (b.filter fun x => take.contains x.Player).length ≤ k := by simpa using h2
   obtain rfl : k = (b.filter fun x => take.contains x.Player).length := by omega
   rw [List.take_length]
   refine hw_exit ?_
   refine seqQ_x ?_
   refine loopQ_x ?_
   refine blockQ_eq ?_
   refine seqQ_n ?_
   refine hw_seq ?_
   refine hw_reg ?_
   refine dp rfl (pop_move rfl) ?_
   refine dp rfl (pop_move rfl) ?_
   refine dp rfl (pop_move rfl) ?_
   refine dp rfl (pop_callv ca58 rfl rfl (WeakL.refl _) (c_benchref1_SwappedOf_1 (l := a) (who := give) (by omega) (by omega))) ?_
   refine dp rfl (pop_lenm (f := eAsset) (l := (a.filter fun x => give.contains x.Player)) ty26 rfl) ?_
   refine dp rfl (pop_move rfl) ?_
   refine dn ?_
   refine hw_block ?_
   refine hw_loopw [15, 19, 45, 46, 47, 48, 49, 50, 51, 52] (fun (k : Nat) => [(45, .int .i64 k), (15, eAssets (withL (b.filter fun x => !(take.contains x.Player)) ((a.filter fun x => give.contains x.Player).take k)))]) (fun (k : Nat) => []) (fun (k : Nat) => k ≤ (a.filter fun x => give.contains x.Player).length ∧ (True)) (fun (k : Nat) => (a.filter fun x => give.contains x.Player).length - k) (0) ?_ ?_ ?_ ?_
   ·exact ⟨Nat.zero_le _, trivial⟩
   ·exact ⟨rfl, rfl, trivial⟩
   ·exact List.Perm.refl _
   ·intro k hinv
    obtain ⟨hk, -⟩ := hinv
    refine hw_reg ?_
    refine dp rfl (pop_lss rfl rfl) ?_
    refine dn ?_
    refine hw_seq ?_
    refine hw_cond rfl (fun h3 => ?_) (fun h4 => ?_)
    ·try simp at h3
     obtain ⟨x, hx⟩ : ∃ x, (a.filter fun x => give.contains x.Player)[k]? = some x := ⟨_, List.getElem?_eq_getElem (by simpa using h3)⟩
     have hdx := drop_cons hx
     have hkk := lt_of_get hx
     obtain ⟨hw1, hw2⟩ := with_ok rb.nd rb.len hx
     refine hw_skip ?_
     refine seqQ_n ?_
     refine hw_seq ?_
     refine hw_block ?_
     refine hw_reg ?_
     refine dp rfl (pop_idx (f := eAsset) (l := (a.filter fun x => give.contains x.Player)) (j := k) (a := x) ty26 ty36 rfl rfl rfl hx) ?_
     refine dp rfl (pop_loadw ty36 rfl rfl rfl rfl) ?_
     refine de rfl (eop_alloc ty36 rfl fun b19 => ?_)
     refine de0 (eop_storew ty36 rfl rfl rfl rfl rfl ?_)
     refine dn ?_
     refine hw_ghost (Ghost.fc0 19 rfl) ?_
     refine hw_reg1 ?_
     refine dp rfl (pop_move rfl) ?_
     refine dp rfl (pop_loadw ty36 rfl rfl rfl rfl) ?_
     refine dp rfl (pop_call ca65 rfl (WeakL.refl _) (c_benchref1_with_g (l := withL (b.filter fun x => !(take.contains x.Player)) ((a.filter fun x => give.contains x.Player).take k)) (x := x) hw1 hw2)) ?_
     refine dp rfl (pop_assign rfl) ?_
     refine dn ?_
     refine blockQ_n ?_
     refine seqQ_n ?_
     refine hw_reg1 ?_
     refine dp rfl (pop_add64 rfl rfl (by omega) (by omega)) ?_
     refine dp rfl (pop_move rfl) ?_
     refine dn ?_
     exact ⟨k + 1, ⟨by omega, trivial⟩, by dsimp only; omega, ⟨rfl, by rw [withL_snoc hx]; rfl, trivial⟩, (by repeat (first | exact keeps_refl | refine keeps_upd rfl ?_ | refine keeps_loop rfl rfl ?_)), List.Perm.refl _⟩
    ·try simp at h4
     have hnk : (a.filter fun x => give.contains x.Player).length ≤ k := by simpa using h4
     obtain rfl : k = (a.filter fun x => give.contains x.Player).length := by omega
     rw [List.take_length]
     refine hw_exit ?_
     refine seqQ_x ?_
     refine loopQ_x ?_
     refine blockQ_eq ?_
     refine seqQ_n ?_
     refine hw_reg ?_
     refine dp rfl (pop_move rfl) ?_
     refine dp rfl (pop_move rfl) ?_
     refine dp rfl (pop_callv ca62 rfl rfl (WeakL.refl _) (c_benchref1_SwappedOf_2 (l := withL (a.filter fun x => !(give.contains x.Player)) (b.filter fun x => take.contains x.Player)) (p := p) ra.xl ok.p10 ok.many ra.xv)) ?_
     refine dp rfl (pop_move rfl) ?_
     refine dp rfl (pop_move rfl) ?_
     refine dp rfl (pop_callv ca62 rfl rfl (WeakL.refl _) (c_benchref1_SwappedOf_2 (l := a) (p := p) (by omega) ok.p10 ok.many ok.va)) ?_
     refine dp rfl (pop_sub64 rfl rfl (by omega) (by omega)) ?_
     refine dp rfl (pop_move rfl) ?_
     refine dp rfl (pop_move rfl) ?_
     refine dp rfl (pop_callv ca62 rfl rfl (WeakL.refl _) (c_benchref1_SwappedOf_2 (l := withL (b.filter fun x => !(take.contains x.Player)) (a.filter fun x => give.contains x.Player)) (p := p) rb.xl ok.p10 ok.many rb.xv)) ?_
     refine dp rfl (pop_move rfl) ?_
     refine dp rfl (pop_move rfl) ?_
     refine dp rfl (pop_callv ca62 rfl rfl (WeakL.refl _) (c_benchref1_SwappedOf_2 (l := b) (p := p) (by omega) ok.p10 ok.many ok.vb)) ?_
     refine dp rfl (pop_sub64 rfl rfl (by omega) (by omega)) ?_
     refine dp rfl (pop_assign rfl) ?_
     refine dp rfl (pop_assign rfl) ?_
     refine dn ?_
     refine hw_ret ?_
     refine ret_p rfl ?_
     show HVal.tup _ = _
     rw [ra.is, rb.is]

set_option maxHeartbeats 2000000 in
/-- benchwarmer/benchref1.BestSwapOf -/
theorem c_benchref1_BestSwapOf [Tracks] {a b : List Asset} {p : List HL.Place} {n : Int} (he : swapE a b p = 0) (hn : 1 ≤ n ∧ n ≤ 2) (hla : a.length ≤ 8) (hlb : b.length ≤ 8) : ConP Tryz.prog 24 [eAssets a, eAssets b, ePlaces p, .int .i64 n] (.tup [eSs (giveS (bestO a b p n)), eSs (takeS (bestO a b p n)), .bool (bestO a b p n).isSome]) := by
 have ok := swap_ok he
 have hb0 := (swapE_ok he).2.2.2
 have hp10 := ok.p10
 have hca := choices_len (n := n) hla
 have hcb := choices_len (n := n) hlb
 have hsa := (checkAssets_ok ok.ca).1
 have hsb := (checkAssets_ok ok.cb).1
 refine Con.of_body Tryz.func24 rfl Tryz.ntmps24 rfl rfl ?_
 refine hw_reg ?_
 refine dp rfl (pop_assign rfl) ?_
 refine dp rfl (pop_assign rfl) ?_
 refine dp rfl (pop_assign rfl) ?_
 refine dn ?_
 refine hw_reg ?_
 refine dp rfl (pop_assign rfl) ?_
 refine dp rfl (pop_assign rfl) ?_
 refine dn ?_
 refine hw_reg ?_
 refine dp rfl (pop_assign rfl) ?_
 refine dp rfl (pop_assign rfl) ?_
 refine dn ?_
 refine hw_seq ?_
 refine hw_reg ?_
 refine dp rfl (pop_move rfl) ?_
 refine dp rfl (pop_move rfl) ?_
 refine dp rfl (pop_call ca66 rfl (WeakL.refl _) (c_benchref1_choices (l := a) (n := n) hla)) ?_
 refine dp rfl (pop_lenm (f := eSs) (l := choicesL n a) ty105 rfl) ?_
 refine dp rfl (pop_move rfl) ?_
 refine dn ?_
 refine hw_block ?_
 refine hw_loopw (11 :: 12 :: 13 :: 14 :: 16 :: 18 :: 19 :: 20 :: 21 :: 26 :: 27 :: 28 :: 29 :: 30 :: 31 :: 32 :: 33 :: 34 :: 35 :: 36 :: 37 :: 38 :: 39 :: 40 :: 41 :: 42 :: 43 :: 44 :: 45 :: 46 :: 47 :: 48 :: 49 :: 50 :: 51 :: 52 :: 53 :: 54 :: 55 :: 56 :: 57 :: 58 :: 59 :: 60 :: 61 :: 62 :: 63 :: 64 :: 65 :: 66 :: 67 :: 68 :: 69 :: 70 :: 71 :: 72 :: 73 :: 74 :: 75 :: 76 :: 77 :: 78 :: 79 :: 80 :: 81 :: 82 :: 83 :: 84 :: 85 :: 86 :: 87 :: 88 :: 89 :: 90 :: 91 :: 92 :: 93 :: 94 :: 95 :: 96 :: 97 :: []) (fun (i : Nat) => [(26, .int .i64 i), (11, nilO (namesO (·.give) (foldO (offersL a b p ((choicesL n a).take i) (choicesL n b))))), (12, nilO (namesO (·.take) (foldO (offersL a b p ((choicesL n a).take i) (choicesL n b))))), (13, .int .i64 (leastS (foldO (offersL a b p ((choicesL n a).take i) (choicesL n b))))), (14, .int .i64 (bothS (foldO (offersL a b p ((choicesL n a).take i) (choicesL n b)))))]) (fun (i : Nat) => []) (fun (i : Nat) => i ≤ (choicesL n a).length ∧ (True)) (fun (i : Nat) => (choicesL n a).length - i) (0) ?_ ?_ ?_ ?_
 ·exact ⟨Nat.zero_le _, trivial⟩
 ·exact ⟨rfl, rfl, rfl, rfl, rfl, trivial⟩
 ·exact List.Perm.refl _
 ·intro i hinv
  obtain ⟨hi, -⟩ := hinv
  refine hw_reg ?_
  refine dp rfl (pop_lss rfl rfl) ?_
  refine dn ?_
  refine hw_seq ?_
  refine hw_cond rfl (fun h1 => ?_) (fun h2 => ?_)
  ·try simp at h1
   obtain ⟨g, hg⟩ : ∃ g, (choicesL n a)[i]? = some g := ⟨_, List.getElem?_eq_getElem h1⟩
   have hdg := drop_cons hg
   refine hw_skip ?_
   refine seqQ_n ?_
   refine hw_seq ?_
   refine hw_block ?_
   refine hw_reg ?_
   refine dp rfl (pop_idx (f := eSs) (l := choicesL n a) (j := i) (a := g) ty105 ty44 rfl rfl rfl hg) ?_
   refine dp rfl (pop_load ty44 rfl rfl rfl) ?_
   refine dp rfl (pop_assign rfl) ?_
   refine dn ?_
   refine hw_reg ?_
   refine dp rfl (pop_move rfl) ?_
   refine dp rfl (pop_move rfl) ?_
   refine dp rfl (pop_call ca66 rfl (WeakL.refl _) (c_benchref1_choices (l := b) (n := n) hlb)) ?_
   refine dp rfl (pop_lenm (f := eSs) (l := choicesL n b) ty105 rfl) ?_
   refine dp rfl (pop_move rfl) ?_
   refine dn ?_
   refine hw_block ?_
   refine hw_loopw (11 :: 12 :: 13 :: 14 :: 18 :: 19 :: 20 :: 21 :: 34 :: 35 :: 36 :: 37 :: 38 :: 39 :: 40 :: 41 :: 42 :: 43 :: 44 :: 45 :: 46 :: 47 :: 48 :: 49 :: 50 :: 51 :: 52 :: 53 :: 54 :: 55 :: 56 :: 57 :: 58 :: 59 :: 60 :: 61 :: 62 :: 63 :: 64 :: 65 :: 66 :: 67 :: 68 :: 69 :: 70 :: 71 :: 72 :: 73 :: 74 :: 75 :: 76 :: 77 :: 78 :: 79 :: 80 :: 81 :: 82 :: 83 :: 84 :: 85 :: 86 :: 87 :: 88 :: 89 :: 90 :: 91 :: 92 :: 93 :: 94 :: 95 :: 96 :: []) (fun (j : Nat) => [(34, .int .i64 j), (11, nilO (namesO (·.give) (foldO (offersL a b p ((choicesL n a).take i) (choicesL n b) ++ ((choicesL n b).take j).map (mkO a b p g))))), (12, nilO (namesO (·.take) (foldO (offersL a b p ((choicesL n a).take i) (choicesL n b) ++ ((choicesL n b).take j).map (mkO a b p g))))), (13, .int .i64 (leastS (foldO (offersL a b p ((choicesL n a).take i) (choicesL n b) ++ ((choicesL n b).take j).map (mkO a b p g))))), (14, .int .i64 (bothS (foldO (offersL a b p ((choicesL n a).take i) (choicesL n b) ++ ((choicesL n b).take j).map (mkO a b p g)))))]) (fun (j : Nat) => []) (fun (j : Nat) => j ≤ (choicesL n b).length ∧ (True)) (fun (j : Nat) => (choicesL n b).length - j) (0) ?_ ?_ ?_ ?_
   ·exact ⟨Nat.zero_le _, trivial⟩
   ·exact ⟨rfl, by rw [List.take_zero, List.map_nil, List.append_nil]; rfl, by rw [List.take_zero, List.map_nil, List.append_nil]; rfl, by rw [List.take_zero, List.map_nil, List.append_nil]; rfl, by rw [List.take_zero, List.map_nil, List.append_nil]; rfl, trivial⟩
   ·exact List.Perm.refl _
   ·intro j hinv
    obtain ⟨hj, -⟩ := hinv
    refine hw_reg ?_
    refine dp rfl (pop_lss rfl rfl) ?_
    refine dn ?_
    refine hw_seq ?_
    refine hw_cond rfl (fun h3 => ?_) (fun h4 => ?_)
    ·try simp at h3
     obtain ⟨t, ht⟩ : ∃ t, (choicesL n b)[j]? = some t := ⟨_, List.getElem?_eq_getElem h3⟩
     have hdt := drop_cons ht
     refine hw_skip ?_
     refine seqQ_n ?_
     refine hw_seq ?_
     refine hw_block ?_
     refine hw_reg ?_
     refine dp rfl (pop_idx (f := eSs) (l := choicesL n b) (j := j) (a := t) ty105 ty44 rfl rfl rfl ht) ?_
     refine dp rfl (pop_load ty44 rfl rfl rfl) ?_
     refine dp rfl (pop_assign rfl) ?_
     refine dn ?_
     have hgs := ch_small hn (List.mem_of_getElem? hg)
     have hts := ch_small hn (List.mem_of_getElem? ht)
     obtain ⟨⟨hga1, hga2⟩, hgb1, hgb2⟩ := least_bd ok hla hlb g t
     obtain ⟨s, hs⟩ : ∃ s, s = (foldO (offersL a b p ((choicesL n a).take i) (choicesL n b) ++ ((choicesL n b).take j).map (mkO a b p g))) := ⟨_, rfl⟩
     have hs1 := hs.symm
     obtain ⟨hne, hsm⟩ := fold_gives hn hg hs1
     rw [← hs]
     have hgl : (giveS s).length ≤ 2 ∧ (takeS s).length ≤ 2 := by
      cases hq : s with
      | none => exact ⟨Nat.zero_le _, Nat.zero_le _⟩
      | some o => exact ⟨(hsm o hq).1, (hsm o hq).2.1⟩
     obtain ⟨hgl1, hgl2⟩ := hgl
     have hlg := len_give s
     have hlt := len_take s
     have hst := (fold_take (xs := offersL a b p ((choicesL n a).take i) (choicesL n b)) (a := a) (b := b) (p := p) (g := g) ht).trans (congrArg (fun z => stepO z (mkO a b p g t)) hs1)
     rw [step_ref hsa hsb hg ht hs1] at hst
     refine hw_reg ?_
     refine dp rfl (pop_move rfl) ?_
     refine dp rfl (pop_move rfl) ?_
     refine dp rfl (pop_move rfl) ?_
     refine dp rfl (pop_move rfl) ?_
     refine dp rfl (pop_move rfl) ?_
     refine dp rfl (pop_call ca23 rfl (WeakL.refl _) (c_benchref1_SwappedOf (a := a) (b := b) (p := p) (give := g) (take := t) ok hb0 hla hlb (by omega) (by omega))) ?_
     refine dp rfl (pop_move rfl) ?_
     refine dp rfl (pop_extract rfl rfl) ?_
     refine dp rfl (pop_extract rfl rfl) ?_
     refine dp rfl (pop_assign rfl) ?_
     refine dp rfl (pop_assign rfl) ?_
     refine dn ?_
     refine hw_reg ?_
     refine dp rfl (pop_move rfl) ?_
     refine dp rfl (pop_move rfl) ?_
     refine dp rfl (pop_move rfl) ?_
     refine dp rfl (pop_eq (h' := .int .i64 (min (gainL a b p g t) (gainL b a p t g))) (pop_min rfl rfl) (congrArg (HVal.int .i64) min_iteI)) ?_
     refine dp rfl (pop_call ca68 rfl (WeakL.refl _) c_cmp_Compare_int) ?_
     refine dp rfl (pop_move rfl) ?_
     refine dp rfl (pop_move rfl) ?_
     refine dp rfl (pop_move rfl) ?_
     refine dp rfl (pop_add64 rfl rfl (by omega) (by omega)) ?_
     refine dp rfl (pop_call ca68 rfl (WeakL.refl _) c_cmp_Compare_int) ?_
     refine dp rfl (pop_move rfl) ?_
     refine dp rfl (pop_lenm ty44 rfl) ?_
     refine dp rfl (pop_move rfl) ?_
     refine dp rfl (pop_lenm ty44 rfl) ?_
     refine dp rfl (pop_add64 rfl rfl (by omega) (by omega)) ?_
     refine dp rfl (pop_move rfl) ?_
     refine dp rfl (pop_lenS ty44 rfl) ?_
     refine dp rfl (pop_move rfl) ?_
     refine dp rfl (pop_lenS ty44 rfl) ?_
     refine dp rfl (pop_add64 rfl rfl (by omega) (by omega)) ?_
     refine dp rfl (pop_call ca68 rfl (WeakL.refl _) c_cmp_Compare_int) ?_
     refine dp rfl (pop_move rfl) ?_
     refine dp rfl (pop_move rfl) ?_
     refine dp rfl (pop_call (hs' := [eSs g, eSs (giveS s)]) ca69 rfl ⟨Weak.refl _, weak_give s, trivial⟩ (c_slices_Compare_string_string (l := g) (m := (giveS s)) (by omega) (by omega))) ?_
     refine dp rfl (pop_move rfl) ?_
     refine dp rfl (pop_move rfl) ?_
     refine dp rfl (pop_call (hs' := [eSs t, eSs (takeS s)]) ca69 rfl ⟨Weak.refl _, weak_take s, trivial⟩ (c_slices_Compare_string_string (l := t) (m := (takeS s)) (by omega) (by omega))) ?_
     refine dp rfl (pop_buildSlice (hs := [_, _, _, _, _]) ty22 ty3 rfl rfl (by decide) (by decide) rfl) ?_
     refine dp rfl (pop_call ca67 rfl (WeakL.refl _) (c_cmp_Or_int (l := [_, _, _, _, _]) (by simp))) ?_
     refine dp rfl (pop_assign rfl) ?_
     refine dn ?_
     rw [ordO_is (a := a) (b := b) (p := p) (g := g) (t := t) s]
     refine hw_reg ?_
     refine dp rfl (pop_move rfl) ?_
     refine dp rfl (pop_move rfl) ?_
     refine dp rfl (pop_eq (h' := .int .i64 (min (gainL a b p g t) (gainL b a p t g))) (pop_min rfl rfl) (congrArg (HVal.int .i64) min_iteI)) ?_
     refine dp rfl (pop_geq rfl rfl) ?_
     refine dp rfl (pop_move rfl) ?_
     refine dg rfl rfl (fun hc => ⟨_, OpenTo.refl _, pop_move rfl⟩) ?_
     refine dg rfl rfl (fun hc => ⟨_, OpenTo.upd (t := 81) rfl (by first | exact hc | simp_all) (OpenTo.refl _), pop_eqnilS ty44 hne rfl rfl⟩) ?_
     refine dg rfl rfl (fun hc => ⟨_, OpenTo.upd (t := 82) rfl (by first | exact hc | simp_all) (OpenTo.refl _), pop_move rfl⟩) ?_
     refine dg rfl rfl (fun hc => ⟨_, OpenTo.refl _, pop_move rfl⟩) ?_
     refine dg rfl rfl (fun hc => ⟨_, OpenTo.upd (t := 84) rfl (by first | exact hc | simp_all) (OpenTo.refl _), pop_lss rfl rfl⟩) ?_
     refine dg rfl rfl (fun hc => ⟨_, OpenTo.upd (t := 83) rfl (by first | exact hc | simp_all) (OpenTo.refl _), pop_picko rfl (.inl rfl) (.inr ⟨_, rfl, fun h => by simp_all⟩)⟩) ?_
     refine dp rfl (pop_picko rfl (.inr ⟨_, rfl, fun h => by simp_all⟩) (.inl rfl)) ?_
     refine dn ?_
     refine hw_cond rfl (fun h5 => ?_) (fun h6 => ?_)
     ·try simp at h5
      refine hw_reg1 ?_
      refine dp rfl (pop_move rfl) ?_
      refine dp rfl (pop_move rfl) ?_
      refine dp rfl (pop_move rfl) ?_
      refine dp rfl (pop_move rfl) ?_
      refine dp rfl (pop_eq (h' := .int .i64 (min (gainL a b p g t) (gainL b a p t g))) (pop_min rfl rfl) (congrArg (HVal.int .i64) min_iteI)) ?_
      refine dp rfl (pop_move rfl) ?_
      refine dp rfl (pop_move rfl) ?_
      refine dp rfl (pop_add64 rfl rfl (by omega) (by omega)) ?_
      refine dp rfl (pop_assign rfl) ?_
      refine dp rfl (pop_assign rfl) ?_
      refine dp rfl (pop_assign rfl) ?_
      refine dp rfl (pop_assign rfl) ?_
      refine dn ?_
      refine blockQ_n ?_
      refine seqQ_n ?_
      refine hw_reg1 ?_
      refine dp rfl (pop_add64 rfl rfl (by omega) (by omega)) ?_
      refine dp rfl (pop_move rfl) ?_
      refine dn ?_
      rw [if_pos (step_yes rfl h5)] at hst
      exact ⟨j + 1, ⟨by omega, trivial⟩, by dsimp only; omega, ⟨rfl, by rw [hst]; rfl, by rw [hst]; rfl, by rw [hst]; rfl, by rw [hst]; rfl, trivial⟩, (by repeat (first | exact keeps_refl | refine keeps_upd rfl ?_ | refine keeps_loop rfl rfl ?_)), List.Perm.refl _⟩
     ·try simp at h6
      refine hw_skip ?_
      refine blockQ_n ?_
      refine seqQ_n ?_
      refine hw_reg1 ?_
      refine dp rfl (pop_add64 rfl rfl (by omega) (by omega)) ?_
      refine dp rfl (pop_move rfl) ?_
      refine dn ?_
      rw [if_neg (step_no rfl h6)] at hst
      exact ⟨j + 1, ⟨by omega, trivial⟩, by dsimp only; omega, ⟨rfl, by rw [hst]; rfl, by rw [hst]; rfl, by rw [hst]; rfl, by rw [hst]; rfl, trivial⟩, (by repeat (first | exact keeps_refl | refine keeps_upd rfl ?_ | refine keeps_loop rfl rfl ?_)), List.Perm.refl _⟩
    ·try simp at h4
     have hnj : (choicesL n b).length ≤ j := by omega
     obtain rfl : j = (choicesL n b).length := by omega
     refine hw_exit ?_
     refine seqQ_x ?_
     refine loopQ_x ?_
     refine blockQ_eq ?_
     refine blockQ_n ?_
     refine seqQ_n ?_
     refine hw_reg1 ?_
     refine dp rfl (pop_add64 rfl rfl (by omega) (by omega)) ?_
     refine dp rfl (pop_move rfl) ?_
     refine dn ?_
     exact ⟨i + 1, ⟨by omega, trivial⟩, by dsimp only; omega, ⟨rfl, by rw [offers_take hg, List.take_length]; rfl, by rw [offers_take hg, List.take_length]; rfl, by rw [offers_take hg, List.take_length]; rfl, by rw [offers_take hg, List.take_length]; rfl, trivial⟩, (by repeat (first | exact keeps_refl | refine keeps_upd rfl ?_ | refine keeps_loop rfl rfl ?_)), List.Perm.refl _⟩
  ·try simp at h2
   have hni : (choicesL n a).length ≤ i := by omega
   obtain rfl : i = (choicesL n a).length := by omega
   rw [List.take_length]
   refine hw_exit ?_
   refine seqQ_x ?_
   refine loopQ_x ?_
   refine blockQ_eq ?_
   refine seqQ_n ?_
   rw [show foldO (offersL a b p (choicesL n a) (choicesL n b)) = bestO a b p n from rfl]
   refine hw_reg ?_
   refine dp rfl (pop_move rfl) ?_
   refine dp rfl (pop_move rfl) ?_
   refine dp rfl (pop_move rfl) ?_
   refine dp rfl (pop_neqnilS ty44 (best_gives hn) rfl rfl) ?_
   refine dp rfl (pop_assign rfl) ?_
   refine dp rfl (pop_assign rfl) ?_
   refine dp rfl (pop_assign rfl) ?_
   refine dn ?_
   refine hw_ret ?_
   refine ret_w rfl (weak_tup3 (weak_give _) (weak_take _) ?_)
   rw [none_names, Option.not_isNone]
   exact Weak.refl _

theorem h_rRead1 [Tracks] {bo : Nat} : ∀ (done : List Str) (s : Str) (st : Value × List Asset), done.length ≤ 1000000 → s.length ≤ 1000000 → st.2 = done.map raP → Con Tryz.prog 71 ([.str s] ++ [pAt bo]) (SAs bo st) fun x M' => ∃ st', x = .bool (raB s) ∧ M' = SAs bo st' ∧ (raB s = true → st'.2 = (done ++ [s]).map raP) :=
 fun done s st h1 h2 h3 => (c_benchref1_AssetsRead_1 h2 (by rw [h3, List.length_map]; exact h1)).mono fun x M' ⟨v', ps', hx, hM, hp⟩ => ⟨(v', ps'), hx, hM, fun h => by rw [hp h, h3]; simp⟩

/-- benchwarmer/benchref1.AssetsRead -/
theorem c_benchref1_AssetsRead [Tracks] {text : Str} (ht : text.length ≤ 1000000) : ConP Tryz.prog 27 [.str text] (.tup [eAssets (arP text), .int .i64 (arI text), .int .i64 (arE text)]) := by
 have hpl := arL_len text
 refine Con.of_body Tryz.func27 rfl Tryz.ntmps27 rfl rfl ?_
 refine hw_reg ?_
 refine dp rfl (pop_assign rfl) ?_
 refine dp rfl (pop_assign rfl) ?_
 refine dp rfl (pop_assign rfl) ?_
 refine dn ?_
 refine hw_seq ?_
 refine hw_reg ?_
 refine dp rfl (pop_move rfl) ?_
 refine dp rfl (pop_lens ty9 rfl) ?_
 refine dp rfl (pop_gtr rfl rfl) ?_
 refine dn ?_
 refine hw_cond rfl (fun h1 => ?_) (fun h2 => ?_)
 ·try simp at h1
  refine hw_reg ?_
  refine dp rfl (pop_assign rfl) ?_
  refine dp rfl (pop_assign rfl) ?_
  refine dp rfl (pop_assign rfl) ?_
  refine dn ?_
  refine hw_ret ?_
  first
  | exact ret_w rfl (weakAs (ar_1 h1).1 (by decide) (ar_1 h1).2)
  | exact ret_gw Ghost.clear rfl (weakAs (ar_2 (by omega) h3).1 (by decide) (ar_2 (by omega) h3).2) ⟨rfl, rfl⟩
  | exact ret_w rfl (weakAs (ar_3 (by omega) h4).1 h5 (ar_3 (by omega) h4).2)
  | exact ret_p rfl (eqAs ((ar_3 (by omega) h4).1.trans h6) (ar_3 (by omega) h4).2)
 ·try simp at h2
  refine hw_skip ?_
  refine seqQ_n ?_
  refine hw_reg ?_
  refine de rfl (eop_alloc ty26 rfl fun b5 => ?_)
  refine dn ?_
  refine hw_ghost (Ghost.arr_nil 3) ?_
  refine hw_reg ?_
  refine dp rfl (pop_move rfl) ?_
  refine dp rfl (pop_makeFunc rfl rfl) ?_
  refine de rfl (eop_callf (M1 := SAs b5 (.slice none 0 0, [])) (R := []) ca70 rfl (WeakL.refl _) (List.Perm.swap _ _ _) (c_benchref1_Lines (S := SAs b5) (Inv := fun done st => st.2 = done.map raP) (ok := raB) (caps := [pAt b5]) (st0 := (.slice none 0 0, [])) ca71 h_rRead1 rfl ht) ?_)
  rintro _ _ ⟨st2, rfl, rfl, hst2⟩
  refine dp rfl (pop_move rfl) ?_
  refine dp rfl (pop_extract rfl rfl) ?_
  refine dp rfl (pop_extract rfl rfl) ?_
  refine dp rfl (pop_assign rfl) ?_
  refine dp rfl (pop_assign rfl) ?_
  refine dn ?_
  refine hw_seq ?_
  refine hw_reg ?_
  refine dp rfl (pop_move rfl) ?_
  refine dp rfl (pop_not rfl) ?_
  refine dn ?_
  refine hw_cond rfl (fun h3 => ?_) (fun h4 => ?_)
  ·try simp at h3
   refine hw_reg ?_
   refine dp rfl (pop_move rfl) ?_
   refine dp rfl (pop_assign rfl) ?_
   refine dp rfl (pop_assign rfl) ?_
   refine dp rfl (pop_assign rfl) ?_
   refine dn ?_
   refine hw_ret ?_
   first
   | exact ret_w rfl (weakAs (ar_1 h1).1 (by decide) (ar_1 h1).2)
   | exact ret_gw Ghost.clear rfl (weakAs (ar_2 (by omega) h3).1 (by decide) (ar_2 (by omega) h3).2) ⟨rfl, rfl⟩
   | exact ret_w rfl (weakAs (ar_3 (by omega) h4).1 h5 (ar_3 (by omega) h4).2)
   | exact ret_p rfl (eqAs ((ar_3 (by omega) h4).1.trans h6) (ar_3 (by omega) h4).2)
  ·try simp at h4
   refine hw_skip ?_
   refine seqQ_n ?_
   refine hw_seq ?_
   obtain ⟨v2, ps2⟩ := st2
   obtain rfl : ps2 = arL text := hst2 h4
   refine hw_ghost (Ghost.of_eq (M' := [.cells b5 [.raw v2], .arr v2 3 ((arL text).map eAsset)]) rfl) ?_
   refine hw_ghost (Ghost.fcell (i := 1) (k := 0) (j := 0) rfl rfl rfl) ?_
   refine hw_ghost (Ghost.of_eq (M' := [.cells b5 [eAssets (arL text)]]) rfl) ?_
   refine hw_ghost (Ghost.fc 5 (i := 0) rfl rfl) ?_
   refine hw_reg ?_
   refine dp rfl (pop_load ty26 rfl rfl rfl) ?_
   refine dp rfl (pop_call ca6 rfl (WeakL.refl _) (c_benchref1_AssetsFault_u (l := arL text) (by omega))) ?_
   refine dp rfl (pop_assign rfl) ?_
   refine dn ?_
   refine hw_reg ?_
   refine dp rfl (pop_move rfl) ?_
   refine dp rfl (pop_neq rfl rfl) ?_
   refine dn ?_
   refine hw_cond rfl (fun h5 => ?_) (fun h6 => ?_)
   ·try simp at h5
    refine hw_reg ?_
    refine dp rfl (pop_move rfl) ?_
    refine dp rfl (pop_assign rfl) ?_
    refine dp rfl (pop_assign rfl) ?_
    refine dp rfl (pop_assign rfl) ?_
    refine dn ?_
    refine hw_ret ?_
    first
    | exact ret_w rfl (weakAs (ar_1 h1).1 (by decide) (ar_1 h1).2)
    | exact ret_gw Ghost.clear rfl (weakAs (ar_2 (by omega) h3).1 (by decide) (ar_2 (by omega) h3).2) ⟨rfl, rfl⟩
    | exact ret_w rfl (weakAs (ar_3 (by omega) h4).1 h5 (ar_3 (by omega) h4).2)
    | exact ret_p rfl (eqAs ((ar_3 (by omega) h4).1.trans h6) (ar_3 (by omega) h4).2)
   ·try simp at h6
    refine hw_skip ?_
    refine seqQ_n ?_
    refine hw_reg ?_
    refine dp rfl (pop_load ty26 rfl rfl rfl) ?_
    refine dp rfl (pop_assign rfl) ?_
    refine dp rfl (pop_assign rfl) ?_
    refine dp rfl (pop_assign rfl) ?_
    refine dn ?_
    refine hw_ret ?_
    first
    | exact ret_w rfl (weakAs (ar_1 h1).1 (by decide) (ar_1 h1).2)
    | exact ret_gw Ghost.clear rfl (weakAs (ar_2 (by omega) h3).1 (by decide) (ar_2 (by omega) h3).2) ⟨rfl, rfl⟩
    | exact ret_w rfl (weakAs (ar_3 (by omega) h4).1 h5 (ar_3 (by omega) h4).2)
    | exact ret_p rfl (eqAs ((ar_3 (by omega) h4).1.trans h6) (ar_3 (by omega) h4).2)
end Go.Proofs.YtbfikmihcpfgaaaGreatDoor
end
section
namespace Go.Proofs.YtbfikmihcpfgaaaGreatDoor
open Go.HL
set_option maxRecDepth 100000
set_option linter.unusedVariables false
set_option linter.unusedSimpArgs false
/-- slices.Equal[[]benchwarmer/api.Asset,benchwarmer/api.Asset] -/
theorem c_slices_Equal_api_Asset_api_Asset [Tracks] {l m : List Asset} (hl : l.length ≤ 1000000) : ConP Tryz.prog 9 [eAssets l, eAssets m] (.bool (eqSts eAsset l m)) := by
 refine Con.of_body Tryz.func9 rfl Tryz.ntmps9 rfl rfl ?_
 refine hw_reg ?_
 refine dp rfl (pop_assign rfl) ?_
 refine dn ?_
 refine hw_seq ?_
 refine hw_reg ?_
 refine dp rfl (pop_move rfl) ?_
 refine dp rfl (pop_lenm ty26 rfl) ?_
 refine dp rfl (pop_move rfl) ?_
 refine dp rfl (pop_lenm ty26 rfl) ?_
 refine dp rfl (pop_neq rfl rfl) ?_
 refine dn ?_
 refine hw_cond rfl (fun h1 => ?_) (fun h2 => ?_)
 ·try simp at h1
  refine hw_reg ?_
  refine dp rfl (pop_assign rfl) ?_
  refine dn ?_
  refine hw_ret ?_
  refine ret_p rfl ?_
  show HVal.bool _ = _
  first | (congr 1; symm; exact eqSts_len (by omega)) | (rw [hg.2, eqSts, show eqSt eAsset x y = false from h5]; rfl) | (rw [hg.2, drop_all (Nat.le_of_eq hg.1.symm)]; rfl)
 ·try simp at h2
  refine hw_skip ?_
  refine seqQ_n ?_
  refine hw_seq ?_
  refine hw_reg ?_
  refine dp rfl (pop_move rfl) ?_
  refine dp rfl (pop_lenm ty26 rfl) ?_
  refine dp rfl (pop_move rfl) ?_
  refine dn ?_
  refine hw_block ?_
  refine hw_loopw [4, 5, 13, 14, 15, 16, 17, 18, 19, 20, 21, 22, 23, 24, 25] (fun (k : Nat) => [(13, .int .i64 k)]) (fun (k : Nat) => []) (fun (k : Nat) => k ≤ l.length ∧ (l.length = m.length ∧ eqSts eAsset l m = eqSts eAsset (l.drop k) (m.drop k))) (fun (k : Nat) => l.length - k) (0) ?_ ?_ ?_ ?_
  ·refine ⟨Nat.zero_le _, ?_, rfl⟩
   omega
  ·exact ⟨rfl, trivial⟩
  ·exact List.Perm.refl _
  ·intro k hinv
   obtain ⟨hk, hg⟩ := hinv
   refine hw_reg ?_
   refine dp rfl (pop_lss rfl rfl) ?_
   refine dn ?_
   refine hw_seq ?_
   refine hw_cond rfl (fun h3 => ?_) (fun h4 => ?_)
   ·try simp at h3
    obtain ⟨x, hx⟩ : ∃ x, l[k]? = some x := ⟨_, List.getElem?_eq_getElem h3⟩
    have hdx := drop_cons hx
    obtain ⟨y, hy⟩ : ∃ y, m[k]? = some y := ⟨_, List.getElem?_eq_getElem (by omega)⟩
    rw [hdx, drop_cons hy] at hg
    refine hw_skip ?_
    refine seqQ_n ?_
    refine hw_seq ?_
    refine hw_block ?_
    refine hw_reg ?_
    refine dp rfl (pop_move rfl) ?_
    refine dp rfl (pop_assign rfl) ?_
    refine dn ?_
    refine hw_draw (fun _ => True) [] mixed ?_
    refine ahp 0 rfl rfl (by kernel_rfl) (by kernel_rfl) (pop_move rfl) ?_
    refine ahp 1 rfl rfl (by kernel_rfl) (by kernel_rfl) (pop_move rfl) ?_
    refine ahp 2 rfl rfl (by kernel_rfl) (by kernel_rfl) (pop_idx ty26 ty36 rfl rfl rfl (by first | assumption | simp_all)) ?_
    refine ahp 3 rfl rfl (by kernel_rfl) (by kernel_rfl) (pop_loadw ty36 rfl rfl rfl rfl) ?_
    refine ahp 4 rfl rfl (by kernel_rfl) (by kernel_rfl) (pop_move rfl) ?_
    refine ahp 5 rfl rfl (by kernel_rfl) (by kernel_rfl) (pop_move rfl) ?_
    refine ahp 6 rfl rfl (by kernel_rfl) (by kernel_rfl) (pop_idx ty26 ty36 rfl rfl rfl (by first | assumption | simp_all)) ?_
    refine ahp 7 rfl rfl (by kernel_rfl) (by kernel_rfl) (pop_loadw ty36 rfl rfl rfl rfl) ?_
    refine ahp 8 rfl rfl (by kernel_rfl) (by kernel_rfl) (pop_neqst ty36 eq36 rfl rfl ⟨rfl, ⟨_, _, _, _, ty9, rfl⟩, ⟨rfl, ⟨_, _, _, _, ty9, rfl⟩, ⟨rfl, ⟨_, _, _, _, ty3, rfl⟩, trivial⟩⟩⟩) ?_
    refine ahz (by kernel_rfl) ?_
    refine hw_cond rfl (fun h5 => ?_) (fun h6 => ?_)
    ·try simp at h5
     refine hw_reg ?_
     refine dp rfl (pop_assign rfl) ?_
     refine dn ?_
     refine hw_ret ?_
     refine ret_p rfl ?_
     show HVal.bool _ = _
     first | (congr 1; symm; exact eqSts_len (by omega)) | (rw [hg.2, eqSts, show eqSt eAsset x y = false from h5]; rfl) | (rw [hg.2, drop_all (Nat.le_of_eq hg.1.symm)]; rfl)
    ·try simp at h6
     refine hw_skip ?_
     refine blockQ_n ?_
     refine seqQ_n ?_
     refine hw_reg1 ?_
     refine dp rfl (pop_add64 rfl rfl (by omega) (by omega)) ?_
     refine dp rfl (pop_move rfl) ?_
     refine dn ?_
     refine ⟨k + 1, ?_, ?_, ⟨rfl, trivial⟩, (by repeat (first | exact keeps_refl | refine keeps_upd rfl ?_ | refine keeps_loop rfl rfl ?_)), List.Perm.refl _⟩
     ·refine ⟨by omega, hg.1, ?_⟩
      rw [hg.2, eqSts, show eqSt eAsset x y = true from h6]; rfl
     ·dsimp only; omega
   ·try simp at h4
    have hnk : l.length ≤ k := by omega
    obtain rfl : k = l.length := by omega
    rw [drop_all (Nat.le_refl _)] at hg
    refine hw_exit ?_
    refine seqQ_x ?_
    refine loopQ_x ?_
    refine blockQ_eq ?_
    refine seqQ_n ?_
    refine hw_reg ?_
    refine dp rfl (pop_assign rfl) ?_
    refine dn ?_
    refine hw_ret ?_
    refine ret_p rfl ?_
    show HVal.bool _ = _
    first | (congr 1; symm; exact eqSts_len (by omega)) | (rw [hg.2, eqSts, show eqSt eAsset x y = false from h5]; rfl) | (rw [hg.2, drop_all (Nat.le_of_eq hg.1.symm)]; rfl)

/-- benchwarmer/benchlaw1.valued -/
theorem c_benchlaw1_valued [Tracks]   : ConP Tryz.prog 28 [] (.bool true) := by
 refine Con.of_body Tryz.func28 rfl Tryz.ntmps28 rfl rfl ?_
 refine hw_reg ?_
 refine dp rfl (pop_assign rfl) ?_
 refine dn ?_
 refine hw_reg ?_
 refine dp rfl (pop_build (cs := [_, _, _]) ty36 pl36 rfl) ?_
 refine dp rfl (pop_buildSlice (hs := [_]) ty26 ty36 rfl rfl (by decide) (by decide) rfl) ?_
 refine dp rfl (pop_build (cs := [_, _]) ty95 pl95 rfl) ?_
 refine dp rfl (pop_buildSlice (hs := [_]) ty40 ty95 rfl rfl (by decide) (by decide) rfl) ?_
 refine dp rfl (pop_call ca46 rfl (WeakL.refl _) (c_value_Fielded (l := [asset1]) (p := [place1]) (by decide) (by decide))) ?_
 refine dp rfl (pop_move rfl) ?_
 refine dp rfl (pop_extract rfl rfl) ?_
 refine dp rfl (pop_extract rfl rfl) ?_
 refine dp rfl (pop_extract rfl rfl) ?_
 refine dp rfl (pop_assign rfl) ?_
 refine dp rfl (pop_assign rfl) ?_
 refine dp rfl (pop_assign rfl) ?_
 refine dn ?_
 simp only [one_ok, one_sum, one_names]
 refine hw_reg ?_
 refine dp rfl (pop_move rfl) ?_
 refine dp rfl (pop_eql rfl rfl) ?_
 refine dp rfl (pop_move rfl) ?_
 refine dg rfl rfl (fun hc => ⟨_, OpenTo.refl _, pop_move rfl⟩) ?_
 refine dg rfl rfl (fun hc => ⟨_, OpenTo.upd (t := 16) rfl (by first | exact hc | simp_all) (OpenTo.refl _), pop_eql rfl rfl⟩) ?_
 refine dp rfl (pop_picko rfl (.inr ⟨_, rfl, fun h => by simp_all⟩) (.inl rfl)) ?_
 refine dp rfl (pop_move rfl) ?_
 refine dg rfl rfl (fun hc => ⟨_, OpenTo.refl _, pop_move rfl⟩) ?_
 refine dg rfl rfl (fun hc => ⟨_, OpenTo.refl _, pop_buildSlice (hs := [_]) ty44 ty9 rfl rfl (by decide) (by decide) rfl⟩) ?_
 refine dg rfl rfl (fun hc => ⟨_, OpenTo.upd (t := 21) rfl (by first | exact hc | simp_all) (OpenTo.upd (t := 20) rfl (by first | exact hc | simp_all) (OpenTo.refl _)), pop_call ca25 rfl (WeakL.refl _) (c_slices_Equal_string_string (l := [[97]]) (m := [[97]]) (by decide))⟩) ?_
 refine dp rfl (pop_picko rfl (.inr ⟨_, rfl, fun h => by simp_all⟩) (.inl rfl)) ?_
 refine dp rfl (pop_assign rfl) ?_
 refine dn ?_
 refine hw_ret ?_
 refine ret_p rfl ?_
 rfl

set_option maxHeartbeats 4000000 in
/-- benchwarmer/benchlaw1.SwapsWeighed -/
theorem c_benchlaw1_SwapsWeighed [Tracks] {l : List Int} (hT : Tracks.on = false) : ConP Tryz.prog 4 [.slice 1 (l.map (.int .i64))] (.bool true) := by
 refine Con.of_body Tryz.func4 rfl Tryz.ntmps4 rfl rfl ?_
 refine hw_reg ?_
 refine dp rfl (pop_assign rfl) ?_
 refine dn ?_
 refine hw_reg ?_
 refine dp rfl (pop_move rfl) ?_
 refine dp rfl (pop_build (cs := [_, _]) ty25 pl25 rfl) ?_
 refine de rfl (eop_box rfl rfl fun b => ?_)
 refine dghost (M' := [St b l 0]) rfl ?_
 refine dp rfl (pop_assign rfl) ?_
 refine dn ?_
 refine hw_reg ?_
 refine dp rfl (pop_move rfl) ?_
 first
 | refine de rfl (eop_callx (i := 0) ca5 rfl (WeakL.refl _) rfl (c_benchmake_Stream_AssetList (by first | assumption | omega | (simp; omega) | simp_all) (by first | assumption | omega | (simp; omega) | simp_all)) ?_)
 | refine de rfl (eop_callx (i := 1) ca5 rfl (WeakL.refl _) rfl (c_benchmake_Stream_AssetList (by first | assumption | omega | (simp; omega) | simp_all) (by first | assumption | omega | (simp; omega) | simp_all)) ?_)
 | refine de rfl (eop_callx (i := 2) ca5 rfl (WeakL.refl _) rfl (c_benchmake_Stream_AssetList (by first | assumption | omega | (simp; omega) | simp_all) (by first | assumption | omega | (simp; omega) | simp_all)) ?_)
 | refine de rfl (eop_callx (i := 3) ca5 rfl (WeakL.refl _) rfl (c_benchmake_Stream_AssetList (by first | assumption | omega | (simp; omega) | simp_all) (by first | assumption | omega | (simp; omega) | simp_all)) ?_)
 rintro _ _ ⟨l42, a42, rfl, hl42, ha42, rfl⟩
 refine dp rfl (pop_move rfl) ?_
 first
 | refine de rfl (eop_callx (i := 0) ca5 rfl (WeakL.refl _) rfl (c_benchmake_Stream_AssetList (by first | assumption | omega | (simp; omega) | simp_all) (by first | assumption | omega | (simp; omega) | simp_all)) ?_)
 | refine de rfl (eop_callx (i := 1) ca5 rfl (WeakL.refl _) rfl (c_benchmake_Stream_AssetList (by first | assumption | omega | (simp; omega) | simp_all) (by first | assumption | omega | (simp; omega) | simp_all)) ?_)
 | refine de rfl (eop_callx (i := 2) ca5 rfl (WeakL.refl _) rfl (c_benchmake_Stream_AssetList (by first | assumption | omega | (simp; omega) | simp_all) (by first | assumption | omega | (simp; omega) | simp_all)) ?_)
 | refine de rfl (eop_callx (i := 3) ca5 rfl (WeakL.refl _) rfl (c_benchmake_Stream_AssetList (by first | assumption | omega | (simp; omega) | simp_all) (by first | assumption | omega | (simp; omega) | simp_all)) ?_)
 rintro _ _ ⟨l44, a44, rfl, hl44, ha44, rfl⟩
 refine dp rfl (pop_move rfl) ?_
 first
 | refine de rfl (eop_callx (i := 0) ca12 rfl (WeakL.refl _) rfl (c_benchmake_Stream_PlaceList (by first | assumption | omega | (simp; omega) | simp_all)) ?_)
 | refine de rfl (eop_callx (i := 1) ca12 rfl (WeakL.refl _) rfl (c_benchmake_Stream_PlaceList (by first | assumption | omega | (simp; omega) | simp_all)) ?_)
 | refine de rfl (eop_callx (i := 2) ca12 rfl (WeakL.refl _) rfl (c_benchmake_Stream_PlaceList (by first | assumption | omega | (simp; omega) | simp_all)) ?_)
 | refine de rfl (eop_callx (i := 3) ca12 rfl (WeakL.refl _) rfl (c_benchmake_Stream_PlaceList (by first | assumption | omega | (simp; omega) | simp_all)) ?_)
 rintro _ _ ⟨p46, a46, rfl, hp46, ha46, rfl⟩
 refine dp rfl (pop_move rfl) ?_
 refine dp rfl (pop_buildSlice (hs := [_, _, _, _, _]) ty22 ty3 rfl rfl (by decide) (by decide) rfl) ?_
 first
 | refine de rfl (eop_callx (i := 0) ca13 rfl (WeakL.refl _) rfl (c_benchmake_Stream_Pick (L := [_, _, _, _, _]) (by first | assumption | omega | (simp; omega) | simp_all) (by first | assumption | omega | (simp; omega) | simp_all) (by first | assumption | omega | (simp; omega) | simp_all)) ?_)
 | refine de rfl (eop_callx (i := 1) ca13 rfl (WeakL.refl _) rfl (c_benchmake_Stream_Pick (L := [_, _, _, _, _]) (by first | assumption | omega | (simp; omega) | simp_all) (by first | assumption | omega | (simp; omega) | simp_all) (by first | assumption | omega | (simp; omega) | simp_all)) ?_)
 | refine de rfl (eop_callx (i := 2) ca13 rfl (WeakL.refl _) rfl (c_benchmake_Stream_Pick (L := [_, _, _, _, _]) (by first | assumption | omega | (simp; omega) | simp_all) (by first | assumption | omega | (simp; omega) | simp_all) (by first | assumption | omega | (simp; omega) | simp_all)) ?_)
 | refine de rfl (eop_callx (i := 3) ca13 rfl (WeakL.refl _) rfl (c_benchmake_Stream_Pick (L := [_, _, _, _, _]) (by first | assumption | omega | (simp; omega) | simp_all) (by first | assumption | omega | (simp; omega) | simp_all) (by first | assumption | omega | (simp; omega) | simp_all)) ?_)
 rintro _ _ ⟨y49, rfl, hy49, rfl⟩
 refine dp rfl (pop_assign rfl) ?_
 refine dp rfl (pop_assign rfl) ?_
 refine dp rfl (pop_assign rfl) ?_
 refine dp rfl (pop_assign rfl) ?_
 refine dn ?_
 have hal := hl42.len
 have hbl0 := hl44.len
 have hppl := hp46.len
 have hla : l42.length ≤ 8 := by omega
 refine hw_join [5, 50, 51, 52, 53] (fun (q : List Asset × Nat) => [(5, eAssets q.1)]) (fun (q : List Asset × Nat) => [St b l q.2]) (fun (q : List Asset × Nat) => q.1.length ≤ 7 ∧ q.2 ≤ 400) ?_ ?_
 ·skip
  refine hw_reg ?_
  refine dp rfl (pop_move rfl) ?_
  first
  | refine de rfl (eop_callx (i := 0) ca14 rfl (WeakL.refl _) rfl (c_benchmake_Stream_Flip (by first | assumption | omega | (simp; omega) | simp_all) (by first | assumption | omega | (simp; omega) | simp_all)) ?_)
  | refine de rfl (eop_callx (i := 1) ca14 rfl (WeakL.refl _) rfl (c_benchmake_Stream_Flip (by first | assumption | omega | (simp; omega) | simp_all) (by first | assumption | omega | (simp; omega) | simp_all)) ?_)
  | refine de rfl (eop_callx (i := 2) ca14 rfl (WeakL.refl _) rfl (c_benchmake_Stream_Flip (by first | assumption | omega | (simp; omega) | simp_all) (by first | assumption | omega | (simp; omega) | simp_all)) ?_)
  | refine de rfl (eop_callx (i := 3) ca14 rfl (WeakL.refl _) rfl (c_benchmake_Stream_Flip (by first | assumption | omega | (simp; omega) | simp_all) (by first | assumption | omega | (simp; omega) | simp_all)) ?_)
  rintro _ _ ⟨y51, rfl, rfl⟩
  refine dn ?_
  refine hw_cond rfl (fun h1 => ?_) (fun h2 => ?_)
  ·try simp at h1
   refine hw_reg1 ?_
   refine dp rfl (pop_move rfl) ?_
   first
   | refine de rfl (eop_callx (i := 0) ca5 rfl (WeakL.refl _) rfl (c_benchmake_Stream_AssetList (by first | assumption | omega | (simp; omega) | simp_all) (by first | assumption | omega | (simp; omega) | simp_all)) ?_)
   | refine de rfl (eop_callx (i := 1) ca5 rfl (WeakL.refl _) rfl (c_benchmake_Stream_AssetList (by first | assumption | omega | (simp; omega) | simp_all) (by first | assumption | omega | (simp; omega) | simp_all)) ?_)
   | refine de rfl (eop_callx (i := 2) ca5 rfl (WeakL.refl _) rfl (c_benchmake_Stream_AssetList (by first | assumption | omega | (simp; omega) | simp_all) (by first | assumption | omega | (simp; omega) | simp_all)) ?_)
   | refine de rfl (eop_callx (i := 3) ca5 rfl (WeakL.refl _) rfl (c_benchmake_Stream_AssetList (by first | assumption | omega | (simp; omega) | simp_all) (by first | assumption | omega | (simp; omega) | simp_all)) ?_)
   rintro _ _ ⟨l53, a53, rfl, hl53, ha53, rfl⟩
   refine dp rfl (pop_assign rfl) ?_
   refine dn ?_
   exact ⟨(l53, a53), ⟨hl53.len, by dsimp only; omega⟩, ⟨rfl, trivial⟩, (by repeat (first | exact keeps_refl | refine keeps_upd rfl ?_ | refine keeps_loop rfl rfl ?_)), List.Perm.refl _⟩
  ·try simp at h2
   refine hw_skip ?_
   exact ⟨(l44, a46 + 1 + 1), ⟨hl44.len, by dsimp only; omega⟩, ⟨rfl, trivial⟩, (by repeat (first | exact keeps_refl | refine keeps_upd rfl ?_ | refine keeps_loop rfl rfl ?_)), List.Perm.refl _⟩
 ·intro q hq
  obtain ⟨lb, a1⟩ := q
  dsimp only at hq
  obtain ⟨hq1, hq2⟩ := hq
  refine hw_reg ?_
  refine dp rfl (pop_assign rfl) ?_
  refine dp rfl (pop_assign rfl) ?_
  refine dn ?_
  have hlb : lb.length ≤ 8 := by omega
  refine hw_ghost (Ghost.arr_nil 1) ?_
  refine hw_seq ?_
  refine hw_reg ?_
  refine dp rfl (pop_move rfl) ?_
  refine dp rfl (pop_lenm ty26 rfl) ?_
  refine dp rfl (pop_move rfl) ?_
  refine dn ?_
  refine hw_block ?_
  refine hw_loopw4 [8, 11, 56, 57, 58, 59, 60, 61, 62, 63, 64, 65, 66, 67] (fun (k : Nat) (u : Value) (gv : List Str) (a2 : Nat) => [(56, .int .i64 k), (8, .raw u)]) (fun (k : Nat) (u : Value) (gv : List Str) (a2 : Nat) => [St b l a2, .arr u 1 (gv.map .str)]) (fun (k : Nat) (u : Value) (gv : List Str) (a2 : Nat) => k ≤ l42.length ∧ (gv.length ≤ k ∧ a2 ≤ a1 + k)) (fun (k : Nat) (u : Value) (gv : List Str) (a2 : Nat) => l42.length - k) (0) (.slice none 0 0) ([]) (a1) ?_ ?_ ?_ ?_
  ·exact ⟨Nat.zero_le _, Nat.zero_le _, Nat.le_refl _⟩
  ·exact ⟨rfl, rfl, trivial⟩
  ·repeat (first | exact List.Perm.nil | refine permTo 0 rfl ?_ | refine permTo 1 rfl ?_ | refine permTo 2 rfl ?_ | refine permTo 3 rfl ?_ | (refine permToE 0 rfl ?hq ?_; (case hq => simp [setL, hcells]; done)) | (refine permToE 1 rfl ?hq ?_; (case hq => simp [setL, hcells]; done)) | (refine permToE 2 rfl ?hq ?_; (case hq => simp [setL, hcells]; done)) | (refine permToE 3 rfl ?hq ?_; (case hq => simp [setL, hcells]; done)) | fail)
  ·intro k u gv a2 hinv
   obtain ⟨hk, ⟨hgv, ha2⟩⟩ := hinv
   refine hw_reg ?_
   refine dp rfl (pop_lss rfl rfl) ?_
   refine dn ?_
   refine hw_seq ?_
   refine hw_cond rfl (fun h3 => ?_) (fun h4 => ?_)
   ·try simp at h3
    obtain ⟨x, hx⟩ : ∃ x, l42[k]? = some x := ⟨_, List.getElem?_eq_getElem h3⟩
    have hdx := drop_cons hx
    refine hw_skip ?_
    refine seqQ_n ?_
    refine hw_seq ?_
    refine hw_block ?_
    refine hw_reg ?_
    refine dp rfl (pop_idx ty26 ty36 rfl rfl rfl (by first | assumption | simp_all)) ?_
    refine dp rfl (pop_loadw ty36 rfl rfl rfl rfl) ?_
    refine de rfl (eop_alloc ty36 rfl fun b11 => ?_)
    refine de0 (eop_storew ty36 rfl rfl rfl rfl rfl ?_)
    refine dn ?_
    refine hw_ghost (Ghost.fc0 11 rfl) ?_
    refine hw_reg ?_
    refine dp rfl (pop_move rfl) ?_
    first
    | refine de rfl (eop_callx (i := 0) ca14 rfl (WeakL.refl _) rfl (c_benchmake_Stream_Flip (by first | assumption | omega | (simp; omega) | simp_all) (by first | assumption | omega | (simp; omega) | simp_all)) ?_)
    | refine de rfl (eop_callx (i := 1) ca14 rfl (WeakL.refl _) rfl (c_benchmake_Stream_Flip (by first | assumption | omega | (simp; omega) | simp_all) (by first | assumption | omega | (simp; omega) | simp_all)) ?_)
    | refine de rfl (eop_callx (i := 2) ca14 rfl (WeakL.refl _) rfl (c_benchmake_Stream_Flip (by first | assumption | omega | (simp; omega) | simp_all) (by first | assumption | omega | (simp; omega) | simp_all)) ?_)
    | refine de rfl (eop_callx (i := 3) ca14 rfl (WeakL.refl _) rfl (c_benchmake_Stream_Flip (by first | assumption | omega | (simp; omega) | simp_all) (by first | assumption | omega | (simp; omega) | simp_all)) ?_)
    rintro _ _ ⟨y61, rfl, rfl⟩
    refine dn ?_
    refine hw_cond rfl (fun h5 => ?_) (fun h6 => ?_)
    ·try simp at h5
     refine hw_reg1 ?_
     refine dp rfl (pop_move rfl) ?_
     refine dp rfl ((by first | exact pop_fieldAddr ty36 rfl ty9 (by decide) rfl | exact pop_fieldAddr_raw ty36 rfl ty9 (by decide) rfl)) ?_
     refine dp rfl (pop_load ty9 rfl rfl rfl) ?_
     refine dp rfl (pop_buildSlice (hs := [_]) ty44 ty9 rfl rfl (by decide) (by decide) rfl) ?_
     refine de rfl (eop_append (i := 1) ty44 ty9 rfl rfl rfl rfl rfl (by simp [flat, hcells]) (by simp; omega) fun v66 => ?_)
     refine dp rfl (pop_assign rfl) ?_
     refine dn ?_
     refine blockQ_n ?_
     refine seqQ_n ?_
     refine hw_reg1 ?_
     refine dp rfl (pop_add64 rfl rfl (by omega) (by omega)) ?_
     refine dp rfl (pop_move rfl) ?_
     refine dn ?_
     exact ⟨k + 1, v66, gv ++ [x.Player], a2 + 1, ⟨by omega, by simp; omega, by omega⟩, by dsimp only; omega, ⟨rfl, rfl, trivial⟩, (by repeat (first | exact keeps_refl | refine keeps_upd rfl ?_ | refine keeps_loop rfl rfl ?_)), by repeat (first | exact List.Perm.nil | refine permTo 0 rfl ?_ | refine permTo 1 rfl ?_ | refine permTo 2 rfl ?_ | refine permTo 3 rfl ?_ | (refine permToE 0 rfl ?hq ?_; (case hq => simp [setL, hcells]; done)) | (refine permToE 1 rfl ?hq ?_; (case hq => simp [setL, hcells]; done)) | (refine permToE 2 rfl ?hq ?_; (case hq => simp [setL, hcells]; done)) | (refine permToE 3 rfl ?hq ?_; (case hq => simp [setL, hcells]; done)) | fail)⟩
    ·try simp at h6
     refine hw_skip ?_
     refine blockQ_n ?_
     refine seqQ_n ?_
     refine hw_reg1 ?_
     refine dp rfl (pop_add64 rfl rfl (by omega) (by omega)) ?_
     refine dp rfl (pop_move rfl) ?_
     refine dn ?_
     exact ⟨k + 1, u, gv, a2 + 1, ⟨by omega, by omega, by omega⟩, by dsimp only; omega, ⟨rfl, rfl, trivial⟩, (by repeat (first | exact keeps_refl | refine keeps_upd rfl ?_ | refine keeps_loop rfl rfl ?_)), by repeat (first | exact List.Perm.nil | refine permTo 0 rfl ?_ | refine permTo 1 rfl ?_ | refine permTo 2 rfl ?_ | refine permTo 3 rfl ?_ | (refine permToE 0 rfl ?hq ?_; (case hq => simp [setL, hcells]; done)) | (refine permToE 1 rfl ?hq ?_; (case hq => simp [setL, hcells]; done)) | (refine permToE 2 rfl ?hq ?_; (case hq => simp [setL, hcells]; done)) | (refine permToE 3 rfl ?hq ?_; (case hq => simp [setL, hcells]; done)) | fail)⟩
   ·try simp at h4
    have hnk : l42.length ≤ k := by omega
    obtain rfl : k = l42.length := by omega
    refine hw_exit ?_
    refine seqQ_x ?_
    refine loopQ4_x ?_
    refine blockQ_eq ?_
    refine seqQ_n ?_
    refine hw_seq ?_
    refine hw_reg ?_
    refine dp rfl (pop_move rfl) ?_
    refine dp rfl (pop_lenm ty26 rfl) ?_
    refine dp rfl (pop_move rfl) ?_
    refine dn ?_
    refine hw_ghost (Ghost.arr_nil 1) ?_
    refine hw_block ?_
    refine hw_loopw4 [9, 13, 70, 71, 72, 73, 74, 75, 76, 77, 78, 79, 80, 81] (fun (k : Nat) (w : Value) (tk : List Str) (a3 : Nat) => [(70, .int .i64 k), (9, .raw w)]) (fun (k : Nat) (w : Value) (tk : List Str) (a3 : Nat) => [St b l a3, .arr w 1 (tk.map .str), .arr u 1 (gv.map .str)]) (fun (k : Nat) (w : Value) (tk : List Str) (a3 : Nat) => k ≤ lb.length ∧ (tk.length ≤ k ∧ a3 ≤ a2 + k)) (fun (k : Nat) (w : Value) (tk : List Str) (a3 : Nat) => lb.length - k) (0) (.slice none 0 0) ([]) (a2) ?_ ?_ ?_ ?_
    ·exact ⟨Nat.zero_le _, Nat.zero_le _, Nat.le_refl _⟩
    ·exact ⟨rfl, rfl, trivial⟩
    ·repeat (first | exact List.Perm.nil | refine permTo 0 rfl ?_ | refine permTo 1 rfl ?_ | refine permTo 2 rfl ?_ | refine permTo 3 rfl ?_ | (refine permToE 0 rfl ?hq ?_; (case hq => simp [setL, hcells]; done)) | (refine permToE 1 rfl ?hq ?_; (case hq => simp [setL, hcells]; done)) | (refine permToE 2 rfl ?hq ?_; (case hq => simp [setL, hcells]; done)) | (refine permToE 3 rfl ?hq ?_; (case hq => simp [setL, hcells]; done)) | fail)
    ·intro k w tk a3 hinv
     obtain ⟨hk, ⟨htk, ha3⟩⟩ := hinv
     refine hw_reg ?_
     refine dp rfl (pop_lss rfl rfl) ?_
     refine dn ?_
     refine hw_seq ?_
     refine hw_cond rfl (fun h7 => ?_) (fun h8 => ?_)
     ·try simp at h7
      obtain ⟨x, hx⟩ : ∃ x, lb[k]? = some x := ⟨_, List.getElem?_eq_getElem h7⟩
      have hdx := drop_cons hx
      refine hw_skip ?_
      refine seqQ_n ?_
      refine hw_seq ?_
      refine hw_block ?_
      refine hw_reg ?_
      refine dp rfl (pop_idx ty26 ty36 rfl rfl rfl (by first | assumption | simp_all)) ?_
      refine dp rfl (pop_loadw ty36 rfl rfl rfl rfl) ?_
      refine de rfl (eop_alloc ty36 rfl fun b13 => ?_)
      refine de0 (eop_storew ty36 rfl rfl rfl rfl rfl ?_)
      refine dn ?_
      refine hw_ghost (Ghost.fc0 13 rfl) ?_
      refine hw_reg ?_
      refine dp rfl (pop_move rfl) ?_
      first
      | refine de rfl (eop_callx (i := 0) ca14 rfl (WeakL.refl _) rfl (c_benchmake_Stream_Flip (by first | assumption | omega | (simp; omega) | simp_all) (by first | assumption | omega | (simp; omega) | simp_all)) ?_)
      | refine de rfl (eop_callx (i := 1) ca14 rfl (WeakL.refl _) rfl (c_benchmake_Stream_Flip (by first | assumption | omega | (simp; omega) | simp_all) (by first | assumption | omega | (simp; omega) | simp_all)) ?_)
      | refine de rfl (eop_callx (i := 2) ca14 rfl (WeakL.refl _) rfl (c_benchmake_Stream_Flip (by first | assumption | omega | (simp; omega) | simp_all) (by first | assumption | omega | (simp; omega) | simp_all)) ?_)
      | refine de rfl (eop_callx (i := 3) ca14 rfl (WeakL.refl _) rfl (c_benchmake_Stream_Flip (by first | assumption | omega | (simp; omega) | simp_all) (by first | assumption | omega | (simp; omega) | simp_all)) ?_)
      rintro _ _ ⟨y75, rfl, rfl⟩
      refine dn ?_
      refine hw_cond rfl (fun h9 => ?_) (fun h10 => ?_)
      ·try simp at h9
       refine hw_reg1 ?_
       refine dp rfl (pop_move rfl) ?_
       refine dp rfl ((by first | exact pop_fieldAddr ty36 rfl ty9 (by decide) rfl | exact pop_fieldAddr_raw ty36 rfl ty9 (by decide) rfl)) ?_
       refine dp rfl (pop_load ty9 rfl rfl rfl) ?_
       refine dp rfl (pop_buildSlice (hs := [_]) ty44 ty9 rfl rfl (by decide) (by decide) rfl) ?_
       refine de rfl (eop_append (i := 1) ty44 ty9 rfl rfl rfl rfl rfl (by simp [flat, hcells]) (by simp; omega) fun v80 => ?_)
       refine dp rfl (pop_assign rfl) ?_
       refine dn ?_
       refine blockQ_n ?_
       refine seqQ_n ?_
       refine hw_reg1 ?_
       refine dp rfl (pop_add64 rfl rfl (by omega) (by omega)) ?_
       refine dp rfl (pop_move rfl) ?_
       refine dn ?_
       exact ⟨k + 1, v80, tk ++ [x.Player], a3 + 1, ⟨by omega, by simp; omega, by omega⟩, by dsimp only; omega, ⟨rfl, rfl, trivial⟩, (by repeat (first | exact keeps_refl | refine keeps_upd rfl ?_ | refine keeps_loop rfl rfl ?_)), by repeat (first | exact List.Perm.nil | refine permTo 0 rfl ?_ | refine permTo 1 rfl ?_ | refine permTo 2 rfl ?_ | refine permTo 3 rfl ?_ | (refine permToE 0 rfl ?hq ?_; (case hq => simp [setL, hcells]; done)) | (refine permToE 1 rfl ?hq ?_; (case hq => simp [setL, hcells]; done)) | (refine permToE 2 rfl ?hq ?_; (case hq => simp [setL, hcells]; done)) | (refine permToE 3 rfl ?hq ?_; (case hq => simp [setL, hcells]; done)) | fail)⟩
      ·try simp at h10
       refine hw_skip ?_
       refine blockQ_n ?_
       refine seqQ_n ?_
       refine hw_reg1 ?_
       refine dp rfl (pop_add64 rfl rfl (by omega) (by omega)) ?_
       refine dp rfl (pop_move rfl) ?_
       refine dn ?_
       exact ⟨k + 1, w, tk, a3 + 1, ⟨by omega, by omega, by omega⟩, by dsimp only; omega, ⟨rfl, rfl, trivial⟩, (by repeat (first | exact keeps_refl | refine keeps_upd rfl ?_ | refine keeps_loop rfl rfl ?_)), by repeat (first | exact List.Perm.nil | refine permTo 0 rfl ?_ | refine permTo 1 rfl ?_ | refine permTo 2 rfl ?_ | refine permTo 3 rfl ?_ | (refine permToE 0 rfl ?hq ?_; (case hq => simp [setL, hcells]; done)) | (refine permToE 1 rfl ?hq ?_; (case hq => simp [setL, hcells]; done)) | (refine permToE 2 rfl ?hq ?_; (case hq => simp [setL, hcells]; done)) | (refine permToE 3 rfl ?hq ?_; (case hq => simp [setL, hcells]; done)) | fail)⟩
     ·try simp at h8
      have hnk : lb.length ≤ k := by omega
      obtain rfl : k = lb.length := by omega
      refine hw_ghost (Ghost.fa 9 (i := 1) rfl rfl) ?_
      refine hw_exit ?_
      refine seqQ_x ?_
      refine loopQ4_x ?_
      refine blockQ_eq ?_
      refine seqQ_n ?_
      refine hw_join [8, 82, 83, 84, 85, 86, 87, 88, 89] (fun (q : Value × List Str × Nat) => [(8, .raw q.1)]) (fun (q : Value × List Str × Nat) => [St b l q.2.2, .arr q.1 1 (q.2.1.map .str)]) (fun (q : Value × List Str × Nat) => q.2.1.length ≤ 8 ∧ q.2.2 ≤ 500) ?_ ?_
      ·skip
       refine hw_reg ?_
       refine dp rfl (pop_move rfl) ?_
       first
       | refine de rfl (eop_callx (i := 0) ca14 rfl (WeakL.refl _) rfl (c_benchmake_Stream_Flip (by first | assumption | omega | (simp; omega) | simp_all) (by first | assumption | omega | (simp; omega) | simp_all)) ?_)
       | refine de rfl (eop_callx (i := 1) ca14 rfl (WeakL.refl _) rfl (c_benchmake_Stream_Flip (by first | assumption | omega | (simp; omega) | simp_all) (by first | assumption | omega | (simp; omega) | simp_all)) ?_)
       | refine de rfl (eop_callx (i := 2) ca14 rfl (WeakL.refl _) rfl (c_benchmake_Stream_Flip (by first | assumption | omega | (simp; omega) | simp_all) (by first | assumption | omega | (simp; omega) | simp_all)) ?_)
       | refine de rfl (eop_callx (i := 3) ca14 rfl (WeakL.refl _) rfl (c_benchmake_Stream_Flip (by first | assumption | omega | (simp; omega) | simp_all) (by first | assumption | omega | (simp; omega) | simp_all)) ?_)
       rintro _ _ ⟨y83, rfl, rfl⟩
       refine dn ?_
       refine hw_cond rfl (fun h11 => ?_) (fun h12 => ?_)
       ·try simp at h11
        refine hw_reg1 ?_
        refine dp rfl (pop_move rfl) ?_
        refine dp rfl (pop_move rfl) ?_
        refine dp rfl (pop_buildSlice (hs := [_, _]) ty44 ty9 rfl rfl (by decide) (by decide) rfl) ?_
        first
        | refine de rfl (eop_callx (i := 0) ca15 rfl (WeakL.refl _) rfl (c_benchmake_Stream_Some (L := [_, _]) (by first | assumption | omega | (simp; omega) | simp_all) (by first | assumption | omega | (simp; omega) | simp_all) (by first | assumption | omega | (simp; omega) | simp_all)) ?_)
        | refine de rfl (eop_callx (i := 1) ca15 rfl (WeakL.refl _) rfl (c_benchmake_Stream_Some (L := [_, _]) (by first | assumption | omega | (simp; omega) | simp_all) (by first | assumption | omega | (simp; omega) | simp_all) (by first | assumption | omega | (simp; omega) | simp_all)) ?_)
        | refine de rfl (eop_callx (i := 2) ca15 rfl (WeakL.refl _) rfl (c_benchmake_Stream_Some (L := [_, _]) (by first | assumption | omega | (simp; omega) | simp_all) (by first | assumption | omega | (simp; omega) | simp_all) (by first | assumption | omega | (simp; omega) | simp_all)) ?_)
        | refine de rfl (eop_callx (i := 3) ca15 rfl (WeakL.refl _) rfl (c_benchmake_Stream_Some (L := [_, _]) (by first | assumption | omega | (simp; omega) | simp_all) (by first | assumption | omega | (simp; omega) | simp_all) (by first | assumption | omega | (simp; omega) | simp_all)) ?_)
        rintro _ _ ⟨y87, rfl, hy87, rfl⟩
        refine dp rfl (pop_buildSlice (hs := [_]) ty44 ty9 rfl rfl (by decide) (by decide) rfl) ?_
        refine de rfl (eop_append (i := 1) ty44 ty9 rfl rfl rfl rfl rfl (by simp [flat, hcells]) (by simp; omega) fun v89 => ?_)
        refine dp rfl (pop_assign rfl) ?_
        refine dn ?_
        exact ⟨(v89, gv ++ [y87], a3 + 1 + 1), ⟨by simp; omega, by dsimp only; omega⟩, ⟨rfl, trivial⟩, (by repeat (first | exact keeps_refl | refine keeps_upd rfl ?_ | refine keeps_loop rfl rfl ?_)), by repeat (first | exact List.Perm.nil | refine permTo 0 rfl ?_ | refine permTo 1 rfl ?_ | refine permTo 2 rfl ?_ | refine permTo 3 rfl ?_ | (refine permToE 0 rfl ?hq ?_; (case hq => simp [setL, hcells]; done)) | (refine permToE 1 rfl ?hq ?_; (case hq => simp [setL, hcells]; done)) | (refine permToE 2 rfl ?hq ?_; (case hq => simp [setL, hcells]; done)) | (refine permToE 3 rfl ?hq ?_; (case hq => simp [setL, hcells]; done)) | fail)⟩
       ·try simp at h12
        refine hw_skip ?_
        exact ⟨(u, gv, a3 + 1), ⟨by dsimp only; omega, by dsimp only; omega⟩, ⟨rfl, trivial⟩, (by repeat (first | exact keeps_refl | refine keeps_upd rfl ?_ | refine keeps_loop rfl rfl ?_)), by repeat (first | exact List.Perm.nil | refine permTo 0 rfl ?_ | refine permTo 1 rfl ?_ | refine permTo 2 rfl ?_ | refine permTo 3 rfl ?_ | (refine permToE 0 rfl ?hq ?_; (case hq => simp [setL, hcells]; done)) | (refine permToE 1 rfl ?hq ?_; (case hq => simp [setL, hcells]; done)) | (refine permToE 2 rfl ?hq ?_; (case hq => simp [setL, hcells]; done)) | (refine permToE 3 rfl ?hq ?_; (case hq => simp [setL, hcells]; done)) | fail)⟩
      ·intro q hq
       obtain ⟨u5, gw, a5⟩ := q
       dsimp only at hq
       obtain ⟨hq3, hq4⟩ := hq
       refine hw_ghost (Ghost.fa 8 (i := 1) rfl rfl) ?_
       obtain ⟨hbl1, hbl2⟩ := best_lens l42 lb p46 y49
       refine hw_reg ?_
       refine dp rfl (pop_move rfl) ?_
       refine dp rfl (pop_call ca6 rfl (WeakL.refl _) (c_benchref1_AssetsFault_u (l := l42) (by omega))) ?_
       refine dp rfl (pop_move rfl) ?_
       refine dp rfl (pop_call ca6 rfl (WeakL.refl _) (c_benchref1_AssetsFault_u (l := lb) (by omega))) ?_
       refine dp rfl (pop_move rfl) ?_
       refine dp rfl (pop_call ca17 rfl (WeakL.refl _) (c_benchref1_PlacesFault (l := p46) (by omega) hp46.all)) ?_
       refine dp rfl (pop_move rfl) ?_
       refine dp rfl (pop_move rfl) ?_
       refine dp rfl (pop_call ca18 rfl (WeakL.refl _) (c_benchref1_BothFault (a := l42) (b := lb) hla hlb)) ?_
       refine dp rfl (pop_buildSlice (hs := [_, _, _, _]) ty100 ty28 rfl rfl (by decide) (by decide) rfl) ?_
       refine dp rfl (pop_call ca16 rfl (WeakL.refl _) (c_cmp_Or_api_Errno (l := [_, _, _, _]) (by simp))) ?_
       refine dp rfl (pop_assign rfl) ?_
       refine dn ?_
       rw [swapE_is]
       refine hw_reg ?_
       refine dp rfl (pop_move rfl) ?_
       refine dp rfl (pop_move rfl) ?_
       refine dp rfl (pop_move rfl) ?_
       refine dp rfl (pop_move rfl) ?_
       refine dp rfl (pop_move rfl) ?_
       refine dp rfl (pop_call ca19 rfl (WeakL.refl _) (c_value_Swap_g (a := l42) (b := lb) (p := p46) (give := gw) (take := tk) hla hlb (by omega) (by omega) (by omega))) ?_
       refine dp rfl (pop_move rfl) ?_
       refine dp rfl (pop_extract rfl rfl) ?_
       refine dp rfl (pop_extract rfl rfl) ?_
       refine dp rfl (pop_extract rfl rfl) ?_
       refine dp rfl (pop_assign rfl) ?_
       refine dp rfl (pop_assign rfl) ?_
       refine dp rfl (pop_assign rfl) ?_
       refine dn ?_
       refine hw_reg ?_
       refine dp rfl (pop_move rfl) ?_
       refine dp rfl (pop_move rfl) ?_
       refine dp rfl (pop_move rfl) ?_
       refine dp rfl (pop_move rfl) ?_
       refine dp rfl (pop_call ca20 rfl (WeakL.refl _) (c_value_BestSwap_g (a := l42) (b := lb) (p := p46) (n := y49) hla hlb (by omega))) ?_
       refine dp rfl (pop_move rfl) ?_
       refine dp rfl (pop_extract rfl rfl) ?_
       refine dp rfl (pop_extract rfl rfl) ?_
       refine dp rfl (pop_extract rfl rfl) ?_
       refine dp rfl (pop_extract rfl rfl) ?_
       refine dp rfl (pop_assign rfl) ?_
       refine dp rfl (pop_assign rfl) ?_
       refine dp rfl (pop_assign rfl) ?_
       refine dp rfl (pop_assign rfl) ?_
       refine dn ?_
       refine hw_reg ?_
       refine dp rfl (pop_move rfl) ?_
       refine dp rfl (pop_move rfl) ?_
       refine dp rfl (pop_move rfl) ?_
       refine dp rfl (pop_call ca21 rfl (WeakL.refl _) (c_benchref1_NamesFault (l := l42) (who := gw) (by omega) (by omega))) ?_
       refine dp rfl (pop_move rfl) ?_
       refine dp rfl (pop_move rfl) ?_
       refine dp rfl (pop_call ca21 rfl (WeakL.refl _) (c_benchref1_NamesFault (l := lb) (who := tk) (by omega) (by omega))) ?_
       refine dp rfl (pop_buildSlice (hs := [_, _, _]) ty100 ty28 rfl rfl (by decide) (by decide) rfl) ?_
       refine dp rfl (pop_call ca16 rfl (WeakL.refl _) (c_cmp_Or_api_Errno (l := [_, _, _]) (by simp))) ?_
       refine dp rfl (pop_move rfl) ?_
       refine dp rfl (pop_move rfl) ?_
       refine dp rfl (pop_call ca22 rfl (WeakL.refl _) c_benchref1_SpanFault) ?_
       refine dp rfl (pop_buildSlice (hs := [_, _]) ty100 ty28 rfl rfl (by decide) (by decide) rfl) ?_
       refine dp rfl (pop_call ca16 rfl (WeakL.refl _) (c_cmp_Or_api_Errno (l := [_, _]) (by simp))) ?_
       refine dp rfl (pop_assign rfl) ?_
       refine dp rfl (pop_assign rfl) ?_
       refine dn ?_
       rw [show orI [swapE l42 lb p46, giveE l42 gw, giveE lb tk] = swapG l42 lb p46 gw tk from rfl, show orI [swapE l42 lb p46, if out y49 1 2 then 1 else 0] = bestE l42 lb p46 y49 from rfl]
       refine hw_reg ?_
       refine dp rfl (pop_assign rfl) ?_
       refine dp rfl (pop_assign rfl) ?_
       refine dn ?_
       refine hw_reg ?_
       refine dp rfl (pop_assign rfl) ?_
       refine dp rfl (pop_assign rfl) ?_
       refine dn ?_
       refine hw_ghost (Ghost.arr_nil 1) ?_
       refine hw_ghost (Ghost.fa 26 (i := 0) rfl rfl) ?_
       refine hw_ghost (Ghost.arr_nil 1) ?_
       refine hw_ghost (Ghost.fa 27 (i := 0) rfl rfl) ?_
       refine hw_reg ?_
       refine dp rfl (pop_assign rfl) ?_
       refine dn ?_
       refine hw_join [24, 25, 135, 136, 137, 138, 139, 140, 141, 142, 143, 144, 145] (fun (z : Unit) => [(24, .int .i64 (swapN l42 lb p46 gw tk)), (25, .int .i64 (swapM l42 lb p46 gw tk))]) (fun (z : Unit) => [St b l a5]) (fun (z : Unit) => True) ?_ ?_
       ·skip
        refine hw_reg ?_
        refine dp rfl (pop_move rfl) ?_
        refine dp rfl (pop_eql rfl rfl) ?_
        refine dn ?_
        refine hw_cond rfl (fun h13 => ?_) (fun h14 => ?_)
        ·try simp at h13
         have hz : swapG l42 lb p46 gw tk = 0 := by assumption
         obtain ⟨hz1, hz2, hz3⟩ := swapG_z hz
         obtain ⟨hz4, hz5⟩ := swapNM_z hz
         refine hw_reg1 ?_
         refine dp rfl (pop_move rfl) ?_
         refine dp rfl (pop_move rfl) ?_
         refine dp rfl (pop_move rfl) ?_
         refine dp rfl (pop_move rfl) ?_
         refine dp rfl (pop_move rfl) ?_
         refine dp rfl (pop_call ca23 rfl (WeakL.refl _) (c_benchref1_SwappedOf (a := l42) (b := lb) (p := p46) (give := gw) (take := tk) (swap_ok hz1) (swapE_ok hz1).2.2.2 hla hlb (by omega) (by omega))) ?_
         refine dp rfl (pop_move rfl) ?_
         refine dp rfl (pop_extract rfl rfl) ?_
         refine dp rfl (pop_extract rfl rfl) ?_
         refine dp rfl (pop_assign rfl) ?_
         refine dp rfl (pop_assign rfl) ?_
         refine dn ?_
         exact ⟨(), trivial, ⟨congrArg (fun z => some (HVal.int .i64 z)) hz4.symm, congrArg (fun z => some (HVal.int .i64 z)) hz5.symm, trivial⟩, (by repeat (first | exact keeps_refl | refine keeps_upd rfl ?_ | refine keeps_loop rfl rfl ?_)), List.Perm.refl _⟩
        ·try simp at h14
         refine hw_skip ?_
         obtain ⟨hz4, hz5⟩ := swapNM_f (a := l42) (b := lb) (p := p46) (give := gw) (take := tk) (by assumption)
         exact ⟨(), trivial, ⟨congrArg (fun z => some (HVal.int .i64 z)) hz4.symm, congrArg (fun z => some (HVal.int .i64 z)) hz5.symm, trivial⟩, (by repeat (first | exact keeps_refl | refine keeps_upd rfl ?_ | refine keeps_loop rfl rfl ?_)), List.Perm.refl _⟩
       ·intro z _
        refine hw_join [26, 27, 28, 146, 147, 148, 149, 150, 151, 152, 153, 154, 155, 156] (fun (z : Unit) => [(26, eSs (giveS (bestS l42 lb p46 y49))), (27, eSs (takeS (bestS l42 lb p46 y49))), (28, .bool (bestS l42 lb p46 y49).isSome)]) (fun (z : Unit) => [St b l a5]) (fun (z : Unit) => True) ?_ ?_
        ·skip
         refine hw_reg ?_
         refine dp rfl (pop_move rfl) ?_
         refine dp rfl (pop_eql rfl rfl) ?_
         refine dn ?_
         refine hw_cond rfl (fun h15 => ?_) (fun h16 => ?_)
         ·try simp at h15
          have hb0 : bestE l42 lb p46 y49 = 0 := by assumption
          obtain ⟨hb1, hb2⟩ := bestE_z hb0
          have hb3 := bestS_z hb0
          refine hw_reg1 ?_
          refine dp rfl (pop_move rfl) ?_
          refine dp rfl (pop_move rfl) ?_
          refine dp rfl (pop_move rfl) ?_
          refine dp rfl (pop_move rfl) ?_
          refine dp rfl (pop_call ca24 rfl (WeakL.refl _) (c_benchref1_BestSwapOf (a := l42) (b := lb) (p := p46) (n := y49) hb1 hb2 hla hlb)) ?_
          refine dp rfl (pop_move rfl) ?_
          refine dp rfl (pop_extract rfl rfl) ?_
          refine dp rfl (pop_extract rfl rfl) ?_
          refine dp rfl (pop_extract rfl rfl) ?_
          refine dp rfl (pop_assign rfl) ?_
          refine dp rfl (pop_assign rfl) ?_
          refine dp rfl (pop_assign rfl) ?_
          refine dn ?_
          exact ⟨(), trivial, ⟨congrArg (fun z => some (eSs (giveS z))) hb3.symm, congrArg (fun z => some (eSs (takeS z))) hb3.symm, congrArg (fun z => some (HVal.bool (Option.isSome z))) hb3.symm, trivial⟩, (by repeat (first | exact keeps_refl | refine keeps_upd rfl ?_ | refine keeps_loop rfl rfl ?_)), List.Perm.refl _⟩
         ·try simp at h16
          refine hw_skip ?_
          have hb3 := bestS_f (a := l42) (b := lb) (p := p46) (n := y49) (by assumption)
          exact ⟨(), trivial, ⟨congrArg (fun z => some (eSs (giveS z))) hb3.symm, congrArg (fun z => some (eSs (takeS z))) hb3.symm, congrArg (fun z => some (HVal.bool (Option.isSome z))) hb3.symm, trivial⟩, (by repeat (first | exact keeps_refl | refine keeps_upd rfl ?_ | refine keeps_loop rfl rfl ?_)), List.Perm.refl _⟩
        ·intro z _
         refine hw_seq ?_
         refine hw_reg ?_
         refine dp rfl (pop_move rfl) ?_
         refine dp rfl (pop_move rfl) ?_
         refine dp rfl (pop_neq rfl rfl) ?_
         refine dp rfl (pop_move rfl) ?_
         refine dg rfl rfl (fun hc => ⟨_, OpenTo.refl _, pop_move rfl⟩) ?_
         refine dg rfl rfl (fun hc => ⟨_, OpenTo.refl _, pop_move rfl⟩) ?_
         refine dg rfl rfl (fun hc => ⟨_, OpenTo.upd (t := 162) rfl (by first | exact hc | simp_all) (OpenTo.upd (t := 161) rfl (by first | exact hc | simp_all) (OpenTo.refl _)), pop_neq rfl rfl⟩) ?_
         refine dp rfl (pop_picko rfl (.inl rfl) (.inr ⟨_, rfl, fun h => by simp_all⟩)) ?_
         refine dp rfl (pop_move rfl) ?_
         refine dg rfl rfl (fun hc => ⟨_, OpenTo.refl _, pop_move rfl⟩) ?_
         refine dg rfl rfl (fun hc => ⟨_, OpenTo.refl _, pop_move rfl⟩) ?_
         refine dg rfl rfl (fun hc => ⟨_, OpenTo.upd (t := 167) rfl (by first | exact hc | simp_all) (OpenTo.upd (t := 166) rfl (by first | exact hc | simp_all) (OpenTo.refl _)), pop_neq rfl rfl⟩) ?_
         refine dp rfl (pop_picko rfl (.inl rfl) (.inr ⟨_, rfl, fun h => by simp_all⟩)) ?_
         refine dp rfl (pop_move rfl) ?_
         refine dg rfl rfl (fun hc => ⟨_, OpenTo.refl _, pop_move rfl⟩) ?_
         refine dg rfl rfl (fun hc => ⟨_, OpenTo.refl _, pop_move rfl⟩) ?_
         refine dg rfl rfl (fun hc => ⟨_, OpenTo.upd (t := 172) rfl (by first | exact hc | simp_all) (OpenTo.upd (t := 171) rfl (by first | exact hc | simp_all) (OpenTo.refl _)), pop_neq rfl rfl⟩) ?_
         refine dp rfl (pop_picko rfl (.inl rfl) (.inr ⟨_, rfl, fun h => by simp_all⟩)) ?_
         refine dp rfl (pop_move rfl) ?_
         refine dg rfl rfl (fun hc => ⟨_, OpenTo.refl _, pop_move rfl⟩) ?_
         refine dg rfl rfl (fun hc => ⟨_, OpenTo.refl _, pop_move rfl⟩) ?_
         refine dg rfl rfl (fun hc => ⟨_, OpenTo.upd (t := 177) rfl (by first | exact hc | simp_all) (OpenTo.upd (t := 176) rfl (by first | exact hc | simp_all) (OpenTo.refl _)), pop_neqb ty4 rfl rfl⟩) ?_
         refine dp rfl (pop_picko rfl (.inl rfl) (.inr ⟨_, rfl, fun h => by simp_all⟩)) ?_
         refine dp rfl (pop_move rfl) ?_
         refine dg rfl rfl (fun hc => ⟨_, OpenTo.refl _, pop_move rfl⟩) ?_
         refine dg rfl rfl (fun hc => ⟨_, OpenTo.refl _, pop_move rfl⟩) ?_
         refine dg rfl rfl (fun hc => ⟨_, OpenTo.upd (t := 182) rfl (by first | exact hc | simp_all) (OpenTo.upd (t := 181) rfl (by first | exact hc | simp_all) (OpenTo.refl _)), pop_call ca25 rfl (WeakL.refl _) (c_slices_Equal_string_string (l := giveS (bestS l42 lb p46 y49)) (m := giveS (bestS l42 lb p46 y49)) hbl1)⟩) ?_
         refine dg rfl rfl (fun hc => ⟨_, OpenTo.upd (t := 183) rfl (by first | exact hc | simp_all) (OpenTo.refl _), pop_not rfl⟩) ?_
         refine dp rfl (pop_picko rfl (.inl rfl) (.inr ⟨_, rfl, fun h => by simp_all⟩)) ?_
         refine dp rfl (pop_move rfl) ?_
         refine dg rfl rfl (fun hc => ⟨_, OpenTo.refl _, pop_move rfl⟩) ?_
         refine dg rfl rfl (fun hc => ⟨_, OpenTo.refl _, pop_move rfl⟩) ?_
         refine dg rfl rfl (fun hc => ⟨_, OpenTo.upd (t := 188) rfl (by first | exact hc | simp_all) (OpenTo.upd (t := 187) rfl (by first | exact hc | simp_all) (OpenTo.refl _)), pop_call ca25 rfl (WeakL.refl _) (c_slices_Equal_string_string (l := takeS (bestS l42 lb p46 y49)) (m := takeS (bestS l42 lb p46 y49)) hbl2)⟩) ?_
         refine dg rfl rfl (fun hc => ⟨_, OpenTo.upd (t := 189) rfl (by first | exact hc | simp_all) (OpenTo.refl _), pop_not rfl⟩) ?_
         refine dp rfl (pop_picko rfl (.inl rfl) (.inr ⟨_, rfl, fun h => by simp_all⟩)) ?_
         refine dn ?_
         refine hw_cond rfl (fun h17 => ?_) (fun h17 => ?_)
         ·exfalso
          try simp at h17
          done
         ·try simp at h17
          refine hw_skip ?_
          refine seqQ_n ?_
          refine hw_reg ?_
          refine dp rfl (pop_move rfl) ?_
          refine dp rfl (pop_call ca7 rfl (WeakL.refl _) (c_value_Text (l := l42) (by omega))) ?_
          refine dp rfl (pop_move rfl) ?_
          refine dp rfl (pop_extract rfl rfl) ?_
          refine dp rfl (pop_extract rfl rfl) ?_
          refine dp rfl (pop_assign rfl) ?_
          refine dp rfl (pop_assign rfl) ?_
          refine dn ?_
          refine hw_reg ?_
          refine dp rfl (pop_move rfl) ?_
          refine dp rfl (pop_call ca6 rfl (WeakL.refl _) (c_benchref1_AssetsFault_u (l := l42) (by omega))) ?_
          refine dp rfl (pop_assign rfl) ?_
          refine dn ?_
          refine hw_seq ?_
          refine hw_reg ?_
          refine dp rfl (pop_move rfl) ?_
          refine dp rfl (pop_move rfl) ?_
          refine dp rfl (pop_neq rfl rfl) ?_
          refine dp rfl (pop_move rfl) ?_
          refine dg rfl rfl (fun hc => ⟨_, OpenTo.refl _, pop_move rfl⟩) ?_
          refine dg rfl rfl (fun hc => ⟨_, OpenTo.upd (t := 203) rfl (by first | exact hc | simp_all) (OpenTo.refl _), pop_eql rfl rfl⟩) ?_
          refine dg rfl rfl (fun hc => ⟨_, OpenTo.upd (t := 204) rfl (by first | exact hc | simp_all) (OpenTo.refl _), pop_move rfl⟩) ?_
          refine dg rfl rfl (fun hc => ⟨_, OpenTo.refl _, pop_move rfl⟩) ?_
          refine dg rfl rfl (fun hc => ⟨_, OpenTo.refl _, pop_move rfl⟩) ?_
          refine dg rfl rfl (fun hc => by
           have h9 := hc
           simp at h9
           exact ⟨_, OpenTo.upd (t := 207) rfl (by first | exact hc | simp_all) (OpenTo.refl _), pop_call ca26 rfl (WeakL.refl _) (c_benchref1_AssetLines (l := l42) (by simp_all))⟩) ?_
          refine dg rfl rfl (fun hc => ⟨_, OpenTo.upd (t := 208) rfl (by first | exact hc | simp_all) (OpenTo.upd (t := 206) rfl (by first | exact hc | simp_all) (OpenTo.refl _)), pop_neqs rfl rfl⟩) ?_
          refine dg rfl rfl (fun hc => ⟨_, OpenTo.upd (t := 205) rfl (by first | exact hc | simp_all) (OpenTo.refl _), pop_picko rfl (.inr ⟨_, rfl, fun h => by simp_all⟩) (.inl rfl)⟩) ?_
          refine dp rfl (pop_picko rfl (.inl rfl) (.inr ⟨_, rfl, fun h => by simp_all⟩)) ?_
          refine dp rfl (pop_move rfl) ?_
          refine dg rfl rfl (fun hc => ⟨_, OpenTo.refl _, pop_move rfl⟩) ?_
          refine dg rfl rfl (fun hc => ⟨_, OpenTo.upd (t := 213) rfl (by first | exact hc | simp_all) (OpenTo.refl _), pop_neq rfl rfl⟩) ?_
          refine dg rfl rfl (fun hc => ⟨_, OpenTo.upd (t := 214) rfl (by first | exact hc | simp_all) (OpenTo.refl _), pop_move rfl⟩) ?_
          refine dg rfl rfl (fun hc => ⟨_, OpenTo.refl _, pop_move rfl⟩) ?_
          refine dg rfl rfl (fun hc => ⟨_, OpenTo.upd (t := 216) rfl (by first | exact hc | simp_all) (OpenTo.refl _), pop_neqs rfl rfl⟩) ?_
          refine dg rfl rfl (fun hc => ⟨_, OpenTo.upd (t := 215) rfl (by first | exact hc | simp_all) (OpenTo.refl _), pop_picko rfl (.inr ⟨_, rfl, fun h => by simp_all⟩) (.inl rfl)⟩) ?_
          refine dp rfl (pop_picko rfl (.inl rfl) (.inr ⟨_, rfl, fun h => by simp_all⟩)) ?_
          refine dn ?_
          refine hw_cond rfl (fun h18 => ?_) (fun h18 => ?_)
          ·exfalso
           try simp at h18
           by_cases h0 : checkAssets l42 = 0 <;> simp_all [textA]
          ·try simp at h18
           refine hw_skip ?_
           refine seqQ_n ?_
           refine hw_reg ?_
           refine dp rfl (pop_move rfl) ?_
           first
           | refine de rfl (eop_callx (i := 0) ca10 rfl (WeakL.refl _) rfl (c_benchmake_Stream_AssetString (by first | assumption | omega | (simp; omega) | simp_all)) ?_)
           | refine de rfl (eop_callx (i := 1) ca10 rfl (WeakL.refl _) rfl (c_benchmake_Stream_AssetString (by first | assumption | omega | (simp; omega) | simp_all)) ?_)
           | refine de rfl (eop_callx (i := 2) ca10 rfl (WeakL.refl _) rfl (c_benchmake_Stream_AssetString (by first | assumption | omega | (simp; omega) | simp_all)) ?_)
           | refine de rfl (eop_callx (i := 3) ca10 rfl (WeakL.refl _) rfl (c_benchmake_Stream_AssetString (by first | assumption | omega | (simp; omega) | simp_all)) ?_)
           rintro _ _ ⟨t221, a221, rfl, ht221, ha221, rfl⟩
           refine dp rfl (pop_assign rfl) ?_
           refine dn ?_
           refine hw_reg ?_
           refine dp rfl (pop_move rfl) ?_
           refine dp rfl (pop_call ca8 rfl (WeakL.refl _) (c_value_Read (text := t221) (by omega))) ?_
           refine dp rfl (pop_move rfl) ?_
           refine dp rfl (pop_extract rfl rfl) ?_
           refine dp rfl (pop_extract rfl rfl) ?_
           refine dp rfl (pop_extract rfl rfl) ?_
           refine dp rfl (pop_assign rfl) ?_
           refine dp rfl (pop_assign rfl) ?_
           refine dp rfl (pop_assign rfl) ?_
           refine dn ?_
           refine hw_reg ?_
           refine dp rfl (pop_move rfl) ?_
           refine dp rfl (pop_call ca27 rfl (WeakL.refl _) (c_benchref1_AssetsRead (text := t221) (by omega))) ?_
           refine dp rfl (pop_move rfl) ?_
           refine dp rfl (pop_extract rfl rfl) ?_
           refine dp rfl (pop_extract rfl rfl) ?_
           refine dp rfl (pop_extract rfl rfl) ?_
           refine dp rfl (pop_assign rfl) ?_
           refine dp rfl (pop_assign rfl) ?_
           refine dp rfl (pop_assign rfl) ?_
           refine dn ?_
           refine hw_reg ?_
           refine dp rfl (pop_move rfl) ?_
           refine dp rfl (pop_move rfl) ?_
           refine dp rfl (pop_eql rfl rfl) ?_
           refine dp rfl (pop_move rfl) ?_
           refine dg rfl rfl (fun hc => ⟨_, OpenTo.refl _, pop_move rfl⟩) ?_
           refine dg rfl rfl (fun hc => ⟨_, OpenTo.refl _, pop_move rfl⟩) ?_
           refine dg rfl rfl (fun hc => ⟨_, OpenTo.upd (t := 239) rfl (by first | exact hc | simp_all) (OpenTo.upd (t := 238) rfl (by first | exact hc | simp_all) (OpenTo.refl _)), pop_eql rfl rfl⟩) ?_
           refine dp rfl (pop_picko rfl (.inr ⟨_, rfl, fun h => by simp_all⟩) (.inl rfl)) ?_
           refine dp rfl (pop_move rfl) ?_
           refine dg rfl rfl (fun hc => ⟨_, OpenTo.refl _, pop_move rfl⟩) ?_
           refine dg rfl rfl (fun hc => ⟨_, OpenTo.refl _, pop_move rfl⟩) ?_
           refine dg rfl rfl (fun hc => by have hq := hc; (try simp at hq); exact ⟨_, OpenTo.upd (t := 244) rfl (by first | exact hc | simp_all) (OpenTo.upd (t := 243) rfl (by first | exact hc | simp_all) (OpenTo.refl _)), pop_call ca9 rfl (WeakL.refl _) (c_slices_Equal_api_Asset_api_Asset (l := arP t221) (m := arP t221) (Nat.le_trans (arP_len t221) (by omega)))⟩) ?_
           refine dp rfl (pop_picko rfl (.inr ⟨_, rfl, fun h => by simp_all⟩) (.inl rfl)) ?_
           refine dp rfl (pop_move rfl) ?_
           refine dg rfl rfl (fun hc => ⟨_, OpenTo.refl _, pop_call ca28 rfl (WeakL.refl _) c_benchlaw1_valued⟩) ?_
           refine dp rfl (pop_picko rfl (.inr ⟨_, rfl, fun h => by simp_all⟩) (.inl rfl)) ?_
           refine dp rfl (pop_assign rfl) ?_
           refine dn ?_
           refine hw_ret ?_
           refine ret_g Ghost.clear rfl ⟨?_, rfl⟩
           show HVal.bool _ = _
           simp [eqAs_refl]
end Go.Proofs.YtbfikmihcpfgaaaGreatDoor
end
section
namespace Go.HL
open Go
theorem handed_shaped {H : Type} {enc : TypeId × Value → H} {a : Assume} {C : Checked} {os : Os} {f : FuncId} {fn : Func} {s : ChangeSpec} {conds : List PathCond} {apart fresh handsOn again : Bool} {X : World → Array Value → Prop}
 (hX : ∀ (w w' : World) (args : Array Value), w.heap = w'.heap → X w args → X w' args)
 (own : ownKnob C.prog.godebug = none) (started : os.Started) (noInit : C.prog.inits.idxOf? f = none) (hfn : C.prog.funcs[f]? = some fn)
 (witness : ∃ (w : World) (tape : Tape) (i : Input), w.os = os ∧ (w.forCall tape i).Shaped C.prog ∧ i.vars = [] ∧ Input.okWide C.prog (w.forCall tape i) .any w.heap.size f i ∧
   ((s.pre enc C.prog fn conds apart (w.forCall tape i).memory i.args ∧ X (w.forCall tape i).memory i.args) ∧ sizedMet enc C.prog fn (OpenSpec.ofChange s) apart (w.forCall tape i).memory i.args) ∧ a.holds C.prog (lone (Frame.enter C.prog f i.args .normal) [] (w.forCall tape i)))
 (contract : ∀ (W : World) (base : Nat) (args : Array Value) (ds gs : List (DataW H)) (before : List MemPlace),
   (∀ (j : Nat) t v, fn.params[j]? = some t → args[j]? = some v → Value.okWide C.prog W .any base t v) → DataW.Whole enc C.prog fn.params.toList s.vars apart W args.toList ds gs before →
   X W args → W.ShapedOpen C.prog → Calls C.prog f args W fun e W' => ∃ v, e = .returned v ∧ s.post enc C.prog fn apart fresh handsOn again W args v W') :
 ReturnsInHanded a C os f .any (fun w args => (s.pre enc C.prog fn conds apart w args ∧ X w args) ∧ sizedMet enc C.prog fn (OpenSpec.ofChange s) apart w args) (s.post enc C.prog fn apart fresh handsOn again) := by
 refine returnsInHanded_of_calls own started noInit witness fun w tape i _ hsh _ hok hpre _ => ?_
 obtain ⟨_, _, _, fn', hfn', _, _, _, _, hval⟩ := hok
 obtain rfl : fn' = fn := Option.some.inj (hfn'.symm.trans hfn)
 obtain ⟨⟨⟨ds, gs, before, hw, _⟩, hx⟩, _⟩ := hpre
 refine (contract (w.forCall tape i) w.heap.size i.args ds gs before hval (DataW.Whole.of_heap (w' := w.forCall tape i) (by rfl) hw) (hX _ _ _ (by rfl) hx) hsh).mono fun e W' ⟨v, he, hp⟩ => ?_
 subst he
 exact ChangeSpec.post_blind hp
end Go.HL
end
section
namespace Go.Proofs
open Go.Shelf
def Tryz.laysm146_ren : Go.Shelf.Ren := ⟨fun | 146 => 72 | 221 => 106 | 268 => 143 | 138 => 144 | 143 => 145 | 195 => 191 | 197 => 151 | 218 => 192 | 219 => 190 | 260 => 197 | 217 => 115 | 225 => 217 | 224 => 218 | 267 => 219 | 266 => 154 | 314 => 237 | n => n, fun | 9 => 9 | 31 => 44 | 3 => 3 | 4 => 4 | 0 => 0 | 105 => 191 | 21 => 21 | 5 => 5 | 46 => 181 | 119 => 247 | 139 => 250 | 138 => 249 | 146 => 265 | 51 => 221 | n => n, fun | 1 => 0 | 3 => 4 | 4 => 5 | n => n⟩
theorem Tryz.laysm146 : Go.Proofs.LaysM.n146 Tryz.prog Tryz.laysm146_ren := {
 mixed := by kernel_rfl
 f138 := Tryz.func144.trans (congrArg some (by kernel_rfl))
 f143 := Tryz.func145.trans (congrArg some (by kernel_rfl))
 f146 := Tryz.func72.trans (congrArg some (by kernel_rfl))
 f195 := Tryz.func191.trans (congrArg some (by kernel_rfl))
 f197 := Tryz.func151.trans (congrArg some (by kernel_rfl))
 f217 := Tryz.func115.trans (congrArg some (by kernel_rfl))
 f218 := Tryz.func192.trans (congrArg some (by kernel_rfl))
 f219 := Tryz.func190.trans (congrArg some (by kernel_rfl))
 f221 := Tryz.func106.trans (congrArg some (by kernel_rfl))
 f224 := Tryz.func218.trans (congrArg some (by kernel_rfl))
 f225 := Tryz.func217.trans (congrArg some (by kernel_rfl))
 f260 := Tryz.func197.trans (congrArg some (by kernel_rfl))
 f266 := Tryz.func154.trans (congrArg some (by kernel_rfl))
 f267 := Tryz.func219.trans (congrArg some (by kernel_rfl))
 f268 := Tryz.func143.trans (congrArg some (by kernel_rfl))
 f314 := Tryz.func237.trans (congrArg some (by kernel_rfl))
 t0 := Tryz.underlying0
 a0 := Tryz.isAgg0
 z0 := Tryz.sizeOf0
 v0 := Tryz.zeroValue0
 t3 := Tryz.underlying3
 a3 := Tryz.isAgg3
 z3 := Tryz.sizeOf3
 v3 := Tryz.zeroValue3
 t4 := Tryz.underlying4
 a4 := Tryz.isAgg4
 z4 := Tryz.sizeOf4
 v4 := Tryz.zeroValue4
 t5 := Tryz.underlying5
 a5 := Tryz.isAgg5
 z5 := Tryz.sizeOf5
 v5 := Tryz.zeroValue5
 t9 := Tryz.underlying9
 a9 := Tryz.isAgg9
 z9 := Tryz.sizeOf9
 v9 := Tryz.zeroValue9
 t21 := Tryz.underlying21
 a21 := Tryz.isAgg21
 z21 := Tryz.sizeOf21
 v21 := Tryz.zeroValue21
 t31 := Tryz.underlying44
 a31 := Tryz.isAgg44
 z31 := Tryz.sizeOf44
 v31 := Tryz.zeroValue44
 t46 := Tryz.underlying181
 a46 := Tryz.isAgg181
 z46 := Tryz.sizeOf181
 v46 := Tryz.zeroValue181
 t51 := Tryz.underlying221
 a51 := Tryz.isAgg221
 z51 := Tryz.sizeOf221
 v51 := Tryz.zeroValue221
 t105 := Tryz.underlying191
 a105 := Tryz.isAgg191
 z105 := Tryz.sizeOf191
 v105 := Tryz.zeroValue191
 t119 := Tryz.underlying247
 a119 := Tryz.isAgg247
 z119 := Tryz.sizeOf247
 t138 := Tryz.underlying249
 a138 := Tryz.isAgg249
 z138 := Tryz.sizeOf249
 v138 := Tryz.zeroValue249
 t139 := Tryz.underlying250
 a139 := Tryz.isAgg250
 z139 := Tryz.sizeOf250
 v139 := Tryz.zeroValue250
 t146 := Tryz.underlying265
 a146 := Tryz.isAgg265
 z146 := Tryz.sizeOf265
 v146 := Tryz.zeroValue265
 g1 := by kernel_rfl
 g3 := by kernel_rfl
 g4 := by kernel_rfl
 i0 := by kernel_rfl
 i3 := by kernel_rfl
 i4 := by kernel_rfl
 i5 := by kernel_rfl
 i9 := by kernel_rfl
 i21 := by kernel_rfl
 i31 := by kernel_rfl
 i46 := by kernel_rfl
 i51 := by kernel_rfl
 i105 := by kernel_rfl
 i138 := by kernel_rfl
 i139 := by kernel_rfl
 i146 := by kernel_rfl
 m1 := by kernel_rfl
 s1_3 := fun w h => Go.Proofs.cell_of_shapedOpen_int (zero := #[.int .i64 0]) (t := 3) h (of_decide_eq_true (by kernel_rfl)) (by kernel_rfl) rfl (by kernel_rfl) (by kernel_rfl) Tryz.underlying3
 m3 := by kernel_rfl
 m4 := by kernel_rfl }
end Go.Proofs
end
section
namespace Go.Proofs.YtbfikmihcpfgaaaGreatDoor
open Go.ChangeShapes Go.WideShapes Go.ChangeAt Go.RowKit Go.HL
theorem ownSwapsWeighed : ownKnob Tryz.prog.godebug = none := by kernel_rfl
theorem laidOutSwapsWeighed : laidOutB Tryz.prog = true := by kernel_rfl
theorem cellsSwapsWeighed : Tryz.prog.cellsOf 3 = 1 := by kernel_rfl
theorem tabSwapsWeighed {W : World} (h : laidMetH Tryz.prog Rows.swapsWeighedRow.laid W) (hsh : W.ShapedOpen Tryz.prog) : TabI Tryz.prog (allI W) := by
 rw [MakeChecks.laidMetH_plain _ _ _ (by kernel_rfl)] at h
 letI : Tracks := ⟨false⟩
 exact tabI_of_laid (i := 2) (g := 1) (t := 229) h (by kernel_rfl) (by kernel_rfl) (by kernel_rfl) Tryz.underlying229 Tryz.underlying185 (by kernel_rfl) (by kernel_rfl) (fun g hg => by
  obtain rfl : Tryz.laysm146_ren.g 1 = g := Option.some.inj (Tryz.laysm146.m1.symm.trans hg)
  exact Tryz.laysm146.s1_3 W hsh)
theorem callsSwapsWeighed {W : World} (ht : TabI Tryz.prog (allI W)) {a : Option Addr} {len cap : Nat} {H : Type} {enc : TypeId × Value → H} {d0 : DataW H} {p : List MemPlace} (h : DataW.Trod enc Tryz.prog W 0 (fun _ => true) true 22 (.slice a len cap) d0 p) :
 Calls Tryz.prog 4 #[.slice a len cap] W fun e W' => e = .returned (.bool true) ∧ Below W.heap.size W W' := by
 obtain ⟨fuel, hf⟩ := h
 rcases open_ints Tryz.underlying22 Tryz.underlying3 cellsSwapsWeighed hf with ⟨hcs, hx⟩ | ⟨a', len', cap', zs, hcs, _, hl, hm, hz, hx, hcell, hwz⟩
 ·simp [Value.cells] at hcs
  obtain ⟨rfl, rfl, rfl⟩ := hcs
  letI : Tracks := ⟨false⟩
  exact conp_law (l := []) (c_benchlaw1_SwapsWeighed rfl) ht (.slice0 _ _ _)
 ·simp [Value.cells] at hcs
  obtain ⟨rfl, rfl, rfl⟩ := hcs
  simp only [if_true] at hz
  letI : Tracks := ⟨false⟩
  exact conp_law (l := zs.take len) (c_benchlaw1_SwapsWeighed rfl) ht (v_ints hcell (by omega) hl)
set_option maxRecDepth 100000 in
theorem liftedSwapsWeighed (os : Os) (started : os.Started) (H : Type) (enc : TypeId × Value → H) :
 ReturnsInHanded {} Tryz.checked os 4 .any (fun w args => (Rows.swapsWeighedSpec.pre enc Tryz.prog Tryz.f4 Rows.swapsWeighedRow.domain false w args ∧ laidMetH Tryz.prog Rows.swapsWeighedRow.laid w) ∧ sizedMet enc Tryz.prog Tryz.f4 (OpenSpec.ofChange Rows.swapsWeighedSpec) false w args)
  (Rows.swapsWeighedSpec.post enc Tryz.prog Tryz.f4 false true false false) := by
 refine handed_shaped (C := Tryz.checked) (X := fun w _ => laidMetH Tryz.prog Rows.swapsWeighedRow.laid w) (fun _ _ _ hh h => h.of_heap hh) ownSwapsWeighed started (by kernel_rfl) Tryz.func4
  (ChangeSpec.witness_shaped (enc := enc) (C := Tryz.checked) (os := os) (X := fun w _ => laidMetH Tryz.prog Rows.swapsWeighedRow.laid w) false (World.laidAll Tryz.prog os Rows.swapsWeighedRow.laid) #[.slice none 0 0] 8 (World.laidAll_os _ _ _)
    (World.shaped_of_ZipB (by kernel_rfl) (by kernel_rfl)) (by kernel_rfl) (by kernel_rfl) (by kernel_rfl)
    (by rw [MakeChecks.laidMetH_plain _ _ _ (by kernel_rfl)]; exact laidMet_laidAll _ (by kernel_rfl) (by kernel_rfl))) ?_
 intro W base args ds gs before hval0 hW hL hsh
 have hval : ∀ (j : Nat) t v, Tryz.f4.params[j]? = some t → args[j]? = some v → Value.okWide Tryz.prog W .any base t v := hval0
 have hW' := hW
 obtain ⟨p, q, hA0, hV, rfl, _, _⟩ := hW
 have hA : DataW.TrodAll enc Tryz.prog W 0 (fun _ => true) true Tryz.f4.params.toList args.toList ds p := hA0
 rw [Tryz.params4] at hA hval
 obtain ⟨v0, d0, rfl, rfl, h0⟩ := trodAll_one hA
 obtain ⟨rfl, rfl⟩ := trodVars_none hV
 obtain ⟨a0, len, cap, rfl⟩ := okWide_slice Tryz.underlying22 (hval 0 22 v0 rfl rfl)
 simp only [List.append_nil] at hW'
 have hlt : ∀ x ∈ p, x.block < W.heap.size := fun x hx => by simpa using hW'.lt x hx
 refine (callsSwapsWeighed (tabSwapsWeighed hL hsh) h0).mono fun e W' ⟨he, hb⟩ => ?_
 subst he
 have hargs : DataW.Trod enc Tryz.prog W' 0 (fun b => decide (b < W.heap.size)) true 22 (.slice a0 len cap) d0 p :=
  Below.trod laidOutSwapsWeighed (by kernel_rfl) (of_decide_eq_true (by kernel_rfl)) h0 hb hlt
 exact ⟨_, rfl, _, _, _, [], p, [], hW', trodAll_mk1 (shut_bool Tryz.underlying4 _), trodAll_mk1 hargs, rfl, hb.frame _, fun h => by cases h⟩
theorem mapsSwapsWeighed : mapsRowed Tryz.prog = true := by kernel_rfl
theorem inplSwapsWeighed : (Rows.swapsWeighedRow.inPlace == Tryz.prog.inPlace 4) = true := by kernel_rfl
theorem unfoSwapsWeighed : (Rows.swapsWeighedRow.unfollowed == Tryz.prog.unfollowed 4) = true := by kernel_rfl
theorem recuSwapsWeighed : (Rows.swapsWeighedRow.recurses == Tryz.prog.recurses 4) = true := by kernel_rfl
theorem varsSwapsWeighed : (Rows.swapsWeighedRow.named == Tryz.prog.varsNamed 4) = true := by kernel_rfl
theorem joinSwapsWeighed : joinedFacts Tryz.prog 4 Tryz.f4 Rows.swapsWeighedSpec Rows.swapsWeighedRow = true := by
 simp only [joinedFacts, Bool.and_eq_true]
 repeat' apply And.intro
 all_goals first
  | with_reducible exact laidOutSwapsWeighed
  | with_reducible exact mapsSwapsWeighed
  | with_reducible exact inplSwapsWeighed
  | with_reducible exact unfoSwapsWeighed
  | with_reducible exact recuSwapsWeighed
  | with_reducible exact varsSwapsWeighed
  | kernel_rfl
theorem lookSwapsWeighed : true = Tryz.prog.looks [] := by kernel_rfl
theorem goesSwapsWeighed : false = Rows.swapsWeighedRow.goesBy Tryz.prog := by kernel_rfl
theorem wfbtSwapsWeighed : Rows.swapsWeighedRow.wfByText (OpenSpec.ofChange Rows.swapsWeighedSpec) = true := by kernel_rfl
theorem mainSwapsWeighed : Tryz.prog.mainIs = some ("b0ab84bab2bda6104f072cd1a2c45bf09e75a2a81aa23bc8cf4e6c827f7f2463" |> fun h => (true, h.toList)) := by kernel_rfl
theorem stanSwapsWeighed : ([22].all fun u => !Tryz.prog.wantsStandIn u) = true := by kernel_rfl
theorem fnamSwapsWeighed : Tryz.prog.funcNamed Rows.swapsWeighedRow.func = some 4 := by kernel_rfl
theorem holdsSwapsWeighed : Rows.SwapsWeighedSaid :=
 OpenClaim.holds_of_wide 4 Tryz.f4 rfl rfl rfl rfl rfl rfl rfl ⟨rfl, rfl, rfl, rfl, rfl⟩ rfl rfl rfl rfl rfl fnamSwapsWeighed Tryz.func4 joinSwapsWeighed
  (of_decide_eq_true (by kernel_rfl)) (by unfold Func.isWrapper; first | (rw [if_pos (by decide +kernel)]; kernel_rfl) | (rw [if_neg (by decide +kernel)]; exact ⟨rfl, rfl⟩))
  (fun os started H enc _ => liftedSwapsWeighed os started H enc)
theorem cardSwapsWeighed : Rows.SwapsWeighedCardSaid :=
 Claim7.holds_tied_plain_at .later [] [.data, .data, .data, .data, .sentinel, .sentinel, .pinned] true (true, "b0ab84bab2bda6104f072cd1a2c45bf09e75a2a81aa23bc8cf4e6c827f7f2463") true holdsSwapsWeighed (fun _ h => by cases h) wfbtSwapsWeighed (fun _ h => by cases h) swapsWeighed_row_tie rfl ⟨rfl, rfl⟩ mainSwapsWeighed rfl
  (fun f fn hf hfn => by
    obtain rfl : f = 4 := Option.some.inj (fnamSwapsWeighed.symm.trans hf) |>.symm
    obtain rfl : fn = Tryz.f4 := (Option.some.inj (Tryz.func4.symm.trans hfn)).symm
    exact ⟨lookSwapsWeighed, fun j t ht => by
     rw [Tryz.params4] at ht
     have hm : t ∈ [22] := by simpa using Array.mem_of_getElem? ht
     have hall := stanSwapsWeighed
     exact (show Tryz.prog.wantsStandIn t = false by simpa using List.all_eq_true.1 hall t hm)⟩)
  goesSwapsWeighed
end Go.Proofs.YtbfikmihcpfgaaaGreatDoor
end
