/- Part 3 of the proof: a program logic, contracts of functions and plain facts; no conditions. -/
import Derived.Test.YtdjpppifnmjhoaaGreatDoorPOffersClash2
import Derived.KernelRfl
import Derived.Lib.Strings
import Derived.Shelf.SlSortCmp.Insertion
set_option linter.unusedVariables false
set_option linter.unusedSimpArgs false
section
namespace Go.HL
theorem numB_1g {s : Str} {m : Int} (h : (cutMinus s = [] ∨ m < ((cutMinus s).length : Int)) ∨ ((((cutMinus s).head?).getD 0).toNat : Int) = 48 ∧ ((1 : Int) < ((cutMinus s).length : Int) ∨ (cutMinus s).length < s.length)) : numB s m = false := by
 have : numC s m = true := decide_eq_true h
 simp [numB, this]
theorem numC_2g {s : Str} {m : Int} (h : (¬ cutMinus s = [] ∧ ((cutMinus s).length : Int) ≤ m) ∧ (((((cutMinus s).head?).getD 0).toNat : Int) = 48 → ((cutMinus s).length : Int) ≤ 1 ∧ s.length ≤ (cutMinus s).length)) : numC s m = false := by
 refine decide_eq_false ?_
 rintro ((a | a) | ⟨a, b⟩)
 ·exact h.1.1 a
 ·omega
 ·have := h.2 a; omega
set_option maxRecDepth 100000 in
theorem dig_dig10 : ∀ c : UInt8, dig c = dig10.contains c := fun c => by
 have : ∀ n, n < 256 → dig (UInt8.ofNat n) = dig10.contains (UInt8.ofNat n) := by decide
 have h := this c.toNat c.toNat_lt
 simpa using h
theorem digitVal_dig : ∀ c : UInt8, dig c = true → ∃ d, d < 10 ∧ Lib.digitVal c = some d ∧ c = UInt8.ofNat (48 + d) := fun c h => by
 simp only [dig, Bool.and_eq_true, decide_eq_true_eq] at h
 refine ⟨c.toNat - 48, by omega, by unfold Lib.digitVal; rw [if_pos h], ?_⟩
 rw [show 48 + (c.toNat - 48) = c.toNat by omega]; simp
theorem decDigits_big {u : Nat} (h : 10 ≤ u) : Lib.decDigits u = Lib.decDigits (u / 10) ++ [UInt8.ofNat (48 + u % 10)] := by
 rw [Lib.decDigits, dif_neg (by omega)]
theorem decDigits_small {u : Nat} (h : u < 10) : Lib.decDigits u = [UInt8.ofNat (48 + u)] := by
 rw [Lib.decDigits, dif_pos h]
/-- Digits without a nought ahead are the numeral of what they spell. -/
theorem canon_aux : ∀ (n : Nat) (t : Str), t.length = n + 1 → (∀ c ∈ t, dig c = true) → (t.length = 1 ∨ (t.head?).getD 0 ≠ 48) → ∃ v, Lib.decFrom 0 t = some v ∧ Lib.decDigits v = t ∧ ((t.head?).getD 0 ≠ 48 → 1 ≤ v)
 | 0, t, hl, hd, _ => by
   match t, hl with
   | [c], _ =>
     obtain ⟨d, hd1, hd2, hd3⟩ := digitVal_dig c (hd c (by simp))
     refine ⟨d, by simp [Lib.decFrom, hd2], by rw [decDigits_small hd1, hd3], fun h => ?_⟩
     rcases Nat.eq_zero_or_pos d with h0 | h0
     ·subst h0; exact absurd (by simp [hd3]) h
     ·exact h0
 | n + 1, t, hl, hd, hc => by
   obtain ⟨t', c, rfl⟩ : ∃ t' c, t = t' ++ [c] := by
    rcases List.eq_nil_or_concat t with h | ⟨t', c, h⟩
    ·subst h; simp at hl
    ·exact ⟨t', c, by simpa using h⟩
   simp only [List.length_append, List.length_cons, List.length_nil] at hl hc
   have hne : t' ≠ [] := by rintro rfl; simp at hl
   have hhd : ((t' ++ [c]).head?).getD 0 = (t'.head?).getD 0 := by
    cases t' with
    | nil => exact absurd rfl hne
    | cons a r => rfl
   rw [hhd] at hc ⊢
   have hc' : (t'.head?).getD 0 ≠ 48 := by
    rcases hc with h | h
    ·omega
    ·exact h
   obtain ⟨v, h1, h2, h3⟩ := canon_aux n t' (by omega) (fun x hx => hd x (List.mem_append_left _ hx)) (.inr hc')
   have hv := h3 hc'
   obtain ⟨d, hd1, hd2, hd3⟩ := digitVal_dig c (hd c (by simp))
   refine ⟨v * 10 + d, ?_, ?_, fun _ => by omega⟩
   ·rw [decFrom_app, h1]; simp [Lib.decFrom, hd2]
   ·rw [decDigits_big (by omega), show (v * 10 + d) / 10 = v by omega, show (v * 10 + d) % 10 = d by omega, h2, ← hd3]
theorem canon {t : Str} (h0 : t ≠ []) (hd : ∀ c ∈ t, dig c = true) (hc : t.length = 1 ∨ (t.head?).getD 0 ≠ 48) : ∃ v, Lib.decFrom 0 t = some v ∧ Lib.decDigits v = t ∧ ((t.head?).getD 0 ≠ 48 → 1 ≤ v) := by
 obtain ⟨n, hn⟩ : ∃ n, t.length = n + 1 := ⟨t.length - 1, by have := List.length_pos_iff.2 h0; omega⟩
 exact canon_aux n t hn hd hc
theorem head48 : ∀ u : Nat, ((Lib.decDigits u).head?).getD 0 = 48 → u = 0 := fun u => by
 induction u using Nat.strongRecOn with
 | ind u ih =>
   intro h
   by_cases hu : u < 10
   ·rw [decDigits_small hu] at h
    have : ∀ d, d < 10 → (UInt8.ofNat (48 + d)) = 48 → d = 0 := by decide
    exact this u hu (by simpa using h)
   ·rw [decDigits_big (by omega)] at h
    have h2 : ((Lib.decDigits (u / 10)).head?).getD 0 = 48 := by
     cases hq : Lib.decDigits (u / 10) with
     | nil => exact absurd hq (digits_ne _)
     | cons a r => rw [hq] at h; simpa using h
    have := ih (u / 10) (by omega) h2
    omega
theorem head_nat (t : Str) : (((t.head?).getD 0).toNat : Int) = 48 ↔ (t.head?).getD 0 = 48 := by
 constructor
 ·intro h
  have h' : ((t.head?).getD 0).toNat = 48 := by omega
  exact UInt8.toNat_inj.1 (h'.trans rfl)
 ·intro h; rw [h]; rfl
theorem cutMinus_cases (s : Str) : (∃ r, s = 45 :: r ∧ cutMinus s = r) ∨ ((∀ r, s ≠ 45 :: r) ∧ cutMinus s = s) := by
 cases s with
 | nil => exact .inr ⟨fun r h => (by cases h), rfl⟩
 | cons b r =>
   by_cases hb : b = 45
   ·subst hb; exact .inl ⟨r, rfl, rfl⟩
   ·refine .inr ⟨fun r' h => hb (List.cons.inj h).1, ?_⟩
    unfold cutMinus; split
    ·rename_i heq; exact absurd (List.cons.inj heq).1 hb
    ·rfl
theorem dig_not : dig 45 = false ∧ dig 43 = false := by decide
theorem atoi_pos {s : Str} {v : Nat} (h0 : s ≠ []) (hd : ∀ c ∈ s, dig c = true) (hv : Lib.decFrom 0 s = some v) : Lib.atoi s = some (v : Int) := by
 cases s with
 | nil => exact absurd rfl h0
 | cons b r =>
   have hb := hd b List.mem_cons_self
   have e1 : (b == 45) = false := by rw [beq_eq_false_iff_ne]; rintro rfl; rw [dig_not.1] at hb; cases hb
   have e2 : (b == 43) = false := by rw [beq_eq_false_iff_ne]; rintro rfl; rw [dig_not.2] at hb; cases hb
   simp [Lib.atoi, e1, e2, Lib.decNat, hv]
theorem atoi_minus {r : Str} {v : Nat} (h0 : r ≠ []) (hv : Lib.decFrom 0 r = some v) : Lib.atoi (45 :: r) = some (-(v : Int)) := by
 have : r.isEmpty = false := by cases r with
  | nil => exact absurd rfl h0
  | cons _ _ => rfl
 simp [Lib.atoi, Lib.decNat, hv, this]
/-- What is taken for a number strictly is its own numeral. -/
theorem numB_canon {s : Str} {m : Int} (h : numB s m = true) : (cutMinus s ≠ [] ∧ ((cutMinus s).length : Int) ≤ m ∧ ∀ c ∈ cutMinus s, dig c = true) ∧ (Lib.atoi s).isSome = true ∧ Lib.itoa (numV s) = s := by
 unfold numB at h
 rw [Bool.and_eq_true, Bool.not_eq_true'] at h
 obtain ⟨h1, h2⟩ := h
 have hd : ∀ c ∈ cutMinus s, dig c = true := List.all_eq_true.1 h2
 have h3 := of_decide_eq_false h1
 simp only [not_or, not_and] at h3
 obtain ⟨⟨h4, h5⟩, h6⟩ := h3
 rw [head_nat] at h6
 have hc : (cutMinus s).length = 1 ∨ ((cutMinus s).head?).getD 0 ≠ 48 := by
  by_cases e : ((cutMinus s).head?).getD 0 = 48
  ·have := h6 e
   have hp := List.length_pos_iff.2 h4
   left; omega
  ·exact .inr e
 obtain ⟨v, v1, v2, v3⟩ := canon h4 hd hc
 refine ⟨⟨h4, by omega, hd⟩, ?_⟩
 rcases cutMinus_cases s with ⟨r, rfl, hr⟩ | ⟨_, hr⟩
 ·rw [hr] at h4 h6 v1 v2 v3
  have ha := atoi_minus h4 v1
  have hne : (r.head?).getD 0 ≠ 48 := fun e => by have := h6 e; simp at this
  refine ⟨by rw [ha]; rfl, ?_⟩
  unfold numV
  rw [ha]
  show Lib.itoa (-(v : Int)) = _
  rw [Lib.itoa_neg v (v3 hne), v2]
 ·rw [hr] at h4 hd v1 v2
  have ha := atoi_pos h4 hd v1
  refine ⟨by rw [ha]; rfl, ?_⟩
  unfold numV
  rw [ha]
  show Lib.itoa (v : Int) = _
  rw [Lib.itoa_nonneg, v2]
theorem intC_f {s : Str} {m : Int} (h1 : cutMinus s ≠ []) (h2 : ((cutMinus s).length : Int) ≤ m) (h3 : ∀ c ∈ cutMinus s, dig c = true) : intC s m = false := by
 unfold intC
 have hp := List.length_pos_iff.2 h1
 rw [Bool.or_eq_false_iff]
 constructor
 ·simp [out]; omega
 ·have h : ∀ c ∈ cutMinus s, dig10.contains c = true := fun c hc => by rw [← dig_dig10]; exact h3 c hc
  unfold trim10 rtrim
  rw [dropW_all (s := (cutMinus s).reverse) fun c hc => h c (List.mem_reverse.1 hc)]
  rfl
theorem intC_of {s : Str} {m : Int} (h : intC s m = false) : cutMinus s ≠ [] ∧ ((cutMinus s).length : Int) ≤ m ∧ ∀ c ∈ cutMinus s, dig c = true := by
 unfold intC at h
 rw [Bool.or_eq_false_iff] at h
 obtain ⟨h1, h2⟩ := h
 have h1 := out_f h1
 have h3 := trim10_nil (by simpa using h2)
 refine ⟨fun e => by rw [e] at h1; simp at h1, h1.2, fun c hc => by rw [dig_dig10]; exact h3 c hc⟩
/-- Both ways to read a number say the same. -/
theorem num_int (s : Str) (m : Int) : numB s m = intB s m ∧ (numB s m = true → intR s m = numV s ∧ numR s m = numV s) := by
 cases hn : numB s m with
 | true =>
   obtain ⟨⟨a1, a2, a3⟩, _, a4⟩ := numB_canon hn
   have hc := intC_f (m := m) a1 a2 a3
   exact ⟨by simp [intB, hc, a4], fun _ => ⟨by simp [intR, hc], by simp [numR, hn]⟩⟩
 | false =>
   refine ⟨?_, fun h => by cases h⟩
   cases hc : intC s m with
   | true => simp [intB, hc]
   | false =>
     obtain ⟨a1, a2, a3⟩ := intC_of hc
     have hall : (cutMinus s).all dig = true := List.all_eq_true.2 a3
     have hC : numC s m = true := by
      unfold numB at hn
      rw [hall, Bool.and_true, Bool.not_eq_false'] at hn
      exact hn
     have h48 := of_decide_eq_true hC
     rw [head_nat] at h48
     have h48' : ((cutMinus s).head?).getD 0 = 48 ∧ ((1 : Int) < ((cutMinus s).length : Int) ∨ (cutMinus s).length < s.length) := by
      rcases h48 with (h | h) | h
      ·exact absurd h a1
      ·omega
      ·exact h
     have : Lib.itoa (numV s) ≠ s := by
      intro e
      rcases Int.lt_or_le (numV s) 0 with hneg | hpos
      ·obtain ⟨u, hu⟩ : ∃ u : Nat, numV s = -(u : Int) := ⟨(numV s).natAbs, by omega⟩
       rw [hu, Lib.itoa_neg u (by omega)] at e
       have hcut : cutMinus s = Lib.decDigits u := by rw [← e]; rfl
       rw [hcut] at h48'
       have := head48 u h48'.1
       omega
      ·obtain ⟨u, hu⟩ : ∃ u : Nat, numV s = (u : Int) := ⟨(numV s).toNat, by omega⟩
       rw [hu, Lib.itoa_nonneg] at e
       have hcut : cutMinus s = Lib.decDigits u := by rw [← e]; exact cut_digits u
       rw [hcut, ← e] at h48'
       have := head48 u h48'.1
       subst this
       have hl : (Lib.decDigits 0).length = 1 := by rw [decDigits_small (by omega)]; rfl
       omega
     simp [intB, this]
/-- What is taken for a number is read, and is not great. -/
theorem num_read {s : Str} {m : Int} (hm : m ≤ 17) (h : intC s m = false) : (Lib.atoi s).isSome = true ∧ s.length ≤ 18 ∧ -1000000000000000000 < numV s ∧ numV s < 1000000000000000000 := by
 obtain ⟨a1, a2, a3⟩ := intC_of h
 have a4 : ∀ c ∈ cutMinus s, dig10.contains c = true := fun c hc => by rw [← dig_dig10]; exact a3 c hc
 obtain ⟨n, hn⟩ := decFrom_some (cutMinus s) 0 a4
 have hl : s.length ≤ 18 := by
  have : s.length ≤ (cutMinus s).length + 1 := by
   unfold cutMinus; split <;> simp
  omega
 have hs : ∃ z, Lib.atoi s = some z := by
  rcases cutMinus_cases s with ⟨r, rfl, hr⟩ | ⟨_, hr⟩
  ·rw [hr] at a1 hn; exact ⟨_, atoi_minus a1 hn⟩
  ·rw [hr] at a1 a3 hn; exact ⟨_, atoi_pos a1 a3 hn⟩
 obtain ⟨z, hz⟩ := hs
 refine ⟨by rw [hz]; rfl, hl, ?_⟩
 have := Lib.atoi_bound hz hl
 unfold numV; rw [hz]; exact this
theorem numB_intC {s : Str} {m : Int} (h : numB s m = true) : intC s m = false := by
 obtain ⟨⟨a1, a2, a3⟩, _, _⟩ := numB_canon h
 exact intC_f a1 a2 a3
end Go.HL
end
section
namespace Go.HL
def wordsB (line : Str) (many : Int) : Bool := decide (((spl 32 line).length : Int) = many) && (spl 32 line).all (fun w => !w.isEmpty)
def wordsL (line : Str) (many : Int) : List Str := if wordsB line many then spl 32 line else []
theorem wordsB_1 {line : Str} {many : Int} (h : ((spl 32 line).length : Int) ≠ many) : wordsB line many = false := by simp [wordsB, h]
theorem wordsB_2 {line : Str} {many : Int} (h : (spl 32 line).all (fun w => !w.isEmpty) = false) : wordsB line many = false := by simp [wordsB, h]
theorem wordsB_3 {line : Str} {many : Int} (h0 : ((spl 32 line).length : Int) = many) (h : (spl 32 line).all (fun w => !w.isEmpty) = true) : wordsB line many = true := by simp [wordsB, h0, h]
theorem all_nilW {x : Str} {r : List Str} (h : x = []) : (x :: r).all (fun w => !w.isEmpty) = false := by subst h; rfl
def lnsL (text : Str) : List Str := if text = [] then [] else spl 10 (Lib.trimSuffix text [10])
def lnsE (text : Str) : Bool := if text = [] then true else Lib.hasSuffix text [10]
/-- The lines that a line feed ends. -/
def lns (text : Str) : List Str := (spl 10 text).dropLast
def goL (ok : Str → Bool) : Nat → List Str → Int × Bool
 | _, [] => (0, true)
 | k, [s] => if s = [] then (0, true) else ((k : Int), false)
 | k, s :: t :: r => if ok s then goL ok (k + 1) (t :: r) else ((k : Int), false)
def eachP (ok : Str → Bool) (ends : Bool) (n : Nat) : Nat → List Str → Int × Bool
 | _, [] => (0, true)
 | k, s :: r => if (!ends && decide ((k : Int) = (n : Int) - 1)) || !(ok s) then ((k : Int), false) else eachP ok ends n (k + 1) r
theorem eachP_cons (ok : Str → Bool) (ends : Bool) (n k : Nat) (s : Str) (r : List Str) : eachP ok ends n k (s :: r) = if (!ends && decide ((k : Int) = (n : Int) - 1)) || !(ok s) then ((k : Int), false) else eachP ok ends n (k + 1) r := rfl
theorem hasSuffix_iff {t : Str} : Lib.hasSuffix t [10] = true ↔ ∃ body, t = body ++ [10] := by
 unfold Lib.hasSuffix
 rw [List.isSuffixOf_iff_suffix]
 constructor
 ·rintro ⟨b, h⟩; exact ⟨b, h.symm⟩
 ·rintro ⟨b, h⟩; exact ⟨b, h.symm⟩
theorem trimSuffix_app (body : Str) : Lib.trimSuffix (body ++ [10]) [10] = body := by
 have : Lib.hasSuffix (body ++ [10]) [10] = true := hasSuffix_iff.2 ⟨_, rfl⟩
 unfold Lib.trimSuffix
 rw [if_pos this]
 simp
theorem trimSuffix_no {t : Str} (h : Lib.hasSuffix t [10] = false) : Lib.trimSuffix t [10] = t := by
 unfold Lib.trimSuffix
 rw [if_neg (by simp [h])]
theorem spl_snoc (c : UInt8) : ∀ b : Str, spl c (b ++ [c]) = spl c b ++ [[]]
 | [] => by simp [spl]
 | x :: b => by
   by_cases h : x = c
   ·subst h; rw [List.cons_append, spl_eq, spl_eq, spl_snoc x b]; rfl
   ·obtain ⟨y, r, hy⟩ := spl_cons (c := c) b
    have h2 := spl_snoc c b
    rw [hy] at h2
    rw [List.cons_append, spl_of_ne h hy, spl_of_ne h (x := y) (r := r ++ [[]]) (by rw [h2]; rfl)]
    rfl
theorem spl_last (c : UInt8) : ∀ b : Str, (∀ t, b ≠ t ++ [c]) → b ≠ [] → (spl c b).getLast (spl_ne c b) ≠ []
 | [], _, h => absurd rfl h
 | x :: b, h, _ => by
   by_cases hb : b = []
   ·subst hb
    have : x ≠ c := fun e => h [] (by simp [e])
    have h2 : spl c [x] = [[x]] := spl_of_ne this rfl
    simp [h2]
   ·have ih := spl_last c b (fun t e => h (x :: t) (by rw [e]; rfl)) hb
    by_cases hx : x = c
    ·subst hx
     have h2 := spl_eq x b
     simp only [h2]
     rw [List.getLast_cons (spl_ne x b)]; exact ih
    ·obtain ⟨y, r, hy⟩ := spl_cons (c := c) b
     have h2 := spl_of_ne hx hy
     simp only [h2]
     cases r with
     | nil => simp
     | cons z r =>
       simp only [hy] at ih
       rw [List.getLast_cons (by simp)] at ih ⊢
       exact ih
theorem lnsL_ends {text : Str} (h0 : text ≠ []) (h : lnsE text = true) : lnsE text = Lib.hasSuffix text [10] ∧ spl 10 text = lnsL text ++ [[]] ∧ lns text = lnsL text := by
 have e : lnsE text = Lib.hasSuffix text [10] := by unfold lnsE; rw [if_neg h0]
 obtain ⟨body, rfl⟩ := hasSuffix_iff.1 (e ▸ h)
 have h1 : lnsL (body ++ [10]) = spl 10 body := by unfold lnsL; rw [if_neg h0, trimSuffix_app]
 have h2 := spl_snoc 10 body
 refine ⟨e, by rw [h2, h1], ?_⟩
 unfold lns; rw [h2, h1]; simp
theorem lnsL_open {text : Str} (h : lnsE text = false) : text ≠ [] ∧ lnsL text = spl 10 text ∧ (lnsL text).getLast? ≠ some [] := by
 have h0 : text ≠ [] := by rintro rfl; simp [lnsE] at h
 have e : Lib.hasSuffix text [10] = false := by unfold lnsE at h; rw [if_neg h0] at h; exact h
 have h1 : lnsL text = spl 10 text := by unfold lnsL; rw [if_neg h0, trimSuffix_no e]
 refine ⟨h0, h1, ?_⟩
 rw [h1, List.getLast?_eq_some_getLast (spl_ne 10 text)]
 have := spl_last 10 text (fun t et => by rw [hasSuffix_iff.2 ⟨t, et⟩] at e; cases e) h0
 intro hh; exact this (Option.some.inj hh)
theorem eachP_ends (ok : Str → Bool) (n : Nat) : ∀ (l : List Str) (k : Nat), eachP ok true n k l = goL ok k (l ++ [[]])
 | [], k => by simp [eachP, goL]
 | s :: r, k => by
   have ih := eachP_ends ok n r (k + 1)
   obtain ⟨t, q, hq⟩ : ∃ t q, r ++ [[]] = t :: q := by
    cases r with
    | nil => exact ⟨[], [], rfl⟩
    | cons a b => exact ⟨a, b ++ [[]], rfl⟩
   rw [List.cons_append, hq]
   rw [hq] at ih
   simp only [eachP, goL, Bool.not_true, Bool.false_and, Bool.false_or, ih]
   cases ok s <;> simp
theorem eachP_open (ok : Str → Bool) (n : Nat) : ∀ (l : List Str) (k : Nat), l ≠ [] → n = k + l.length → l.getLast? ≠ some [] → eachP ok false n k l = goL ok k l
 | [], k, h, _, _ => absurd rfl h
 | [s], k, _, hn, hl => by
   have : s ≠ [] := fun e => hl (by simp [e])
   simp only [List.length_cons, List.length_nil] at hn
   have h2 : decide ((k : Int) = (n : Int) - 1) = true := decide_eq_true (by omega)
   simp [eachP, goL, this, h2]
 | s :: t :: r, k, _, hn, hl => by
   simp only [List.length_cons] at hn
   have ih := eachP_open ok n (t :: r) (k + 1) (by simp) (by simp only [List.length_cons]; omega) (by simpa using hl)
   have h2 : decide ((k : Int) = (n : Int) - 1) = false := decide_eq_false (by omega)
   rw [eachP, goL, h2, ih]
   cases ok s <;> simp
theorem eachP_goL (ok : Str → Bool) (text : Str) : eachP ok (lnsE text) (lnsL text).length 0 (lnsL text) = goL ok 0 (spl 10 text) := by
 by_cases h0 : text = []
 ·subst h0; simp [lnsL, eachP, goL, spl]
 ·cases he : lnsE text with
  | true =>
    obtain ⟨_, h1, _⟩ := lnsL_ends h0 he
    rw [h1]; exact eachP_ends ok _ _ _
  | false =>
    obtain ⟨_, h1, h2⟩ := lnsL_open he
    rw [eachP_open ok _ _ _ (by rw [h1]; exact spl_ne 10 text) (by omega) h2, h1]
/-- All lines were taken: the text ends with a line feed. -/
theorem eachP_true {ok : Str → Bool} {text : Str} (h : (goL ok 0 (spl 10 text)).2 = true) : lns text = lnsL text := by
 by_cases h0 : text = []
 ·subst h0; rfl
 ·cases he : lnsE text with
  | true => exact (lnsL_ends h0 he).2.2
  | false =>
    exfalso
    rw [← eachP_goL] at h
    obtain ⟨_, h1, h2⟩ := lnsL_open he
    rw [he] at h
    have key : ∀ (l : List Str) (k : Nat), l ≠ [] → (lnsL text).length = k + l.length → (eachP ok false (lnsL text).length k l).2 = false := by
     intro l
     induction l with
     | nil => intro k h; exact absurd rfl h
     | cons s r ih =>
       intro k _ hn
       simp only [List.length_cons] at hn
       simp only [eachP]
       by_cases hr : r = []
       ·subst hr
        simp only [List.length_nil] at hn
        have : decide ((k : Int) = ((lnsL text).length : Int) - 1) = true := decide_eq_true (by omega)
        rw [this]; rfl
       ·split
        ·rfl
        ·exact ih (k + 1) hr (by omega)
    rw [key _ 0 (by rw [h1]; exact spl_ne 10 text) (by omega)] at h
    cases h
theorem trimSuffix_len (text : Str) : (Lib.trimSuffix text [10]).length ≤ text.length := by unfold Lib.trimSuffix; split <;> simp
theorem lnsL_many (text : Str) : (lnsL text).length ≤ text.length := by
 by_cases h0 : text = []
 ·subst h0; simp [lnsL]
 ·cases he : lnsE text with
  | true =>
    obtain ⟨e, h1, _⟩ := lnsL_ends h0 he
    obtain ⟨body, hb⟩ := hasSuffix_iff.1 (e ▸ he)
    have h2 := spl_len 10 text
    rw [h1] at h2
    have h3 := List.count_le_length (a := (10 : UInt8)) (l := text)
    simp at h2; omega
  | false =>
    obtain ⟨_, h1, _⟩ := lnsL_open he
    have e : Lib.hasSuffix text [10] = false := by unfold lnsE at he; rw [if_neg h0] at he; exact he
    rw [h1, spl_len]
    have h4 : text.count 10 ≤ text.length := List.count_le_length
    rcases Nat.lt_or_ge (text.count 10) text.length with h | h
    ·omega
    ·exfalso
     have hall : ∀ c ∈ text, c = 10 := fun c hc => (List.count_eq_length.1 (by omega : text.count 10 = text.length) c hc).symm
     rcases List.eq_nil_or_concat text with h5 | ⟨t', c, h5⟩
     ·exact h0 h5
     ·have : c = 10 := hall c (by rw [h5]; simp)
      subst this
      have h6 : text = t' ++ [10] := by rw [h5]; simp
      rw [hasSuffix_iff.2 ⟨t', h6⟩] at e; cases e
theorem lnsL_len {text : Str} : ∀ x ∈ lnsL text, x.length ≤ text.length := fun x hx => by
 unfold lnsL at hx
 split at hx
 ·cases hx
 ·exact Nat.le_trans (spl_mem_len 10 _ x hx) (trimSuffix_len text)
/-- The step of the reference. -/
theorem goL_cut {ok : Str → Bool} {k : Nat} {t : Str} (h0 : t ≠ []) (hc : (cutF 10 t).2.2 = true) : goL ok k (spl 10 t) = if ok (cutF 10 t).1 then goL ok (k + 1) (spl 10 (cutF 10 t).2.1) else ((k : Int), false) := by
 rw [cutF_spl 10 t hc]
 obtain ⟨x, r, hx⟩ := spl_cons (c := 10) (cutF 10 t).2.1
 rw [hx]; rfl
theorem goL_no {ok : Str → Bool} {k : Nat} {t : Str} (h0 : t ≠ []) (hc : (cutF 10 t).2.2 = false) : goL ok k (spl 10 t) = ((k : Int), false) := by
 rw [cutF_no 10 t hc]; simp [goL, h0]
theorem goL_f {ok : Str → Bool} {k : Nat} {t : Str} (h0 : t ≠ []) (h : (cutF 10 t).2.2 = true → ok (cutF 10 t).1 = false) : goL ok k (spl 10 t) = ((k : Int), false) := by
 cases hc : (cutF 10 t).2.2 with
 | true => rw [goL_cut h0 hc, h hc]; rfl
 | false => exact goL_no h0 hc
theorem lns_cut {t : Str} (hc : (cutF 10 t).2.2 = true) : lns t = (cutF 10 t).1 :: lns (cutF 10 t).2.1 := by
 unfold lns
 rw [cutF_spl 10 t hc]
 obtain ⟨x, r, hx⟩ := spl_cons (c := 10) (cutF 10 t).2.1
 rw [hx]; rfl
end Go.HL
end
section
namespace Go.HL
def intsB (w : List Str) (m : Int) : Bool := w.all (intB · m)
def intsL (w : List Str) (m : Int) : List Int := if intsB w m then w.map (intR · m) else []
theorem intsB_cons (s : Str) (w : List Str) (m : Int) : intsB (s :: w) m = (intB s m && intsB w m) := rfl
end Go.HL
end
section
namespace Go.HL
theorem ret_gw [Tracks] {rs : List ResultVar} {e e' : Env} {M M' : List MObj} {h h' : HVal} {Q : HVal → List MObj → Prop} (hg : Ghost e M e' M') (hr : resH e' rs = some h) (hw : Weak h h') (hh : Q h' M') : RetQ rs Q .ret e M :=
 ⟨e', M', hg, h, h', hr, hw, hh⟩
theorem weakW [Tracks] {line : Str} {many : Int} (h : wordsB line many = false) : Weak (.tup [.raw (.slice none 0 0), .bool false]) (.tup [eSs (wordsL line many), .bool (wordsB line many)]) := by
 rw [wordsL, h]; exact weak_tup2 (weak_nil 1) (Weak.refl _)
theorem eqW {line : Str} {many : Int} (h : wordsB line many = true) : HVal.tup [eSs (spl 32 line), .bool true] = .tup [eSs (wordsL line many), .bool (wordsB line many)] := by
 rw [wordsL, h]; rfl
theorem weakLn [Tracks] {text : Str} (h : text = []) : Weak (.tup [.raw (.slice none 0 0), .bool true]) (.tup [eSs (lnsL text), .bool (lnsE text)]) := by
 subst h; exact weak_tup2 (weak_nil 1) (Weak.refl _)
theorem eqLn {text : Str} (h : text ≠ []) : HVal.tup [eSs (spl 10 (Lib.trimSuffix text [10])), .bool (Lib.hasSuffix text [10])] = .tup [eSs (lnsL text), .bool (lnsE text)] := by
 rw [lnsL, lnsE, if_neg h, if_neg h]
theorem weakI [Tracks] {w : List Str} {m : Int} (h : intsB w m = false) : Weak (.tup [.raw (.slice none 0 0), .bool false]) (.tup [.slice 1 ((intsL w m).map (.int .i64)), .bool (intsB w m)]) := by
 rw [intsL, h]; exact weak_tup2 (weak_nil 1) (Weak.refl _)
theorem eqI {w : List Str} {m : Int} (h : intsB w m = true) : HVal.tup [.slice 1 ((w.map (intR · m)).map (.int .i64)), .bool true] = .tup [.slice 1 ((intsL w m).map (.int .i64)), .bool (intsB w m)] := by
 rw [intsL, h]; rfl
theorem intsB_f {x : Str} {w w' : List Str} {m : Int} (hg : intsB w m = (intB x m && intsB w' m)) (h : intB x m = false) : intsB w m = false := by rw [hg, h]; rfl
end Go.HL
end
section
namespace Go.Proofs.YtdjpppifnmjhoaaGreatDoor
open Go.HL
set_option maxRecDepth 100000
set_option linter.unusedVariables false
set_option linter.unusedSimpArgs false
theorem VL_two [Tracks] {I : Imm} {c d : HVal} {vs : List Value} (h : VL I [c, d] vs) : ∃ u v, vs = [u, v] ∧ V I c u ∧ V I d v := by
 have h1 := h.1
 rcases vs with _ | ⟨u, _ | ⟨v, _ | ⟨w, r⟩⟩⟩
 ·simp at h1
 ·simp at h1
 ·exact ⟨u, v, rfl, h.head, h.tail.head⟩
 ·simp at h1
theorem trimMinus [Tracks] (s : Str) : Lib.trimPrefix s [45] = cutMinus s := by
 unfold Lib.trimPrefix Lib.hasPrefix
 cases s with
 | nil => rfl
 | cons c r =>
   by_cases h : c = 45
   ·subst h; simp [cutMinus]
   ·have h' : ¬ (45 : UInt8) = c := fun e => h e.symm
    simp only [List.isPrefixOf, beq_iff_eq, h', Bool.and_eq_true, false_and, if_false]
    unfold cutMinus
    split
    ·rename_i heq; simp at heq; exact absurd heq.1 h
    ·rfl
/-- strings.TrimPrefix of a minus -/
theorem c_strings_TrimPrefix [Tracks] {s : Str} : ConP Tryz.prog 157 [.str s, .str [45]] (.str (cutMinus s)) :=
 conp_of_calls fun I w args ha => by
  obtain ⟨u, v, rfl, hu, hv⟩ := VL_two ha
  obtain rfl := hu.str_inv
  obtain rfl := hv.str_inv
  refine ⟨_, .str _, ?_⟩
  have := Any.strings_TrimPrefix Tryz.lays101 ⟨s.toArray⟩ ⟨[45].toArray⟩ w
  rw [show (⟨s.toArray⟩ : ByteArray).data.toList = s by simp, show (⟨[45].toArray⟩ : ByteArray).data.toList = [45] by simp, trimMinus] at this
  exact this
/-- strconv.Atoi of a short numeral -/
theorem c_strconv_Atoi [Tracks] {s : Str} (hl : s.length ≤ 18) (h : (Lib.atoi s).isSome = true) : ConP Tryz.prog 158 [.str s] (.tup [.int .i64 (numV s), .raw .nilIface]) :=
 conp_atoi fun w => Any.strconv_Atoi Tryz.lays172 ⟨s.toArray⟩ (numV s) (by simpa [ByteArray.size] using hl) (by
  obtain ⟨n, hn⟩ := Option.isSome_iff_exists.1 h
  simp [numV, hn]) w

/-- benchwarmer/base.Words -/
theorem c_base_Words [Tracks] {line : Str} {many : Int} (hl : line.length ≤ 1000000) : ConP Tryz.prog 54 [.str line, .int .i64 many] (.tup [eSs (wordsL line many), .bool (wordsB line many)]) := by
 have hsl := spl_len 32 line
 have hsc := List.count_le_length (a := (32 : UInt8)) (l := line)
 refine Con.of_body Tryz.func54 rfl Tryz.ntmps54 rfl rfl ?_
 refine hw_reg ?_
 refine dp rfl (pop_assign rfl) ?_
 refine dp rfl (pop_assign rfl) ?_
 refine dn ?_
 refine hw_reg ?_
 refine dp rfl (pop_move rfl) ?_
 refine dp rfl (pop_call ca72 rfl (WeakL.refl _) (c_strings_Split (c := 32) (by omega))) ?_
 refine dp rfl (pop_assign rfl) ?_
 refine dn ?_
 refine hw_seq ?_
 refine hw_reg ?_
 refine dp rfl (pop_move rfl) ?_
 refine dp rfl (pop_lenm ty26 rfl) ?_
 refine dp rfl (pop_move rfl) ?_
 refine dp rfl (pop_neq rfl rfl) ?_
 refine dn ?_
 refine hw_cond rfl (fun h1 => ?_) (fun h2 => ?_)
 ·try simp at h1
  refine hw_reg ?_
  refine dp rfl (pop_assign rfl) ?_
  refine dp rfl (pop_assign rfl) ?_
  refine dn ?_
  refine hw_ret ?_
  first
  | exact ret_w rfl (weakW (wordsB_1 h1))
  | exact ret_w rfl (weakW (wordsB_2 (hg.trans (all_nilW h5))))
  | exact ret_p rfl (eqW (wordsB_3 h2 hg))
 ·try simp at h2
  refine hw_skip ?_
  refine seqQ_n ?_
  refine hw_seq ?_
  refine hw_reg ?_
  refine dp rfl (pop_move rfl) ?_
  refine dp rfl (pop_lenm ty26 rfl) ?_
  refine dp rfl (pop_move rfl) ?_
  refine dn ?_
  refine hw_block ?_
  refine hw_loopw [4, 5, 8, 17, 18, 19, 20, 21, 22, 23] (fun (k : Nat) => [(17, .int .i64 k)]) (fun (k : Nat) => []) (fun (k : Nat) => k ≤ (spl 32 line).length ∧ ((spl 32 line).all (fun w => !w.isEmpty) = ((spl 32 line).drop k).all (fun w => !w.isEmpty))) (fun (k : Nat) => (spl 32 line).length - k) (0) ?_ ?_ ?_ ?_
  ·exact ⟨Nat.zero_le _, rfl⟩
  ·exact ⟨rfl, trivial⟩
  ·exact List.Perm.refl _
  ·intro k hinv
   obtain ⟨hk, hg⟩ := hinv
   refine hw_reg ?_
   refine dp rfl (pop_lss rfl rfl) ?_
   refine dn ?_
   refine hw_seq ?_
   refine hw_cond rfl (fun h3 => ?_) (fun h4 => ?_)
   ·try simp at h3
    obtain ⟨x, hx⟩ : ∃ x, (spl 32 line)[k]? = some x := ⟨_, List.getElem?_eq_getElem h3⟩
    have hdx := drop_cons hx
    rw [hdx] at hg
    refine hw_skip ?_
    refine seqQ_n ?_
    refine hw_seq ?_
    refine hw_block ?_
    refine hw_reg ?_
    refine dp rfl (pop_idx ty26 ty9 rfl rfl rfl (by first | assumption | simp_all)) ?_
    refine dp rfl (pop_load ty9 rfl rfl rfl) ?_
    refine dp rfl (pop_assign rfl) ?_
    refine dn ?_
    refine hw_reg ?_
    refine dp rfl (pop_move rfl) ?_
    refine dp rfl (pop_eqls rfl rfl) ?_
    refine dn ?_
    refine hw_cond rfl (fun h5 => ?_) (fun h6 => ?_)
    ·try simp at h5
     refine hw_reg ?_
     refine dp rfl (pop_assign rfl) ?_
     refine dp rfl (pop_assign rfl) ?_
     refine dn ?_
     refine hw_ret ?_
     first
     | exact ret_w rfl (weakW (wordsB_1 h1))
     | exact ret_w rfl (weakW (wordsB_2 (hg.trans (all_nilW h5))))
     | exact ret_p rfl (eqW (wordsB_3 h2 hg))
    ·try simp at h6
     refine hw_skip ?_
     refine blockQ_n ?_
     refine seqQ_n ?_
     refine hw_reg1 ?_
     refine dp rfl (pop_add64 rfl rfl (by omega) (by omega)) ?_
     refine dp rfl (pop_move rfl) ?_
     refine dn ?_
     refine ⟨k + 1, ?_, ?_, ⟨rfl, trivial⟩, (by repeat (first | exact keeps_refl | refine keeps_upd rfl ?_ | refine keeps_loop rfl rfl ?_)), List.Perm.refl _⟩
     ·refine ⟨by omega, ?_⟩
      rw [hg]; simp_all
     ·dsimp only; omega
   ·try simp at h4
    have hnk : (spl 32 line).length ≤ k := by omega
    obtain rfl : k = (spl 32 line).length := by omega
    rw [drop_all (Nat.le_refl _)] at hg
    refine hw_exit ?_
    refine seqQ_x ?_
    refine loopQ_x ?_
    refine blockQ_eq ?_
    refine seqQ_n ?_
    refine hw_reg ?_
    refine dp rfl (pop_move rfl) ?_
    refine dp rfl (pop_assign rfl) ?_
    refine dp rfl (pop_assign rfl) ?_
    refine dn ?_
    refine hw_ret ?_
    first
    | exact ret_w rfl (weakW (wordsB_1 h1))
    | exact ret_w rfl (weakW (wordsB_2 (hg.trans (all_nilW h5))))
    | exact ret_p rfl (eqW (wordsB_3 h2 hg))

/-- benchwarmer/base.Lines -/
theorem c_base_Lines [Tracks] {text : Str} (ht : text.length ≤ 1000000) : ConP Tryz.prog 98 [.str text] (.tup [eSs (lnsL text), .bool (lnsE text)]) := by
 have htl : (Lib.trimSuffix text [10]).length ≤ text.length := by unfold Lib.trimSuffix; split <;> simp
 refine Con.of_body Tryz.func98 rfl Tryz.ntmps98 rfl rfl ?_
 refine hw_reg ?_
 refine dp rfl (pop_assign rfl) ?_
 refine dp rfl (pop_assign rfl) ?_
 refine dn ?_
 refine hw_seq ?_
 refine hw_reg ?_
 refine dp rfl (pop_move rfl) ?_
 refine dp rfl (pop_eqls rfl rfl) ?_
 refine dn ?_
 refine hw_cond rfl (fun h1 => ?_) (fun h2 => ?_)
 ·try simp at h1
  refine hw_reg ?_
  refine dp rfl (pop_assign rfl) ?_
  refine dp rfl (pop_assign rfl) ?_
  refine dn ?_
  refine hw_ret ?_
  first
  | exact ret_w rfl (weakLn h1)
  | exact ret_p rfl (eqLn h2)
 ·try simp at h2
  refine hw_skip ?_
  refine seqQ_n ?_
  refine hw_reg ?_
  refine dp rfl (pop_move rfl) ?_
  refine dp rfl (pop_call ca155 rfl (WeakL.refl _) (c_strings_CutSuffix (p := [10]) (by omega))) ?_
  refine dp rfl (pop_move rfl) ?_
  refine dp rfl (pop_extract rfl rfl) ?_
  refine dp rfl (pop_extract rfl rfl) ?_
  refine dp rfl (pop_assign rfl) ?_
  refine dp rfl (pop_assign rfl) ?_
  refine dn ?_
  refine hw_reg ?_
  refine dp rfl (pop_move rfl) ?_
  refine dp rfl (pop_call ca72 rfl (WeakL.refl _) (c_strings_Split (c := 10) (by omega))) ?_
  refine dp rfl (pop_move rfl) ?_
  refine dp rfl (pop_assign rfl) ?_
  refine dp rfl (pop_assign rfl) ?_
  refine dn ?_
  refine hw_ret ?_
  first
  | exact ret_w rfl (weakLn h1)
  | exact ret_p rfl (eqLn h2)

/-- benchwarmer/base.Number -/
theorem c_base_Number_g [Tracks] {s : Str} {m : Int} (hs : s.length ≤ 1000000) (hm : m ≤ 17) : ConP Tryz.prog 102 [.str s, .int .i64 m] (.tup [.int .i64 (numR s m), .bool (numB s m)]) := by
 have hcl := cutMinus_len s
 refine Con.of_body Tryz.func102 rfl Tryz.ntmps102 rfl rfl ?_
 refine hw_reg ?_
 refine dp rfl (pop_assign rfl) ?_
 refine dp rfl (pop_assign rfl) ?_
 refine dn ?_
 refine hw_reg ?_
 refine dp rfl (pop_move rfl) ?_
 refine dp rfl (pop_call ca157 rfl (WeakL.refl _) c_strings_TrimPrefix) ?_
 refine dp rfl (pop_assign rfl) ?_
 refine dn ?_
 refine hw_seq ?_
 refine hw_reg ?_
 refine dp rfl (pop_move rfl) ?_
 refine dp rfl (pop_eqls rfl rfl) ?_
 refine dp rfl (pop_move rfl) ?_
 refine dg rfl rfl (fun hc => ⟨_, OpenTo.refl _, pop_move rfl⟩) ?_
 refine dg rfl rfl (fun hc => ⟨_, OpenTo.upd (t := 15) rfl (by first | exact hc | simp_all) (OpenTo.refl _), pop_lens ty9 rfl⟩) ?_
 refine dg rfl rfl (fun hc => ⟨_, OpenTo.refl _, pop_move rfl⟩) ?_
 refine dg rfl rfl (fun hc => ⟨_, OpenTo.upd (t := 17) rfl (by first | exact hc | simp_all) (OpenTo.upd (t := 16) rfl (by first | exact hc | simp_all) (OpenTo.refl _)), pop_gtr rfl rfl⟩) ?_
 refine dp rfl (pop_picko rfl (.inl rfl) (.inr ⟨_, rfl, fun h => by simp_all⟩)) ?_
 refine dp rfl (pop_move rfl) ?_
 refine dg rfl rfl (fun hc => ⟨_, OpenTo.refl _, pop_move rfl⟩) ?_
 refine dg rfl rfl (fun hc => ⟨_, OpenTo.upd (t := 21) rfl (by first | exact hc | simp_all) (OpenTo.refl _), pop_indexs (j := 0) (b := (cutMinus s).headD 0) ty9 rfl rfl rfl (hd0 (by simp_all))⟩) ?_
 refine dg rfl rfl (fun hc => ⟨_, OpenTo.upd (t := 22) rfl (by first | exact hc | simp_all) (OpenTo.refl _), pop_eql rfl rfl⟩) ?_
 refine dg rfl rfl (fun hc => ⟨_, OpenTo.upd (t := 23) rfl (by first | exact hc | simp_all) (OpenTo.refl _), pop_move rfl⟩) ?_
 refine dg rfl rfl (fun hc => ⟨_, OpenTo.refl _, pop_move rfl⟩) ?_
 refine dg rfl rfl (fun hc => ⟨_, OpenTo.upd (t := 25) rfl (by first | exact hc | simp_all) (OpenTo.refl _), pop_lens ty9 rfl⟩) ?_
 refine dg rfl rfl (fun hc => ⟨_, OpenTo.upd (t := 26) rfl (by first | exact hc | simp_all) (OpenTo.refl _), pop_gtr rfl rfl⟩) ?_
 refine dg rfl rfl (fun hc => ⟨_, OpenTo.upd (t := 27) rfl (by first | exact hc | simp_all) (OpenTo.refl _), pop_move rfl⟩) ?_
 refine dg rfl rfl (fun hc => ⟨_, OpenTo.refl _, pop_move rfl⟩) ?_
 refine dg rfl rfl (fun hc => ⟨_, OpenTo.upd (t := 29) rfl (by first | exact hc | simp_all) (OpenTo.refl _), pop_lens ty9 rfl⟩) ?_
 refine dg rfl rfl (fun hc => ⟨_, OpenTo.refl _, pop_move rfl⟩) ?_
 refine dg rfl rfl (fun hc => ⟨_, OpenTo.upd (t := 31) rfl (by first | exact hc | simp_all) (OpenTo.refl _), pop_lens ty9 rfl⟩) ?_
 refine dg rfl rfl (fun hc => ⟨_, OpenTo.upd (t := 32) rfl (by first | exact hc | simp_all) (OpenTo.upd (t := 30) rfl (by first | exact hc | simp_all) (OpenTo.refl _)), pop_gtr rfl rfl⟩) ?_
 refine dg rfl rfl (fun hc => ⟨_, OpenTo.upd (t := 28) rfl (by first | exact hc | simp_all) (OpenTo.refl _), pop_picko rfl (.inl rfl) (.inr ⟨_, rfl, fun h => by simp_all⟩)⟩) ?_
 refine dg rfl rfl (fun hc => ⟨_, OpenTo.upd (t := 24) rfl (by first | exact hc | simp_all) (OpenTo.refl _), pop_picko rfl (.inr ⟨_, rfl, fun h => by simp_all⟩) (.inl rfl)⟩) ?_
 refine dp rfl (pop_picko rfl (.inl rfl) (.inr ⟨_, rfl, fun h => by simp_all⟩)) ?_
 refine dn ?_
 refine hw_cond rfl (fun h1 => ?_) (fun h2 => ?_)
 ·try simp at h1
  refine hw_reg ?_
  refine dp rfl (pop_assign rfl) ?_
  refine dp rfl (pop_assign rfl) ?_
  refine dn ?_
  refine hw_ret ?_
  refine ret_p rfl ?_
  show HVal.tup _ = _
  first | (rw [numR, numB_1g h1]; rfl) | (rw [numR, show numB s m = false by rw [numB, hg, List.all_cons, dig_f h5]; simp]; rfl) | (rw [numR, hnb]; rfl)
 ·try simp at h2
  refine hw_skip ?_
  refine seqQ_n ?_
  refine hw_seq ?_
  refine hw_reg ?_
  refine dp rfl (pop_move rfl) ?_
  refine dp rfl (pop_lens ty9 rfl) ?_
  refine dp rfl (pop_move rfl) ?_
  refine dn ?_
  refine hw_block ?_
  refine hw_loopw [4, 5, 7, 39, 40, 41, 42, 43, 44, 45, 46, 47, 48, 49, 50, 51, 52] (fun (k : Nat) => [(39, .int .i64 k)]) (fun (k : Nat) => []) (fun (k : Nat) => k ≤ (cutMinus s).length ∧ (cutMinus s).all dig = ((cutMinus s).drop k).all dig) (fun (k : Nat) => (cutMinus s).length - k) (0) ?_ ?_ ?_ ?_
  ·exact ⟨Nat.zero_le _, rfl⟩
  ·exact ⟨rfl, trivial⟩
  ·exact List.Perm.refl _
  ·intro k hinv
   obtain ⟨hk, hg⟩ := hinv
   refine hw_reg ?_
   refine dp rfl (pop_lss rfl rfl) ?_
   refine dn ?_
   refine hw_seq ?_
   refine hw_cond rfl (fun h3 => ?_) (fun h4 => ?_)
   ·try simp at h3
    obtain ⟨x, hx⟩ : ∃ x, (cutMinus s)[k]? = some x := ⟨_, List.getElem?_eq_getElem h3⟩
    have hd := drop_cons hx
    rw [hd] at hg
    refine hw_skip ?_
    refine seqQ_n ?_
    refine hw_seq ?_
    refine hw_block ?_
    refine hw_reg ?_
    refine dp rfl (pop_move rfl) ?_
    refine dp rfl (pop_assign rfl) ?_
    refine dn ?_
    refine hw_reg ?_
    refine dp rfl (pop_move rfl) ?_
    refine dp rfl (pop_move rfl) ?_
    refine dp rfl (pop_indexs ty9 rfl rfl rfl (by first | assumption | simp_all)) ?_
    refine dp rfl (pop_lss rfl rfl) ?_
    refine dp rfl (pop_move rfl) ?_
    refine dg rfl rfl (fun hc => ⟨_, OpenTo.refl _, pop_move rfl⟩) ?_
    refine dg rfl rfl (fun hc => ⟨_, OpenTo.refl _, pop_move rfl⟩) ?_
    refine dg rfl rfl (fun hc => ⟨_, OpenTo.upd (t := 48) rfl (by first | exact hc | simp_all) (OpenTo.upd (t := 47) rfl (by first | exact hc | simp_all) (OpenTo.refl _)), pop_indexs ty9 rfl rfl rfl (by first | assumption | simp_all)⟩) ?_
    refine dg rfl rfl (fun hc => ⟨_, OpenTo.upd (t := 49) rfl (by first | exact hc | simp_all) (OpenTo.refl _), pop_gtr rfl rfl⟩) ?_
    refine dp rfl (pop_picko rfl (.inl rfl) (.inr ⟨_, rfl, fun h => by simp_all⟩)) ?_
    refine dn ?_
    refine hw_cond rfl (fun h5 => ?_) (fun h6 => ?_)
    ·try simp at h5
     refine hw_reg ?_
     refine dp rfl (pop_assign rfl) ?_
     refine dp rfl (pop_assign rfl) ?_
     refine dn ?_
     refine hw_ret ?_
     refine ret_p rfl ?_
     show HVal.tup _ = _
     first | (rw [numR, numB_1g h1]; rfl) | (rw [numR, show numB s m = false by rw [numB, hg, List.all_cons, dig_f h5]; simp]; rfl) | (rw [numR, hnb]; rfl)
    ·try simp at h6
     refine hw_skip ?_
     refine blockQ_n ?_
     refine seqQ_n ?_
     refine hw_reg1 ?_
     refine dp rfl (pop_add64 rfl rfl (by omega) (by omega)) ?_
     refine dp rfl (pop_move rfl) ?_
     refine dn ?_
     refine ⟨k + 1, ?_, ?_, ⟨rfl, trivial⟩, (by repeat (first | exact keeps_refl | refine keeps_upd rfl ?_ | refine keeps_loop rfl rfl ?_)), List.Perm.refl _⟩
     ·refine ⟨by omega, ?_⟩
      rw [hg, List.all_cons, dig_t h6]; rfl
     ·dsimp only; omega
   ·try simp at h4
    rw [drop_all (by omega)] at hg
    refine hw_exit ?_
    refine seqQ_x ?_
    refine loopQ_x ?_
    refine blockQ_eq ?_
    refine seqQ_n ?_
    refine hw_reg ?_
    refine dp rfl (pop_move rfl) ?_
    have hnb : numB s m = true := by simp [numB, numC_2g h2, hg]
    obtain ⟨hvat, hv18, _, _⟩ := num_read hm (numB_intC hnb)
    refine dp rfl (pop_call ca158 rfl (WeakL.refl _) (c_strconv_Atoi hv18 hvat)) ?_
    refine dp rfl (pop_move rfl) ?_
    refine dp rfl (pop_extract rfl rfl) ?_
    refine dp rfl (pop_extract rfl rfl) ?_
    refine dp rfl (pop_assign rfl) ?_
    refine dp rfl (pop_assign rfl) ?_
    refine dn ?_
    refine hw_draw (fun _ => True) [] mixed ?_
    refine ahp 0 rfl rfl (by kernel_rfl) (by kernel_rfl) (pop_move rfl) ?_
    refine ahp 1 rfl rfl (by kernel_rfl) (by kernel_rfl) (pop_move rfl) ?_
    refine ahp 2 rfl rfl (by kernel_rfl) (by kernel_rfl) (pop_eqnilI Tryz.underlying112 rfl) ?_
    refine ahp 3 rfl rfl (by kernel_rfl) (by kernel_rfl) (pop_assign rfl) ?_
    refine ahp 4 rfl rfl (by kernel_rfl) (by kernel_rfl) (pop_assign rfl) ?_
    refine ahz (by kernel_rfl) ?_
    refine hw_ret ?_
    refine ret_p rfl ?_
    show HVal.tup _ = _
    first | (rw [numR, numB_1g h1]; rfl) | (rw [numR, show numB s m = false by rw [numB, hg, List.all_cons, dig_f h5]; simp]; rfl) | (rw [numR, hnb]; rfl)

/-- benchwarmer/benchref1.Int -/
theorem c_benchref1_Int_m [Tracks] {s : Str} {m : Int} (hs : s.length ≤ 1000000) (hm : m ≤ 17) : ConP Tryz.prog 116 [.str s, .int .i64 m] (.tup [.int .i64 (intR s m), .bool (intB s m)]) := by
 have hcl := cutMinus_len s
 refine Con.of_body Tryz.func116 rfl Tryz.ntmps116 rfl rfl ?_
 refine hw_reg ?_
 refine dp rfl (pop_assign rfl) ?_
 refine dp rfl (pop_assign rfl) ?_
 refine dn ?_
 refine hw_reg ?_
 refine dp rfl (pop_move rfl) ?_
 refine dp rfl (pop_call ca157 rfl (WeakL.refl _) c_strings_TrimPrefix) ?_
 refine dp rfl (pop_assign rfl) ?_
 refine dn ?_
 refine hw_seq ?_
 refine hw_reg ?_
 refine dp rfl (pop_move rfl) ?_
 refine dp rfl (pop_lens ty9 rfl) ?_
 refine dp rfl (pop_move rfl) ?_
 refine dp rfl (pop_call ca38 rfl (WeakL.refl _) c_benchref1_in) ?_
 refine dp rfl (pop_not rfl) ?_
 refine dp rfl (pop_move rfl) ?_
 refine dg rfl rfl (fun hc => ⟨_, OpenTo.refl _, pop_move rfl⟩) ?_
 refine dg rfl rfl (fun hc => by have hq := hc; (try simp at hq); exact ⟨_, OpenTo.upd (t := 17) rfl (by first | exact hc | simp_all) (OpenTo.refl _), pop_call ca80 rfl (WeakL.refl _) (c_strings_Trim (l := dig10) (by omega) (by decide) (by decide) (by decide))⟩) ?_
 refine dg rfl rfl (fun hc => ⟨_, OpenTo.upd (t := 18) rfl (by first | exact hc | simp_all) (OpenTo.refl _), pop_neqs rfl rfl⟩) ?_
 refine dp rfl (pop_picko rfl (.inl rfl) (.inr ⟨_, rfl, fun h => by simp_all⟩)) ?_
 refine dn ?_
 refine hw_cond rfl (fun h1 => ?_) (fun h2 => ?_)
 ·try simp at h1
  refine hw_reg ?_
  refine dp rfl (pop_assign rfl) ?_
  refine dp rfl (pop_assign rfl) ?_
  refine dn ?_
  refine hw_ret ?_
  refine ret_p rfl ?_
  show HVal.tup _ = _
  first | (simp [intR, intB, hic]; done) | (have hic : intC s m = true := (by simpa [intC, trim10] using h1); simp [intR, intB, hic, ofVal, ofVal1]; done)
 ·try simp at h2
  refine hw_skip ?_
  refine seqQ_n ?_
  refine hw_reg ?_
  refine dp rfl (pop_move rfl) ?_
  have hic : intC s m = false := by simpa [intC, trim10] using h2
  obtain ⟨hvat, hv18, hvb1, hvb2⟩ := num_read hm hic
  refine dp rfl (pop_call ca158 rfl (WeakL.refl _) (c_strconv_Atoi hv18 hvat)) ?_
  refine dp rfl (pop_move rfl) ?_
  refine dp rfl (pop_extract rfl rfl) ?_
  refine dp rfl (pop_extract rfl rfl) ?_
  refine dp rfl (pop_assign rfl) ?_
  refine dp rfl (pop_assign rfl) ?_
  refine dn ?_
  refine hw_reg ?_
  refine dp rfl (pop_move rfl) ?_
  refine dp rfl (pop_move rfl) ?_
  refine dp rfl (pop_eqnilI Tryz.underlying112 rfl) ?_
  refine dp rfl (pop_move rfl) ?_
  refine dg rfl rfl (fun hc => ⟨_, OpenTo.refl _, pop_move rfl⟩) ?_
  refine dg rfl rfl (fun hc => by have hq := hc; (try simp at hq); exact ⟨_, OpenTo.upd (t := 30) rfl (by first | exact hc | simp_all) (OpenTo.refl _), pop_call ca29 rfl (WeakL.refl _) (c_Itoa (n := numV s) (by omega) (by omega))⟩) ?_
  refine dg rfl rfl (fun hc => ⟨_, OpenTo.refl _, pop_move rfl⟩) ?_
  refine dg rfl rfl (fun hc => ⟨_, OpenTo.upd (t := 32) rfl (by first | exact hc | simp_all) (OpenTo.upd (t := 31) rfl (by first | exact hc | simp_all) (OpenTo.refl _)), pop_eqls rfl rfl⟩) ?_
  refine dp rfl (pop_picko rfl (.inr ⟨_, rfl, fun h => by simp_all⟩) (.inl rfl)) ?_
  refine dp rfl (pop_assign rfl) ?_
  refine dp rfl (pop_assign rfl) ?_
  refine dn ?_
  refine hw_ret ?_
  refine ret_p rfl ?_
  show HVal.tup _ = _
  first | (simp [intR, intB, hic]; done) | (have hic : intC s m = true := (by simpa [intC, trim10] using h1); simp [intR, intB, hic, ofVal, ofVal1]; done)

/-- benchwarmer/benchref1.Ints -/
theorem c_benchref1_Ints [Tracks] {w : List Str} {m : Int} (hw : w.length ≤ 1000000) (hs : ∀ s ∈ w, s.length ≤ 1000000) (hm : m ≤ 17) : ConP Tryz.prog 73 [eSs w, .int .i64 m] (.tup [.slice 1 ((intsL w m).map (.int .i64)), .bool (intsB w m)]) := by
 refine Con.of_body Tryz.func73 rfl Tryz.ntmps73 rfl rfl ?_
 refine hw_reg ?_
 refine dp rfl (pop_assign rfl) ?_
 refine dp rfl (pop_assign rfl) ?_
 refine dn ?_
 refine hw_reg ?_
 refine dp rfl (pop_assign rfl) ?_
 refine dn ?_
 refine hw_ghost (Ghost.arr_nil 1) ?_
 refine hw_seq ?_
 refine hw_reg ?_
 refine dp rfl (pop_move rfl) ?_
 refine dp rfl (pop_lenm ty26 rfl) ?_
 refine dp rfl (pop_move rfl) ?_
 refine dn ?_
 refine hw_block ?_
 refine hw_loopw2 [4, 5, 6, 8, 9, 10, 13, 14, 15, 16, 17, 18, 19, 20, 21, 22, 23, 24, 25, 26, 27, 28, 29] (fun (k : Nat) (u : Value) => [(13, .int .i64 k), (6, .raw u)]) (fun (k : Nat) (u : Value) => [.arr u 1 (((w.take k).map (intR · m)).map (.int .i64))]) (fun (k : Nat) (u : Value) => k ≤ w.length ∧ (intsB w m = intsB (w.drop k) m ∧ (w.take k).all (intB · m) = true)) (fun (k : Nat) (u : Value) => w.length - k) (0) (.slice none 0 0) ?_ ?_ ?_ ?_
 ·exact ⟨Nat.zero_le _, rfl, rfl⟩
 ·exact ⟨rfl, rfl, trivial⟩
 ·exact perm_eq (by simp)
 ·intro k u hinv
  obtain ⟨hk, ⟨hg, hq⟩⟩ := hinv
  refine hw_reg ?_
  refine dp rfl (pop_lss rfl rfl) ?_
  refine dn ?_
  refine hw_seq ?_
  refine hw_cond rfl (fun h1 => ?_) (fun h2 => ?_)
  ·try simp at h1
   obtain ⟨x, hx⟩ : ∃ x, w[k]? = some x := ⟨_, List.getElem?_eq_getElem h1⟩
   have hdx := drop_cons hx
   rw [hdx, intsB_cons] at hg
   refine hw_skip ?_
   refine seqQ_n ?_
   refine hw_seq ?_
   refine hw_block ?_
   refine hw_reg ?_
   refine dp rfl (pop_idx ty26 ty9 rfl rfl rfl (by first | assumption | simp_all)) ?_
   refine dp rfl (pop_load ty9 rfl rfl rfl) ?_
   refine dp rfl (pop_assign rfl) ?_
   refine dn ?_
   refine hw_reg ?_
   refine dp rfl (pop_move rfl) ?_
   refine dp rfl (pop_move rfl) ?_
   refine dp rfl (pop_call ca116 rfl (WeakL.refl _) (c_benchref1_Int_m (hs x (List.mem_of_getElem? hx)) hm)) ?_
   refine dp rfl (pop_move rfl) ?_
   refine dp rfl (pop_extract rfl rfl) ?_
   refine dp rfl (pop_extract rfl rfl) ?_
   refine dp rfl (pop_assign rfl) ?_
   refine dp rfl (pop_assign rfl) ?_
   refine dn ?_
   refine hw_seq ?_
   refine hw_reg ?_
   refine dp rfl (pop_move rfl) ?_
   refine dp rfl (pop_not rfl) ?_
   refine dn ?_
   refine hw_cond rfl (fun h3 => ?_) (fun h4 => ?_)
   ·try simp at h3
    refine hw_reg ?_
    refine dp rfl (pop_assign rfl) ?_
    refine dp rfl (pop_assign rfl) ?_
    refine dn ?_
    refine hw_ret ?_
    first
    | exact ret_gw Ghost.drop rfl (weakI (intsB_f hg h3)) ⟨rfl, rfl⟩
    | exact ret_g (Ghost.fa 4 (i := 0) rfl rfl) rfl ⟨eqI hg, rfl⟩
   ·try simp at h4
    refine hw_skip ?_
    refine seqQ_n ?_
    refine hw_reg1 ?_
    refine dp rfl (pop_move rfl) ?_
    refine dp rfl (pop_move rfl) ?_
    refine dp rfl (pop_buildSlice (hs := [_]) ty22 ty3 rfl rfl (by decide) (by decide) rfl) ?_
    refine de rfl (eop_append (i := 0) ty22 ty3 rfl rfl rfl rfl rfl (by simp [flat, hcells]) (by simp; omega) fun v28 => ?_)
    refine dp rfl (pop_assign rfl) ?_
    refine dn ?_
    refine blockQ_n ?_
    refine seqQ_n ?_
    refine hw_reg1 ?_
    refine dp rfl (pop_add64 rfl rfl (by omega) (by omega)) ?_
    refine dp rfl (pop_move rfl) ?_
    refine dn ?_
    exact ⟨k + 1, v28, ⟨by omega, by rw [hg, h4]; rfl, by rw [take_snoc' hx, List.all_append, hq]; simp [h4]⟩, by dsimp only; omega, ⟨rfl, rfl, trivial⟩, (by repeat (first | exact keeps_refl | refine keeps_upd rfl ?_ | refine keeps_loop rfl rfl ?_)), perm_eq (by dsimp only; rw [take_snoc' hx]; simp)⟩
  ·try simp at h2
   have hnk : w.length ≤ k := by omega
   obtain rfl : k = w.length := by omega
   rw [drop_all (Nat.le_refl _)] at hg
   rw [List.take_length]
   rw [List.take_length] at hq
   refine hw_exit ?_
   refine seqQ_x ?_
   refine loopQ2_x ?_
   refine blockQ_eq ?_
   refine seqQ_n ?_
   refine hw_reg ?_
   refine dp rfl (pop_move rfl) ?_
   refine dp rfl (pop_assign rfl) ?_
   refine dp rfl (pop_assign rfl) ?_
   refine dn ?_
   refine hw_ret ?_
   first
   | exact ret_gw Ghost.drop rfl (weakI (intsB_f hg h3)) ⟨rfl, rfl⟩
   | exact ret_g (Ghost.fa 4 (i := 0) rfl rfl) rfl ⟨eqI hg, rfl⟩
end Go.Proofs.YtdjpppifnmjhoaaGreatDoor
end
section
namespace Go.HL
section
variable {κ : Type}
/-- The inner maps by the outer key: block and entries. -/
abbrev GrM (κ : Type) := List (Str × (Nat × List (κ × Int)))
end
end Go.HL
end
section
namespace Go.HL
section
variable {P : Program} {e : Env} {dst : Option Tmp} {ty : TypeId} {pos : String} {af : Array Edge} {g : Option (Nat × Bool)} {M : List MObj} {K : HVal → List MObj → Prop}
end
end Go.HL
end
section
namespace Go.HL
section
variable {P : Program} {e : Env} {dst : Option Tmp} {ty : TypeId} {pos : String} {af : Array Edge} {g : Option (Nat × Bool)}
end
section
variable {P : Program} {n : Nat} {e e' : Env} {M M' : List MObj} {Q Q' : Exit → Env → List MObj → Prop} {c c' : Code}
def LoopW4 {α β γ δ : Type} (e : Env) (ks : List Nat) (W : α → β → γ → δ → List (Nat × HVal)) (MM : α → β → γ → δ → List MObj) (Iv : α → β → γ → δ → Prop) (μ : α → β → γ → δ → Nat) (x : α) (y : β) (u : γ) (v : δ) (Q : Exit → Env → List MObj → Prop) : Exit → Env → List MObj → Prop
 | .normal, e', M => ∃ j k l m, Iv j k l m ∧ μ j k l m < μ x y u v ∧ HoldsW e' (W j k l m) ∧ Keeps ks e e' ∧ M.Perm (MM j k l m)
 | z, e', M => Q z e' M
theorem loopQ4_x {α β γ δ : Type} {e0 : Env} {ks : List Nat} {W : α → β → γ → δ → List (Nat × HVal)} {MM : α → β → γ → δ → List MObj} {Iv : α → β → γ → δ → Prop} {μ : α → β → γ → δ → Nat} {x : α} {y : β} {u : γ} {v : δ} {id : Nat} (h : Q (.exit id) e M) :
 LoopW4 e0 ks W MM Iv μ x y u v Q (.exit id) e M := h
theorem hw_loopw4 [Tracks] {α β γ δ : Type} (ks : List Nat) (W : α → β → γ → δ → List (Nat × HVal)) (MM : α → β → γ → δ → List MObj) (Iv : α → β → γ → δ → Prop) (μ : α → β → γ → δ → Nat) (x : α) (y : β) (u : γ) (v : δ) (h0 : Iv x y u v) (hW : HoldsW e (W x y u v)) (hM : M.Perm (MM x y u v))
 (hb : ∀ x y u v, Iv x y u v → HWp P n c (loopE e ks (W x y u v)) (MM x y u v) (LoopW4 e ks W MM Iv μ x y u v Q)) : HWp P n (.loop c) e M Q := by
 refine hw_loopw (ι := α × β × γ × δ) ks (fun p => W p.1 p.2.1 p.2.2.1 p.2.2.2) (fun p => MM p.1 p.2.1 p.2.2.1 p.2.2.2) (fun p => Iv p.1 p.2.1 p.2.2.1 p.2.2.2) (fun p => μ p.1 p.2.1 p.2.2.1 p.2.2.2) (x, y, u, v) h0 hW hM fun p hp => hw_mono (hb p.1 p.2.1 p.2.2.1 p.2.2.2 hp) ?_
 intro z e1 M1 hq
 cases z with
 | normal => obtain ⟨j, k, l, m, h⟩ := hq; exact ⟨(j, k, l, m), h⟩
 | _ => exact hq
end
end Go.HL
end
section
namespace Go.Proofs.YtdjpppifnmjhoaaGreatDoor
open Go.HL
set_option maxRecDepth 100000
set_option linter.unusedVariables false
set_option linter.unusedSimpArgs false
end Go.Proofs.YtdjpppifnmjhoaaGreatDoor
end
section
namespace Go.HL
theorem keyS_len {s : Str} (h : key s = true) : s.length ≤ 40 := by
 unfold key keyHd at h
 simp only [Bool.and_eq_true, decide_eq_true_eq] at h
 exact h.1.1.1.2
theorem wordsB_n (line : Str) : wordsB line ((line.count 32 : Nat) + 1 : Int) = (spl 32 line).all (fun w => !w.isEmpty) := by
 unfold wordsB; rw [spl_len]; simp
theorem spl_getD_len {line : Str} (j : Nat) : ((spl 32 line).getD j []).length ≤ line.length := by
 rw [List.getD_eq_getElem?_getD]
 cases h : (spl 32 line)[j]? with
 | none => simp
 | some x => exact spl_mem_len 32 line x (List.mem_of_getElem? h)
theorem contains_nil (l : List Str) : l.contains [] = !(l.all fun w => !w.isEmpty) := by
 induction l with
 | nil => rfl
 | cons x r ih =>
   rw [List.contains_cons, ih, List.all_cons]
   cases x <;> simp
end Go.HL
end
section
namespace Go.HL
end Go.HL
end
section
namespace Go.HL
theorem itoa_cases (n : Int) : (∃ u : Nat, n = (u : Int) ∧ Lib.itoa n = Lib.decDigits u ∧ cutMinus (Lib.itoa n) = Lib.decDigits u) ∨ (∃ u : Nat, 1 ≤ u ∧ n = -(u : Int) ∧ Lib.itoa n = 45 :: Lib.decDigits u ∧ cutMinus (Lib.itoa n) = Lib.decDigits u) := by
 rcases Int.lt_or_le n 0 with h | h
 ·obtain ⟨u, rfl⟩ : ∃ u : Nat, n = -(u : Int) := ⟨n.natAbs, by omega⟩
  have e := Lib.itoa_neg u (by omega)
  exact .inr ⟨u, by omega, rfl, e, by rw [e]; rfl⟩
 ·obtain ⟨u, rfl⟩ : ∃ u : Nat, n = (u : Int) := ⟨n.toNat, by omega⟩
  have e := Lib.itoa_nonneg u
  exact .inl ⟨u, rfl, e, by rw [e]; exact cut_digits u⟩
theorem cut_itoa (n : Int) : cutMinus (Lib.itoa n) = Lib.decDigits n.natAbs := by
 rcases itoa_cases n with ⟨u, rfl, _, h⟩ | ⟨u, _, rfl, _, h⟩
 ·rw [h]; congr 1
 ·rw [h]; congr 1; omega
theorem itoa_len (n : Int) : (Lib.itoa n).length ≤ (Lib.decDigits n.natAbs).length + 1 := by
 have h := cut_itoa n
 rcases cutMinus_cases (Lib.itoa n) with ⟨r, e1, e2⟩ | ⟨_, e2⟩
 ·rw [e2] at h; rw [e1, h]; simp
 ·rw [e2] at h; rw [h]; omega
end Go.HL
end
section
namespace Go.HL
theorem lns_len (text : Str) : (lns text).length ≤ text.length := by
 unfold lns; rw [List.length_dropLast, spl_len]; simp only [Nat.add_sub_cancel]; exact List.count_le_length
theorem lns_mem {text x : Str} (h : x ∈ lns text) : x.length ≤ text.length := spl_mem_len 10 text x (List.dropLast_subset _ h)
end Go.HL
end
section
namespace Go.HL
section
variable {α : Type} (rB : Str → Bool) (rP : Str → α) (F : List α → Int) (W : α → List Str) (enc : α → HVal) (sz : Nat)
end
end Go.HL
end
section
namespace Go.HL
section
variable {α : Type}
def Srt (c : α → α → Int) (l : List α) : Prop := l.Pairwise fun a b => c a b ≤ 0
theorem Cmp.self {c : α → α → Int} (hc : Cmp c fun _ => True) (x : α) : c x x ≤ 0 := by
 have := hc.flip x x trivial trivial; omega
theorem Srt.get {c : α → α → Int} (hc : Cmp c fun _ => True) {l : List α} (h : Srt c l) {i j : Nat} {x y : α} (hij : i ≤ j) (hx : l[i]? = some x) (hy : l[j]? = some y) : c x y ≤ 0 := by
 rcases Nat.lt_or_ge i j with hlt | hge
 ·have h1 := lt_of_get hx
  have h2 := lt_of_get hy
  have := List.pairwise_iff_getElem.1 h i j h1 h2 hlt
  rw [List.getElem?_eq_getElem h1] at hx
  rw [List.getElem?_eq_getElem h2] at hy
  rw [Option.some.inj hx, Option.some.inj hy] at this
  exact this
 ·have e : i = j := by omega
  rw [e, hy] at hx
  rw [Option.some.inj hx]; exact hc.self _
theorem Srt.take {c : α → α → Int} {l : List α} (h : Srt c l) (k : Nat) : Srt c (l.take k) := List.Pairwise.sublist (List.take_sublist k l) h
theorem Srt.drop {c : α → α → Int} {l : List α} (h : Srt c l) (k : Nat) : Srt c (l.drop k) := List.Pairwise.sublist (List.drop_sublist k l) h
theorem Srt.nil {c : α → α → Int} : Srt c [] := List.Pairwise.nil
end
end Go.HL
end
section
namespace Go.HL
section
variable {α : Type} {c : α → α → Int}
/-- Each block of so many elements is sorted. -/
def Blk (c : α → α → Int) (bs : Nat) (l : List α) : Prop := ∀ q, Srt c ((l.drop (bs * q)).take bs)
theorem Blk.all {bs : Nat} {l : List α} (h : Blk c bs l) (hl : l.length ≤ bs) : Srt c l := by
 have := h 0
 rw [Nat.mul_zero, List.drop_zero, List.take_of_length_le hl] at this
 exact this
theorem Blk.nil {bs : Nat} : Blk c bs [] := fun q => by simp [Srt.nil]
theorem Blk.add {bs k : Nat} {Z W : List α} (h : Blk c bs Z) (hZ : Z.length = bs * k) (hW : Srt c W) (hl : W.length ≤ bs) : Blk c bs (Z ++ W) := by
 intro q
 rcases Nat.lt_trichotomy q k with hq | hq | hq
 ·have h1 : bs * q + bs ≤ Z.length := by rw [hZ, ← Nat.mul_succ]; exact Nat.mul_le_mul_left bs hq
  rw [List.drop_append_of_le_length (by omega), List.take_append_of_le_length (by rw [List.length_drop]; omega)]
  exact h q
 ·rw [hq, ← hZ, List.drop_left, List.take_of_length_le hl]; exact hW
 ·have h1 : Z.length + bs ≤ bs * q := by rw [hZ, ← Nat.mul_succ]; exact Nat.mul_le_mul_left bs hq
  rw [List.drop_of_length_le (by rw [List.length_append]; omega)]
  simp [Srt.nil]
theorem Blk.at {bs q a : Nat} {l : List α} (h : Blk c bs l) (ha : a = bs * q) : Srt c ((l.drop a).take bs) := by rw [ha]; exact h q
theorem Blk.last {bs q a : Nat} {l : List α} (h : Blk c bs l) (ha : a = bs * q) (hl : l.length ≤ a + bs) : Srt c (l.drop a) := by
 have := h.at ha
 rw [List.take_of_length_le (by rw [List.length_drop]; omega)] at this
 exact this
end
end Go.HL
end
section
namespace Go.HL
open Go.Sort Go.Proofs
structure Play where
 Source : Str
 No : Int
 At : Int
 Week : Int
 Match : Str
 Player : Str
 Stat : Str
 Count : Int
 Undo : Int
structure StatS where
 Name : Str
 Count : Int
abbrev Of2 := Str × Str
def weekB (n : Int) : Bool := !(out n 1 60)
def playFault (p : Play) : Int :=
 if !(key p.Source) then 5 else if out p.No 1 3000 || !(moment p.At) || !(weekB p.Week) then 1
 else if !(key p.Match) || !(key p.Player) || !(key p.Stat) then 5
 else if out p.Count (-100000) 100000 || out p.Undo 0 (p.No - 1) then 1
 else if decide (0 < p.Undo) && decide (p.Count ≠ 0) then 3 else 0
structure ChkS where
 S : List Str
 W : List (Str × Int)
 c : Bool
def chkStep (q : ChkS) (p : Play) : ChkS :=
 ⟨sadd p.Source q.S, aput p.Match p.Week q.W, q.c || ((alk p.Match q.W).isSome && ((alk p.Match q.W).getD 0 != p.Week))⟩
theorem playFault_ok {p : Play} (h : playFault p = 0) : key p.Source = true ∧ (1 ≤ p.No ∧ p.No ≤ 3000) ∧ moment p.At = true ∧ weekB p.Week = true ∧ (key p.Match = true ∧ key p.Player = true ∧ key p.Stat = true) ∧ (-100000 ≤ p.Count ∧ p.Count ≤ 100000) ∧ (0 ≤ p.Undo ∧ p.Undo ≤ p.No - 1) := by
 unfold playFault at h
 split at h
 ·omega
 split at h
 ·omega
 split at h
 ·omega
 split at h
 ·omega
 rename_i h1 h2 h3 h4
 simp only [Bool.or_eq_true, Bool.not_eq_true', not_or, Bool.not_eq_false, Bool.not_eq_true] at h1 h2 h3 h4
 exact ⟨h1, out_f h2.1.1, h2.1.2, h2.2, ⟨h3.1.1, h3.1.2, h3.2⟩, out_f h4.1, out_f h4.2⟩
def bestStep (trust : List Str) (at' : Int) (B : List (Str × Int)) (p : Play) : List (Str × Int) :=
 if at' < p.At ∨ idxOf p.Source trust 0 < 0 then B
 else if (alk p.Match B).isSome = false ∨ idxOf p.Source trust 0 < (alk p.Match B).getD 0 then aput p.Match (idxOf p.Source trust 0) B else B
def bestL (l : List Play) (trust : List Str) (at' : Int) : List (Str × Int) := l.foldl (bestStep trust at') []
def srcOf (l : List Play) (trust : List Str) (at' : Int) (m : Str) : Option Str := (alk m (bestL l trust at')).map fun k => trust.getD k.toNat []
/-! what is taken back -/
structure LnS where
 S : List Str
 c : List (Of2 × Int)
def lnPut (q : LnS) (p : Play) : LnS := ⟨sadd p.Player q.S, aput (p.Player, p.Stat) ((alk (p.Player, p.Stat) q.c).getD 0 + p.Count) q.c⟩
def rawStats (c : List (Of2 × Int)) (s : Str) : List StatS := (c.filter fun e => e.1.1 == s && e.2 != 0).map fun e => ⟨e.1.2, e.2⟩
theorem key_len {s : Str} (h : key s = true) : s.length ≤ 40 := by
 simp only [key, keyHd, Bool.and_eq_true, decide_eq_true_eq] at h; exact h.1.1.1.2
end Go.HL
end
section
namespace Go.HL
section
variable {α : Type} [DecidableEq α]
/-- A list without the things that equal the one before (p ahead of the first). -/
def uniqA (p : Option α) : List α → List α
 | [] => []
 | x :: r => if p = some x then uniqA (some x) r else x :: uniqA (some x) r
theorem uniqA_snoc (x : α) : ∀ (A : List α) (p : Option α), uniqA p (A ++ [x]) = uniqA p A ++ if (A.getLast?.or p) = some x then [] else [x]
 | [], p => by
   by_cases h : p = some x <;> simp [uniqA, h]
 | y :: A, p => by
   have ih := uniqA_snoc x A (some y)
   have e : ((y :: A).getLast?.or p) = (A.getLast?.or (some y)) := by
    cases A with
    | nil => simp
    | cons z A => simp [List.getLast?_cons_cons, List.getLast?_cons]
   simp only [List.cons_append, uniqA]
   rw [e, ih]
   split <;> simp
theorem uniqA_step {l : List α} {k : Nat} {x y : α} (hx : l[k]? = some x) (hy : l[k - 1]? = some y) (h0 : 0 < k) : uniqA none (l.take (k + 1)) = uniqA none (l.take k) ++ if x = y then [] else [x] := by
 have hk := lt_of_get hx
 rw [take_snoc' hx, uniqA_snoc]
 have e : ((l.take k).getLast?.or none) = some y := by
  rw [List.getLast?_eq_getElem?, List.length_take, Nat.min_eq_left (by omega), List.getElem?_take_of_lt (by omega), hy]; rfl
 rw [e]
 by_cases h : x = y
 ·rw [if_pos h, if_pos (by rw [h])]
 ·rw [if_neg h, if_neg (by simpa using fun q : y = x => h q.symm)]
structure CmpA (l : List α) (j : Nat) (D : List α) : Prop where
 len : D.length = l.length
 lo : D.take (uniqA none (l.take j)).length = uniqA none (l.take j)
 lt : (uniqA none (l.take j)).length < j
 hi : ∀ i, j ≤ i + 1 → D[i]? = l[i]?
theorem CmpA.start {l : List α} {k : Nat} {x y : α} (hx : l[k]? = some x) (hy : l[k - 1]? = some y) (h0 : 0 < k) (e : x = y) (h : uniqA none (l.take k) = l.take k) : CmpA l (k + 1) l ∧ (uniqA none (l.take (k + 1))).length = k := by
 have hk := lt_of_get hx
 have h1 : uniqA none (l.take (k + 1)) = l.take k := by rw [uniqA_step hx hy h0, if_pos e, h]; simp
 have h2 : (l.take k).length = k := by rw [List.length_take]; omega
 exact ⟨⟨rfl, by rw [h1, h2], by rw [h1, h2]; omega, fun _ _ => rfl⟩, by rw [h1, h2]⟩
variable {c : α → α → Int}
end
end Go.HL
end
section
namespace Go.HL
section
variable {κ α γ : Type} [DecidableEq κ]
theorem ANodup.perm {A B : Type} {E L : List (A × B)} (hn : ANodup L) (hp : E.Perm L) : ANodup E := (hp.map (fun p : A × B => p.1)).nodup_iff.2 hn
theorem ANodup.map {A B C : Type} (g : B → C) {E : List (A × B)} (h : ANodup E) : ANodup (E.map fun q => (q.1, g q.2)) := by
 unfold ANodup at *; rw [List.map_map]; exact h
end
structure GOk (E : List (Of2 × Int)) (G : Grp StatS) : Prop where
 nd : ANodup G
 raw : ∀ s, gL s G = rawStats E s
theorem GOk.nil : GOk [] [] := ⟨ANodup.nil, fun s => rfl⟩
theorem rawStats_snoc (E : List (Of2 × Int)) (q : Of2 × Int) (s : Str) : rawStats (E ++ [q]) s = rawStats E s ++ if q.1.1 = s ∧ q.2 ≠ 0 then [⟨q.1.2, q.2⟩] else [] := by
 unfold rawStats
 rw [List.filter_append, List.map_append, List.filter_cons]
 by_cases h : q.1.1 = s ∧ q.2 ≠ 0
 ·rw [if_pos h, if_pos (by simpa using h)]; rfl
 ·rw [if_neg h, if_neg (by simpa using h)]; rfl
theorem gL_put (s t : Str) (v : Value) (l : List StatS) (G : Grp StatS) : gL t (aput s (v, l) G) = if t = s then l else gL t G := by
 unfold gL; rw [alk_put]; split <;> rfl
theorem GOk.put {E : List (Of2 × Int)} {G : Grp StatS} (h : GOk E G) {q : Of2 × Int} (hq : ¬ q.2 = 0) (v : Value) : GOk (E ++ [q]) (aput q.1.1 (v, gL q.1.1 G ++ [⟨q.1.2, q.2⟩]) G) := by
 refine ⟨h.nd.put, fun s => ?_⟩
 rw [gL_put, rawStats_snoc]
 by_cases hs : s = q.1.1
 ·rw [if_pos hs, if_pos ⟨hs.symm, hq⟩, hs, h.raw]
 ·rw [if_neg hs, if_neg (fun e => hs e.1.symm), List.append_nil, h.raw]
theorem mem_sadd {s t : Str} {S : List Str} : t ∈ sadd s S ↔ t = s ∨ t ∈ S := by
 unfold sadd
 by_cases h : S.contains s = true
 ·rw [if_pos h]
  have : s ∈ S := by simpa using h
  constructor
  ·exact .inr
  ·rintro (rfl | h)
   ·exact this
   ·exact h
 ·rw [if_neg h]; simp; exact Or.comm
theorem sadd_nodup {s : Str} {S : List Str} (h : S.Nodup) : (sadd s S).Nodup := by
 unfold sadd
 by_cases hc : S.contains s = true
 ·rw [if_pos hc]; exact h
 ·rw [if_neg hc]
  exact List.nodup_append.2 ⟨h, by simp, fun a ha b hb => by simp at hb; subst hb; intro e; subst e; simp at hc; exact hc ha⟩
theorem sadd_le (s : Str) (S : List Str) : (sadd s S).length ≤ S.length + 1 := by
 unfold sadd; split
 ·omega
 ·simp
structure LnOk (q : LnS) (n : Nat) : Prop where
 c : ANodup q.c
 S : q.S.Nodup
 k : ∀ s ∈ q.S, s.length ≤ 40
 cl : q.c.length ≤ n
 Sl : q.S.length ≤ n
 bd : ∀ e ∈ q.c, -(100000 * (n : Int)) ≤ e.2 ∧ e.2 ≤ 100000 * (n : Int)
theorem LnOk.val {q : LnS} {n : Nat} (h : LnOk q n) (s : Of2) : -(100000 * (n : Int)) ≤ (alk s q.c).getD 0 ∧ (alk s q.c).getD 0 ≤ 100000 * (n : Int) := by
 cases hq : alk s q.c with
 | none => simp; omega
 | some v => exact h.bd _ (alk_of_mem hq)
theorem LnOk.put {q : LnS} {n : Nat} (h : LnOk q n) {p : Play} (hp : playFault p = 0) : LnOk (lnPut q p) (n + 1) := by
 obtain ⟨_, _, _, _, ⟨_, k2, _⟩, hb, _⟩ := playFault_ok hp
 have hv := h.val (p.Player, p.Stat)
 refine ⟨h.c.put, sadd_nodup h.S, fun s hs => ?_, Nat.le_trans (aput_le _ _ _) (by have := h.cl; omega), Nat.le_trans (sadd_le _ _) (by have := h.Sl; omega), fun e he => ?_⟩
 ·rcases mem_sadd.1 hs with rfl | hs
  ·exact key_len k2
  ·exact h.k s hs
 ·rcases mem_aput he with rfl | he
  ·dsimp only; omega
  ·have := h.bd e he; omega
theorem LnOk.up {q : LnS} {n : Nat} (h : LnOk q n) : LnOk q (n + 1) :=
 ⟨h.c, h.S, h.k, by have := h.cl; omega, by have := h.Sl; omega, fun e he => by have := h.bd e he; omega⟩
end Go.HL
end
section
namespace Go.HL
structure MendS where
 Player : Str
 Week : Int
 Stat : Str
 Count : Int
 At : Int
 Version : Int
 By : Str
abbrev Plc := Str × Int
section
variable {α : Type}
def chkGo (f : α → Int) (c : α → α → Int) (d : α) (l : List α) : Nat → List α → Int
 | _, [] => 0
 | k, x :: r => if f x ≠ 0 then f x else if 0 < k ∧ c x (l.getD (k - 1) d) ≤ 0 then 7 else chkGo f c d l (k + 1) r
theorem chkGo_ne {f : α → Int} {c : α → α → Int} {d : α} {l : List α} {k : Nat} {x : α} {r : List α} (h1 : f x = 0) (h2 : 0 < k → ¬ c x (l.getD (k - 1) d) ≤ 0) : chkGo f c d l k (x :: r) = chkGo f c d l (k + 1) r := by
 rw [chkGo, if_neg (by simp [h1]), if_neg (fun h => h2 h.1 h.2)]
theorem chkGo_bad {f : α → Int} {c : α → α → Int} {d : α} {l : List α} {k : Nat} {x : α} {r : List α} (h1 : f x ≠ 0) : chkGo f c d l k (x :: r) = f x := by
 rw [chkGo, if_pos h1]
theorem chkGo_ord {f : α → Int} {c : α → α → Int} {d : α} {l : List α} {k : Nat} {x : α} {r : List α} (h1 : f x = 0) (h0 : 0 < k) (h2 : c x (l.getD (k - 1) d) ≤ 0) : chkGo f c d l k (x :: r) = 7 := by
 rw [chkGo, if_neg (by simp [h1]), if_pos ⟨h0, h2⟩]
theorem chk_fault {f : α → Int} {c : α → α → Int} {d : α} {l : List α} : ∀ (r : List α) (k : Nat), chkGo f c d l k r = 0 → ∀ x ∈ r, f x = 0
 | [], _, _, x, hx => by cases hx
 | p :: r, k, h, x, hx => by
   rw [chkGo] at h
   split at h
   ·contradiction
   ·split at h
    ·omega
    ·rename_i h1 _
     rcases List.mem_cons.1 hx with rfl | hx
     ·simpa using h1
     ·exact chk_fault r (k + 1) h x hx
/-- Each is behind the one ahead of it. -/
theorem chk_pairs {f : α → Int} {c : α → α → Int} {d : α} (hc : Cmp c fun _ => True) : ∀ (r : List α) (l : List α) (k : Nat), l.drop k = r → k ≤ l.length → (l.take k).Pairwise (fun a b => c a b < 0) → chkGo f c d l k r = 0 → l.Pairwise (fun a b => c a b < 0)
 | [], l, k, hd, hk, hp, _ => by
   have h1 : l.length ≤ k := by simpa using hd
   rw [List.take_of_length_le h1] at hp; exact hp
 | x :: r, l, k, hd, hk, hp, h => by
   rw [chkGo] at h
   split at h
   ·contradiction
   ·split at h
    ·omega
    ·rename_i h2
     have hx : l[k]? = some x := by have := congrArg (fun q : List α => q[0]?) hd; simpa using this
     have hlt := lt_of_get hx
     refine chk_pairs hc r l (k + 1) (by rw [← List.drop_drop (i := 1), hd]; rfl) hlt ?_ h
     rw [take_snoc' hx]
     refine List.pairwise_append.2 ⟨hp, List.pairwise_singleton _ _, fun a ha b hb => ?_⟩
     obtain rfl := List.mem_singleton.1 hb
     obtain ⟨i, hi⟩ := List.getElem?_of_mem ha
     have hik : i < k := by have := lt_of_get hi; rw [List.length_take] at this; omega
     have hy : l[k - 1]? = some (l.getD (k - 1) d) := getD_some (by omega)
     have h3 : c (l.getD (k - 1) d) b < 0 := by
      rw [hc.flip _ _ trivial trivial]
      have : ¬ c b (l.getD (k - 1) d) ≤ 0 := fun e => h2 ⟨by omega, e⟩
      omega
     rcases Nat.lt_or_ge i (k - 1) with hlt' | hge
     ·have hyk : (l.take k)[k - 1]? = some (l.getD (k - 1) d) := by rw [List.getElem?_take_of_lt (by omega)]; exact hy
      have h4 : c a (l.getD (k - 1) d) < 0 := by
       have hi2 := lt_of_get hi
       have hk2 := lt_of_get hyk
       have := List.pairwise_iff_getElem.1 hp i (k - 1) hi2 hk2 hlt'
       rw [List.getElem?_eq_getElem hi2] at hi
       rw [List.getElem?_eq_getElem hk2] at hyk
       rw [Option.some.inj hi, Option.some.inj hyk] at this
       exact this
      have h5 := hc.trans a (l.getD (k - 1) d) b trivial trivial trivial (by omega) (by omega)
      have f1 := hc.flip a (l.getD (k - 1) d) trivial trivial
      have f2 := hc.flip (l.getD (k - 1) d) b trivial trivial
      have f3 := hc.flip a b trivial trivial
      have f4 := hc.flip b a trivial trivial
      rcases Int.lt_or_eq_of_le h5 with e | e
      ·exact e
      ·exfalso
       have := hc.trans b a (l.getD (k - 1) d) trivial trivial trivial (by omega) (by omega)
       omega
     ·have e : i = k - 1 := by omega
      rw [e, List.getElem?_take_of_lt (by omega), hy] at hi
      rw [← Option.some.inj hi]; exact h3
theorem chk_strict {f : α → Int} {c : α → α → Int} {d : α} (hc : Cmp c fun _ => True) {l : List α} (h : chkGo f c d l 0 l = 0) : l.Pairwise (fun a b => c a b < 0) :=
 chk_pairs hc l l 0 rfl (Nat.zero_le _) (by simp) h
theorem Cmp.lex {c d : α → α → Int} (hc : Cmp c fun _ => True) (hd : Cmp d fun _ => True) : Cmp (fun a b => if c a b ≠ 0 then c a b else d a b) fun _ => True where
 flip x y _ _ := by
  have f1 := hc.flip x y trivial trivial
  have f2 := hc.flip y x trivial trivial
  have f3 := hd.flip x y trivial trivial
  by_cases h : c x y = 0
  ·have h' : c y x = 0 := by omega
   rw [if_neg (by simp [h]), if_neg (by simp [h'])]; exact f3
  ·have h' : c y x ≠ 0 := by omega
   rw [if_pos h, if_pos h']; exact f1
 trans x y z _ _ _ h1 h2 := by
  have fxy := hc.flip x y trivial trivial
  have fyx := hc.flip y x trivial trivial
  have fyz := hc.flip y z trivial trivial
  have fzy := hc.flip z y trivial trivial
  have fxz := hc.flip x z trivial trivial
  have fzx := hc.flip z x trivial trivial
  have a1 : c x y ≤ 0 := by split at h1 <;> omega
  have a2 : c y z ≤ 0 := by split at h2 <;> omega
  have a3 := hc.trans x y z trivial trivial trivial a1 a2
  by_cases h : c x z = 0
  ·have b1 := hc.trans z x y trivial trivial trivial (by omega) a1
   have b2 := hc.trans y z x trivial trivial trivial a2 (by omega)
   have e1 : c x y = 0 := by omega
   have e2 : c y z = 0 := by omega
   rw [if_neg (by simp [e1])] at h1
   rw [if_neg (by simp [e2])] at h2
   rw [if_neg (by simp [h])]
   exact hd.trans x y z trivial trivial trivial h1 h2
  ·rw [if_pos h]; exact a3
theorem cmpS_by (f : α → Str) : Cmp (fun a b => cmpS (f a) (f b)) fun _ => True where
 flip x y _ _ := by rw [cmpS_flip (f x) (f y)]; omega
 trans x y z _ _ _ h1 h2 := cmpS_trans h1 h2
theorem cmpI_by (f : α → Int) : Cmp (fun a b => cmpI (f a) (f b)) fun _ => True where
 flip x y _ _ := by rw [cmpI_flip (f x) (f y)]; omega
 trans x y z _ _ _ h1 h2 := by rw [cmpI_le] at *; omega
theorem orI_one (a : Int) : orI [a] = a := by
 by_cases h : a = 0 <;> simp [orI, h]
theorem orI_cons (a b : Int) (r : List Int) : orI (a :: b :: r) = if a ≠ 0 then a else orI (b :: r) := by rw [orI]
end
theorem or_zero {a b : Int} (h : (if a ≠ 0 then a else b) = 0) : a = 0 ∧ b = 0 := by
 split at h
 ·contradiction
 ·rename_i h1; exact ⟨by simpa using h1, h⟩
theorem leq_cmpS (a b : Str) : (Op.bytesLess a b || a == b) = decide (cmpS a b ≤ 0) := by
 rw [Bool.eq_iff_iff, decide_eq_true_iff, cmpS_le]
 rcases less_total a b with h | h | h
 ·simp [h, less_asymm h]
 ·subst h; simp [less_irrefl]
 ·have hne : a ≠ b := fun e => by subst e; rw [less_irrefl] at h; cases h
  simp [h, less_asymm h, hne]
/-! what is wrong -/
end Go.HL
end
section
namespace Go.HL
section
variable {α : Type} [DecidableEq α]
end
end Go.HL
end
section
namespace Go.HL
end Go.HL
end
section
namespace Go.HL
end Go.HL
end
section
namespace Go.HL
theorem Cmp.lt_trans {α : Type} {c : α → α → Int} {s : α → Prop} (h : Cmp c s) {x y z : α} (hx : s x) (hy : s y) (hz : s z) (h1 : c x y < 0) (h2 : c y z < 0) : c x z < 0 := by
 rcases Int.lt_or_le (c x z) 0 with q | q
 ·exact q
 ·exfalso
  have a1 := h.flip y z hy hz
  have a2 := h.flip z x hz hx
  have hzx : c z x ≤ 0 := by
   rcases Int.lt_or_le 0 (c z x) with r | r
   ·have := h.flip x z hx hz; omega
   ·exact r
  have := h.trans z x y hz hx hy hzx (by omega)
  omega
theorem cmpS_lt_trans {a b c : Str} (h1 : cmpS a b ≤ 0) (h2 : cmpS b c ≤ 0) (h : cmpS a c = 0) : cmpS a b = 0 ∧ cmpS b c = 0 := by
 have e := cmpS_zero.1 h
 subst e
 rw [cmpS_flip b a] at *
 omega
end Go.HL
end
section
namespace Go.HL
def onceL (l : List Str) : List Str := Lib.compact (sortS l)
/-- The sums of one player. -/
def inner {κ : Type} (c : List ((Str × κ) × Int)) (s : Str) : List (κ × Int) := (c.filter fun e => e.1.1 == s).map fun e => (e.1.2, e.2)
theorem inner_put {κ : Type} [DecidableEq κ] (s : Str) (st : κ) (v : Int) (s' : Str) : ∀ c : List ((Str × κ) × Int), inner (aput (s, st) v c) s' = if s' = s then aput st v (inner c s) else inner c s'
 | [] => by
   by_cases e : s' = s
   ·subst e; simp [inner, aput]
   ·have : ¬ s = s' := fun q => e q.symm
    simp [inner, aput, e, this]
 | p :: r => by
   have ih := inner_put s st v s' r
   obtain ⟨⟨a, b⟩, w⟩ := p
   simp only [aput, Prod.mk.injEq]
   by_cases h1 : s = a
   ·subst h1
    by_cases h2 : st = b
    ·subst h2
     rw [if_pos ⟨rfl, rfl⟩]
     by_cases e : s' = s
     ·subst e; simp [inner, aput]
     ·have : ¬ s = s' := fun q => e q.symm
      simp [inner, e, this]
    ·rw [if_neg (fun q => h2 q.2)]
     by_cases e : s' = s
     ·subst e
      rw [if_pos rfl] at ih ⊢
      simp only [inner, List.filter_cons, beq_self_eq_true, if_true, List.map_cons, aput, if_neg h2] at ih ⊢
      rw [ih]
     ·have : ¬ s = s' := fun q => e q.symm
      rw [if_neg e] at ih ⊢
      simp only [inner, List.filter_cons, beq_iff_eq, if_neg this] at ih ⊢
      exact ih
   ·rw [if_neg (fun q => h1 q.1)]
    by_cases e : s' = s
    ·subst e
     have : ¬ a = s' := fun q => h1 q.symm
     rw [if_pos rfl] at ih ⊢
     simp only [inner, List.filter_cons, beq_iff_eq, if_neg this] at ih ⊢
     exact ih
    ·rw [if_neg e] at ih ⊢
     by_cases h3 : a = s'
     ·simp only [inner, List.filter_cons, beq_iff_eq, if_pos h3, List.map_cons] at ih ⊢
      rw [ih]
     ·simp only [inner, List.filter_cons, beq_iff_eq, if_neg h3] at ih ⊢
      exact ih
end Go.HL
end
section
namespace Go.HL
structure MarketS where
 Teams : List Str
 Vetoes : Int
 Wait : Int
 Deadline : Int
 Least : Int
 Most : Int
structure OwnerS where
 Player : Str
 Team : Str
structure GiveS where
 Player : Str
 From : Str
 To : Str
structure DealS where
 Id : Str
 By : Str
 From : Int
 To : Int
 Gives : List GiveS
structure ReplyS where
 Offer : Str
 Team : Str
 At : Int
 Kind : Int
abbrev eMarket (m : MarketS) : HVal := .agg [eSs m.Teams, .int .i64 m.Vetoes, .int .i64 m.Wait, .int .i64 m.Deadline, .int .i64 m.Least, .int .i64 m.Most]
abbrev eOwner (x : OwnerS) : HVal := .agg [.str x.Player, .str x.Team]
abbrev eOwners (l : List OwnerS) : HVal := .slice 2 (l.map eOwner)
abbrev eGive (x : GiveS) : HVal := .agg [.str x.Player, .str x.From, .str x.To]
abbrev eGives (l : List GiveS) : HVal := .slice 3 (l.map eGive)
abbrev eDeal (x : DealS) : HVal := .agg [.str x.Id, .str x.By, .int .i64 x.From, .int .i64 x.To, eGives x.Gives]
abbrev eDeals (l : List DealS) : HVal := .slice 5 (l.map eDeal)
abbrev eReply (x : ReplyS) : HVal := .agg [.str x.Offer, .str x.Team, .int .i64 x.At, .int .i64 x.Kind]
abbrev eReplies (l : List ReplyS) : HVal := .slice 4 (l.map eReply)
def owner0 : OwnerS := ⟨[], []⟩
def give0 : GiveS := ⟨[], [], []⟩
def deal0 : DealS := ⟨[], [], 0, 0, []⟩
def reply0 : ReplyS := ⟨[], [], 0, 0⟩
/-! what is wrong -/
def marketE (m : MarketS) : Int :=
 if m.Teams.length = 0 then 8 else if (20 : Int) < m.Teams.length then 2
 else if rising1 m.Teams ≠ 0 then rising1 m.Teams
 else if out m.Vetoes 1 20 || out m.Wait 0 864000000 || out m.Deadline 0 345686400000 || out m.Least 0 m.Most || decide (60 < m.Most) then 1 else 0
structure MarketOk (m : MarketS) : Prop where
 pos : 0 < m.Teams.length
 len : m.Teams.length ≤ 20
 sorted : SortedS m.Teams
 least : 0 ≤ m.Least ∧ m.Least ≤ m.Most
 most : m.Most ≤ 60
theorem marketE_ok {m : MarketS} (h : marketE m = 0) : MarketOk m := by
 unfold marketE at h
 split at h
 ·omega
 split at h
 ·omega
 split at h
 ·rename_i h1 h2 h3; exact absurd h h3
 split at h
 ·omega
 rename_i h1 h2 h3 h4
 simp only [Bool.or_eq_true, not_or, Bool.not_eq_true, decide_eq_true_eq] at h4
 have h5 := out_f h4.1.2
 exact ⟨by omega, by omega, rising1_sorted (by simpa using h3), ⟨h5.1, h5.2⟩, by omega⟩
def byOwn (a b : OwnerS) : Int := cmpS a.Player b.Player
def byGiv (a b : GiveS) : Int := cmpS a.Player b.Player
def byDeal (a b : DealS) : Int := cmpS a.Id b.Id
def byRep (a b : ReplyS) : Int := orI [cmpI a.At b.At, cmpS a.Offer b.Offer, cmpS a.Team b.Team]
theorem byOwn_cmp : Cmp byOwn fun _ => True := cmpS_by OwnerS.Player
theorem byGiv_cmp : Cmp byGiv fun _ => True := cmpS_by GiveS.Player
theorem byDeal_cmp : Cmp byDeal fun _ => True := cmpS_by DealS.Id
theorem byRep_cmp : Cmp byRep fun _ => True := by
 have h := Cmp.lex (cmpI_by ReplyS.At) (Cmp.lex (cmpS_by ReplyS.Offer) (cmpS_by ReplyS.Team))
 have e : byRep = fun a b => if cmpI a.At b.At ≠ 0 then cmpI a.At b.At else if cmpS a.Offer b.Offer ≠ 0 then cmpS a.Offer b.Offer else cmpS a.Team b.Team := by
  funext a b; unfold byRep; rw [orI_cons, orI2]
 rw [e]; exact h
def cntO : List OwnerS → Str → Int
 | [], _ => 0
 | x :: r, t => (if x.Team = t then 1 else 0) + cntO r t
theorem cntO_snoc (l : List OwnerS) (x : OwnerS) (t : Str) : cntO (l ++ [x]) t = cntO l t + (if x.Team = t then 1 else 0) := by
 induction l with
 | nil => simp [cntO]
 | cons y r ih => simp only [List.cons_append, cntO, ih]; omega
theorem cntO_bd (l : List OwnerS) (t : Str) : 0 ≤ cntO l t ∧ cntO l t ≤ l.length := by
 induction l with
 | nil => simp [cntO]
 | cons y r ih => simp only [cntO, List.length_cons]; split <;> omega
def fitsB (m : MarketS) (o : List OwnerS) : Bool := m.Teams.all fun t => !(out (cntO o t) m.Least m.Most)
theorem fitsB_any (m : MarketS) (o : List OwnerS) : (!(m.Teams.any fun t => out (cntO o t) m.Least m.Most)) = fitsB m o := by
 unfold fitsB; rw [List.not_any_eq_all_not]
def ownF (m : MarketS) (x : OwnerS) : Int := if !(key x.Player) then 5 else if !(m.Teams.contains x.Team) then 8 else 0
def ownersC (m : MarketS) (o : List OwnerS) : Int := chkGo (ownF m) byOwn owner0 o 0 o
def ownersR (m : MarketS) (o : List OwnerS) : Int := if 500 < o.length then 2 else if ownersC m o ≠ 0 then ownersC m o else if fitsB m o then 0 else 12
def ownersE (m : MarketS) (o : List OwnerS) : Int := if marketE m ≠ 0 then marketE m else ownersR m o
theorem ownersR_ok {m : MarketS} {o : List OwnerS} (h : ownersR m o = 0) : o.length ≤ 500 ∧ (∀ x ∈ o, ownF m x = 0) ∧ o.Pairwise (fun a b => byOwn a b < 0) ∧ fitsB m o = true := by
 unfold ownersR at h
 split at h
 ·omega
 split at h
 ·rename_i h1 h2; exact absurd h h2
 rename_i h1 h2
 have h3 : ownersC m o = 0 := by simpa using h2
 split at h
 ·rename_i h4; exact ⟨by omega, chk_fault o 0 h3, chk_strict byOwn_cmp h3, h4⟩
 ·omega
theorem ownersE_ok {m : MarketS} {o : List OwnerS} (h : ownersE m o = 0) : marketE m = 0 ∧ ownersR m o = 0 := by
 unfold ownersE at h; exact or_zero h
def givF (m : MarketS) (g : GiveS) : Int := if !(key g.Player) then 5 else if !(m.Teams.contains g.From) || !(m.Teams.contains g.To) then 8 else if g.From = g.To then 16 else 0
def givesE (m : MarketS) (l : List GiveS) : Int := if l.length = 0 then 8 else if 40 < l.length then 2 else chkGo (givF m) byGiv give0 l 0 l
theorem givesE_ok {m : MarketS} {l : List GiveS} (h : givesE m l = 0) : 0 < l.length ∧ l.length ≤ 40 ∧ (∀ x ∈ l, givF m x = 0) ∧ l.Pairwise (fun a b => byGiv a b < 0) := by
 unfold givesE at h
 split at h
 ·omega
 split at h
 ·omega
 ·exact ⟨by omega, by omega, chk_fault l 0 h, chk_strict byGiv_cmp h⟩
def teamsG (l : List GiveS) : List Str := l.flatMap fun g => [g.From, g.To]
theorem teamsG_len (l : List GiveS) : (teamsG l).length = 2 * l.length := by
 induction l with
 | nil => rfl
 | cons g r ih => simp only [teamsG, List.flatMap_cons, List.length_append, List.length_cons, List.length_nil] at ih ⊢; omega
theorem teamsG_take {l : List GiveS} {k : Nat} {g : GiveS} (h : l[k]? = some g) : teamsG (l.take (k + 1)) = teamsG (l.take k) ++ [g.From, g.To] := by
 unfold teamsG; rw [take_snoc' h, List.flatMap_append]; simp
def concL (l : List GiveS) : List Str := onceL (teamsG l)
theorem concL_len (l : List GiveS) : (concL l).length ≤ 2 * l.length := by
 unfold concL onceL
 rw [compact_uniq]
 have := uniqP_le (sortS (teamsG l)) none
 rw [sortS_len, teamsG_len] at this
 exact this
def dealF (m : MarketS) (x : DealS) : Int :=
 if !(key x.Id) then 5 else if !(m.Teams.contains x.By) then 8
 else if out x.To 1 345686400000 || out x.From 0 (x.To - 1) then 1
 else if givesE m x.Gives ≠ 0 then givesE m x.Gives
 else if !((concL x.Gives).contains x.By) then 16 else 0
theorem dealF_ok {m : MarketS} {x : DealS} (h : dealF m x = 0) : givesE m x.Gives = 0 := by
 unfold dealF at h
 split at h
 ·omega
 split at h
 ·omega
 split at h
 ·omega
 exact (or_zero (b := if !((concL x.Gives).contains x.By) then 16 else 0) h).1
theorem window_ref (f t : Int) : (decide (f < 0) || decide (t ≤ f) || decide (345686400000 < t)) = (out t 1 345686400000 || out f 0 (t - 1)) := by
 rw [Bool.eq_iff_iff]; simp [out]; omega
theorem window_t {f t : Int} (h : (f < 0 ∨ t ≤ f) ∨ 345686400000 < t) : (out t 1 345686400000 || out f 0 (t - 1)) = true := by
 rw [← window_ref]; simpa using h
theorem window_f {f t : Int} (h : (0 ≤ f ∧ f < t) ∧ t ≤ 345686400000) : out t 1 345686400000 = false ∧ out f 0 (t - 1) = false := by
 have h1 : (out t 1 345686400000 || out f 0 (t - 1)) = false := by rw [← window_ref]; simpa using h
 simpa using h1
def dealsR (m : MarketS) (l : List DealS) : Int := if 500 < l.length then 2 else chkGo (dealF m) byDeal deal0 l 0 l
def dealsE (m : MarketS) (l : List DealS) : Int := if marketE m ≠ 0 then marketE m else dealsR m l
theorem dealsR_ok {m : MarketS} {l : List DealS} (h : dealsR m l = 0) : l.length ≤ 500 ∧ (∀ x ∈ l, dealF m x = 0) ∧ l.Pairwise (fun a b => byDeal a b < 0) := by
 unfold dealsR at h
 split at h
 ·omega
 ·exact ⟨by omega, chk_fault l 0 h, chk_strict byDeal_cmp h⟩
theorem dealsR_one (m : MarketS) (x : DealS) : dealsR m [x] = dealF m x := by
 unfold dealsR
 rw [if_neg (by simp), chkGo]
 by_cases h : dealF m x = 0
 ·rw [if_neg (by simp [h]), if_neg (by simp), h]; rfl
 ·rw [if_pos h]
theorem dealsE_ok {m : MarketS} {l : List DealS} (h : dealsE m l = 0) : marketE m = 0 ∧ dealsR m l = 0 := by
 unfold dealsE at h; exact or_zero h
def repF (m : MarketS) (x : ReplyS) : Int := if !(key x.Offer) then 5 else if !(m.Teams.contains x.Team) then 8 else if !(moment x.At) then 1 else if out x.Kind 1 4 then 4 else 0
def repsR (m : MarketS) (a : List ReplyS) : Int := if 2000 < a.length then 2 else chkGo (repF m) byRep reply0 a 0 a
def repsE (m : MarketS) (a : List ReplyS) : Int := if marketE m ≠ 0 then marketE m else repsR m a
def stepO (o : List OwnerS) (g : GiveS) : Option (List OwnerS) :=
 match o[o.findIdx (fun y => y.Player == g.Player)]? with
 | some y => if y.Team = g.From then some (o.set (o.findIdx (fun y => y.Player == g.Player)) ⟨y.Player, g.To⟩) else none
 | none => none
def didF : List OwnerS → List GiveS → Option (List OwnerS)
 | o, [] => some o
 | o, g :: r => (stepO o g).bind fun p => didF p r
theorem findIdx_at {α : Type} {p : α → Bool} {l : List α} {i : Nat} {y : α} (hi : l[i]? = some y) (hp : p y = true) (hb : ∀ (j : Nat) (z : α), j < i → l[j]? = some z → p z = false) : l.findIdx p = i := by
 have hl := lt_of_get hi
 rw [List.getElem?_eq_getElem hl] at hi
 have e := Option.some.inj hi
 rw [List.findIdx_eq hl]
 refine ⟨by rw [e]; exact hp, fun j hj => ?_⟩
 have := hb j l[j] hj (List.getElem?_eq_getElem (by omega))
 simpa using this
theorem stepO_at {o : List OwnerS} {g : GiveS} {i : Nat} {y : OwnerS} (hi : o[i]? = some y) (hp : y.Player = g.Player) (hb : ∀ (j : Nat) (z : OwnerS), j < i → o[j]? = some z → z.Player ≠ g.Player) : stepO o g = if y.Team = g.From then some (o.set i ⟨y.Player, g.To⟩) else none := by
 have h := findIdx_at (p := fun y => y.Player == g.Player) hi (by simpa using hp) (fun j z hj hz => by simpa using hb j z hj hz)
 unfold stepO
 rw [h, hi]
theorem stepO_none {o : List OwnerS} {g : GiveS} (h : ∀ y ∈ o, y.Player ≠ g.Player) : stepO o g = none := by
 unfold stepO
 rw [List.findIdx_eq_length.2 (fun y hy => by simpa using h y hy), List.getElem?_eq_none (Nat.le_refl _)]
theorem set_player {o : List OwnerS} {i : Nat} {y : OwnerS} {t : Str} (hi : o[i]? = some y) : (o.set i ⟨y.Player, t⟩).map (·.Player) = o.map (·.Player) := by
 rw [List.map_set]
 refine List.ext_getElem? fun j => ?_
 by_cases e : i = j
 ·subst e
  have hl := lt_of_get hi
  rw [List.getElem?_set_self (by simpa using hl), List.getElem?_map, hi]; rfl
 ·rw [List.getElem?_set_ne e]
theorem own_sorted {o : List OwnerS} (h : o.Pairwise fun a b => byOwn a b < 0) : SortedS (o.map (·.Player)) :=
 List.pairwise_map.2 (h.imp fun {a b} hab => by
  rcases less_total a.Player b.Player with q | q | q
  ·exact q
  ·exfalso; unfold byOwn at hab; rw [cmpS_zero.2 q] at hab; omega
  ·exfalso
   have h1 : cmpS b.Player a.Player ≤ 0 := cmpS_le.2 (less_asymm q)
   have h2 := cmpS_flip a.Player b.Player
   unfold byOwn at hab
   have h3 : ¬ cmpS a.Player b.Player ≤ 0 := fun e => by
    have := cmpS_le.1 e; rw [q] at this; cases this
   omega)
/-- The one that a search finds. -/
theorem posS_at {l : List Str} {s : Str} (hs : SortedS l) (h : l.contains s = true) : l[posS l s]? = some s ∧ ∀ (j : Nat) (z : Str), j < posS l s → l[j]? = some z → z ≠ s := by
 obtain ⟨k, hk, e⟩ := List.getElem_of_mem (by simpa using h)
 have hk' : l[k]? = some s := by rw [List.getElem?_eq_getElem hk, e]
 have hp : posS l s = k := posS_eq (by omega) (fun j x hj hx => hs.get hj hx hk') (fun j x hj hx => by
  rcases Nat.lt_or_eq_of_le hj with q | q
  ·exact less_asymm (hs.get q hk' hx)
  ·subst q; rw [hk'] at hx; cases hx; exact less_irrefl _)
 rw [hp]
 refine ⟨hk', fun j z hj hz e2 => ?_⟩
 have := hs.get hj hz hk'
 rw [e2, less_irrefl] at this; cases this
/-! as a walk tells it -/
section
variable {α : Type} {f : α → Int} {c : α → α → Int} {d : α} {l r : List α} {k : Nat} {x : α} {e : Int}
theorem chkG_bad (hg : chkGo f c d l 0 l = chkGo f c d l k (x :: r)) (he : e ≠ 0) (hf : f x = e) : chkGo f c d l 0 l = e := by
 rw [hg, chkGo_bad (by rw [hf]; exact he), hf]
theorem chkG_ord (hg : chkGo f c d l 0 l = chkGo f c d l k (x :: r)) (hf : f x = 0) (h0 : 0 < k) (h : c x (l.getD (k - 1) d) ≤ 0) : chkGo f c d l 0 l = 7 := by
 rw [hg, chkGo_ord hf h0 h]
theorem leq_iff {a b : Str} : (Op.bytesLess a b || a == b) = true ↔ cmpS a b ≤ 0 := by rw [leq_cmpS, decide_eq_true_iff]
theorem leq_f {a b : Str} (h : (Op.bytesLess a b || a == b) = false) : ¬ cmpS a b ≤ 0 := by rwa [leq_cmpS, decide_eq_false_iff_not] at h
end
theorem own_bad {m : MarketS} {o r : List OwnerS} {k : Nat} {x : OwnerS} {e : Int} (hl : ¬ 500 < o.length) (hg : ownersC m o = chkGo (ownF m) byOwn owner0 o k (x :: r)) (he : e ≠ 0) (hf : ownF m x = e) : e = ownersR m o := by
 have h : ownersC m o = e := chkG_bad hg he hf
 rw [ownersR, if_neg hl, h, if_pos he]
theorem own_ord {m : MarketS} {o r : List OwnerS} {k : Nat} {x : OwnerS} (hl : ¬ 500 < o.length) (hg : ownersC m o = chkGo (ownF m) byOwn owner0 o k (x :: r)) (hf : ownF m x = 0) (h0 : 0 < k) (h : (Op.bytesLess x.Player (o.getD (k - 1) owner0).Player || x.Player == (o.getD (k - 1) owner0).Player) = true) : 7 = ownersR m o := by
 have h : ownersC m o = 7 := chkG_ord hg hf h0 (leq_iff.1 h)
 rw [ownersR, if_neg hl, h]; rfl
theorem own_next {m : MarketS} {o r : List OwnerS} {k : Nat} {x : OwnerS} (hf : ownF m x = 0) (h : 0 < k → (Op.bytesLess x.Player (o.getD (k - 1) owner0).Player || x.Player == (o.getD (k - 1) owner0).Player) = false) : chkGo (ownF m) byOwn owner0 o k (x :: r) = chkGo (ownF m) byOwn owner0 o (k + 1) r :=
 chkGo_ne hf fun h0 => leq_f (h h0)
theorem own_big {m : MarketS} {o : List OwnerS} (h : 500 < o.length) : 2 = ownersR m o := by rw [ownersR, if_pos h]
theorem own_end {m : MarketS} {o : List OwnerS} (hl : ¬ 500 < o.length) (hg : ownersC m o = 0) : (if fitsB m o then 0 else 12) = ownersR m o := by
 have h : ¬ ownersC m o ≠ 0 := by simp [hg]
 rw [ownersR, if_neg hl, if_neg h]
theorem giv_bad {m : MarketS} {l r : List GiveS} {k : Nat} {x : GiveS} {e : Int} (h0 : ¬ l.length = 0) (hl : ¬ 40 < l.length) (hg : chkGo (givF m) byGiv give0 l 0 l = chkGo (givF m) byGiv give0 l k (x :: r)) (he : e ≠ 0) (hf : givF m x = e) : e = givesE m l := by
 rw [givesE, if_neg h0, if_neg hl, chkG_bad hg he hf]
theorem giv_ord {m : MarketS} {l r : List GiveS} {k : Nat} {x : GiveS} (h0 : ¬ l.length = 0) (hl : ¬ 40 < l.length) (hg : chkGo (givF m) byGiv give0 l 0 l = chkGo (givF m) byGiv give0 l k (x :: r)) (hf : givF m x = 0) (hk : 0 < k) (h : (Op.bytesLess x.Player (l.getD (k - 1) give0).Player || x.Player == (l.getD (k - 1) give0).Player) = true) : 7 = givesE m l := by
 rw [givesE, if_neg h0, if_neg hl, chkG_ord hg hf hk (leq_iff.1 h)]
theorem giv_next {m : MarketS} {l r : List GiveS} {k : Nat} {x : GiveS} (hf : givF m x = 0) (h : 0 < k → (Op.bytesLess x.Player (l.getD (k - 1) give0).Player || x.Player == (l.getD (k - 1) give0).Player) = false) : chkGo (givF m) byGiv give0 l k (x :: r) = chkGo (givF m) byGiv give0 l (k + 1) r :=
 chkGo_ne hf fun h0 => leq_f (h h0)
theorem giv_end {m : MarketS} {l : List GiveS} (h0 : ¬ l.length = 0) (hl : ¬ 40 < l.length) (hg : chkGo (givF m) byGiv give0 l 0 l = 0) : 0 = givesE m l := by
 rw [givesE, if_neg h0, if_neg hl, hg]
theorem deal_bad {m : MarketS} {l r : List DealS} {k : Nat} {x : DealS} {e : Int} (hl : ¬ 500 < l.length) (hg : chkGo (dealF m) byDeal deal0 l 0 l = chkGo (dealF m) byDeal deal0 l k (x :: r)) (he : e ≠ 0) (hf : dealF m x = e) : e = dealsR m l := by
 rw [dealsR, if_neg hl, chkG_bad hg he hf]
theorem deal_ord {m : MarketS} {l r : List DealS} {k : Nat} {x : DealS} (hl : ¬ 500 < l.length) (hg : chkGo (dealF m) byDeal deal0 l 0 l = chkGo (dealF m) byDeal deal0 l k (x :: r)) (hf : dealF m x = 0) (hk : 0 < k) (h : (Op.bytesLess x.Id (l.getD (k - 1) deal0).Id || x.Id == (l.getD (k - 1) deal0).Id) = true) : 7 = dealsR m l := by
 rw [dealsR, if_neg hl, chkG_ord hg hf hk (leq_iff.1 h)]
theorem deal_next {m : MarketS} {l r : List DealS} {k : Nat} {x : DealS} (hf : dealF m x = 0) (h : 0 < k → (Op.bytesLess x.Id (l.getD (k - 1) deal0).Id || x.Id == (l.getD (k - 1) deal0).Id) = false) : chkGo (dealF m) byDeal deal0 l k (x :: r) = chkGo (dealF m) byDeal deal0 l (k + 1) r :=
 chkGo_ne hf fun h0 => leq_f (h h0)
theorem deal_big {m : MarketS} {l : List DealS} (h : 500 < l.length) : 2 = dealsR m l := by rw [dealsR, if_pos h]
theorem deal_end {m : MarketS} {l : List DealS} (hl : ¬ 500 < l.length) (hg : chkGo (dealF m) byDeal deal0 l 0 l = 0) : 0 = dealsR m l := by rw [dealsR, if_neg hl, hg]
theorem rep_bad {m : MarketS} {l r : List ReplyS} {k : Nat} {x : ReplyS} {e : Int} (hl : ¬ 2000 < l.length) (hg : chkGo (repF m) byRep reply0 l 0 l = chkGo (repF m) byRep reply0 l k (x :: r)) (he : e ≠ 0) (hf : repF m x = e) : e = repsR m l := by
 rw [repsR, if_neg hl, chkG_bad hg he hf]
theorem rep_ord {m : MarketS} {l r : List ReplyS} {k : Nat} {x : ReplyS} (hl : ¬ 2000 < l.length) (hg : chkGo (repF m) byRep reply0 l 0 l = chkGo (repF m) byRep reply0 l k (x :: r)) (hf : repF m x = 0) (hk : 0 < k) (h : byRep x (l.getD (k - 1) reply0) ≤ 0) : 7 = repsR m l := by
 rw [repsR, if_neg hl, chkG_ord hg hf hk h]
theorem rep_next {m : MarketS} {l r : List ReplyS} {k : Nat} {x : ReplyS} (hf : repF m x = 0) (h : 0 < k → ¬ byRep x (l.getD (k - 1) reply0) ≤ 0) : chkGo (repF m) byRep reply0 l k (x :: r) = chkGo (repF m) byRep reply0 l (k + 1) r :=
 chkGo_ne hf h
theorem rep_big {m : MarketS} {l : List ReplyS} (h : 2000 < l.length) : 2 = repsR m l := by rw [repsR, if_pos h]
theorem rep_end {m : MarketS} {l : List ReplyS} (hl : ¬ 2000 < l.length) (hg : chkGo (repF m) byRep reply0 l 0 l = 0) : 0 = repsR m l := by rw [repsR, if_neg hl, hg]
theorem rep_ge {x y : ReplyS} : 0 ≤ byRep x y ↔ byRep y x ≤ 0 := by
 have h1 := byRep_cmp.flip x y trivial trivial
 have h2 := byRep_cmp.flip y x trivial trivial
 omega
/-- Loops that count. -/
theorem cnt_loop (o : List OwnerS) (t : Str) (k : Nat) (x : OwnerS) (hx : o[k]? = some x) : cntO (o.take (k + 1)) t = cntO (o.take k) t + (if x.Team = t then 1 else 0) := by
 rw [take_snoc' hx, cntO_snoc]
/-! an owner that is looked for -/
theorem cmpS_lt {a b : Str} : cmpS a b < 0 ↔ Op.bytesLess a b = true := by
 have h1 := cmpS_flip a b
 constructor
 ·intro h
  rcases less_total a b with q | q | q
  ·exact q
  ·rw [cmpS_zero.2 q] at h; omega
  ·have := cmpS_le.2 (less_asymm q); omega
 ·intro h
  have h2 : ¬ cmpS a b = 0 := fun e => by rw [cmpS_zero.1 e, less_irrefl] at h; cases h
  have h3 := cmpS_le.2 (less_asymm h)
  omega
theorem bsf_found {l : List OwnerS} {s : Str} {i : Nat} : (bif decide ((i : Int) < (l.length : Int)) then cmpS (l.getD i owner0).Player s == 0 else false) = ((l.map (·.Player))[i]? == some s) := by
 by_cases h : i < l.length
 ·have h' : (i : Int) < (l.length : Int) := by omega
  rw [List.getElem?_map, getD_some (d := owner0) h]
  simp only [h', decide_true, cond_true]
  rw [Bool.eq_iff_iff]; simp [cmpS_zero]
 ·have h' : ¬ (i : Int) < (l.length : Int) := by omega
  rw [List.getElem?_map, List.getElem?_eq_none (by omega : l.length ≤ i)]
  simp [h']
theorem own_at {o : List OwnerS} {s : Str} (hs : SortedS (o.map (·.Player))) (h : (o.map (·.Player)).contains s = true) :
 posS (o.map (·.Player)) s < o.length ∧ o[posS (o.map (·.Player)) s]? = some (o.getD (posS (o.map (·.Player)) s) owner0) ∧ (o.getD (posS (o.map (·.Player)) s) owner0).Player = s ∧ ∀ (j : Nat) (z : OwnerS), j < posS (o.map (·.Player)) s → o[j]? = some z → z.Player ≠ s := by
 obtain ⟨h1, h2⟩ := posS_at hs h
 have hl : posS (o.map (·.Player)) s < o.length := by simpa using lt_of_get h1
 have hg := getD_some (d := owner0) hl
 refine ⟨hl, hg, ?_, fun j z hj hz => h2 j z.Player hj (by rw [List.getElem?_map, hz]; rfl)⟩
 rw [List.getElem?_map, hg] at h1
 simpa using h1
theorem own_no {o : List OwnerS} {s : Str} (h : (o.map (·.Player)).contains s = false) : ∀ y ∈ o, y.Player ≠ s := fun y hy e => by
 have : (o.map (·.Player)).contains s = true := by
  simp only [List.contains_eq_mem, decide_eq_true_eq]
  exact List.mem_map.2 ⟨y, hy, e⟩
 rw [h] at this; cases this
theorem own_idx {o : List OwnerS} {s : Str} (h : 0 ≤ idxF (fun y : OwnerS => y.Player == s) o 0) :
 ∃ i : Nat, idxF (fun y : OwnerS => y.Player == s) o 0 = (i : Int) ∧ i < o.length ∧ o[i]? = some (o.getD i owner0) ∧ (o.getD i owner0).Player = s ∧ ∀ (j : Nat) (z : OwnerS), j < i → o[j]? = some z → z.Player ≠ s := by
 obtain ⟨i, h1, h2, ⟨z, h3, h4⟩, h5⟩ := idxF_found (fun y : OwnerS => y.Player == s) o 0 (by omega) (by omega)
 rw [Int.zero_add] at h1
 have h6 := getD_some (d := owner0) h2
 refine ⟨i, h1, h2, h6, ?_, fun j z hj hz => by simpa using h5 z (List.mem_of_getElem? (by rw [List.getElem?_take_of_lt hj]; exact hz))⟩
 rw [h6] at h3
 rw [Option.some.inj h3]; simpa using h4
theorem own_miss {o : List OwnerS} {s : Str} (h : idxF (fun y : OwnerS => y.Player == s) o 0 < 0) : ∀ y ∈ o, y.Player ≠ s := fun y hy e => by
 have h1 := idxF_nonneg (fun y : OwnerS => y.Player == s) o 0 (by omega)
 have h2 : o.any (fun y : OwnerS => y.Player == s) = true := List.any_eq_true.2 ⟨y, hy, by simpa using e⟩
 rw [h2] at h1
 have := of_decide_eq_true h1; omega
/-! what an offer does, step by step -/
theorem didF_take {o D : List OwnerS} {g : GiveS} {r l : List GiveS} {i : Nat} {y : OwnerS} (hg : didF o l = didF D (g :: r)) (hi : D[i]? = some y) (hp : y.Player = g.Player) (hb : ∀ (j : Nat) (z : OwnerS), j < i → D[j]? = some z → z.Player ≠ g.Player) (ht : y.Team = g.From) : didF o l = didF (D.set i ⟨y.Player, g.To⟩) r := by
 rw [hg, didF, stepO_at hi hp hb, if_pos ht]; rfl
theorem didF_other {o D : List OwnerS} {g : GiveS} {r l : List GiveS} {i : Nat} {y : OwnerS} (hg : didF o l = didF D (g :: r)) (hi : D[i]? = some y) (hp : y.Player = g.Player) (hb : ∀ (j : Nat) (z : OwnerS), j < i → D[j]? = some z → z.Player ≠ g.Player) (ht : ¬ y.Team = g.From) : didF o l = none := by
 rw [hg, didF, stepO_at hi hp hb, if_neg ht]; rfl
theorem didF_none {o D : List OwnerS} {g : GiveS} {r l : List GiveS} (hg : didF o l = didF D (g :: r)) (h : ∀ y ∈ D, y.Player ≠ g.Player) : didF o l = none := by
 rw [hg, didF, stepO_none h]; rfl
def didV (o : List OwnerS) (l : List GiveS) : List OwnerS := (didF o l).getD []
def didB (m : MarketS) (o : List OwnerS) (l : List GiveS) : Bool := match didF o l with | some d => fitsB m d | none => false
theorem didB_none {m : MarketS} {o : List OwnerS} {l : List GiveS} (h : didF o l = none) : didB m o l = false ∧ didV o l = [] := by
 unfold didB didV; rw [h]; exact ⟨rfl, rfl⟩
theorem didB_some {m : MarketS} {o d : List OwnerS} {l : List GiveS} (h : didF o l = some d) : didB m o l = fitsB m d ∧ didV o l = d := by
 unfold didB didV; rw [h]; exact ⟨rfl, rfl⟩
def tradeE (m : MarketS) (o : List OwnerS) (x : DealS) : Int := orI [ownersE m o, dealsE m [x]]
def didL (m : MarketS) (o : List OwnerS) (x : DealS) : List OwnerS := if tradeE m o x ≠ 0 then [] else if didB m o x.Gives then didV o x.Gives else []
def didE (m : MarketS) (o : List OwnerS) (x : DealS) : Int := if tradeE m o x ≠ 0 then tradeE m o x else if didB m o x.Gives then 0 else 11
theorem or2_zero {a b : Int} (h : orI [a, b] = 0) : a = 0 ∧ b = 0 := by rw [orI2] at h; exact or_zero h
theorem deal1_ok {m : MarketS} {x : DealS} (h : dealsE m [x] = 0) : marketE m = 0 ∧ x.Gives.length ≤ 40 := by
 obtain ⟨h1, h2⟩ := dealsE_ok h
 obtain ⟨_, h3, _⟩ := dealsR_ok h2
 obtain ⟨_, h4, _⟩ := givesE_ok (dealF_ok (h3 x (by simp)))
 exact ⟨h1, h4⟩
theorem trade_ok {m : MarketS} {o : List OwnerS} {x : DealS} (h : tradeE m o x = 0) : SortedS (o.map (·.Player)) ∧ x.Gives.length ≤ 40 := by
 obtain ⟨h1, h2⟩ := or2_zero h
 obtain ⟨_, h3⟩ := ownersE_ok h1
 exact ⟨own_sorted (ownersR_ok h3).2.2.1, (deal1_ok h2).2⟩
theorem didL_bad {m : MarketS} {o : List OwnerS} {x : DealS} (h : tradeE m o x ≠ 0) : didL m o x = [] ∧ didE m o x = tradeE m o x := by
 unfold didL didE; rw [if_pos h, if_pos h]; exact ⟨rfl, rfl⟩
theorem didL_no {m : MarketS} {o : List OwnerS} {x : DealS} (h : tradeE m o x = 0) (hb : didB m o x.Gives = false) : didL m o x = [] ∧ didE m o x = 11 := by
 have h1 : ¬ tradeE m o x ≠ 0 := by simp [h]
 unfold didL didE; rw [if_neg h1, if_neg h1, hb]; exact ⟨rfl, rfl⟩
theorem didL_yes {m : MarketS} {o : List OwnerS} {x : DealS} (h : tradeE m o x = 0) (hb : didB m o x.Gives = true) : didL m o x = didV o x.Gives ∧ didE m o x = 0 := by
 have h1 : ¬ tradeE m o x ≠ 0 := by simp [h]
 unfold didL didE; rw [if_neg h1, if_neg h1, hb]; exact ⟨rfl, rfl⟩
def didRL (m : MarketS) (o : List OwnerS) (l : List GiveS) : List OwnerS := if didB m o l then didV o l else []
theorem didRL_no {m : MarketS} {o : List OwnerS} {l : List GiveS} (h : didB m o l = false) : didRL m o l = [] := by unfold didRL; rw [h]; rfl
theorem didRL_yes {m : MarketS} {o : List OwnerS} {l : List GiveS} (h : didB m o l = true) : didRL m o l = didV o l := by unfold didRL; rw [h]; rfl
end Go.HL
end
section
namespace Go.HL
/-! what the next line is -/
theorem lnsL_get {text x : Str} {k : Nat} (h : (lnsL text)[k]? = some x) : (spl 10 text)[k]? = some x := by
 by_cases h0 : text = []
 ·subst h0; simp [lnsL] at h
 ·have hk := lt_of_get h
  cases he : lnsE text with
  | true =>
    obtain ⟨_, h1, _⟩ := lnsL_ends h0 he
    rw [h1, List.getElem?_append_left hk]; exact h
  | false =>
    obtain ⟨_, h1, _⟩ := lnsL_open he
    rw [← h1]; exact h
theorem lns_get {text t : Str} {done : List Str} (hl : lns text = done ++ lns t) (hc : (cutF 10 t).2.2 = true) : (spl 10 text)[done.length]? = some (cutF 10 t).1 := by
 have h : (lns text)[done.length]? = some (cutF 10 t).1 := by rw [hl, lns_cut hc]; simp
 unfold lns at h
 rw [List.getElem?_dropLast] at h
 split at h
 ·exact h
 ·cases h
/-! writing -/
def offerS : Str := [111, 102, 102, 101, 114]
def givS : Str := [103, 105, 118, 101]
def offW (x : DealS) : List Str := [offerS, x.Id, x.By, Lib.itoa x.From, Lib.itoa x.To]
def givW (g : GiveS) : List Str := [givS, g.Player, g.From, g.To]
def dealW (x : DealS) : List (List Str) := offW x :: x.Gives.map givW
def dlL (l : List DealS) : List Str := (l.flatMap dealW).map (jn 32)
def lnT (l : List Str) : Str := (l.map (· ++ [10])).flatten
def dlT (l : List DealS) : Str := lnT (dlL l)
theorem lnT_app (a b : List Str) : lnT (a ++ b) = lnT a ++ lnT b := by simp [lnT]
theorem dlL_app (a b : List DealS) : dlL (a ++ b) = dlL a ++ dlL b := by simp [dlL]
theorem dlT_snoc (l : List DealS) (x : DealS) : dlT (l ++ [x]) = dlT l ++ (jn 32 (offW x) ++ [10] ++ lnT ((x.Gives.map givW).map (jn 32))) := by
 unfold dlT; rw [dlL_app, lnT_app]; simp [dlL, dealW, lnT]
/-! reading -/
def wordsO (line : Str) : Bool := (spl 32 line).all fun w => !w.isEmpty
def odB (line : Str) : Bool := wordsO line && ((spl 32 line).getD 0 [] == offerS) && ((((spl 32 line).length : Nat) : Int) == 5) && ((spl 32 line).drop 3).all (numB · 15)
def gvB (line : Str) : Bool := wordsO line && ((spl 32 line).getD 0 [] == givS) && ((((spl 32 line).length : Nat) : Int) == 4)
/-- Whether a line is taken, by what the first line of the text is. -/
def okT (s0 s : Str) : Bool := odB s || (gvB s && odB s0)
def odP (line : Str) : DealS := ⟨(spl 32 line).getD 1 [], (spl 32 line).getD 2 [], numR ((spl 32 line).getD 3 []) 15, numR ((spl 32 line).getD 4 []) 15, []⟩
def gvP (line : Str) : GiveS := ⟨(spl 32 line).getD 1 [], (spl 32 line).getD 2 [], (spl 32 line).getD 3 []⟩
def addG (d : DealS) (g : GiveS) : DealS := { d with Gives := d.Gives ++ [g] }
def addLast (ds : List DealS) (g : GiveS) : List DealS := ds.set (ds.length - 1) (addG (ds.getD (ds.length - 1) deal0) g)
def stepD (ds : List DealS) (line : Str) : List DealS := if odB line then ds ++ [odP line] else if gvB line then addLast ds (gvP line) else ds
def rdD (ls : List Str) : List DealS := ls.foldl stepD []
theorem rdD_snoc (ls : List Str) (s : Str) : rdD (ls ++ [s]) = stepD (rdD ls) s := by unfold rdD; rw [List.foldl_append]; rfl
theorem of_gv {line : Str} (h : odB line = true) : gvB line = false := by
 unfold odB at h
 simp only [Bool.and_eq_true, beq_iff_eq] at h
 unfold gvB
 have : ((spl 32 line).getD 0 [] == givS) = false := by
  rw [h.1.1.2]; rfl
 rw [this]; simp
/-! keys -/
theorem rising_key {l : List Str} : ∀ (r : List Str) (k : Nat), risingGo l k r = 0 → ∀ s ∈ r, key s = true
 | [], _, _, s, hs => by cases hs
 | x :: r, k, h, s, hs => by
   rw [risingGo] at h
   split at h
   ·cases h
   ·rename_i h1
    split at h
    ·cases h
    ·rcases List.mem_cons.1 hs with rfl | hs
     ·simpa using h1
     ·exact rising_key r (k + 1) h s hs
theorem teams_key {m : MarketS} (h : marketE m = 0) : ∀ s ∈ m.Teams, key s = true := by
 unfold marketE at h
 split at h
 ·cases h
 split at h
 ·cases h
 split at h
 ·rename_i h3; exact absurd h h3
 ·rename_i h3
  have h4 : rising1 m.Teams = 0 := by simpa using h3
  exact rising_key _ 0 h4
structure DealK (x : DealS) : Prop where
 id : key x.Id = true
 by' : key x.By = true
 fr : 0 ≤ x.From ∧ x.From ≤ 345686400000
 to : 0 ≤ x.To ∧ x.To ≤ 345686400000
 len : x.Gives.length ≤ 40
 gv : ∀ g ∈ x.Gives, key g.Player = true ∧ key g.From = true ∧ key g.To = true
theorem deal_k {m : MarketS} (hm : marketE m = 0) {x : DealS} (h : dealF m x = 0) : DealK x := by
 have hk := teams_key hm
 obtain ⟨_, hg2, hg3, _⟩ := givesE_ok (dealF_ok h)
 unfold dealF at h
 split at h
 ·cases h
 rename_i h1
 split at h
 ·cases h
 rename_i h2
 split at h
 ·cases h
 rename_i h3
 simp only [Bool.or_eq_true, not_or, Bool.not_eq_true] at h3
 have a1 := out_f h3.1
 have a2 := out_f h3.2
 refine ⟨by simpa using h1, hk _ (by simpa using h2), by omega, by omega, hg2, fun g hg => ?_⟩
 have h4 := hg3 g hg
 unfold givF at h4
 split at h4
 ·cases h4
 rename_i h5
 split at h4
 ·cases h4
 rename_i h6
 simp only [Bool.or_eq_true, not_or] at h6
 exact ⟨by simpa using h5, hk _ (by simpa using h6.1), hk _ (by simpa using h6.2)⟩
theorem deals_k {m : MarketS} {l : List DealS} (h : dealsE m l = 0) : l.length ≤ 500 ∧ ∀ x ∈ l, DealK x := by
 obtain ⟨h1, h2⟩ := dealsE_ok h
 obtain ⟨h3, h4, _⟩ := dealsR_ok h2
 exact ⟨h3, fun x hx => deal_k h1 (h4 x hx)⟩
def dvH (text : Str) : Str := (spl 10 text).headD []
def dvL (text : Str) : List DealS := rdD (lns text)
def dvG (text : Str) : Int × Bool := goL (okT (dvH text)) 0 (spl 10 text)
def dvE (m : MarketS) (text : Str) : Int := if marketE m ≠ 0 then marketE m else if (200000 : Int) < (text.length : Int) then 2 else if (dvG text).2 then dealsE m (dvL text) else 9
def dvI (m : MarketS) (text : Str) : Int := if marketE m ≠ 0 then 0 else if (200000 : Int) < (text.length : Int) then 0 else if (dvG text).2 then 0 else (dvG text).1
def dvP (m : MarketS) (text : Str) : List DealS := if dvE m text = 0 then dvL text else []
def dlE (m : MarketS) (l : List DealS) : Int := if dealsE m l ≠ 0 then dealsE m l else if (200000 : Int) < ((dlT l).length : Int) then 2 else 0
def dlS (m : MarketS) (l : List DealS) : Str := if dlE m l = 0 then dlT l else []
end Go.HL
end
section
namespace Go.Proofs.YtdjpppifnmjhoaaGreatDoor
open Go.HL
set_option maxRecDepth 100000
set_option linter.unusedVariables false
set_option linter.unusedSimpArgs false
/-- benchwarmer/base.Each -/
theorem c_base_Each_p [Tracks] {σ : Type} {S : σ → List MObj} {Inv : List Str → σ → Prop} {ok : Str → Bool} {fid : FuncId} {caps : List HVal} {st0 : σ} {text : Str}  (hca : Callable Tryz.prog fid) (hp : ∀ (done : List Str) (s : Str) (st : σ), done.length ≤ 1000000 → s.length ≤ 1000000 → (spl 10 text)[done.length]? = some s → Inv done st → Con Tryz.prog fid ([.str s] ++ caps) (S st) fun x M' => ∃ st', x = .bool (ok s) ∧ M' = S st' ∧ (ok s = true → Inv (done ++ [s]) st')) (h0 : Inv [] st0) (ht : text.length ≤ 1000000) : Con Tryz.prog 52 [.str text, .fn (.func fid) [] caps] (S st0) (fun x M' => ∃ st', x = .tup [.int .i64 (goL ok 0 (spl 10 text)).1, .bool (goL ok 0 (spl 10 text)).2] ∧ M' = S st' ∧ ((goL ok 0 (spl 10 text)).2 = true → Inv (lns text) st')) := by
 have hll := lnsL_many text
 refine Con.of_body Tryz.func52 rfl Tryz.ntmps52 rfl rfl ?_
 refine hw_reg ?_
 refine dp rfl (pop_assign rfl) ?_
 refine dp rfl (pop_assign rfl) ?_
 refine dn ?_
 refine hw_reg ?_
 refine dp rfl (pop_move rfl) ?_
 refine dp rfl (pop_call ca98 rfl (WeakL.refl _) (c_base_Lines (by first | assumption | omega | (simp; omega) | simp_all))) ?_
 refine dp rfl (pop_move rfl) ?_
 refine dp rfl (pop_extract rfl rfl) ?_
 refine dp rfl (pop_extract rfl rfl) ?_
 refine dp rfl (pop_assign rfl) ?_
 refine dp rfl (pop_assign rfl) ?_
 refine dn ?_
 refine hw_seq ?_
 refine hw_reg ?_
 refine dp rfl (pop_move rfl) ?_
 refine dp rfl (pop_lenm ty26 rfl) ?_
 refine dp rfl (pop_move rfl) ?_
 refine dn ?_
 refine hw_block ?_
 refine hw_loopw2 [4, 5, 8, 9, 17, 18, 19, 20, 21, 22, 23, 24, 25, 26, 27, 28, 29, 30, 31, 32, 33, 34, 35, 36, 37, 38] (fun (k : Nat) (st : σ) => [(17, .int .i64 k)]) (fun (k : Nat) (st : σ) => (S st)) (fun (k : Nat) (st : σ) => k ≤ (lnsL text).length ∧ (Inv ((lnsL text).take k) st ∧ goL ok 0 (spl 10 text) = eachP ok (lnsE text) (lnsL text).length k ((lnsL text).drop k))) (fun (k : Nat) (st : σ) => (lnsL text).length - k) (0) (st0) ?_ ?_ ?_ ?_
 ·exact ⟨Nat.zero_le _, h0, (eachP_goL ok text).symm⟩
 ·exact ⟨rfl, trivial⟩
 ·exact perm_eq rfl
 ·intro k st hinv
  obtain ⟨hk, ⟨hq, hg⟩⟩ := hinv
  refine hw_reg ?_
  refine dp rfl (pop_lss rfl rfl) ?_
  refine dn ?_
  refine hw_seq ?_
  refine hw_cond rfl (fun h1 => ?_) (fun h2 => ?_)
  ·try simp at h1
   obtain ⟨x, hx⟩ : ∃ x, (lnsL text)[k]? = some x := ⟨_, List.getElem?_eq_getElem h1⟩
   have hdx := drop_cons hx
   rw [hdx, eachP_cons] at hg
   refine hw_skip ?_
   refine seqQ_n ?_
   refine hw_seq ?_
   refine hw_block ?_
   refine hw_reg ?_
   refine dp rfl (pop_move rfl) ?_
   refine dp rfl (pop_idx ty26 ty9 rfl rfl rfl (by first | assumption | simp_all)) ?_
   refine dp rfl (pop_load ty9 rfl rfl rfl) ?_
   refine dp rfl (pop_assign rfl) ?_
   refine dp rfl (pop_assign rfl) ?_
   refine dn ?_
   refine hw_reg ?_
   refine dp rfl (pop_move rfl) ?_
   refine dp rfl (pop_not rfl) ?_
   refine dp rfl (pop_move rfl) ?_
   refine dg rfl rfl (fun hc => ⟨_, OpenTo.refl _, pop_move rfl⟩) ?_
   refine dg rfl rfl (fun hc => ⟨_, OpenTo.refl _, pop_move rfl⟩) ?_
   refine dg rfl rfl (fun hc => ⟨_, OpenTo.upd (t := 26) rfl (by first | exact hc | simp_all) (OpenTo.refl _), pop_lenm ty26 rfl⟩) ?_
   refine dg rfl rfl (fun hc => by have hq := hc; (try simp at hq); exact ⟨_, OpenTo.upd (t := 27) rfl (by first | exact hc | simp_all) (OpenTo.refl _), pop_sub64 rfl rfl (by omega) (by omega)⟩) ?_
   refine dg rfl rfl (fun hc => ⟨_, OpenTo.upd (t := 28) rfl (by first | exact hc | simp_all) (OpenTo.upd (t := 25) rfl (by first | exact hc | simp_all) (OpenTo.refl _)), pop_eql rfl rfl⟩) ?_
   refine dp rfl (pop_picko rfl (.inr ⟨_, rfl, fun h => by simp_all⟩) (.inl rfl)) ?_
   refine dp rfl (pop_move rfl) ?_
   refine dg rfl rfl (fun hc => ⟨_, OpenTo.refl _, pop_move rfl⟩) ?_
   refine dg rfl rfl (fun hc => ⟨_, OpenTo.refl _, pop_move rfl⟩) ?_
   refine dgx (fun xq M' => ∃ st', xq = .bool (ok x) ∧ M' = S st' ∧ ((!(lnsE text) && decide ((k : Int) = ((lnsL text).length : Int) - 1)) = false → ok x = true → Inv ((lnsL text).take k ++ [x]) st')) rfl rfl (fun hc => ⟨_, st, rfl, rfl, fun h => (by simp_all)⟩) (fun hc => ⟨_, OpenTo.upd (t := 33) rfl (by first | exact hc | simp_all) (OpenTo.upd (t := 32) rfl (by first | exact hc | simp_all) (OpenTo.refl _)), EOp.mono (fun _ _ ⟨st', h1, h2, h3⟩ => ⟨st', h1, h2, fun _ => h3⟩) (eop_callv hca rfl rfl (WeakL.refl _) (hp ((lnsL text).take k) x st (by rw [List.length_take]; omega) (Nat.le_trans (lnsL_len x (List.mem_of_getElem? hx)) ht) (by rw [List.length_take, Nat.min_eq_left hk]; exact lnsL_get hx) hq))⟩) ?_
   rintro _ _ ⟨st2, rfl, rfl, hst2⟩
   refine dg rfl rfl (fun hc => ⟨_, OpenTo.upd (t := 34) rfl (by first | exact hc | simp_all) (OpenTo.refl _), pop_not rfl⟩) ?_
   refine dp rfl (pop_picko rfl (.inl rfl) (.inr ⟨_, rfl, fun h => by simp_all⟩)) ?_
   refine dn ?_
   refine hw_cond rfl (fun h3 => ?_) (fun h4 => ?_)
   ·try simp at h3
    refine hw_reg ?_
    refine dp rfl (pop_move rfl) ?_
    refine dp rfl (pop_assign rfl) ?_
    refine dp rfl (pop_assign rfl) ?_
    refine dn ?_
    refine hw_ret ?_
    first
    | (have hgf : goL ok 0 (spl 10 text) = ((k : Int), false) := hg.trans (if_pos (by simp; simpa using h3))
       exact ret_q rfl ⟨st2, by rw [hgf]; rfl, rfl, fun h => by rw [hgf] at h; cases h⟩)
    | (refine ret_q rfl ⟨st, ?_, rfl, fun h => ?_⟩
       ·rw [hg]; rfl
       ·rw [eachP_true h]; exact hq)
   ·try simp at h4
    refine hw_skip ?_
    refine blockQ_n ?_
    refine seqQ_n ?_
    refine hw_reg1 ?_
    refine dp rfl (pop_add64 rfl rfl (by omega) (by omega)) ?_
    refine dp rfl (pop_move rfl) ?_
    refine dn ?_
    exact ⟨k + 1, st2, ⟨by omega, (by simp_all [take_snoc' hx]), (by simp_all)⟩, by dsimp only; omega, ⟨rfl, trivial⟩, (by repeat (first | exact keeps_refl | refine keeps_upd rfl ?_ | refine keeps_loop rfl rfl ?_)), perm_eq rfl⟩
  ·try simp at h2
   have hnk : (lnsL text).length ≤ k := by omega
   obtain rfl : k = (lnsL text).length := by omega
   rw [drop_all (Nat.le_refl _)] at hg
   rw [List.take_length] at hq
   refine hw_exit ?_
   refine seqQ_x ?_
   refine loopQ2_x ?_
   refine blockQ_eq ?_
   refine seqQ_n ?_
   refine hw_reg ?_
   refine dp rfl (pop_assign rfl) ?_
   refine dp rfl (pop_assign rfl) ?_
   refine dn ?_
   refine hw_ret ?_
   first
   | (have hgf : goL ok 0 (spl 10 text) = ((k : Int), false) := hg.trans (if_pos (by simp; simpa using h3))
      exact ret_q rfl ⟨st2, by rw [hgf]; rfl, rfl, fun h => by rw [hgf] at h; cases h⟩)
   | (refine ret_q rfl ⟨st, ?_, rfl, fun h => ?_⟩
      ·rw [hg]; rfl
      ·rw [eachP_true h]; exact hq)

/-- benchwarmer/benchref1.Lines -/
theorem c_benchref1_Lines_p [Tracks] {σ : Type} {S : σ → List MObj} {Inv : List Str → σ → Prop} {ok : Str → Bool} {fid : FuncId} {caps : List HVal} {st0 : σ} {text : Str}  (hca : Callable Tryz.prog fid) (hp : ∀ (done : List Str) (s : Str) (st : σ), done.length ≤ 1000000 → s.length ≤ 1000000 → (spl 10 text)[done.length]? = some s → Inv done st → Con Tryz.prog fid ([.str s] ++ caps) (S st) fun x M' => ∃ st', x = .bool (ok s) ∧ M' = S st' ∧ (ok s = true → Inv (done ++ [s]) st')) (h0 : Inv [] st0) (ht : text.length ≤ 1000000) : Con Tryz.prog 70 [.str text, .fn (.func fid) [] caps] (S st0) (fun x M' => ∃ st', x = .tup [.int .i64 (goL ok 0 (spl 10 text)).1, .bool (goL ok 0 (spl 10 text)).2] ∧ M' = S st' ∧ ((goL ok 0 (spl 10 text)).2 = true → Inv (lns text) st')) := by
 refine Con.of_body Tryz.func70 rfl Tryz.ntmps70 rfl rfl ?_
 refine hw_reg ?_
 refine dp rfl (pop_assign rfl) ?_
 refine dp rfl (pop_assign rfl) ?_
 refine dn ?_
 refine hw_seq ?_
 refine hw_reg ?_
 refine dp rfl (pop_assign rfl) ?_
 refine dn ?_
 refine hw_block ?_
 refine hw_loopw4 [0, 4, 5, 6, 7, 8, 9, 10, 11, 12, 13, 14, 15, 16, 17, 18, 19, 20, 21, 22, 23, 24, 25, 26, 27, 28, 29] (fun (k : Nat) (t : Str) (st : σ) (done : List Str) => [(6, .int .i64 (k : Int)), (0, .str t)]) (fun (k : Nat) (t : Str) (st : σ) (done : List Str) => (S st)) (fun (k : Nat) (t : Str) (st : σ) (done : List Str) => goL ok 0 (spl 10 text) = goL ok k (spl 10 t) ∧ lns text = done ++ lns t ∧ Inv done st ∧ done.length = k ∧ k + t.length ≤ text.length) (fun (k : Nat) (t : Str) (st : σ) (done : List Str) => t.length) (0) (text) (st0) ([]) ?_ ?_ ?_ ?_
 ·exact ⟨rfl, rfl, h0, rfl, by omega⟩
 ·exact ⟨rfl, rfl, trivial⟩
 ·exact perm_eq rfl
 ·intro k t st done hinv
  obtain ⟨hg, hl, hq, hk, hlen⟩ := hinv
  refine hw_seq ?_
  refine hw_reg ?_
  refine dp rfl (pop_move rfl) ?_
  refine dp rfl (pop_neqs rfl rfl) ?_
  refine dn ?_
  refine hw_cond rfl (fun h1 => ?_) (fun h2 => ?_)
  ·try simp at h1
   obtain ⟨hc1, hc2, hc3⟩ := cutF_len 10 t
   refine hw_skip ?_
   refine seqQ_n ?_
   refine hw_seq ?_
   refine hw_block ?_
   refine hw_reg ?_
   refine dp rfl (pop_move rfl) ?_
   refine dp rfl (pop_call ca114 rfl (WeakL.refl _) (c_strings_Cut (c := 10) (by omega))) ?_
   refine dp rfl (pop_move rfl) ?_
   refine dp rfl (pop_extract rfl rfl) ?_
   refine dp rfl (pop_extract rfl rfl) ?_
   refine dp rfl (pop_extract rfl rfl) ?_
   refine dp rfl (pop_assign rfl) ?_
   refine dp rfl (pop_assign rfl) ?_
   refine dp rfl (pop_assign rfl) ?_
   refine dn ?_
   refine hw_seq ?_
   refine hw_reg ?_
   refine dp rfl (pop_move rfl) ?_
   refine dp rfl (pop_not rfl) ?_
   refine dp rfl (pop_move rfl) ?_
   refine dg rfl rfl (fun hc => ⟨_, OpenTo.refl _, pop_move rfl⟩) ?_
   refine dg rfl rfl (fun hc => ⟨_, OpenTo.refl _, pop_move rfl⟩) ?_
   refine dgx (fun xq M' => ∃ st', xq = .bool (ok (cutF 10 t).1) ∧ M' = S st' ∧ ((cutF 10 t).2.2 = true → ok (cutF 10 t).1 = true → Inv (done ++ [(cutF 10 t).1]) st')) rfl rfl (fun hc => ⟨_, st, rfl, rfl, fun h => (by simp_all)⟩) (fun hc => ⟨_, OpenTo.upd (t := 24) rfl (by first | exact hc | simp_all) (OpenTo.upd (t := 23) rfl (by first | exact hc | simp_all) (OpenTo.refl _)), EOp.mono (fun _ _ ⟨st', h1, h2, h3⟩ => ⟨st', h1, h2, fun _ => h3⟩) (eop_callv hca rfl rfl (WeakL.refl _) (hp done (cutF 10 t).1 st (by omega) (by omega) (lns_get hl (by simpa using hc)) hq))⟩) ?_
   rintro _ _ ⟨st2, rfl, rfl, hst2⟩
   refine dg rfl rfl (fun hc => ⟨_, OpenTo.upd (t := 25) rfl (by first | exact hc | simp_all) (OpenTo.refl _), pop_not rfl⟩) ?_
   refine dp rfl (pop_picko rfl (.inl rfl) (.inr ⟨_, rfl, fun h => by simp_all⟩)) ?_
   refine dn ?_
   refine hw_cond rfl (fun h3 => ?_) (fun h4 => ?_)
   ·try simp at h3
    refine hw_reg ?_
    refine dp rfl (pop_move rfl) ?_
    refine dp rfl (pop_assign rfl) ?_
    refine dp rfl (pop_assign rfl) ?_
    refine dn ?_
    refine hw_ret ?_
    first
    | (have hgf : goL ok 0 (spl 10 text) = ((k : Int), false) := hg.trans (goL_f h1 (fun hh => by simpa [hh] using h3))
       exact ret_q rfl ⟨st2, by rw [hgf]; rfl, rfl, fun h => by rw [hgf] at h; cases h⟩)
    | (subst h2
       exact ret_q rfl ⟨st, by rw [hg]; rfl, rfl, fun h => by rw [hl]; simpa [lns, spl] using hq⟩)
   ·try simp at h4
    refine hw_skip ?_
    refine seqQ_n ?_
    refine hw_reg1 ?_
    refine dp rfl (pop_move rfl) ?_
    refine dp rfl (pop_assign rfl) ?_
    refine dn ?_
    refine blockQ_n ?_
    refine seqQ_n ?_
    refine hw_reg1 ?_
    refine dp rfl (pop_move rfl) ?_
    refine dp rfl (pop_add64 rfl rfl (by omega) (by omega)) ?_
    refine dp rfl (pop_assign rfl) ?_
    refine dn ?_
    obtain ⟨h4a, h4b⟩ := h4
    have hc4 := hc3 h4a
    exact ⟨k + 1, (cutF 10 t).2.1, st2, done ++ [(cutF 10 t).1], ⟨hg.trans ((goL_cut h1 h4a).trans (if_pos h4b)), by rw [hl, lns_cut h4a]; simp, hst2 h4a h4b, by simp [hk], by omega⟩, by dsimp only; omega, ⟨rfl, rfl, trivial⟩, (by repeat (first | exact keeps_refl | refine keeps_upd rfl ?_ | refine keeps_loop rfl rfl ?_)), perm_eq rfl⟩
  ·try simp at h2
   refine hw_exit ?_
   refine seqQ_x ?_
   refine loopQ4_x ?_
   refine blockQ_eq ?_
   refine seqQ_n ?_
   refine hw_reg ?_
   refine dp rfl (pop_assign rfl) ?_
   refine dp rfl (pop_assign rfl) ?_
   refine dn ?_
   refine hw_ret ?_
   first
   | (have hgf : goL ok 0 (spl 10 text) = ((k : Int), false) := hg.trans (goL_f h1 (fun hh => by simpa [hh] using h3))
      exact ret_q rfl ⟨st2, by rw [hgf]; rfl, rfl, fun h => by rw [hgf] at h; cases h⟩)
   | (subst h2
      exact ret_q rfl ⟨st, by rw [hg]; rfl, rfl, fun h => by rw [hl]; simpa [lns, spl] using hq⟩)
end Go.Proofs.YtdjpppifnmjhoaaGreatDoor
end
section
namespace Go.HL
structure GoodM (m : MarketS) : Prop where
 pos : 0 < m.Teams.length
 len : m.Teams.length ≤ 5
 sh : ∀ s ∈ m.Teams, s.length ≤ 10
def team4 : List Str := [[116, 97], [116, 98], [116, 99], [116, 100]]
theorem team4_len : ∀ s ∈ team4, s.length ≤ 10 := by decide
def GoodOw1 (x : OwnerS) : Prop := Sh x.Player ∧ Sh x.Team
structure GoodOw (l : List OwnerS) : Prop where
 len : l.length ≤ 13
 all : ∀ x ∈ l, Sh x.Player ∧ Sh x.Team
structure GoodDl1 (x : DealS) : Prop where
 id : Sh x.Id
 len : x.Gives.length ≤ 3
 all : ∀ g ∈ x.Gives, Sh g.Player
structure GoodDl (l : List DealS) : Prop where
 len : l.length ≤ 5
 all : ∀ x ∈ l, GoodDl1 x
theorem sh_of {s : Str} {n : Nat} (h : s.length ≤ n) (hn : n ≤ 1000000) : Sh s := by unfold Sh; omega
/-- What is left of a list, some of it gone. -/
structure LeftOf {α : Type} (l k : List α) : Prop where
 len : k.length ≤ l.length
 sub : ∀ x ∈ k, x ∈ l
theorem LeftOf.take {α : Type} {l D : List α} (n : Nat) (hl : D.length = l.length) (h : ∀ x ∈ D, x ∈ l) : LeftOf l (D.take n) :=
 ⟨by rw [List.length_take]; omega, fun x hx => h x (List.mem_of_mem_take hx)⟩
theorem LeftOf.refl {α : Type} (l : List α) : LeftOf l l := ⟨Nat.le_refl _, fun _ h => h⟩
end Go.HL
end
section
namespace Go.Proofs.YtdjpppifnmjhoaaGreatDoor
open Go.HL
set_option maxRecDepth 100000
set_option linter.unusedVariables false
set_option linter.unusedSimpArgs false
/-- benchwarmer/trade.isTeam -/
theorem c_trade_isTeam [Tracks] {m : MarketS} {t : Str} (hm : MarketOk m) : ConP Tryz.prog 107 [.vptr (hcells (eMarket m)) 0, .str t] (.bool (m.Teams.contains t)) := by
 refine Con.of_body Tryz.func107 rfl Tryz.ntmps107 rfl rfl ?_
 refine hw_reg ?_
 refine dp rfl (pop_assign rfl) ?_
 refine dn ?_
 refine hw_reg ?_
 refine dp rfl (pop_move rfl) ?_
 refine dp rfl ((by first | exact pop_nilCheck rfl | exact pop_nilCheck_raw rfl)) ?_
 refine dp rfl (pop_fieldAddr ty28 rfl ty26 (by decide) rfl) ?_
 refine dp rfl (pop_load ty26 rfl rfl rfl) ?_
 refine dp rfl (pop_move rfl) ?_
 refine dp rfl (pop_call ca160 rfl (WeakL.refl _) (c_slices_BinarySearch_string_string (l := m.Teams) (s := t) (by have := hm.len; omega) hm.sorted)) ?_
 refine dp rfl (pop_move rfl) ?_
 refine dp rfl (pop_extract rfl rfl) ?_
 refine dp rfl (pop_extract rfl rfl) ?_
 refine dp rfl (pop_assign rfl) ?_
 refine dp rfl (pop_assign rfl) ?_
 refine dn ?_
 refine hw_reg ?_
 refine dp rfl (pop_move rfl) ?_
 refine dp rfl (pop_assign rfl) ?_
 refine dn ?_
 refine hw_ret ?_
 refine ret_p rfl ?_
 rfl

/-- benchwarmer/trade.CheckMarket -/
theorem c_trade_CheckMarket [Tracks] {m : MarketS} (ht : m.Teams.length ≤ 1000000) : ConP Tryz.prog 51 [eMarket m] (.int .i64 (marketE m)) := by
 refine Con.of_body Tryz.func51 rfl Tryz.ntmps51 rfl rfl ?_
 refine hw_reg ?_
 refine dp rfl (pop_box rfl rfl) ?_
 refine dp rfl (pop_assign rfl) ?_
 refine dn ?_
 refine hw_seq ?_
 refine hw_block ?_
 refine hw_reg ?_
 refine dp rfl (pop_fieldAddr ty28 rfl ty26 (by decide) rfl) ?_
 refine dp rfl (pop_load ty26 rfl rfl rfl) ?_
 refine dp rfl (pop_lenm ty26 rfl) ?_
 refine dp rfl (pop_eql rfl rfl) ?_
 refine dp rfl (pop_assign rfl) ?_
 refine dn ?_
 refine hw_cond rfl (fun h1 => ?_) (fun h2 => ?_)
 ·try simp at h1
  refine hw_reg ?_
  refine dp rfl (pop_assign rfl) ?_
  refine dn ?_
  refine hw_ret ?_
  refine ret_p rfl ?_
  show HVal.int .i64 _ = _
  first
  | (rw [marketE, if_pos (by simpa using h1)]; done)
  | (rw [marketE, if_neg (by simpa using h2), if_pos (by omega)]; done)
  | (rw [marketE, if_neg (by simpa using h2), if_neg (by omega)]; simp_all; done)
 ·try simp at h2
  refine hw_reg ?_
  refine dp rfl (pop_fieldAddr ty28 rfl ty26 (by decide) rfl) ?_
  refine dp rfl (pop_load ty26 rfl rfl rfl) ?_
  refine dp rfl (pop_lenm ty26 rfl) ?_
  refine dp rfl (pop_gtr rfl rfl) ?_
  refine dp rfl (pop_assign rfl) ?_
  refine dn ?_
  refine hw_cond rfl (fun h3 => ?_) (fun h4 => ?_)
  ·try simp at h3
   refine hw_reg ?_
   refine dp rfl (pop_assign rfl) ?_
   refine dn ?_
   refine hw_ret ?_
   refine ret_p rfl ?_
   show HVal.int .i64 _ = _
   first
   | (rw [marketE, if_pos (by simpa using h1)]; done)
   | (rw [marketE, if_neg (by simpa using h2), if_pos (by omega)]; done)
   | (rw [marketE, if_neg (by simpa using h2), if_neg (by omega)]; simp_all; done)
  ·try simp at h4
   refine hw_skip ?_
   refine blockQ_n ?_
   refine seqQ_n ?_
   refine hw_seq ?_
   refine hw_reg ?_
   refine dp rfl (pop_fieldAddr ty28 rfl ty26 (by decide) rfl) ?_
   refine dp rfl (pop_load ty26 rfl rfl rfl) ?_
   refine dp rfl (pop_call ca96 rfl (WeakL.refl _) (c_base_Rising (by first | assumption | omega | (simp; omega) | simp_all))) ?_
   refine dp rfl (pop_assign rfl) ?_
   refine dn ?_
   refine hw_reg ?_
   refine dp rfl (pop_move rfl) ?_
   refine dp rfl (pop_neq rfl rfl) ?_
   refine dn ?_
   refine hw_cond rfl (fun h5 => ?_) (fun h6 => ?_)
   ·try simp at h5
    refine hw_reg ?_
    refine dp rfl (pop_move rfl) ?_
    refine dp rfl (pop_assign rfl) ?_
    refine dn ?_
    refine hw_ret ?_
    refine ret_p rfl ?_
    show HVal.int .i64 _ = _
    first
    | (rw [marketE, if_pos (by simpa using h1)]; done)
    | (rw [marketE, if_neg (by simpa using h2), if_pos (by omega)]; done)
    | (rw [marketE, if_neg (by simpa using h2), if_neg (by omega)]; simp_all; done)
   ·try simp at h6
    refine hw_skip ?_
    refine seqQ_n ?_
    refine hw_seq ?_
    refine hw_reg ?_
    refine dp rfl (pop_fieldAddr ty28 rfl ty3 (by decide) rfl) ?_
    refine dp rfl (pop_load ty3 rfl rfl rfl) ?_
    refine dp rfl (pop_call ca97 rfl (WeakL.refl _) c_base_Out) ?_
    refine dp rfl (pop_move rfl) ?_
    refine dg rfl rfl (fun hc => ⟨_, OpenTo.refl _, pop_fieldAddr ty28 rfl ty3 (by decide) rfl⟩) ?_
    refine dg rfl rfl (fun hc => ⟨_, OpenTo.upd (t := 24) rfl (by first | exact hc | simp_all) (OpenTo.refl _), pop_load ty3 rfl rfl rfl⟩) ?_
    refine dg rfl rfl (fun hc => ⟨_, OpenTo.upd (t := 25) rfl (by first | exact hc | simp_all) (OpenTo.refl _), pop_call ca97 rfl (WeakL.refl _) c_base_Out⟩) ?_
    refine dp rfl (pop_picko rfl (.inl rfl) (.inr ⟨_, rfl, fun h => by simp_all⟩)) ?_
    refine dp rfl (pop_move rfl) ?_
    refine dg rfl rfl (fun hc => ⟨_, OpenTo.refl _, pop_fieldAddr ty28 rfl ty3 (by decide) rfl⟩) ?_
    refine dg rfl rfl (fun hc => ⟨_, OpenTo.upd (t := 29) rfl (by first | exact hc | simp_all) (OpenTo.refl _), pop_load ty3 rfl rfl rfl⟩) ?_
    refine dg rfl rfl (fun hc => ⟨_, OpenTo.upd (t := 30) rfl (by first | exact hc | simp_all) (OpenTo.refl _), pop_call ca97 rfl (WeakL.refl _) c_base_Out⟩) ?_
    refine dp rfl (pop_picko rfl (.inl rfl) (.inr ⟨_, rfl, fun h => by simp_all⟩)) ?_
    refine dp rfl (pop_move rfl) ?_
    refine dg rfl rfl (fun hc => ⟨_, OpenTo.refl _, pop_fieldAddr ty28 rfl ty3 (by decide) rfl⟩) ?_
    refine dg rfl rfl (fun hc => ⟨_, OpenTo.upd (t := 34) rfl (by first | exact hc | simp_all) (OpenTo.refl _), pop_load ty3 rfl rfl rfl⟩) ?_
    refine dg rfl rfl (fun hc => ⟨_, OpenTo.refl _, pop_fieldAddr ty28 rfl ty3 (by decide) rfl⟩) ?_
    refine dg rfl rfl (fun hc => ⟨_, OpenTo.upd (t := 36) rfl (by first | exact hc | simp_all) (OpenTo.refl _), pop_load ty3 rfl rfl rfl⟩) ?_
    refine dg rfl rfl (fun hc => ⟨_, OpenTo.upd (t := 37) rfl (by first | exact hc | simp_all) (OpenTo.upd (t := 35) rfl (by first | exact hc | simp_all) (OpenTo.refl _)), pop_call ca97 rfl (WeakL.refl _) c_base_Out⟩) ?_
    refine dp rfl (pop_picko rfl (.inl rfl) (.inr ⟨_, rfl, fun h => by simp_all⟩)) ?_
    refine dp rfl (pop_move rfl) ?_
    refine dg rfl rfl (fun hc => ⟨_, OpenTo.refl _, pop_fieldAddr ty28 rfl ty3 (by decide) rfl⟩) ?_
    refine dg rfl rfl (fun hc => ⟨_, OpenTo.upd (t := 41) rfl (by first | exact hc | simp_all) (OpenTo.refl _), pop_load ty3 rfl rfl rfl⟩) ?_
    refine dg rfl rfl (fun hc => ⟨_, OpenTo.upd (t := 42) rfl (by first | exact hc | simp_all) (OpenTo.refl _), pop_gtr rfl rfl⟩) ?_
    refine dp rfl (pop_picko rfl (.inl rfl) (.inr ⟨_, rfl, fun h => by simp_all⟩)) ?_
    refine dn ?_
    refine hw_cond rfl (fun h7 => ?_) (fun h8 => ?_)
    ·try simp at h7
     refine hw_reg ?_
     refine dp rfl (pop_assign rfl) ?_
     refine dn ?_
     refine hw_ret ?_
     refine ret_p rfl ?_
     show HVal.int .i64 _ = _
     first
     | (rw [marketE, if_pos (by simpa using h1)]; done)
     | (rw [marketE, if_neg (by simpa using h2), if_pos (by omega)]; done)
     | (rw [marketE, if_neg (by simpa using h2), if_neg (by omega)]; simp_all; done)
    ·try simp at h8
     refine hw_skip ?_
     refine seqQ_n ?_
     refine hw_reg ?_
     refine dp rfl (pop_assign rfl) ?_
     refine dn ?_
     refine hw_ret ?_
     refine ret_p rfl ?_
     show HVal.int .i64 _ = _
     first
     | (rw [marketE, if_pos (by simpa using h1)]; done)
     | (rw [marketE, if_neg (by simpa using h2), if_pos (by omega)]; done)
     | (rw [marketE, if_neg (by simpa using h2), if_neg (by omega)]; simp_all; done)

/-- benchwarmer/trade.within$1 -/
theorem c_trade_within_1 [Tracks] {m : MarketS} {o : List OwnerS} {L : SMap} {t : Str} (hL : ∀ t, lkI L t = .int .i64 (cntO o t)) : ConP Tryz.prog 162 [.str t, .vptr [hsm L] 0, .vptr [.vptr (hcells (eMarket m)) 0] 0] (.bool (out (cntO o t) m.Least m.Most)) := by
 refine Con.of_body Tryz.func162 rfl Tryz.ntmps162 rfl rfl ?_
 refine hw_reg ?_
 refine dp rfl (pop_assign rfl) ?_
 refine dn ?_
 refine hw_draw (fun _ => True) [] mixed ?_
 refine ahp 0 rfl rfl (by kernel_rfl) (by kernel_rfl) (pop_load ty196 rfl rfl rfl) ?_
 refine ahp 1 rfl rfl (by kernel_rfl) (by kernel_rfl) (pop_move rfl) ?_
 refine ahp 2 rfl rfl (by kernel_rfl) (by kernel_rfl) (pop_eq (pop_lookup_m ty196 ty9 ty3 rfl rfl) (show _ = _ from hL t)) ?_
 refine ahp 3 rfl rfl (by kernel_rfl) (by kernel_rfl) (pop_load ty131 rfl rfl rfl) ?_
 refine ahp 4 rfl rfl (by kernel_rfl) (by kernel_rfl) ((by first | exact pop_nilCheck rfl | exact pop_nilCheck_raw rfl)) ?_
 refine ahp 5 rfl rfl (by kernel_rfl) (by kernel_rfl) (pop_fieldAddr ty28 rfl ty3 (by decide) rfl) ?_
 refine ahp 6 rfl rfl (by kernel_rfl) (by kernel_rfl) (pop_load ty3 rfl rfl rfl) ?_
 refine ahp 7 rfl rfl (by kernel_rfl) (by kernel_rfl) (pop_load ty131 rfl rfl rfl) ?_
 refine ahp 8 rfl rfl (by kernel_rfl) (by kernel_rfl) ((by first | exact pop_nilCheck rfl | exact pop_nilCheck_raw rfl)) ?_
 refine ahp 9 rfl rfl (by kernel_rfl) (by kernel_rfl) (pop_fieldAddr ty28 rfl ty3 (by decide) rfl) ?_
 refine ahp 10 rfl rfl (by kernel_rfl) (by kernel_rfl) (pop_load ty3 rfl rfl rfl) ?_
 refine ahp 11 rfl rfl (by kernel_rfl) (by kernel_rfl) (pop_call ca97 rfl (WeakL.refl _) c_base_Out) ?_
 refine ahp 12 rfl rfl (by kernel_rfl) (by kernel_rfl) (pop_assign rfl) ?_
 refine ahz (by kernel_rfl) ?_
 refine hw_ret ?_
 refine ret_p rfl ?_
 rfl

/-- benchwarmer/trade.within -/
theorem c_trade_within [Tracks] {m : MarketS} {o : List OwnerS} (ht : m.Teams.length ≤ 1000000) (ho : o.length ≤ 1000000) : ConP Tryz.prog 108 [.vptr (hcells (eMarket m)) 0, eOwners o] (.bool (fitsB m o)) := by
 refine Con.of_body Tryz.func108 rfl Tryz.ntmps108 rfl rfl ?_
 refine hw_reg ?_
 refine dp rfl (pop_box rfl rfl) ?_
 refine dp rfl (pop_assign rfl) ?_
 refine dn ?_
 refine hw_reg ?_
 refine de rfl (eop_makeMap fun m8 => ?_)
 refine de rfl (eop_alloc ty196 rfl fun b5 => ?_)
 refine de0 (eop_storew ty196 rfl rfl rfl rfl rfl ?_)
 refine dn ?_
 refine hw_ghost (Ghost.fc0 5 rfl) ?_
 refine hw_seq ?_
 refine hw_reg ?_
 refine dp rfl (pop_move rfl) ?_
 refine dp rfl (pop_lenm ty32 rfl) ?_
 refine dp rfl (pop_move rfl) ?_
 refine dn ?_
 refine hw_block ?_
 refine hw_loopw2 [7, 11, 12, 13, 14, 15, 16, 17, 18, 19, 20] (fun (k : Nat) (L : SMap) => [(11, .int .i64 k)]) (fun (k : Nat) (L : SMap) => [.map m8 (sk L)]) (fun (k : Nat) (L : SMap) => k ≤ o.length ∧ (∀ t, lkI L t = .int .i64 (cntO (o.take k) t))) (fun (k : Nat) (L : SMap) => o.length - k) (0) ([]) ?_ ?_ ?_ ?_
 ·exact ⟨Nat.zero_le _, fun t => by simp [lkI, sfind, cntO]⟩
 ·exact ⟨rfl, trivial⟩
 ·exact perm_eq rfl
 ·intro k L hinv
  obtain ⟨hk, hL⟩ := hinv
  refine hw_reg ?_
  refine dp rfl (pop_lss rfl rfl) ?_
  refine dn ?_
  refine hw_seq ?_
  refine hw_cond rfl (fun h1 => ?_) (fun h2 => ?_)
  ·try simp at h1
   obtain ⟨x, hx⟩ : ∃ x, o[k]? = some x := ⟨_, List.getElem?_eq_getElem h1⟩
   have hdx := drop_cons hx
   have hcb := cntO_bd (o.take k) x.Team
   rw [List.length_take] at hcb
   refine hw_skip ?_
   refine seqQ_n ?_
   refine hw_seq ?_
   refine hw_block ?_
   refine hw_reg ?_
   refine dp rfl (pop_idx ty32 ty67 rfl rfl rfl (by first | assumption | simp_all)) ?_
   refine dp rfl (pop_loadw ty67 rfl rfl rfl rfl) ?_
   refine de rfl (eop_alloc ty67 rfl fun b7 => ?_)
   refine de0 (eop_storew ty67 rfl rfl rfl rfl rfl ?_)
   refine dn ?_
   refine hw_ghost (Ghost.fc0 7 rfl) ?_
   refine hw_reg1 ?_
   refine dp rfl (pop_load ty196 rfl rfl rfl) ?_
   refine dp rfl (pop_fieldAddr ty67 rfl ty9 (by decide) rfl) ?_
   refine dp rfl (pop_load ty9 rfl rfl rfl) ?_
   refine de rfl (eop_lookupI (i := 0) ty196 ty9 ty3 rfl rfl rfl (hL x.Team) ?_)
   refine dp rfl (pop_add64 rfl rfl (by omega) (by omega)) ?_
   refine de0 (eop_mapUpdate (i := 0) ty196 ty9 rfl rfl rfl rfl ?_)
   refine dn ?_
   refine blockQ_n ?_
   refine seqQ_n ?_
   refine hw_reg1 ?_
   refine dp rfl (pop_add64 rfl rfl (by omega) (by omega)) ?_
   refine dp rfl (pop_move rfl) ?_
   refine dn ?_
   refine ⟨k + 1, _, ?_, ?_, ⟨rfl, trivial⟩, (by repeat (first | exact keeps_refl | refine keeps_upd rfl ?_ | refine keeps_loop rfl rfl ?_)), perm_eq rfl⟩
   ·refine ⟨by omega, fun t => ?_⟩
    rw [lkI_put, cnt_loop o t k x hx]
    by_cases e : t = x.Team
    ·rw [if_pos e, if_pos e.symm, e]
    ·rw [if_neg e, if_neg (fun q => e q.symm), hL t, Int.add_zero]
   ·dsimp only; omega
  ·try simp at h2
   have hnk : o.length ≤ k := by omega
   obtain rfl : k = o.length := by omega
   rw [List.take_length] at hL
   refine hw_exit ?_
   refine seqQ_x ?_
   refine loopQ2_x ?_
   refine blockQ_eq ?_
   refine seqQ_n ?_
   refine hw_reg ?_
   refine dp rfl (pop_load ty131 rfl rfl rfl) ?_
   refine dp rfl ((by first | exact pop_nilCheck rfl | exact pop_nilCheck_raw rfl)) ?_
   refine dp rfl (pop_fieldAddr ty28 rfl ty26 (by decide) rfl) ?_
   refine dp rfl (pop_load ty26 rfl rfl rfl) ?_
   refine dp rfl (pop_makeFunc rfl rfl) ?_
   refine de rfl (eop_callw (hs' := [eSs m.Teams, .fn (.func 162) [] [.vptr [hsm L] 0, .vptr [.vptr (hcells (eMarket m)) 0] 0]]) ca161 rfl ⟨.refl, .fnL ⟨.vptrL ⟨.map (i := 0) rfl, trivial⟩, .refl, trivial⟩, trivial⟩ (c_slices_ContainsFunc_string_string (p := fun t => out (cntO o t) m.Least m.Most) ca162 (fun _ => c_trade_within_1 hL) ht) rfl ?_)
   refine dp rfl (pop_not rfl) ?_
   refine dp rfl (pop_assign rfl) ?_
   refine dn ?_
   refine hw_ret ?_
   refine ret_g Ghost.clear rfl ⟨?_, rfl⟩
   show HVal.bool _ = _
   rw [← fitsB_any]

/-- benchwarmer/trade.CheckOwners -/
theorem c_trade_CheckOwners [Tracks] {m : MarketS} {o : List OwnerS} (ht : m.Teams.length ≤ 1000000) (ho : o.length ≤ 1000000) : ConP Tryz.prog 63 [eMarket m, eOwners o] (.int .i64 (ownersE m o)) := by
 refine Con.of_body Tryz.func63 rfl Tryz.ntmps63 rfl rfl ?_
 refine hw_reg ?_
 refine dp rfl (pop_box rfl rfl) ?_
 refine dp rfl (pop_assign rfl) ?_
 refine dn ?_
 refine hw_seq ?_
 refine hw_reg ?_
 refine dp rfl (pop_loadw ty28 rfl rfl rfl rfl) ?_
 refine dp rfl (pop_call ca51 rfl (WeakL.refl _) (c_trade_CheckMarket (by first | assumption | omega | (simp; omega) | simp_all))) ?_
 refine dp rfl (pop_assign rfl) ?_
 refine dn ?_
 refine hw_reg ?_
 refine dp rfl (pop_move rfl) ?_
 refine dp rfl (pop_neq rfl rfl) ?_
 refine dn ?_
 refine hw_cond rfl (fun h1 => ?_) (fun h2 => ?_)
 ·try simp at h1
  refine hw_reg ?_
  refine dp rfl (pop_move rfl) ?_
  refine dp rfl (pop_assign rfl) ?_
  refine dn ?_
  refine hw_ret ?_
  refine ret_p rfl ?_
  show HVal.int .i64 _ = _
  first
  | (rw [ownersE, if_pos (by simpa using h1)]; done)
  | (rw [hE]; exact congrArg _ (own_big (by omega)))
  | (rw [hE, ← own_end (by omega) hg]; simp_all; done)
  | (rw [hE]
     refine congrArg _ (own_bad (e := 5) (by omega) hg (by decide) ?_)
     rw [ownF, if_pos]
     simp_all
     done)
  | (rw [hE]
     refine congrArg _ (own_bad (e := 8) (by omega) hg (by decide) ?_)
     rw [ownF, if_neg, if_pos]
     all_goals simp_all
     done)
  | (rw [hE]
     refine congrArg _ (own_ord (by omega) hg ?_ ?_ ?_)
     ·rw [ownF, if_neg, if_neg] <;> simp_all
     ·simp_all
     ·simp_all)
 ·try simp at h2
  refine hw_skip ?_
  refine seqQ_n ?_
  refine hw_seq ?_
  have hz : marketE m = 0 := by simpa using h2
  have hm := marketE_ok hz
  have ht20 := hm.len
  have hE : ownersE m o = ownersR m o := by rw [ownersE, if_neg (by simp [hz])]
  refine hw_reg ?_
  refine dp rfl (pop_move rfl) ?_
  refine dp rfl (pop_lenm ty32 rfl) ?_
  refine dp rfl (pop_gtr rfl rfl) ?_
  refine dn ?_
  refine hw_cond rfl (fun h3 => ?_) (fun h4 => ?_)
  ·try simp at h3
   refine hw_reg ?_
   refine dp rfl (pop_assign rfl) ?_
   refine dn ?_
   refine hw_ret ?_
   refine ret_p rfl ?_
   show HVal.int .i64 _ = _
   first
   | (rw [ownersE, if_pos (by simpa using h1)]; done)
   | (rw [hE]; exact congrArg _ (own_big (by omega)))
   | (rw [hE, ← own_end (by omega) hg]; simp_all; done)
   | (rw [hE]
      refine congrArg _ (own_bad (e := 5) (by omega) hg (by decide) ?_)
      rw [ownF, if_pos]
      simp_all
      done)
   | (rw [hE]
      refine congrArg _ (own_bad (e := 8) (by omega) hg (by decide) ?_)
      rw [ownF, if_neg, if_pos]
      all_goals simp_all
      done)
   | (rw [hE]
      refine congrArg _ (own_ord (by omega) hg ?_ ?_ ?_)
      ·rw [ownF, if_neg, if_neg] <;> simp_all
      ·simp_all
      ·simp_all)
  ·try simp at h4
   refine hw_skip ?_
   refine seqQ_n ?_
   refine hw_seq ?_
   refine hw_reg ?_
   refine dp rfl (pop_move rfl) ?_
   refine dp rfl (pop_lenm ty32 rfl) ?_
   refine dp rfl (pop_move rfl) ?_
   refine dn ?_
   refine hw_block ?_
   refine hw_loopw [4, 6, 7, 18, 19, 20, 21, 22, 23, 24, 25, 26, 27, 28, 29, 30, 31, 32, 33, 34, 35, 36, 37, 38, 39, 40, 41, 42, 43, 44, 45, 46, 47] (fun (k : Nat) => [(18, .int .i64 k)]) (fun (k : Nat) => []) (fun (k : Nat) => k ≤ o.length ∧ (ownersC m o = chkGo (ownF m) byOwn owner0 o k (o.drop k))) (fun (k : Nat) => o.length - k) (0) ?_ ?_ ?_ ?_
   ·exact ⟨Nat.zero_le _, rfl⟩
   ·exact ⟨rfl, trivial⟩
   ·exact List.Perm.refl _
   ·intro k hinv
    obtain ⟨hk, hg⟩ := hinv
    refine hw_reg ?_
    refine dp rfl (pop_lss rfl rfl) ?_
    refine dn ?_
    refine hw_seq ?_
    refine hw_cond rfl (fun h5 => ?_) (fun h6 => ?_)
    ·try simp at h5
     obtain ⟨x, hx⟩ : ∃ x, o[k]? = some x := ⟨_, List.getElem?_eq_getElem h5⟩
     have hdx := drop_cons hx
     rw [hdx] at hg
     refine hw_skip ?_
     refine seqQ_n ?_
     refine hw_seq ?_
     refine hw_block ?_
     refine hw_reg ?_
     refine dp rfl (pop_move rfl) ?_
     refine dp rfl (pop_idx ty32 ty67 rfl rfl rfl (by first | assumption | simp_all)) ?_
     refine dp rfl (pop_loadw ty67 rfl rfl rfl rfl) ?_
     refine de rfl (eop_alloc ty67 rfl fun b7 => ?_)
     refine dp rfl (pop_assign rfl) ?_
     refine de0 (eop_storew ty67 rfl rfl rfl rfl rfl ?_)
     refine dn ?_
     refine hw_ghost (Ghost.fc0 7 rfl) ?_
     refine hw_block ?_
     refine hw_reg ?_
     refine dp rfl (pop_fieldAddr ty67 rfl ty9 (by decide) rfl) ?_
     refine dp rfl (pop_load ty9 rfl rfl rfl) ?_
     refine dp rfl (pop_call ca106 rfl (WeakL.refl _) c_base_Key) ?_
     refine dp rfl (pop_not rfl) ?_
     refine dp rfl (pop_assign rfl) ?_
     refine dn ?_
     refine hw_cond rfl (fun h7 => ?_) (fun h8 => ?_)
     ·try simp at h7
      refine hw_reg ?_
      refine dp rfl (pop_assign rfl) ?_
      refine dn ?_
      refine hw_ret ?_
      refine ret_p rfl ?_
      show HVal.int .i64 _ = _
      first
      | (rw [ownersE, if_pos (by simpa using h1)]; done)
      | (rw [hE]; exact congrArg _ (own_big (by omega)))
      | (rw [hE, ← own_end (by omega) hg]; simp_all; done)
      | (rw [hE]
         refine congrArg _ (own_bad (e := 5) (by omega) hg (by decide) ?_)
         rw [ownF, if_pos]
         simp_all
         done)
      | (rw [hE]
         refine congrArg _ (own_bad (e := 8) (by omega) hg (by decide) ?_)
         rw [ownF, if_neg, if_pos]
         all_goals simp_all
         done)
      | (rw [hE]
         refine congrArg _ (own_ord (by omega) hg ?_ ?_ ?_)
         ·rw [ownF, if_neg, if_neg] <;> simp_all
         ·simp_all
         ·simp_all)
     ·try simp at h8
      refine hw_reg ?_
      refine dp rfl (pop_fieldAddr ty67 rfl ty9 (by decide) rfl) ?_
      refine dp rfl (pop_load ty9 rfl rfl rfl) ?_
      refine dp rfl (pop_call ca107 rfl (WeakL.refl _) (c_trade_isTeam hm)) ?_
      refine dp rfl (pop_not rfl) ?_
      refine dp rfl (pop_assign rfl) ?_
      refine dn ?_
      refine hw_cond rfl (fun h9 => ?_) (fun h10 => ?_)
      ·try simp at h9
       refine hw_reg ?_
       refine dp rfl (pop_assign rfl) ?_
       refine dn ?_
       refine hw_ret ?_
       refine ret_p rfl ?_
       show HVal.int .i64 _ = _
       first
       | (rw [ownersE, if_pos (by simpa using h1)]; done)
       | (rw [hE]; exact congrArg _ (own_big (by omega)))
       | (rw [hE, ← own_end (by omega) hg]; simp_all; done)
       | (rw [hE]
          refine congrArg _ (own_bad (e := 5) (by omega) hg (by decide) ?_)
          rw [ownF, if_pos]
          simp_all
          done)
       | (rw [hE]
          refine congrArg _ (own_bad (e := 8) (by omega) hg (by decide) ?_)
          rw [ownF, if_neg, if_pos]
          all_goals simp_all
          done)
       | (rw [hE]
          refine congrArg _ (own_ord (by omega) hg ?_ ?_ ?_)
          ·rw [ownF, if_neg, if_neg] <;> simp_all
          ·simp_all
          ·simp_all)
      ·try simp at h10
       refine hw_draw (fun _ => True) [] mixed ?_
       refine ahp 0 rfl rfl (by kernel_rfl) (by kernel_rfl) (pop_move rfl) ?_
       refine ahp 1 rfl rfl (by kernel_rfl) (by kernel_rfl) (pop_gtr rfl rfl) ?_
       refine ahp 2 rfl rfl (by kernel_rfl) (by kernel_rfl) (pop_move rfl) ?_
       refine ahg 3 rfl rfl (by kernel_rfl) (by kernel_rfl) rfl (fun hc => ⟨_, OpenTo.refl _, pop_fieldAddr ty67 rfl ty9 (by decide) rfl⟩) ?_
       refine ahg 4 rfl rfl (by kernel_rfl) (by kernel_rfl) rfl (fun hc => ⟨_, OpenTo.upd (t := 37) rfl (by first | exact hc | simp_all) (OpenTo.refl _), pop_load ty9 rfl rfl rfl⟩) ?_
       refine ahg 5 rfl rfl (by kernel_rfl) (by kernel_rfl) rfl (fun hc => ⟨_, OpenTo.refl _, pop_move rfl⟩) ?_
       refine ahg 6 rfl rfl (by kernel_rfl) (by kernel_rfl) rfl (fun hc => ⟨_, OpenTo.refl _, pop_move rfl⟩) ?_
       refine ahg 7 rfl rfl (by kernel_rfl) (by kernel_rfl) rfl (fun hc => by have hq := hc; (try simp at hq); exact ⟨_, OpenTo.upd (t := 40) rfl (by first | exact hc | simp_all) (OpenTo.refl _), pop_sub64 rfl rfl (by omega) (by omega)⟩) ?_
       refine ahg 8 rfl rfl (by kernel_rfl) (by kernel_rfl) rfl (fun hc => by have hq := hc; (try simp at hq); exact ⟨_, OpenTo.upd (t := 41) rfl (by first | exact hc | simp_all) (OpenTo.upd (t := 39) rfl (by first | exact hc | simp_all) (OpenTo.refl _)), pop_idx (j := k - 1) (a := o.getD (k - 1) owner0) ty32 ty67 rfl rfl (by omega) (getD_some (by omega))⟩) ?_
       refine ahg 9 rfl rfl (by kernel_rfl) (by kernel_rfl) rfl (fun hc => ⟨_, OpenTo.upd (t := 42) rfl (by first | exact hc | simp_all) (OpenTo.refl _), pop_fieldAddr ty67 rfl ty9 (by decide) rfl⟩) ?_
       refine ahg 10 rfl rfl (by kernel_rfl) (by kernel_rfl) rfl (fun hc => ⟨_, OpenTo.upd (t := 43) rfl (by first | exact hc | simp_all) (OpenTo.refl _), pop_load ty9 rfl rfl rfl⟩) ?_
       refine ahg 11 rfl rfl (by kernel_rfl) (by kernel_rfl) rfl (fun hc => ⟨_, OpenTo.upd (t := 44) rfl (by first | exact hc | simp_all) (OpenTo.upd (t := 38) rfl (by first | exact hc | simp_all) (OpenTo.refl _)), pop_leqs rfl rfl⟩) ?_
       refine ahp 12 rfl rfl (by kernel_rfl) (by kernel_rfl) (pop_picko rfl (.inr ⟨_, rfl, fun h => by simp_all⟩) (.inl rfl)) ?_
       refine ahp 13 rfl rfl (by kernel_rfl) (by kernel_rfl) (pop_assign rfl) ?_
       refine ahz (by kernel_rfl) ?_
       refine hw_cond rfl (fun h11 => ?_) (fun h12 => ?_)
       ·try simp at h11
        refine hw_reg ?_
        refine dp rfl (pop_assign rfl) ?_
        refine dn ?_
        refine hw_ret ?_
        refine ret_p rfl ?_
        show HVal.int .i64 _ = _
        first
        | (rw [ownersE, if_pos (by simpa using h1)]; done)
        | (rw [hE]; exact congrArg _ (own_big (by omega)))
        | (rw [hE, ← own_end (by omega) hg]; simp_all; done)
        | (rw [hE]
           refine congrArg _ (own_bad (e := 5) (by omega) hg (by decide) ?_)
           rw [ownF, if_pos]
           simp_all
           done)
        | (rw [hE]
           refine congrArg _ (own_bad (e := 8) (by omega) hg (by decide) ?_)
           rw [ownF, if_neg, if_pos]
           all_goals simp_all
           done)
        | (rw [hE]
           refine congrArg _ (own_ord (by omega) hg ?_ ?_ ?_)
           ·rw [ownF, if_neg, if_neg] <;> simp_all
           ·simp_all
           ·simp_all)
       ·try simp at h12
        refine hw_skip ?_
        refine blockQ_n ?_
        refine blockQ_n ?_
        refine seqQ_n ?_
        refine hw_reg1 ?_
        refine dp rfl (pop_add64 rfl rfl (by omega) (by omega)) ?_
        refine dp rfl (pop_move rfl) ?_
        refine dn ?_
        refine ⟨k + 1, ?_, ?_, ⟨rfl, trivial⟩, (by repeat (first | exact keeps_refl | refine keeps_upd rfl ?_ | refine keeps_loop rfl rfl ?_)), List.Perm.refl _⟩
        ·refine ⟨by omega, ?_⟩
         rw [hg, own_next (by rw [ownF, if_neg (by simp_all), if_neg (by simp_all)]) (by intro hk0; simp_all)]
        ·dsimp only; omega
    ·try simp at h6
     have hnk : o.length ≤ k := by omega
     obtain rfl : k = o.length := by omega
     rw [drop_all (Nat.le_refl _)] at hg
     refine hw_exit ?_
     refine seqQ_x ?_
     refine loopQ_x ?_
     refine blockQ_eq ?_
     refine seqQ_n ?_
     refine hw_seq ?_
     refine hw_reg ?_
     refine dp rfl (pop_move rfl) ?_
     refine dp rfl (pop_call ca108 rfl (WeakL.refl _) (c_trade_within (by first | assumption | omega | (simp; omega) | simp_all) (by first | assumption | omega | (simp; omega) | simp_all))) ?_
     refine dp rfl (pop_not rfl) ?_
     refine dn ?_
     refine hw_cond rfl (fun h13 => ?_) (fun h14 => ?_)
     ·try simp at h13
      refine hw_reg ?_
      refine dp rfl (pop_assign rfl) ?_
      refine dn ?_
      refine hw_ret ?_
      refine ret_p rfl ?_
      show HVal.int .i64 _ = _
      first
      | (rw [ownersE, if_pos (by simpa using h1)]; done)
      | (rw [hE]; exact congrArg _ (own_big (by omega)))
      | (rw [hE, ← own_end (by omega) hg]; simp_all; done)
      | (rw [hE]
         refine congrArg _ (own_bad (e := 5) (by omega) hg (by decide) ?_)
         rw [ownF, if_pos]
         simp_all
         done)
      | (rw [hE]
         refine congrArg _ (own_bad (e := 8) (by omega) hg (by decide) ?_)
         rw [ownF, if_neg, if_pos]
         all_goals simp_all
         done)
      | (rw [hE]
         refine congrArg _ (own_ord (by omega) hg ?_ ?_ ?_)
         ·rw [ownF, if_neg, if_neg] <;> simp_all
         ·simp_all
         ·simp_all)
     ·try simp at h14
      refine hw_skip ?_
      refine seqQ_n ?_
      refine hw_reg ?_
      refine dp rfl (pop_assign rfl) ?_
      refine dn ?_
      refine hw_ret ?_
      refine ret_p rfl ?_
      show HVal.int .i64 _ = _
      first
      | (rw [ownersE, if_pos (by simpa using h1)]; done)
      | (rw [hE]; exact congrArg _ (own_big (by omega)))
      | (rw [hE, ← own_end (by omega) hg]; simp_all; done)
      | (rw [hE]
         refine congrArg _ (own_bad (e := 5) (by omega) hg (by decide) ?_)
         rw [ownF, if_pos]
         simp_all
         done)
      | (rw [hE]
         refine congrArg _ (own_bad (e := 8) (by omega) hg (by decide) ?_)
         rw [ownF, if_neg, if_pos]
         all_goals simp_all
         done)
      | (rw [hE]
         refine congrArg _ (own_ord (by omega) hg ?_ ?_ ?_)
         ·rw [ownF, if_neg, if_neg] <;> simp_all
         ·simp_all
         ·simp_all)

/-- benchwarmer/trade.givesFault -/
theorem c_trade_givesFault [Tracks] {m : MarketS} {l : List GiveS} (hm : MarketOk m) (hl : l.length ≤ 1000000) : ConP Tryz.prog 152 [.vptr (hcells (eMarket m)) 0, eGives l] (.int .i64 (givesE m l)) := by
 refine Con.of_body Tryz.func152 rfl Tryz.ntmps152 rfl rfl ?_
 refine hw_reg ?_
 refine dp rfl (pop_assign rfl) ?_
 refine dn ?_
 refine hw_seq ?_
 refine hw_block ?_
 refine hw_reg ?_
 refine dp rfl (pop_move rfl) ?_
 refine dp rfl (pop_lenm ty45 rfl) ?_
 refine dp rfl (pop_eql rfl rfl) ?_
 refine dp rfl (pop_assign rfl) ?_
 refine dn ?_
 refine hw_cond rfl (fun h1 => ?_) (fun h2 => ?_)
 ·try simp at h1
  refine hw_reg ?_
  refine dp rfl (pop_assign rfl) ?_
  refine dn ?_
  refine hw_ret ?_
  refine ret_p rfl ?_
  show HVal.int .i64 _ = _
  first
  | (rw [givesE, if_pos (by simpa using h1)]; done)
  | (rw [givesE, if_neg (by simpa using h2), if_pos (by omega)]; done)
  | (exact congrArg _ (giv_end (by simpa using h2) (by omega) hg))
  | (refine congrArg _ (giv_bad (e := 5) (by simpa using h2) (by omega) hg (by decide) ?_)
     rw [givF, if_pos]
     simp_all
     done)
  | (refine congrArg _ (giv_bad (e := 8) (by simpa using h2) (by omega) hg (by decide) ?_)
     rw [givF, if_neg, if_pos]
     all_goals simp_all
     done)
  | (refine congrArg _ (giv_bad (e := 16) (by simpa using h2) (by omega) hg (by decide) ?_)
     rw [givF, if_neg, if_neg, if_pos]
     all_goals simp_all
     done)
  | (refine congrArg _ (giv_ord (by simpa using h2) (by omega) hg ?_ ?_ ?_)
     ·rw [givF, if_neg, if_neg, if_neg] <;> simp_all
     ·simp_all
     ·simp_all)
 ·try simp at h2
  refine hw_reg ?_
  refine dp rfl (pop_move rfl) ?_
  refine dp rfl (pop_lenm ty45 rfl) ?_
  refine dp rfl (pop_gtr rfl rfl) ?_
  refine dp rfl (pop_assign rfl) ?_
  refine dn ?_
  refine hw_cond rfl (fun h3 => ?_) (fun h4 => ?_)
  ·try simp at h3
   refine hw_reg ?_
   refine dp rfl (pop_assign rfl) ?_
   refine dn ?_
   refine hw_ret ?_
   refine ret_p rfl ?_
   show HVal.int .i64 _ = _
   first
   | (rw [givesE, if_pos (by simpa using h1)]; done)
   | (rw [givesE, if_neg (by simpa using h2), if_pos (by omega)]; done)
   | (exact congrArg _ (giv_end (by simpa using h2) (by omega) hg))
   | (refine congrArg _ (giv_bad (e := 5) (by simpa using h2) (by omega) hg (by decide) ?_)
      rw [givF, if_pos]
      simp_all
      done)
   | (refine congrArg _ (giv_bad (e := 8) (by simpa using h2) (by omega) hg (by decide) ?_)
      rw [givF, if_neg, if_pos]
      all_goals simp_all
      done)
   | (refine congrArg _ (giv_bad (e := 16) (by simpa using h2) (by omega) hg (by decide) ?_)
      rw [givF, if_neg, if_neg, if_pos]
      all_goals simp_all
      done)
   | (refine congrArg _ (giv_ord (by simpa using h2) (by omega) hg ?_ ?_ ?_)
      ·rw [givF, if_neg, if_neg, if_neg] <;> simp_all
      ·simp_all
      ·simp_all)
  ·try simp at h4
   refine hw_skip ?_
   refine blockQ_n ?_
   refine seqQ_n ?_
   refine hw_seq ?_
   refine hw_reg ?_
   refine dp rfl (pop_move rfl) ?_
   refine dp rfl (pop_lenm ty45 rfl) ?_
   refine dp rfl (pop_move rfl) ?_
   refine dn ?_
   refine hw_block ?_
   refine hw_loopw [4, 5, 6, 17, 18, 19, 20, 21, 22, 23, 24, 25, 26, 27, 28, 29, 30, 31, 32, 33, 34, 35, 36, 37, 38, 39, 40, 41, 42, 43, 44, 45, 46, 47, 48, 49, 50, 51, 52, 53, 54, 55, 56, 57, 58, 59, 60] (fun (k : Nat) => [(17, .int .i64 k)]) (fun (k : Nat) => []) (fun (k : Nat) => k ≤ l.length ∧ (chkGo (givF m) byGiv give0 l 0 l = chkGo (givF m) byGiv give0 l k (l.drop k))) (fun (k : Nat) => l.length - k) (0) ?_ ?_ ?_ ?_
   ·exact ⟨Nat.zero_le _, rfl⟩
   ·exact ⟨rfl, trivial⟩
   ·exact List.Perm.refl _
   ·intro k hinv
    obtain ⟨hk, hg⟩ := hinv
    refine hw_reg ?_
    refine dp rfl (pop_lss rfl rfl) ?_
    refine dn ?_
    refine hw_seq ?_
    refine hw_cond rfl (fun h5 => ?_) (fun h6 => ?_)
    ·try simp at h5
     obtain ⟨x, hx⟩ : ∃ x, l[k]? = some x := ⟨_, List.getElem?_eq_getElem h5⟩
     have hdx := drop_cons hx
     rw [hdx] at hg
     refine hw_skip ?_
     refine seqQ_n ?_
     refine hw_seq ?_
     refine hw_block ?_
     refine hw_reg ?_
     refine dp rfl (pop_move rfl) ?_
     refine dp rfl (pop_idx ty45 ty69 rfl rfl rfl (by first | assumption | simp_all)) ?_
     refine dp rfl (pop_loadw ty69 rfl rfl rfl rfl) ?_
     refine de rfl (eop_alloc ty69 rfl fun b6 => ?_)
     refine dp rfl (pop_assign rfl) ?_
     refine de0 (eop_storew ty69 rfl rfl rfl rfl rfl ?_)
     refine dn ?_
     refine hw_ghost (Ghost.fc0 6 rfl) ?_
     refine hw_block ?_
     refine hw_reg ?_
     refine dp rfl (pop_fieldAddr ty69 rfl ty9 (by decide) rfl) ?_
     refine dp rfl (pop_load ty9 rfl rfl rfl) ?_
     refine dp rfl (pop_call ca106 rfl (WeakL.refl _) c_base_Key) ?_
     refine dp rfl (pop_not rfl) ?_
     refine dp rfl (pop_assign rfl) ?_
     refine dn ?_
     refine hw_cond rfl (fun h7 => ?_) (fun h8 => ?_)
     ·try simp at h7
      refine hw_reg ?_
      refine dp rfl (pop_assign rfl) ?_
      refine dn ?_
      refine hw_ret ?_
      refine ret_p rfl ?_
      show HVal.int .i64 _ = _
      first
      | (rw [givesE, if_pos (by simpa using h1)]; done)
      | (rw [givesE, if_neg (by simpa using h2), if_pos (by omega)]; done)
      | (exact congrArg _ (giv_end (by simpa using h2) (by omega) hg))
      | (refine congrArg _ (giv_bad (e := 5) (by simpa using h2) (by omega) hg (by decide) ?_)
         rw [givF, if_pos]
         simp_all
         done)
      | (refine congrArg _ (giv_bad (e := 8) (by simpa using h2) (by omega) hg (by decide) ?_)
         rw [givF, if_neg, if_pos]
         all_goals simp_all
         done)
      | (refine congrArg _ (giv_bad (e := 16) (by simpa using h2) (by omega) hg (by decide) ?_)
         rw [givF, if_neg, if_neg, if_pos]
         all_goals simp_all
         done)
      | (refine congrArg _ (giv_ord (by simpa using h2) (by omega) hg ?_ ?_ ?_)
         ·rw [givF, if_neg, if_neg, if_neg] <;> simp_all
         ·simp_all
         ·simp_all)
     ·try simp at h8
      refine hw_reg ?_
      refine dp rfl (pop_move rfl) ?_
      refine dp rfl (pop_fieldAddr ty69 rfl ty9 (by decide) rfl) ?_
      refine dp rfl (pop_load ty9 rfl rfl rfl) ?_
      refine dp rfl (pop_call ca107 rfl (WeakL.refl _) (c_trade_isTeam hm)) ?_
      refine dp rfl (pop_not rfl) ?_
      refine dp rfl (pop_move rfl) ?_
      refine dg rfl rfl (fun hc => ⟨_, OpenTo.refl _, pop_move rfl⟩) ?_
      refine dg rfl rfl (fun hc => ⟨_, OpenTo.refl _, pop_fieldAddr ty69 rfl ty9 (by decide) rfl⟩) ?_
      refine dg rfl rfl (fun hc => ⟨_, OpenTo.upd (t := 35) rfl (by first | exact hc | simp_all) (OpenTo.refl _), pop_load ty9 rfl rfl rfl⟩) ?_
      refine dg rfl rfl (fun hc => ⟨_, OpenTo.upd (t := 36) rfl (by first | exact hc | simp_all) (OpenTo.upd (t := 34) rfl (by first | exact hc | simp_all) (OpenTo.refl _)), pop_call ca107 rfl (WeakL.refl _) (c_trade_isTeam hm)⟩) ?_
      refine dg rfl rfl (fun hc => ⟨_, OpenTo.upd (t := 37) rfl (by first | exact hc | simp_all) (OpenTo.refl _), pop_not rfl⟩) ?_
      refine dp rfl (pop_picko rfl (.inl rfl) (.inr ⟨_, rfl, fun h => by simp_all⟩)) ?_
      refine dp rfl (pop_assign rfl) ?_
      refine dn ?_
      refine hw_cond rfl (fun h9 => ?_) (fun h10 => ?_)
      ·try simp at h9
       refine hw_reg ?_
       refine dp rfl (pop_assign rfl) ?_
       refine dn ?_
       refine hw_ret ?_
       refine ret_p rfl ?_
       show HVal.int .i64 _ = _
       first
       | (rw [givesE, if_pos (by simpa using h1)]; done)
       | (rw [givesE, if_neg (by simpa using h2), if_pos (by omega)]; done)
       | (exact congrArg _ (giv_end (by simpa using h2) (by omega) hg))
       | (refine congrArg _ (giv_bad (e := 5) (by simpa using h2) (by omega) hg (by decide) ?_)
          rw [givF, if_pos]
          simp_all
          done)
       | (refine congrArg _ (giv_bad (e := 8) (by simpa using h2) (by omega) hg (by decide) ?_)
          rw [givF, if_neg, if_pos]
          all_goals simp_all
          done)
       | (refine congrArg _ (giv_bad (e := 16) (by simpa using h2) (by omega) hg (by decide) ?_)
          rw [givF, if_neg, if_neg, if_pos]
          all_goals simp_all
          done)
       | (refine congrArg _ (giv_ord (by simpa using h2) (by omega) hg ?_ ?_ ?_)
          ·rw [givF, if_neg, if_neg, if_neg] <;> simp_all
          ·simp_all
          ·simp_all)
      ·try simp at h10
       refine hw_reg ?_
       refine dp rfl (pop_fieldAddr ty69 rfl ty9 (by decide) rfl) ?_
       refine dp rfl (pop_load ty9 rfl rfl rfl) ?_
       refine dp rfl (pop_fieldAddr ty69 rfl ty9 (by decide) rfl) ?_
       refine dp rfl (pop_load ty9 rfl rfl rfl) ?_
       refine dp rfl (pop_eqls rfl rfl) ?_
       refine dp rfl (pop_assign rfl) ?_
       refine dn ?_
       refine hw_cond rfl (fun h11 => ?_) (fun h12 => ?_)
       ·try simp at h11
        refine hw_reg ?_
        refine dp rfl (pop_assign rfl) ?_
        refine dn ?_
        refine hw_ret ?_
        refine ret_p rfl ?_
        show HVal.int .i64 _ = _
        first
        | (rw [givesE, if_pos (by simpa using h1)]; done)
        | (rw [givesE, if_neg (by simpa using h2), if_pos (by omega)]; done)
        | (exact congrArg _ (giv_end (by simpa using h2) (by omega) hg))
        | (refine congrArg _ (giv_bad (e := 5) (by simpa using h2) (by omega) hg (by decide) ?_)
           rw [givF, if_pos]
           simp_all
           done)
        | (refine congrArg _ (giv_bad (e := 8) (by simpa using h2) (by omega) hg (by decide) ?_)
           rw [givF, if_neg, if_pos]
           all_goals simp_all
           done)
        | (refine congrArg _ (giv_bad (e := 16) (by simpa using h2) (by omega) hg (by decide) ?_)
           rw [givF, if_neg, if_neg, if_pos]
           all_goals simp_all
           done)
        | (refine congrArg _ (giv_ord (by simpa using h2) (by omega) hg ?_ ?_ ?_)
           ·rw [givF, if_neg, if_neg, if_neg] <;> simp_all
           ·simp_all
           ·simp_all)
       ·try simp at h12
        refine hw_draw (fun _ => True) [] mixed ?_
        refine ahp 0 rfl rfl (by kernel_rfl) (by kernel_rfl) (pop_move rfl) ?_
        refine ahp 1 rfl rfl (by kernel_rfl) (by kernel_rfl) (pop_gtr rfl rfl) ?_
        refine ahp 2 rfl rfl (by kernel_rfl) (by kernel_rfl) (pop_move rfl) ?_
        refine ahg 3 rfl rfl (by kernel_rfl) (by kernel_rfl) rfl (fun hc => ⟨_, OpenTo.refl _, pop_fieldAddr ty69 rfl ty9 (by decide) rfl⟩) ?_
        refine ahg 4 rfl rfl (by kernel_rfl) (by kernel_rfl) rfl (fun hc => ⟨_, OpenTo.upd (t := 50) rfl (by first | exact hc | simp_all) (OpenTo.refl _), pop_load ty9 rfl rfl rfl⟩) ?_
        refine ahg 5 rfl rfl (by kernel_rfl) (by kernel_rfl) rfl (fun hc => ⟨_, OpenTo.refl _, pop_move rfl⟩) ?_
        refine ahg 6 rfl rfl (by kernel_rfl) (by kernel_rfl) rfl (fun hc => ⟨_, OpenTo.refl _, pop_move rfl⟩) ?_
        refine ahg 7 rfl rfl (by kernel_rfl) (by kernel_rfl) rfl (fun hc => by have hq := hc; (try simp at hq); exact ⟨_, OpenTo.upd (t := 53) rfl (by first | exact hc | simp_all) (OpenTo.refl _), pop_sub64 rfl rfl (by omega) (by omega)⟩) ?_
        refine ahg 8 rfl rfl (by kernel_rfl) (by kernel_rfl) rfl (fun hc => by have hq := hc; (try simp at hq); exact ⟨_, OpenTo.upd (t := 54) rfl (by first | exact hc | simp_all) (OpenTo.upd (t := 52) rfl (by first | exact hc | simp_all) (OpenTo.refl _)), pop_idx (j := k - 1) (a := l.getD (k - 1) give0) ty45 ty69 rfl rfl (by omega) (getD_some (by omega))⟩) ?_
        refine ahg 9 rfl rfl (by kernel_rfl) (by kernel_rfl) rfl (fun hc => ⟨_, OpenTo.upd (t := 55) rfl (by first | exact hc | simp_all) (OpenTo.refl _), pop_fieldAddr ty69 rfl ty9 (by decide) rfl⟩) ?_
        refine ahg 10 rfl rfl (by kernel_rfl) (by kernel_rfl) rfl (fun hc => ⟨_, OpenTo.upd (t := 56) rfl (by first | exact hc | simp_all) (OpenTo.refl _), pop_load ty9 rfl rfl rfl⟩) ?_
        refine ahg 11 rfl rfl (by kernel_rfl) (by kernel_rfl) rfl (fun hc => ⟨_, OpenTo.upd (t := 57) rfl (by first | exact hc | simp_all) (OpenTo.upd (t := 51) rfl (by first | exact hc | simp_all) (OpenTo.refl _)), pop_leqs rfl rfl⟩) ?_
        refine ahp 12 rfl rfl (by kernel_rfl) (by kernel_rfl) (pop_picko rfl (.inr ⟨_, rfl, fun h => by simp_all⟩) (.inl rfl)) ?_
        refine ahp 13 rfl rfl (by kernel_rfl) (by kernel_rfl) (pop_assign rfl) ?_
        refine ahz (by kernel_rfl) ?_
        refine hw_cond rfl (fun h13 => ?_) (fun h14 => ?_)
        ·try simp at h13
         refine hw_reg ?_
         refine dp rfl (pop_assign rfl) ?_
         refine dn ?_
         refine hw_ret ?_
         refine ret_p rfl ?_
         show HVal.int .i64 _ = _
         first
         | (rw [givesE, if_pos (by simpa using h1)]; done)
         | (rw [givesE, if_neg (by simpa using h2), if_pos (by omega)]; done)
         | (exact congrArg _ (giv_end (by simpa using h2) (by omega) hg))
         | (refine congrArg _ (giv_bad (e := 5) (by simpa using h2) (by omega) hg (by decide) ?_)
            rw [givF, if_pos]
            simp_all
            done)
         | (refine congrArg _ (giv_bad (e := 8) (by simpa using h2) (by omega) hg (by decide) ?_)
            rw [givF, if_neg, if_pos]
            all_goals simp_all
            done)
         | (refine congrArg _ (giv_bad (e := 16) (by simpa using h2) (by omega) hg (by decide) ?_)
            rw [givF, if_neg, if_neg, if_pos]
            all_goals simp_all
            done)
         | (refine congrArg _ (giv_ord (by simpa using h2) (by omega) hg ?_ ?_ ?_)
            ·rw [givF, if_neg, if_neg, if_neg] <;> simp_all
            ·simp_all
            ·simp_all)
        ·try simp at h14
         refine hw_skip ?_
         refine blockQ_n ?_
         refine blockQ_n ?_
         refine seqQ_n ?_
         refine hw_reg1 ?_
         refine dp rfl (pop_add64 rfl rfl (by omega) (by omega)) ?_
         refine dp rfl (pop_move rfl) ?_
         refine dn ?_
         refine ⟨k + 1, ?_, ?_, ⟨rfl, trivial⟩, (by repeat (first | exact keeps_refl | refine keeps_upd rfl ?_ | refine keeps_loop rfl rfl ?_)), List.Perm.refl _⟩
         ·refine ⟨by omega, ?_⟩
          rw [hg, giv_next (by rw [givF, if_neg (by simp_all), if_neg (by simp_all), if_neg (by simp_all)]) (by intro hk0; simp_all)]
         ·dsimp only; omega
    ·try simp at h6
     have hnk : l.length ≤ k := by omega
     obtain rfl : k = l.length := by omega
     rw [drop_all (Nat.le_refl _)] at hg
     refine hw_exit ?_
     refine seqQ_x ?_
     refine loopQ_x ?_
     refine blockQ_eq ?_
     refine seqQ_n ?_
     refine hw_reg ?_
     refine dp rfl (pop_assign rfl) ?_
     refine dn ?_
     refine hw_ret ?_
     refine ret_p rfl ?_
     show HVal.int .i64 _ = _
     first
     | (rw [givesE, if_pos (by simpa using h1)]; done)
     | (rw [givesE, if_neg (by simpa using h2), if_pos (by omega)]; done)
     | (exact congrArg _ (giv_end (by simpa using h2) (by omega) hg))
     | (refine congrArg _ (giv_bad (e := 5) (by simpa using h2) (by omega) hg (by decide) ?_)
        rw [givF, if_pos]
        simp_all
        done)
     | (refine congrArg _ (giv_bad (e := 8) (by simpa using h2) (by omega) hg (by decide) ?_)
        rw [givF, if_neg, if_pos]
        all_goals simp_all
        done)
     | (refine congrArg _ (giv_bad (e := 16) (by simpa using h2) (by omega) hg (by decide) ?_)
        rw [givF, if_neg, if_neg, if_pos]
        all_goals simp_all
        done)
     | (refine congrArg _ (giv_ord (by simpa using h2) (by omega) hg ?_ ?_ ?_)
        ·rw [givF, if_neg, if_neg, if_neg] <;> simp_all
        ·simp_all
        ·simp_all)

/-- benchwarmer/trade.concerned -/
theorem c_trade_concerned [Tracks] {x : DealS} (hx : x.Gives.length ≤ 1000) : ConP Tryz.prog 153 [eDeal x] (eSs (concL x.Gives)) := by
 refine Con.of_body Tryz.func153 rfl Tryz.ntmps153 rfl rfl ?_
 refine hw_reg ?_
 refine dp rfl (pop_box rfl rfl) ?_
 refine dp rfl (pop_assign rfl) ?_
 refine dn ?_
 refine hw_reg ?_
 refine dp rfl (pop_assign rfl) ?_
 refine dn ?_
 refine hw_ghost (Ghost.arr_nil 1) ?_
 refine hw_seq ?_
 refine hw_reg ?_
 refine dp rfl ((by first | exact pop_fieldAddr ty47 rfl ty45 (by decide) rfl | exact pop_fieldAddr_raw ty47 rfl ty45 (by decide) rfl)) ?_
 refine dp rfl (pop_load ty45 rfl rfl rfl) ?_
 refine dp rfl (pop_lenm ty45 rfl) ?_
 refine dp rfl (pop_move rfl) ?_
 refine dn ?_
 refine hw_block ?_
 refine hw_loopw2 [3, 5, 9, 10, 11, 12, 13, 14, 15, 16, 17, 18, 19, 20] (fun (k : Nat) (u : Value) => [(9, .int .i64 k), (3, .raw u)]) (fun (k : Nat) (u : Value) => [.arr u 1 ((teamsG (x.Gives.take k)).map .str)]) (fun (k : Nat) (u : Value) => k ≤ x.Gives.length ∧ (True)) (fun (k : Nat) (u : Value) => x.Gives.length - k) (0) (.slice none 0 0) ?_ ?_ ?_ ?_
 ·exact ⟨Nat.zero_le _, trivial⟩
 ·exact ⟨rfl, rfl, trivial⟩
 ·exact perm_eq (by simp [teamsG])
 ·intro k u hinv
  obtain ⟨hk, -⟩ := hinv
  refine hw_reg ?_
  refine dp rfl (pop_lss rfl rfl) ?_
  refine dn ?_
  refine hw_seq ?_
  refine hw_cond rfl (fun h1 => ?_) (fun h2 => ?_)
  ·try simp at h1
   obtain ⟨g, hg⟩ : ∃ g, x.Gives[k]? = some g := ⟨_, List.getElem?_eq_getElem h1⟩
   have hdg := drop_cons hg
   refine hw_skip ?_
   refine seqQ_n ?_
   refine hw_seq ?_
   refine hw_block ?_
   refine hw_reg ?_
   refine dp rfl (pop_idx ty45 ty69 rfl rfl rfl (by first | assumption | simp_all)) ?_
   refine dp rfl (pop_loadw ty69 rfl rfl rfl rfl) ?_
   refine de rfl (eop_alloc ty69 rfl fun b5 => ?_)
   refine de0 (eop_storew ty69 rfl rfl rfl rfl rfl ?_)
   refine dn ?_
   refine hw_ghost (Ghost.fc0 5 rfl) ?_
   refine hw_reg1 ?_
   refine dp rfl (pop_move rfl) ?_
   refine dp rfl ((by first | exact pop_fieldAddr ty69 rfl ty9 (by decide) rfl | exact pop_fieldAddr_raw ty69 rfl ty9 (by decide) rfl)) ?_
   refine dp rfl (pop_load ty9 rfl rfl rfl) ?_
   refine dp rfl ((by first | exact pop_fieldAddr ty69 rfl ty9 (by decide) rfl | exact pop_fieldAddr_raw ty69 rfl ty9 (by decide) rfl)) ?_
   refine dp rfl (pop_load ty9 rfl rfl rfl) ?_
   refine dp rfl (pop_buildSlice (hs := [_, _]) ty26 ty9 rfl rfl (by decide) (by decide) rfl) ?_
   refine de rfl (eop_append (i := 0) ty26 ty9 rfl rfl rfl rfl rfl (by simp [flat, hcells]) (by have := teamsG_len (x.Gives.take k); simp only [List.length_map, List.length_cons, List.length_nil, List.length_take] at *; omega) fun v19 => ?_)
   refine dp rfl (pop_assign rfl) ?_
   refine dn ?_
   refine blockQ_n ?_
   refine seqQ_n ?_
   refine hw_reg1 ?_
   refine dp rfl (pop_add64 rfl rfl (by omega) (by omega)) ?_
   refine dp rfl (pop_move rfl) ?_
   refine dn ?_
   exact ⟨k + 1, v19, ⟨by omega, trivial⟩, by dsimp only; omega, ⟨rfl, rfl, trivial⟩, (by repeat (first | exact keeps_refl | refine keeps_upd rfl ?_ | refine keeps_loop rfl rfl ?_)), perm_eq (by dsimp only; rw [teamsG_take hg]; simp)⟩
  ·try simp at h2
   have hnk : x.Gives.length ≤ k := by omega
   obtain rfl : k = x.Gives.length := by omega
   rw [List.take_length]
   refine hw_exit ?_
   refine seqQ_x ?_
   refine loopQ2_x ?_
   refine blockQ_eq ?_
   refine seqQ_n ?_
   refine hw_reg ?_
   refine dp rfl (pop_move rfl) ?_
   refine de rfl (eop_callf (M1 := [_]) (R := []) ca150 rfl (WeakL.refl _) (List.Perm.refl _) (c_slices_Sort (l := teamsG x.Gives) (by rw [teamsG_len]; omega)) ?_)
   rintro _ _ ⟨rfl, rfl⟩
   refine dn ?_
   refine hw_reg ?_
   refine dp rfl (pop_move rfl) ?_
   refine de rfl (eop_callf (M1 := [_]) (R := []) ca151 rfl (WeakL.refl _) (List.Perm.refl _) (c_slices_Compact (l := sortS (teamsG x.Gives)) (by rw [sortS_len, teamsG_len]; omega)) ?_)
   rintro _ _ ⟨u24, rfl, rfl⟩
   refine dp rfl (pop_assign rfl) ?_
   refine dn ?_
   refine hw_ret ?_
   exact ret_fa (M := []) 2 rfl rfl rfl

/-- benchwarmer/trade.offerFault -/
theorem c_trade_offerFault [Tracks] {m : MarketS} {x : DealS} (hm : MarketOk m) (hx : x.Gives.length ≤ 1000000) : ConP Tryz.prog 94 [.vptr (hcells (eMarket m)) 0, eDeal x] (.int .i64 (dealF m x)) := by
 refine Con.of_body Tryz.func94 rfl Tryz.ntmps94 rfl rfl ?_
 refine hw_reg ?_
 refine dp rfl (pop_box rfl rfl) ?_
 refine dp rfl (pop_assign rfl) ?_
 refine dn ?_
 refine hw_seq ?_
 refine hw_block ?_
 refine hw_reg ?_
 refine dp rfl (pop_fieldAddr ty47 rfl ty9 (by decide) rfl) ?_
 refine dp rfl (pop_load ty9 rfl rfl rfl) ?_
 refine dp rfl (pop_call ca106 rfl (WeakL.refl _) c_base_Key) ?_
 refine dp rfl (pop_not rfl) ?_
 refine dp rfl (pop_assign rfl) ?_
 refine dn ?_
 refine hw_cond rfl (fun h1 => ?_) (fun h2 => ?_)
 ·try simp at h1
  refine hw_reg ?_
  refine dp rfl (pop_assign rfl) ?_
  refine dn ?_
  refine hw_ret ?_
  refine ret_p rfl ?_
  show HVal.int .i64 _ = _
  simp_all [dealF]
 ·try simp at h2
  refine hw_reg ?_
  refine dp rfl (pop_move rfl) ?_
  refine dp rfl (pop_fieldAddr ty47 rfl ty9 (by decide) rfl) ?_
  refine dp rfl (pop_load ty9 rfl rfl rfl) ?_
  refine dp rfl (pop_call ca107 rfl (WeakL.refl _) (c_trade_isTeam hm)) ?_
  refine dp rfl (pop_not rfl) ?_
  refine dp rfl (pop_assign rfl) ?_
  refine dn ?_
  refine hw_cond rfl (fun h3 => ?_) (fun h4 => ?_)
  ·try simp at h3
   refine hw_reg ?_
   refine dp rfl (pop_assign rfl) ?_
   refine dn ?_
   refine hw_ret ?_
   refine ret_p rfl ?_
   show HVal.int .i64 _ = _
   simp_all [dealF]
  ·try simp at h4
   refine hw_reg ?_
   refine dp rfl (pop_fieldAddr ty47 rfl ty44 (by decide) rfl) ?_
   refine dp rfl (pop_fieldAddr ty44 rfl ty3 (by decide) rfl) ?_
   refine dp rfl (pop_load ty3 rfl rfl rfl) ?_
   refine dp rfl (pop_call ca97 rfl (WeakL.refl _) c_base_Out) ?_
   refine dp rfl (pop_move rfl) ?_
   refine dg rfl rfl (fun hc => ⟨_, OpenTo.refl _, pop_fieldAddr ty47 rfl ty44 (by decide) rfl⟩) ?_
   refine dg rfl rfl (fun hc => ⟨_, OpenTo.upd (t := 23) rfl (by first | exact hc | simp_all) (OpenTo.refl _), pop_fieldAddr ty44 rfl ty3 (by decide) rfl⟩) ?_
   refine dg rfl rfl (fun hc => ⟨_, OpenTo.upd (t := 24) rfl (by first | exact hc | simp_all) (OpenTo.refl _), pop_load ty3 rfl rfl rfl⟩) ?_
   refine dg rfl rfl (fun hc => ⟨_, OpenTo.refl _, pop_fieldAddr ty47 rfl ty44 (by decide) rfl⟩) ?_
   refine dg rfl rfl (fun hc => ⟨_, OpenTo.upd (t := 26) rfl (by first | exact hc | simp_all) (OpenTo.refl _), pop_fieldAddr ty44 rfl ty3 (by decide) rfl⟩) ?_
   refine dg rfl rfl (fun hc => ⟨_, OpenTo.upd (t := 27) rfl (by first | exact hc | simp_all) (OpenTo.refl _), pop_load ty3 rfl rfl rfl⟩) ?_
   refine dg rfl rfl (fun hc => by
    have hxo := out_f (n := x.To) (lo := 1) (hi := 345686400000) (by simpa using hc)
    exact ⟨_, OpenTo.upd (t := 28) rfl (by first | exact hc | simp_all) (OpenTo.refl _), pop_sub64 rfl rfl (by omega) (by omega)⟩) ?_
   refine dg rfl rfl (fun hc => ⟨_, OpenTo.upd (t := 29) rfl (by first | exact hc | simp_all) (OpenTo.upd (t := 25) rfl (by first | exact hc | simp_all) (OpenTo.refl _)), pop_call ca97 rfl (WeakL.refl _) c_base_Out⟩) ?_
   refine dp rfl (pop_picko rfl (.inl rfl) (.inr ⟨_, rfl, fun h => by simp_all⟩)) ?_
   refine dp rfl (pop_assign rfl) ?_
   refine dn ?_
   refine hw_cond rfl (fun h5 => ?_) (fun h6 => ?_)
   ·try simp at h5
    refine hw_reg ?_
    refine dp rfl (pop_assign rfl) ?_
    refine dn ?_
    refine hw_ret ?_
    refine ret_p rfl ?_
    show HVal.int .i64 _ = _
    simp_all [dealF]
   ·try simp at h6
    refine hw_skip ?_
    refine blockQ_n ?_
    refine seqQ_n ?_
    refine hw_seq ?_
    refine hw_reg ?_
    refine dp rfl (pop_move rfl) ?_
    refine dp rfl (pop_fieldAddr ty47 rfl ty45 (by decide) rfl) ?_
    refine dp rfl (pop_load ty45 rfl rfl rfl) ?_
    refine dp rfl (pop_call ca152 rfl (WeakL.refl _) (c_trade_givesFault (by first | assumption | omega | (simp; omega) | simp_all) (by first | assumption | omega | (simp; omega) | simp_all))) ?_
    refine dp rfl (pop_assign rfl) ?_
    refine dn ?_
    refine hw_reg ?_
    refine dp rfl (pop_move rfl) ?_
    refine dp rfl (pop_neq rfl rfl) ?_
    refine dn ?_
    refine hw_cond rfl (fun h7 => ?_) (fun h8 => ?_)
    ·try simp at h7
     refine hw_reg ?_
     refine dp rfl (pop_move rfl) ?_
     refine dp rfl (pop_assign rfl) ?_
     refine dn ?_
     refine hw_ret ?_
     refine ret_p rfl ?_
     show HVal.int .i64 _ = _
     simp_all [dealF]
    ·try simp at h8
     refine hw_skip ?_
     refine seqQ_n ?_
     refine hw_seq ?_
     obtain ⟨hgo1, hgo2, _⟩ := givesE_ok (m := m) (l := x.Gives) (by simp_all)
     refine hw_draw (fun _ => True) [] mixed ?_
     refine ahp 0 rfl rfl (by kernel_rfl) (by kernel_rfl) (pop_loadw ty47 rfl rfl rfl rfl) ?_
     refine ahp 1 rfl rfl (by kernel_rfl) (by kernel_rfl) (pop_call ca153 rfl (WeakL.refl _) (c_trade_concerned (by first | assumption | omega | (simp; omega) | simp_all))) ?_
     refine ahp 2 rfl rfl (by kernel_rfl) (by kernel_rfl) (pop_fieldAddr ty47 rfl ty9 (by decide) rfl) ?_
     refine ahp 3 rfl rfl (by kernel_rfl) (by kernel_rfl) (pop_load ty9 rfl rfl rfl) ?_
     refine ahp 4 rfl rfl (by kernel_rfl) (by kernel_rfl) (pop_call ca45 rfl (WeakL.refl _) (c_slices_Contains_string_string (l := concL x.Gives) (s := x.By) (by have := concL_len x.Gives; omega))) ?_
     refine ahp 5 rfl rfl (by kernel_rfl) (by kernel_rfl) (pop_not rfl) ?_
     refine ahz (by kernel_rfl) ?_
     refine hw_cond rfl (fun h9 => ?_) (fun h10 => ?_)
     ·try simp at h9
      refine hw_reg ?_
      refine dp rfl (pop_assign rfl) ?_
      refine dn ?_
      refine hw_ret ?_
      refine ret_p rfl ?_
      show HVal.int .i64 _ = _
      simp_all [dealF]
     ·try simp at h10
      refine hw_skip ?_
      refine seqQ_n ?_
      refine hw_reg ?_
      refine dp rfl (pop_assign rfl) ?_
      refine dn ?_
      refine hw_ret ?_
      refine ret_p rfl ?_
      show HVal.int .i64 _ = _
      simp_all [dealF]

/-- benchwarmer/trade.CheckOffers -/
theorem c_trade_CheckOffers [Tracks] {m : MarketS} {l : List DealS} (ht : m.Teams.length ≤ 1000000) (hl : l.length ≤ 1000000) (hx : ∀ x ∈ l, x.Gives.length ≤ 1000000) : ConP Tryz.prog 47 [eMarket m, eDeals l] (.int .i64 (dealsE m l)) := by
 refine Con.of_body Tryz.func47 rfl Tryz.ntmps47 rfl rfl ?_
 refine hw_reg ?_
 refine dp rfl (pop_box rfl rfl) ?_
 refine dp rfl (pop_assign rfl) ?_
 refine dn ?_
 refine hw_seq ?_
 refine hw_reg ?_
 refine dp rfl (pop_loadw ty28 rfl rfl rfl rfl) ?_
 refine dp rfl (pop_call ca51 rfl (WeakL.refl _) (c_trade_CheckMarket (by first | assumption | omega | (simp; omega) | simp_all))) ?_
 refine dp rfl (pop_assign rfl) ?_
 refine dn ?_
 refine hw_reg ?_
 refine dp rfl (pop_move rfl) ?_
 refine dp rfl (pop_neq rfl rfl) ?_
 refine dn ?_
 refine hw_cond rfl (fun h1 => ?_) (fun h2 => ?_)
 ·try simp at h1
  refine hw_reg ?_
  refine dp rfl (pop_move rfl) ?_
  refine dp rfl (pop_assign rfl) ?_
  refine dn ?_
  refine hw_ret ?_
  refine ret_p rfl ?_
  show HVal.int .i64 _ = _
  first
  | (rw [dealsE, if_pos (by simpa using h1)]; done)
  | (rw [hE]; exact congrArg _ (deal_big (by omega)))
  | (rw [hE]; exact congrArg _ (deal_end (by omega) hg))
  | (rw [hE]
     refine congrArg _ (deal_bad (by omega) hg ?_ rfl)
     simp_all
     done)
  | (rw [hE]
     refine congrArg _ (deal_ord (by omega) hg ?_ ?_ ?_)
     ·simp_all
     ·simp_all
     ·simp_all)
 ·try simp at h2
  refine hw_skip ?_
  refine seqQ_n ?_
  refine hw_seq ?_
  have hz : marketE m = 0 := by simpa using h2
  have hm := marketE_ok hz
  have ht20 := hm.len
  have hE : dealsE m l = dealsR m l := by rw [dealsE, if_neg (by simp [hz])]
  refine hw_reg ?_
  refine dp rfl (pop_move rfl) ?_
  refine dp rfl (pop_lenm ty30 rfl) ?_
  refine dp rfl (pop_gtr rfl rfl) ?_
  refine dn ?_
  refine hw_cond rfl (fun h3 => ?_) (fun h4 => ?_)
  ·try simp at h3
   refine hw_reg ?_
   refine dp rfl (pop_assign rfl) ?_
   refine dn ?_
   refine hw_ret ?_
   refine ret_p rfl ?_
   show HVal.int .i64 _ = _
   first
   | (rw [dealsE, if_pos (by simpa using h1)]; done)
   | (rw [hE]; exact congrArg _ (deal_big (by omega)))
   | (rw [hE]; exact congrArg _ (deal_end (by omega) hg))
   | (rw [hE]
      refine congrArg _ (deal_bad (by omega) hg ?_ rfl)
      simp_all
      done)
   | (rw [hE]
      refine congrArg _ (deal_ord (by omega) hg ?_ ?_ ?_)
      ·simp_all
      ·simp_all
      ·simp_all)
  ·try simp at h4
   refine hw_skip ?_
   refine seqQ_n ?_
   refine hw_seq ?_
   refine hw_reg ?_
   refine dp rfl (pop_move rfl) ?_
   refine dp rfl (pop_lenm ty30 rfl) ?_
   refine dp rfl (pop_move rfl) ?_
   refine dn ?_
   refine hw_block ?_
   refine hw_loopw [4, 6, 7, 8, 19, 20, 21, 22, 23, 24, 25, 26, 27, 28, 29, 30, 31, 32, 33, 34, 35, 36, 37, 38, 39, 40, 41, 42] (fun (k : Nat) => [(19, .int .i64 k)]) (fun (k : Nat) => []) (fun (k : Nat) => k ≤ l.length ∧ (chkGo (dealF m) byDeal deal0 l 0 l = chkGo (dealF m) byDeal deal0 l k (l.drop k))) (fun (k : Nat) => l.length - k) (0) ?_ ?_ ?_ ?_
   ·exact ⟨Nat.zero_le _, rfl⟩
   ·exact ⟨rfl, trivial⟩
   ·exact List.Perm.refl _
   ·intro k hinv
    obtain ⟨hk, hg⟩ := hinv
    refine hw_reg ?_
    refine dp rfl (pop_lss rfl rfl) ?_
    refine dn ?_
    refine hw_seq ?_
    refine hw_cond rfl (fun h5 => ?_) (fun h6 => ?_)
    ·try simp at h5
     obtain ⟨y, hy⟩ : ∃ y, l[k]? = some y := ⟨_, List.getElem?_eq_getElem h5⟩
     have hdy := drop_cons hy
     rw [hdy] at hg
     refine hw_skip ?_
     refine seqQ_n ?_
     refine hw_seq ?_
     refine hw_block ?_
     refine hw_reg ?_
     refine dp rfl (pop_move rfl) ?_
     refine dp rfl (pop_idx ty30 ty47 rfl rfl rfl (by first | assumption | simp_all)) ?_
     refine dp rfl (pop_loadw ty47 rfl rfl rfl rfl) ?_
     refine de rfl (eop_alloc ty47 rfl fun b7 => ?_)
     refine dp rfl (pop_assign rfl) ?_
     refine de0 (eop_storew ty47 rfl rfl rfl rfl rfl ?_)
     refine dn ?_
     refine hw_ghost (Ghost.fc0 7 rfl) ?_
     refine hw_seq ?_
     refine hw_reg ?_
     refine dp rfl (pop_loadw ty47 rfl rfl rfl rfl) ?_
     refine dp rfl (pop_call ca94 rfl (WeakL.refl _) (c_trade_offerFault (x := y) hm (hx y (List.mem_of_getElem? hy)))) ?_
     refine dp rfl (pop_assign rfl) ?_
     refine dn ?_
     refine hw_reg ?_
     refine dp rfl (pop_move rfl) ?_
     refine dp rfl (pop_neq rfl rfl) ?_
     refine dn ?_
     refine hw_cond rfl (fun h7 => ?_) (fun h8 => ?_)
     ·try simp at h7
      refine hw_reg ?_
      refine dp rfl (pop_move rfl) ?_
      refine dp rfl (pop_assign rfl) ?_
      refine dn ?_
      refine hw_ret ?_
      refine ret_p rfl ?_
      show HVal.int .i64 _ = _
      first
      | (rw [dealsE, if_pos (by simpa using h1)]; done)
      | (rw [hE]; exact congrArg _ (deal_big (by omega)))
      | (rw [hE]; exact congrArg _ (deal_end (by omega) hg))
      | (rw [hE]
         refine congrArg _ (deal_bad (by omega) hg ?_ rfl)
         simp_all
         done)
      | (rw [hE]
         refine congrArg _ (deal_ord (by omega) hg ?_ ?_ ?_)
         ·simp_all
         ·simp_all
         ·simp_all)
     ·try simp at h8
      refine hw_skip ?_
      refine seqQ_n ?_
      refine hw_draw (fun _ => True) [] mixed ?_
      refine ahp 0 rfl rfl (by kernel_rfl) (by kernel_rfl) (pop_move rfl) ?_
      refine ahp 1 rfl rfl (by kernel_rfl) (by kernel_rfl) (pop_gtr rfl rfl) ?_
      refine ahp 2 rfl rfl (by kernel_rfl) (by kernel_rfl) (pop_move rfl) ?_
      refine ahg 3 rfl rfl (by kernel_rfl) (by kernel_rfl) rfl (fun hc => ⟨_, OpenTo.refl _, pop_fieldAddr ty47 rfl ty9 (by decide) rfl⟩) ?_
      refine ahg 4 rfl rfl (by kernel_rfl) (by kernel_rfl) rfl (fun hc => ⟨_, OpenTo.upd (t := 32) rfl (by first | exact hc | simp_all) (OpenTo.refl _), pop_load ty9 rfl rfl rfl⟩) ?_
      refine ahg 5 rfl rfl (by kernel_rfl) (by kernel_rfl) rfl (fun hc => ⟨_, OpenTo.refl _, pop_move rfl⟩) ?_
      refine ahg 6 rfl rfl (by kernel_rfl) (by kernel_rfl) rfl (fun hc => ⟨_, OpenTo.refl _, pop_move rfl⟩) ?_
      refine ahg 7 rfl rfl (by kernel_rfl) (by kernel_rfl) rfl (fun hc => by have hq := hc; (try simp at hq); exact ⟨_, OpenTo.upd (t := 35) rfl (by first | exact hc | simp_all) (OpenTo.refl _), pop_sub64 rfl rfl (by omega) (by omega)⟩) ?_
      refine ahg 8 rfl rfl (by kernel_rfl) (by kernel_rfl) rfl (fun hc => by have hq := hc; (try simp at hq); exact ⟨_, OpenTo.upd (t := 36) rfl (by first | exact hc | simp_all) (OpenTo.upd (t := 34) rfl (by first | exact hc | simp_all) (OpenTo.refl _)), pop_idx (j := k - 1) (a := l.getD (k - 1) deal0) ty30 ty47 rfl rfl (by omega) (getD_some (by omega))⟩) ?_
      refine ahg 9 rfl rfl (by kernel_rfl) (by kernel_rfl) rfl (fun hc => ⟨_, OpenTo.upd (t := 37) rfl (by first | exact hc | simp_all) (OpenTo.refl _), pop_fieldAddr ty47 rfl ty9 (by decide) rfl⟩) ?_
      refine ahg 10 rfl rfl (by kernel_rfl) (by kernel_rfl) rfl (fun hc => ⟨_, OpenTo.upd (t := 38) rfl (by first | exact hc | simp_all) (OpenTo.refl _), pop_load ty9 rfl rfl rfl⟩) ?_
      refine ahg 11 rfl rfl (by kernel_rfl) (by kernel_rfl) rfl (fun hc => ⟨_, OpenTo.upd (t := 39) rfl (by first | exact hc | simp_all) (OpenTo.upd (t := 33) rfl (by first | exact hc | simp_all) (OpenTo.refl _)), pop_leqs rfl rfl⟩) ?_
      refine ahp 12 rfl rfl (by kernel_rfl) (by kernel_rfl) (pop_picko rfl (.inr ⟨_, rfl, fun h => by simp_all⟩) (.inl rfl)) ?_
      refine ahz (by kernel_rfl) ?_
      refine hw_cond rfl (fun h9 => ?_) (fun h10 => ?_)
      ·try simp at h9
       refine hw_reg ?_
       refine dp rfl (pop_assign rfl) ?_
       refine dn ?_
       refine hw_ret ?_
       refine ret_p rfl ?_
       show HVal.int .i64 _ = _
       first
       | (rw [dealsE, if_pos (by simpa using h1)]; done)
       | (rw [hE]; exact congrArg _ (deal_big (by omega)))
       | (rw [hE]; exact congrArg _ (deal_end (by omega) hg))
       | (rw [hE]
          refine congrArg _ (deal_bad (by omega) hg ?_ rfl)
          simp_all
          done)
       | (rw [hE]
          refine congrArg _ (deal_ord (by omega) hg ?_ ?_ ?_)
          ·simp_all
          ·simp_all
          ·simp_all)
      ·try simp at h10
       refine hw_skip ?_
       refine blockQ_n ?_
       refine seqQ_n ?_
       refine hw_reg1 ?_
       refine dp rfl (pop_add64 rfl rfl (by omega) (by omega)) ?_
       refine dp rfl (pop_move rfl) ?_
       refine dn ?_
       refine ⟨k + 1, ?_, ?_, ⟨rfl, trivial⟩, (by repeat (first | exact keeps_refl | refine keeps_upd rfl ?_ | refine keeps_loop rfl rfl ?_)), List.Perm.refl _⟩
       ·refine ⟨by omega, ?_⟩
        rw [hg, deal_next (by simp_all) (by intro hk0; simp_all)]
       ·dsimp only; omega
    ·try simp at h6
     have hnk : l.length ≤ k := by omega
     obtain rfl : k = l.length := by omega
     rw [drop_all (Nat.le_refl _)] at hg
     refine hw_exit ?_
     refine seqQ_x ?_
     refine loopQ_x ?_
     refine blockQ_eq ?_
     refine seqQ_n ?_
     refine hw_reg ?_
     refine dp rfl (pop_assign rfl) ?_
     refine dn ?_
     refine hw_ret ?_
     refine ret_p rfl ?_
     show HVal.int .i64 _ = _
     first
     | (rw [dealsE, if_pos (by simpa using h1)]; done)
     | (rw [hE]; exact congrArg _ (deal_big (by omega)))
     | (rw [hE]; exact congrArg _ (deal_end (by omega) hg))
     | (rw [hE]
        refine congrArg _ (deal_bad (by omega) hg ?_ rfl)
        simp_all
        done)
     | (rw [hE]
        refine congrArg _ (deal_ord (by omega) hg ?_ ?_ ?_)
        ·simp_all
        ·simp_all
        ·simp_all)
end Go.Proofs.YtdjpppifnmjhoaaGreatDoor
end
section
namespace Go.Proofs.YtdjpppifnmjhoaaGreatDoor
open Go.HL
set_option maxRecDepth 100000
set_option linter.unusedVariables false
set_option linter.unusedSimpArgs false
/-- benchwarmer/benchref1.MarketFault -/
theorem c_benchref1_MarketFault [Tracks] {m : MarketS} (ht : m.Teams.length ≤ 1000000) (hs : ∀ s ∈ m.Teams, s.length ≤ 1000000) : ConP Tryz.prog 8 [eMarket m] (.int .i64 (marketE m)) := by
 refine Con.of_body Tryz.func8 rfl Tryz.ntmps8 rfl rfl ?_
 refine hw_reg ?_
 refine dp rfl (pop_box rfl rfl) ?_
 refine dp rfl (pop_assign rfl) ?_
 refine dn ?_
 refine hw_seq ?_
 refine hw_block ?_
 refine hw_reg ?_
 refine dp rfl (pop_fieldAddr ty28 rfl ty26 (by decide) rfl) ?_
 refine dp rfl (pop_load ty26 rfl rfl rfl) ?_
 refine dp rfl (pop_lenm ty26 rfl) ?_
 refine dp rfl (pop_eql rfl rfl) ?_
 refine dp rfl (pop_assign rfl) ?_
 refine dn ?_
 refine hw_cond rfl (fun h1 => ?_) (fun h2 => ?_)
 ·try simp at h1
  refine hw_reg ?_
  refine dp rfl (pop_assign rfl) ?_
  refine dn ?_
  refine hw_ret ?_
  refine ret_p rfl ?_
  show HVal.int .i64 _ = _
  first
  | (rw [marketE, if_pos (by simpa using h1)]; done)
  | (rw [marketE, if_neg (by simpa using h2), if_pos (by omega)]; done)
  | (rw [marketE, if_neg (by simpa using h2), if_neg (by omega), hg]; simp_all [risingGo, leS]; done)
 ·try simp at h2
  refine hw_reg ?_
  refine dp rfl (pop_fieldAddr ty28 rfl ty26 (by decide) rfl) ?_
  refine dp rfl (pop_load ty26 rfl rfl rfl) ?_
  refine dp rfl (pop_lenm ty26 rfl) ?_
  refine dp rfl (pop_gtr rfl rfl) ?_
  refine dp rfl (pop_assign rfl) ?_
  refine dn ?_
  refine hw_cond rfl (fun h3 => ?_) (fun h4 => ?_)
  ·try simp at h3
   refine hw_reg ?_
   refine dp rfl (pop_assign rfl) ?_
   refine dn ?_
   refine hw_ret ?_
   refine ret_p rfl ?_
   show HVal.int .i64 _ = _
   first
   | (rw [marketE, if_pos (by simpa using h1)]; done)
   | (rw [marketE, if_neg (by simpa using h2), if_pos (by omega)]; done)
   | (rw [marketE, if_neg (by simpa using h2), if_neg (by omega), hg]; simp_all [risingGo, leS]; done)
  ·try simp at h4
   refine hw_skip ?_
   refine blockQ_n ?_
   refine seqQ_n ?_
   refine hw_seq ?_
   refine hw_reg ?_
   refine dp rfl (pop_fieldAddr ty28 rfl ty26 (by decide) rfl) ?_
   refine dp rfl (pop_load ty26 rfl rfl rfl) ?_
   refine dp rfl (pop_lenm ty26 rfl) ?_
   refine dp rfl (pop_move rfl) ?_
   refine dn ?_
   refine hw_block ?_
   refine hw_loopw [2, 3, 4, 18, 19, 20, 21, 22, 23, 24, 25, 26, 27, 28, 29, 30, 31, 32, 33, 34, 35, 36, 37, 38, 39, 40] (fun (k : Nat) => [(18, .int .i64 k)]) (fun (k : Nat) => []) (fun (k : Nat) => k ≤ m.Teams.length ∧ (rising1 m.Teams = risingGo m.Teams k (m.Teams.drop k))) (fun (k : Nat) => m.Teams.length - k) (0) ?_ ?_ ?_ ?_
   ·exact ⟨Nat.zero_le _, rfl⟩
   ·exact ⟨rfl, trivial⟩
   ·exact List.Perm.refl _
   ·intro k hinv
    obtain ⟨hk, hg⟩ := hinv
    refine hw_reg ?_
    refine dp rfl (pop_lss rfl rfl) ?_
    refine dn ?_
    refine hw_seq ?_
    refine hw_cond rfl (fun h5 => ?_) (fun h6 => ?_)
    ·try simp at h5
     obtain ⟨x, hx⟩ : ∃ x, m.Teams[k]? = some x := ⟨_, List.getElem?_eq_getElem h5⟩
     have hdx := drop_cons hx
     rw [hdx] at hg
     refine hw_skip ?_
     refine seqQ_n ?_
     refine hw_seq ?_
     refine hw_block ?_
     refine hw_reg ?_
     refine dp rfl (pop_move rfl) ?_
     refine dp rfl (pop_idx ty26 ty9 rfl rfl rfl (by first | assumption | simp_all)) ?_
     refine dp rfl (pop_load ty9 rfl rfl rfl) ?_
     refine dp rfl (pop_assign rfl) ?_
     refine dp rfl (pop_assign rfl) ?_
     refine dn ?_
     refine hw_block ?_
     refine hw_reg ?_
     refine dp rfl (pop_move rfl) ?_
     refine dp rfl (pop_call ca37 rfl (WeakL.refl _) (c_benchref1_Key (hs x (List.mem_of_getElem? hx)))) ?_
     refine dp rfl (pop_not rfl) ?_
     refine dp rfl (pop_assign rfl) ?_
     refine dn ?_
     refine hw_cond rfl (fun h7 => ?_) (fun h8 => ?_)
     ·try simp at h7
      refine hw_reg ?_
      refine dp rfl (pop_assign rfl) ?_
      refine dn ?_
      refine hw_ret ?_
      refine ret_p rfl ?_
      show HVal.int .i64 _ = _
      first
      | (rw [marketE, if_pos (by simpa using h1)]; done)
      | (rw [marketE, if_neg (by simpa using h2), if_pos (by omega)]; done)
      | (rw [marketE, if_neg (by simpa using h2), if_neg (by omega), hg]; simp_all [risingGo, leS]; done)
     ·try simp at h8
      refine hw_reg ?_
      refine dp rfl (pop_move rfl) ?_
      refine dp rfl (pop_gtr rfl rfl) ?_
      refine dp rfl (pop_move rfl) ?_
      refine dg rfl rfl (fun hc => ⟨_, OpenTo.refl _, pop_move rfl⟩) ?_
      refine dg rfl rfl (fun hc => ⟨_, OpenTo.refl _, pop_fieldAddr ty28 rfl ty26 (by decide) rfl⟩) ?_
      refine dg rfl rfl (fun hc => ⟨_, OpenTo.upd (t := 32) rfl (by first | exact hc | simp_all) (OpenTo.refl _), pop_load ty26 rfl rfl rfl⟩) ?_
      refine dg rfl rfl (fun hc => ⟨_, OpenTo.refl _, pop_move rfl⟩) ?_
      refine dg rfl rfl (fun hc => by have hq := hc; (try simp at hq); exact ⟨_, OpenTo.upd (t := 34) rfl (by first | exact hc | simp_all) (OpenTo.refl _), pop_sub64 rfl rfl (by omega) (by omega)⟩) ?_
      refine dg rfl rfl (fun hc => by have hq := hc; (try simp at hq); exact ⟨_, OpenTo.upd (t := 35) rfl (by first | exact hc | simp_all) (OpenTo.upd (t := 33) rfl (by first | exact hc | simp_all) (OpenTo.refl _)), pop_idx (j := k - 1) (a := m.Teams.getD (k - 1) []) ty26 ty9 rfl rfl (by omega) (getD_some (by omega))⟩) ?_
      refine dg rfl rfl (fun hc => ⟨_, OpenTo.upd (t := 36) rfl (by first | exact hc | simp_all) (OpenTo.refl _), pop_load ty9 rfl rfl rfl⟩) ?_
      refine dg rfl rfl (fun hc => ⟨_, OpenTo.upd (t := 37) rfl (by first | exact hc | simp_all) (OpenTo.upd (t := 31) rfl (by first | exact hc | simp_all) (OpenTo.refl _)), pop_leqs rfl rfl⟩) ?_
      refine dp rfl (pop_picko rfl (.inr ⟨_, rfl, fun h => by simp_all⟩) (.inl rfl)) ?_
      refine dp rfl (pop_assign rfl) ?_
      refine dn ?_
      refine hw_cond rfl (fun h9 => ?_) (fun h10 => ?_)
      ·try simp at h9
       refine hw_reg ?_
       refine dp rfl (pop_assign rfl) ?_
       refine dn ?_
       refine hw_ret ?_
       refine ret_p rfl ?_
       show HVal.int .i64 _ = _
       first
       | (rw [marketE, if_pos (by simpa using h1)]; done)
       | (rw [marketE, if_neg (by simpa using h2), if_pos (by omega)]; done)
       | (rw [marketE, if_neg (by simpa using h2), if_neg (by omega), hg]; simp_all [risingGo, leS]; done)
      ·try simp at h10
       refine hw_skip ?_
       refine blockQ_n ?_
       refine blockQ_n ?_
       refine seqQ_n ?_
       refine hw_reg1 ?_
       refine dp rfl (pop_add64 rfl rfl (by omega) (by omega)) ?_
       refine dp rfl (pop_move rfl) ?_
       refine dn ?_
       refine ⟨k + 1, ?_, ?_, ⟨rfl, trivial⟩, (by repeat (first | exact keeps_refl | refine keeps_upd rfl ?_ | refine keeps_loop rfl rfl ?_)), List.Perm.refl _⟩
       ·refine ⟨by omega, ?_⟩
        rw [hg]; simp_all [risingGo, leS]
       ·dsimp only; omega
    ·try simp at h6
     have hnk : m.Teams.length ≤ k := by omega
     obtain rfl : k = m.Teams.length := by omega
     rw [drop_all (Nat.le_refl _)] at hg
     refine hw_exit ?_
     refine seqQ_x ?_
     refine loopQ_x ?_
     refine blockQ_eq ?_
     refine seqQ_n ?_
     refine hw_seq ?_
     refine hw_reg ?_
     refine dp rfl (pop_fieldAddr ty28 rfl ty3 (by decide) rfl) ?_
     refine dp rfl (pop_load ty3 rfl rfl rfl) ?_
     refine dp rfl (pop_call ca38 rfl (WeakL.refl _) c_benchref1_in) ?_
     refine dp rfl (pop_not rfl) ?_
     refine dp rfl (pop_move rfl) ?_
     refine dg rfl rfl (fun hc => ⟨_, OpenTo.refl _, pop_fieldAddr ty28 rfl ty3 (by decide) rfl⟩) ?_
     refine dg rfl rfl (fun hc => ⟨_, OpenTo.upd (t := 46) rfl (by first | exact hc | simp_all) (OpenTo.refl _), pop_load ty3 rfl rfl rfl⟩) ?_
     refine dg rfl rfl (fun hc => ⟨_, OpenTo.upd (t := 47) rfl (by first | exact hc | simp_all) (OpenTo.refl _), pop_call ca38 rfl (WeakL.refl _) c_benchref1_in⟩) ?_
     refine dg rfl rfl (fun hc => ⟨_, OpenTo.upd (t := 48) rfl (by first | exact hc | simp_all) (OpenTo.refl _), pop_not rfl⟩) ?_
     refine dp rfl (pop_picko rfl (.inl rfl) (.inr ⟨_, rfl, fun h => by simp_all⟩)) ?_
     refine dp rfl (pop_move rfl) ?_
     refine dg rfl rfl (fun hc => ⟨_, OpenTo.refl _, pop_fieldAddr ty28 rfl ty3 (by decide) rfl⟩) ?_
     refine dg rfl rfl (fun hc => ⟨_, OpenTo.upd (t := 52) rfl (by first | exact hc | simp_all) (OpenTo.refl _), pop_load ty3 rfl rfl rfl⟩) ?_
     refine dg rfl rfl (fun hc => ⟨_, OpenTo.upd (t := 53) rfl (by first | exact hc | simp_all) (OpenTo.refl _), pop_call ca38 rfl (WeakL.refl _) c_benchref1_in⟩) ?_
     refine dg rfl rfl (fun hc => ⟨_, OpenTo.upd (t := 54) rfl (by first | exact hc | simp_all) (OpenTo.refl _), pop_not rfl⟩) ?_
     refine dp rfl (pop_picko rfl (.inl rfl) (.inr ⟨_, rfl, fun h => by simp_all⟩)) ?_
     refine dp rfl (pop_move rfl) ?_
     refine dg rfl rfl (fun hc => ⟨_, OpenTo.refl _, pop_fieldAddr ty28 rfl ty3 (by decide) rfl⟩) ?_
     refine dg rfl rfl (fun hc => ⟨_, OpenTo.upd (t := 58) rfl (by first | exact hc | simp_all) (OpenTo.refl _), pop_load ty3 rfl rfl rfl⟩) ?_
     refine dg rfl rfl (fun hc => ⟨_, OpenTo.refl _, pop_fieldAddr ty28 rfl ty3 (by decide) rfl⟩) ?_
     refine dg rfl rfl (fun hc => ⟨_, OpenTo.upd (t := 60) rfl (by first | exact hc | simp_all) (OpenTo.refl _), pop_load ty3 rfl rfl rfl⟩) ?_
     refine dg rfl rfl (fun hc => ⟨_, OpenTo.upd (t := 61) rfl (by first | exact hc | simp_all) (OpenTo.upd (t := 59) rfl (by first | exact hc | simp_all) (OpenTo.refl _)), pop_call ca38 rfl (WeakL.refl _) c_benchref1_in⟩) ?_
     refine dg rfl rfl (fun hc => ⟨_, OpenTo.upd (t := 62) rfl (by first | exact hc | simp_all) (OpenTo.refl _), pop_not rfl⟩) ?_
     refine dp rfl (pop_picko rfl (.inl rfl) (.inr ⟨_, rfl, fun h => by simp_all⟩)) ?_
     refine dp rfl (pop_move rfl) ?_
     refine dg rfl rfl (fun hc => ⟨_, OpenTo.refl _, pop_fieldAddr ty28 rfl ty3 (by decide) rfl⟩) ?_
     refine dg rfl rfl (fun hc => ⟨_, OpenTo.upd (t := 66) rfl (by first | exact hc | simp_all) (OpenTo.refl _), pop_load ty3 rfl rfl rfl⟩) ?_
     refine dg rfl rfl (fun hc => ⟨_, OpenTo.upd (t := 67) rfl (by first | exact hc | simp_all) (OpenTo.refl _), pop_gtr rfl rfl⟩) ?_
     refine dp rfl (pop_picko rfl (.inl rfl) (.inr ⟨_, rfl, fun h => by simp_all⟩)) ?_
     refine dn ?_
     refine hw_cond rfl (fun h11 => ?_) (fun h12 => ?_)
     ·try simp at h11
      refine hw_reg ?_
      refine dp rfl (pop_assign rfl) ?_
      refine dn ?_
      refine hw_ret ?_
      refine ret_p rfl ?_
      show HVal.int .i64 _ = _
      first
      | (rw [marketE, if_pos (by simpa using h1)]; done)
      | (rw [marketE, if_neg (by simpa using h2), if_pos (by omega)]; done)
      | (rw [marketE, if_neg (by simpa using h2), if_neg (by omega), hg]; simp_all [risingGo, leS]; done)
     ·try simp at h12
      refine hw_skip ?_
      refine seqQ_n ?_
      refine hw_reg ?_
      refine dp rfl (pop_assign rfl) ?_
      refine dn ?_
      refine hw_ret ?_
      refine ret_p rfl ?_
      show HVal.int .i64 _ = _
      first
      | (rw [marketE, if_pos (by simpa using h1)]; done)
      | (rw [marketE, if_neg (by simpa using h2), if_pos (by omega)]; done)
      | (rw [marketE, if_neg (by simpa using h2), if_neg (by omega), hg]; simp_all [risingGo, leS]; done)

/-- benchwarmer/benchref1.hasTeam -/
theorem c_benchref1_hasTeam [Tracks] {m : MarketS} {t : Str} (ht : m.Teams.length ≤ 1000000) : ConP Tryz.prog 43 [eMarket m, .str t] (.bool (m.Teams.contains t)) := by
 refine Con.of_body Tryz.func43 rfl Tryz.ntmps43 rfl rfl ?_
 refine hw_reg ?_
 refine dp rfl (pop_box rfl rfl) ?_
 refine dp rfl (pop_assign rfl) ?_
 refine dn ?_
 refine hw_reg ?_
 refine dp rfl (pop_fieldAddr ty28 rfl ty26 (by decide) rfl) ?_
 refine dp rfl (pop_load ty26 rfl rfl rfl) ?_
 refine dp rfl (pop_move rfl) ?_
 refine dp rfl (pop_call ca45 rfl (WeakL.refl _) (c_slices_Contains_string_string (l := m.Teams) (s := t) (by omega))) ?_
 refine dp rfl (pop_assign rfl) ?_
 refine dn ?_
 refine hw_ret ?_
 refine ret_p rfl ?_
 rfl

/-- benchwarmer/benchref1.fits -/
theorem c_benchref1_fits [Tracks] {m : MarketS} {o : List OwnerS} (ht : m.Teams.length ≤ 1000000) (ho : o.length ≤ 1000000) : ConP Tryz.prog 103 [eMarket m, eOwners o] (.bool (fitsB m o)) := by
 refine Con.of_body Tryz.func103 rfl Tryz.ntmps103 rfl rfl ?_
 refine hw_reg ?_
 refine dp rfl (pop_box rfl rfl) ?_
 refine dp rfl (pop_assign rfl) ?_
 refine dn ?_
 refine hw_seq ?_
 refine hw_reg ?_
 refine dp rfl (pop_fieldAddr ty28 rfl ty26 (by decide) rfl) ?_
 refine dp rfl (pop_load ty26 rfl rfl rfl) ?_
 refine dp rfl (pop_lenm ty26 rfl) ?_
 refine dp rfl (pop_move rfl) ?_
 refine dn ?_
 refine hw_block ?_
 refine hw_loopw [4, 6, 7, 9, 13, 14, 15, 16, 17, 18, 19, 20, 21, 22, 23, 24, 25, 26, 27, 28, 29, 30, 31, 32, 33, 34, 35, 36, 37] (fun (k : Nat) => [(13, .int .i64 k)]) (fun (k : Nat) => []) (fun (k : Nat) => k ≤ m.Teams.length ∧ (fitsB m o = (m.Teams.drop k).all fun t => !(out (cntO o t) m.Least m.Most))) (fun (k : Nat) => m.Teams.length - k) (0) ?_ ?_ ?_ ?_
 ·exact ⟨Nat.zero_le _, rfl⟩
 ·exact ⟨rfl, trivial⟩
 ·exact List.Perm.refl _
 ·intro k hinv
  obtain ⟨hk, hg⟩ := hinv
  refine hw_reg ?_
  refine dp rfl (pop_lss rfl rfl) ?_
  refine dn ?_
  refine hw_seq ?_
  refine hw_cond rfl (fun h1 => ?_) (fun h2 => ?_)
  ·try simp at h1
   obtain ⟨x, hx⟩ : ∃ x, m.Teams[k]? = some x := ⟨_, List.getElem?_eq_getElem h1⟩
   have hdx := drop_cons hx
   rw [hdx, List.all_cons] at hg
   refine hw_skip ?_
   refine seqQ_n ?_
   refine hw_seq ?_
   refine hw_block ?_
   refine hw_reg ?_
   refine dp rfl (pop_idx ty26 ty9 rfl rfl rfl (by first | assumption | simp_all)) ?_
   refine dp rfl (pop_load ty9 rfl rfl rfl) ?_
   refine dp rfl (pop_assign rfl) ?_
   refine dn ?_
   refine hw_reg ?_
   refine dp rfl (pop_assign rfl) ?_
   refine dn ?_
   refine hw_seq ?_
   refine hw_reg ?_
   refine dp rfl (pop_move rfl) ?_
   refine dp rfl (pop_lenm ty32 rfl) ?_
   refine dp rfl (pop_move rfl) ?_
   refine dn ?_
   refine hw_block ?_
   refine hw_loopw [7, 9, 19, 20, 21, 22, 23, 24, 25, 26, 27, 28, 29] (fun (j : Nat) => [(19, .int .i64 j), (7, .int .i64 (cntO (o.take j) x))]) (fun (j : Nat) => []) (fun (j : Nat) => j ≤ o.length ∧ (True)) (fun (j : Nat) => o.length - j) (0) ?_ ?_ ?_ ?_
   ·exact ⟨Nat.zero_le _, trivial⟩
   ·exact ⟨rfl, rfl, trivial⟩
   ·exact List.Perm.refl _
   ·intro j hinv
    obtain ⟨hj, -⟩ := hinv
    refine hw_reg ?_
    refine dp rfl (pop_lss rfl rfl) ?_
    refine dn ?_
    refine hw_seq ?_
    refine hw_cond rfl (fun h3 => ?_) (fun h4 => ?_)
    ·try simp at h3
     obtain ⟨y, hy⟩ : ∃ y, o[j]? = some y := ⟨_, List.getElem?_eq_getElem h3⟩
     have hdy := drop_cons hy
     refine hw_skip ?_
     refine seqQ_n ?_
     refine hw_seq ?_
     refine hw_block ?_
     refine hw_reg ?_
     refine dp rfl (pop_idx ty32 ty67 rfl rfl rfl (by first | assumption | simp_all)) ?_
     refine dp rfl (pop_loadw ty67 rfl rfl rfl rfl) ?_
     refine de rfl (eop_alloc ty67 rfl fun b9 => ?_)
     refine de0 (eop_storew ty67 rfl rfl rfl rfl rfl ?_)
     refine dn ?_
     refine hw_ghost (Ghost.fc0 9 rfl) ?_
     refine hw_reg ?_
     refine dp rfl (pop_fieldAddr ty67 rfl ty9 (by decide) rfl) ?_
     refine dp rfl (pop_load ty9 rfl rfl rfl) ?_
     refine dp rfl (pop_move rfl) ?_
     refine dp rfl (pop_eqls rfl rfl) ?_
     refine dn ?_
     refine hw_cond rfl (fun h5 => ?_) (fun h6 => ?_)
     ·try simp at h5
      refine hw_reg1 ?_
      refine dp rfl (pop_move rfl) ?_
      have hcb := cntO_bd (o.take j) x
      rw [List.length_take] at hcb
      refine dp rfl (pop_add64 rfl rfl (by omega) (by omega)) ?_
      refine dp rfl (pop_assign rfl) ?_
      refine dn ?_
      refine blockQ_n ?_
      refine seqQ_n ?_
      refine hw_reg1 ?_
      refine dp rfl (pop_add64 rfl rfl (by omega) (by omega)) ?_
      refine dp rfl (pop_move rfl) ?_
      refine dn ?_
      exact ⟨j + 1, ⟨by omega, trivial⟩, by dsimp only; omega, ⟨rfl, some_int (by rw [cnt_loop o x j y hy, if_pos (by simp_all)]), trivial⟩, (by repeat (first | exact keeps_refl | refine keeps_upd rfl ?_ | refine keeps_loop rfl rfl ?_)), List.Perm.refl _⟩
     ·try simp at h6
      refine hw_skip ?_
      refine blockQ_n ?_
      refine seqQ_n ?_
      refine hw_reg1 ?_
      refine dp rfl (pop_add64 rfl rfl (by omega) (by omega)) ?_
      refine dp rfl (pop_move rfl) ?_
      refine dn ?_
      exact ⟨j + 1, ⟨by omega, trivial⟩, by dsimp only; omega, ⟨rfl, some_int (by rw [cnt_loop o x j y hy, if_neg (by simp_all), Int.add_zero]), trivial⟩, (by repeat (first | exact keeps_refl | refine keeps_upd rfl ?_ | refine keeps_loop rfl rfl ?_)), List.Perm.refl _⟩
    ·try simp at h4
     have hnj : o.length ≤ j := by omega
     obtain rfl : j = o.length := by omega
     rw [List.take_length]
     refine hw_exit ?_
     refine seqQ_x ?_
     refine loopQ_x ?_
     refine blockQ_eq ?_
     refine seqQ_n ?_
     refine hw_reg ?_
     refine dp rfl (pop_move rfl) ?_
     refine dp rfl (pop_fieldAddr ty28 rfl ty3 (by decide) rfl) ?_
     refine dp rfl (pop_load ty3 rfl rfl rfl) ?_
     refine dp rfl (pop_fieldAddr ty28 rfl ty3 (by decide) rfl) ?_
     refine dp rfl (pop_load ty3 rfl rfl rfl) ?_
     refine dp rfl (pop_call ca38 rfl (WeakL.refl _) c_benchref1_in) ?_
     refine dp rfl (pop_not rfl) ?_
     refine dn ?_
     refine hw_cond rfl (fun h7 => ?_) (fun h8 => ?_)
     ·try simp at h7
      refine hw_reg ?_
      refine dp rfl (pop_assign rfl) ?_
      refine dn ?_
      refine hw_ret ?_
      refine ret_p rfl ?_
      show HVal.bool _ = _
      rw [hg]; simp_all
     ·try simp at h8
      refine hw_skip ?_
      refine blockQ_n ?_
      refine seqQ_n ?_
      refine hw_reg1 ?_
      refine dp rfl (pop_add64 rfl rfl (by omega) (by omega)) ?_
      refine dp rfl (pop_move rfl) ?_
      refine dn ?_
      refine ⟨k + 1, ?_, ?_, ⟨rfl, trivial⟩, (by repeat (first | exact keeps_refl | refine keeps_upd rfl ?_ | refine keeps_loop rfl rfl ?_)), List.Perm.refl _⟩
      ·refine ⟨by omega, ?_⟩
       rw [hg]; simp_all
      ·dsimp only; omega
  ·try simp at h2
   have hnk : m.Teams.length ≤ k := by omega
   obtain rfl : k = m.Teams.length := by omega
   rw [drop_all (Nat.le_refl _)] at hg
   refine hw_exit ?_
   refine seqQ_x ?_
   refine loopQ_x ?_
   refine blockQ_eq ?_
   refine seqQ_n ?_
   refine hw_reg ?_
   refine dp rfl (pop_assign rfl) ?_
   refine dn ?_
   refine hw_ret ?_
   refine ret_p rfl ?_
   show HVal.bool _ = _
   rw [hg]; simp_all

/-- benchwarmer/benchref1.OwnersFault -/
theorem c_benchref1_OwnersFault [Tracks] {m : MarketS} {o : List OwnerS} (ht : m.Teams.length ≤ 1000000) (ho : o.length ≤ 1000000) (hs : ∀ x ∈ o, x.Player.length ≤ 1000000) : ConP Tryz.prog 60 [eMarket m, eOwners o] (.int .i64 (ownersR m o)) := by
 refine Con.of_body Tryz.func60 rfl Tryz.ntmps60 rfl rfl ?_
 refine hw_reg ?_
 refine dp rfl (pop_box rfl rfl) ?_
 refine dp rfl (pop_assign rfl) ?_
 refine dn ?_
 refine hw_seq ?_
 refine hw_reg ?_
 refine dp rfl (pop_move rfl) ?_
 refine dp rfl (pop_lenm ty32 rfl) ?_
 refine dp rfl (pop_gtr rfl rfl) ?_
 refine dn ?_
 refine hw_cond rfl (fun h1 => ?_) (fun h2 => ?_)
 ·try simp at h1
  refine hw_reg ?_
  refine dp rfl (pop_assign rfl) ?_
  refine dn ?_
  refine hw_ret ?_
  refine ret_p rfl ?_
  show HVal.int .i64 _ = _
  first
  | (exact congrArg _ (own_big (by omega)))
  | (rw [← own_end (by omega) hg]; simp_all; done)
  | (refine congrArg _ (own_bad (e := 5) (by omega) hg (by decide) ?_)
     rw [ownF, if_pos]
     simp_all
     done)
  | (refine congrArg _ (own_bad (e := 8) (by omega) hg (by decide) ?_)
     rw [ownF, if_neg, if_pos]
     all_goals simp_all
     done)
  | (refine congrArg _ (own_ord (by omega) hg ?_ ?_ ?_)
     ·rw [ownF, if_neg, if_neg] <;> simp_all
     ·simp_all
     ·simp_all)
 ·try simp at h2
  refine hw_skip ?_
  refine seqQ_n ?_
  refine hw_seq ?_
  refine hw_reg ?_
  refine dp rfl (pop_move rfl) ?_
  refine dp rfl (pop_lenm ty32 rfl) ?_
  refine dp rfl (pop_move rfl) ?_
  refine dn ?_
  refine hw_block ?_
  refine hw_loopw [4, 5, 6, 12, 13, 14, 15, 16, 17, 18, 19, 20, 21, 22, 23, 24, 25, 26, 27, 28, 29, 30, 31, 32, 33, 34, 35, 36, 37, 38, 39, 40, 41, 42] (fun (k : Nat) => [(12, .int .i64 k)]) (fun (k : Nat) => []) (fun (k : Nat) => k ≤ o.length ∧ (ownersC m o = chkGo (ownF m) byOwn owner0 o k (o.drop k))) (fun (k : Nat) => o.length - k) (0) ?_ ?_ ?_ ?_
  ·exact ⟨Nat.zero_le _, rfl⟩
  ·exact ⟨rfl, trivial⟩
  ·exact List.Perm.refl _
  ·intro k hinv
   obtain ⟨hk, hg⟩ := hinv
   refine hw_reg ?_
   refine dp rfl (pop_lss rfl rfl) ?_
   refine dn ?_
   refine hw_seq ?_
   refine hw_cond rfl (fun h3 => ?_) (fun h4 => ?_)
   ·try simp at h3
    obtain ⟨x, hx⟩ : ∃ x, o[k]? = some x := ⟨_, List.getElem?_eq_getElem h3⟩
    have hdx := drop_cons hx
    rw [hdx] at hg
    refine hw_skip ?_
    refine seqQ_n ?_
    refine hw_seq ?_
    refine hw_block ?_
    refine hw_reg ?_
    refine dp rfl (pop_move rfl) ?_
    refine dp rfl (pop_idx ty32 ty67 rfl rfl rfl (by first | assumption | simp_all)) ?_
    refine dp rfl (pop_loadw ty67 rfl rfl rfl rfl) ?_
    refine de rfl (eop_alloc ty67 rfl fun b6 => ?_)
    refine dp rfl (pop_assign rfl) ?_
    refine de0 (eop_storew ty67 rfl rfl rfl rfl rfl ?_)
    refine dn ?_
    refine hw_ghost (Ghost.fc0 6 rfl) ?_
    refine hw_block ?_
    refine hw_reg ?_
    refine dp rfl (pop_fieldAddr ty67 rfl ty9 (by decide) rfl) ?_
    refine dp rfl (pop_load ty9 rfl rfl rfl) ?_
    refine dp rfl (pop_call ca37 rfl (WeakL.refl _) (c_benchref1_Key (hs x (List.mem_of_getElem? hx)))) ?_
    refine dp rfl (pop_not rfl) ?_
    refine dp rfl (pop_assign rfl) ?_
    refine dn ?_
    refine hw_cond rfl (fun h5 => ?_) (fun h6 => ?_)
    ·try simp at h5
     refine hw_reg ?_
     refine dp rfl (pop_assign rfl) ?_
     refine dn ?_
     refine hw_ret ?_
     refine ret_p rfl ?_
     show HVal.int .i64 _ = _
     first
     | (exact congrArg _ (own_big (by omega)))
     | (rw [← own_end (by omega) hg]; simp_all; done)
     | (refine congrArg _ (own_bad (e := 5) (by omega) hg (by decide) ?_)
        rw [ownF, if_pos]
        simp_all
        done)
     | (refine congrArg _ (own_bad (e := 8) (by omega) hg (by decide) ?_)
        rw [ownF, if_neg, if_pos]
        all_goals simp_all
        done)
     | (refine congrArg _ (own_ord (by omega) hg ?_ ?_ ?_)
        ·rw [ownF, if_neg, if_neg] <;> simp_all
        ·simp_all
        ·simp_all)
    ·try simp at h6
     refine hw_reg ?_
     refine dp rfl (pop_loadw ty28 rfl rfl rfl rfl) ?_
     refine dp rfl (pop_fieldAddr ty67 rfl ty9 (by decide) rfl) ?_
     refine dp rfl (pop_load ty9 rfl rfl rfl) ?_
     refine dp rfl (pop_call ca43 rfl (WeakL.refl _) (c_benchref1_hasTeam (by first | assumption | omega | (simp; omega) | simp_all))) ?_
     refine dp rfl (pop_not rfl) ?_
     refine dp rfl (pop_assign rfl) ?_
     refine dn ?_
     refine hw_cond rfl (fun h7 => ?_) (fun h8 => ?_)
     ·try simp at h7
      refine hw_reg ?_
      refine dp rfl (pop_assign rfl) ?_
      refine dn ?_
      refine hw_ret ?_
      refine ret_p rfl ?_
      show HVal.int .i64 _ = _
      first
      | (exact congrArg _ (own_big (by omega)))
      | (rw [← own_end (by omega) hg]; simp_all; done)
      | (refine congrArg _ (own_bad (e := 5) (by omega) hg (by decide) ?_)
         rw [ownF, if_pos]
         simp_all
         done)
      | (refine congrArg _ (own_bad (e := 8) (by omega) hg (by decide) ?_)
         rw [ownF, if_neg, if_pos]
         all_goals simp_all
         done)
      | (refine congrArg _ (own_ord (by omega) hg ?_ ?_ ?_)
         ·rw [ownF, if_neg, if_neg] <;> simp_all
         ·simp_all
         ·simp_all)
     ·try simp at h8
      refine hw_draw (fun _ => True) [] mixed ?_
      refine ahp 0 rfl rfl (by kernel_rfl) (by kernel_rfl) (pop_move rfl) ?_
      refine ahp 1 rfl rfl (by kernel_rfl) (by kernel_rfl) (pop_gtr rfl rfl) ?_
      refine ahp 2 rfl rfl (by kernel_rfl) (by kernel_rfl) (pop_move rfl) ?_
      refine ahg 3 rfl rfl (by kernel_rfl) (by kernel_rfl) rfl (fun hc => ⟨_, OpenTo.refl _, pop_fieldAddr ty67 rfl ty9 (by decide) rfl⟩) ?_
      refine ahg 4 rfl rfl (by kernel_rfl) (by kernel_rfl) rfl (fun hc => ⟨_, OpenTo.upd (t := 32) rfl (by first | exact hc | simp_all) (OpenTo.refl _), pop_load ty9 rfl rfl rfl⟩) ?_
      refine ahg 5 rfl rfl (by kernel_rfl) (by kernel_rfl) rfl (fun hc => ⟨_, OpenTo.refl _, pop_move rfl⟩) ?_
      refine ahg 6 rfl rfl (by kernel_rfl) (by kernel_rfl) rfl (fun hc => ⟨_, OpenTo.refl _, pop_move rfl⟩) ?_
      refine ahg 7 rfl rfl (by kernel_rfl) (by kernel_rfl) rfl (fun hc => by have hq := hc; (try simp at hq); exact ⟨_, OpenTo.upd (t := 35) rfl (by first | exact hc | simp_all) (OpenTo.refl _), pop_sub64 rfl rfl (by omega) (by omega)⟩) ?_
      refine ahg 8 rfl rfl (by kernel_rfl) (by kernel_rfl) rfl (fun hc => by have hq := hc; (try simp at hq); exact ⟨_, OpenTo.upd (t := 36) rfl (by first | exact hc | simp_all) (OpenTo.upd (t := 34) rfl (by first | exact hc | simp_all) (OpenTo.refl _)), pop_idx (j := k - 1) (a := o.getD (k - 1) owner0) ty32 ty67 rfl rfl (by omega) (getD_some (by omega))⟩) ?_
      refine ahg 9 rfl rfl (by kernel_rfl) (by kernel_rfl) rfl (fun hc => ⟨_, OpenTo.upd (t := 37) rfl (by first | exact hc | simp_all) (OpenTo.refl _), pop_fieldAddr ty67 rfl ty9 (by decide) rfl⟩) ?_
      refine ahg 10 rfl rfl (by kernel_rfl) (by kernel_rfl) rfl (fun hc => ⟨_, OpenTo.upd (t := 38) rfl (by first | exact hc | simp_all) (OpenTo.refl _), pop_load ty9 rfl rfl rfl⟩) ?_
      refine ahg 11 rfl rfl (by kernel_rfl) (by kernel_rfl) rfl (fun hc => ⟨_, OpenTo.upd (t := 39) rfl (by first | exact hc | simp_all) (OpenTo.upd (t := 33) rfl (by first | exact hc | simp_all) (OpenTo.refl _)), pop_leqs rfl rfl⟩) ?_
      refine ahp 12 rfl rfl (by kernel_rfl) (by kernel_rfl) (pop_picko rfl (.inr ⟨_, rfl, fun h => by simp_all⟩) (.inl rfl)) ?_
      refine ahp 13 rfl rfl (by kernel_rfl) (by kernel_rfl) (pop_assign rfl) ?_
      refine ahz (by kernel_rfl) ?_
      refine hw_cond rfl (fun h9 => ?_) (fun h10 => ?_)
      ·try simp at h9
       refine hw_reg ?_
       refine dp rfl (pop_assign rfl) ?_
       refine dn ?_
       refine hw_ret ?_
       refine ret_p rfl ?_
       show HVal.int .i64 _ = _
       first
       | (exact congrArg _ (own_big (by omega)))
       | (rw [← own_end (by omega) hg]; simp_all; done)
       | (refine congrArg _ (own_bad (e := 5) (by omega) hg (by decide) ?_)
          rw [ownF, if_pos]
          simp_all
          done)
       | (refine congrArg _ (own_bad (e := 8) (by omega) hg (by decide) ?_)
          rw [ownF, if_neg, if_pos]
          all_goals simp_all
          done)
       | (refine congrArg _ (own_ord (by omega) hg ?_ ?_ ?_)
          ·rw [ownF, if_neg, if_neg] <;> simp_all
          ·simp_all
          ·simp_all)
      ·try simp at h10
       refine hw_skip ?_
       refine blockQ_n ?_
       refine blockQ_n ?_
       refine seqQ_n ?_
       refine hw_reg1 ?_
       refine dp rfl (pop_add64 rfl rfl (by omega) (by omega)) ?_
       refine dp rfl (pop_move rfl) ?_
       refine dn ?_
       refine ⟨k + 1, ?_, ?_, ⟨rfl, trivial⟩, (by repeat (first | exact keeps_refl | refine keeps_upd rfl ?_ | refine keeps_loop rfl rfl ?_)), List.Perm.refl _⟩
       ·refine ⟨by omega, ?_⟩
        rw [hg, own_next (by rw [ownF, if_neg (by simp_all), if_neg (by simp_all)]) (by intro hk0; simp_all)]
       ·dsimp only; omega
   ·try simp at h4
    have hnk : o.length ≤ k := by omega
    obtain rfl : k = o.length := by omega
    rw [drop_all (Nat.le_refl _)] at hg
    refine hw_exit ?_
    refine seqQ_x ?_
    refine loopQ_x ?_
    refine blockQ_eq ?_
    refine seqQ_n ?_
    refine hw_seq ?_
    refine hw_reg ?_
    refine dp rfl (pop_loadw ty28 rfl rfl rfl rfl) ?_
    refine dp rfl (pop_move rfl) ?_
    refine dp rfl (pop_call ca103 rfl (WeakL.refl _) (c_benchref1_fits (by first | assumption | omega | (simp; omega) | simp_all) (by first | assumption | omega | (simp; omega) | simp_all))) ?_
    refine dp rfl (pop_not rfl) ?_
    refine dn ?_
    refine hw_cond rfl (fun h11 => ?_) (fun h12 => ?_)
    ·try simp at h11
     refine hw_reg ?_
     refine dp rfl (pop_assign rfl) ?_
     refine dn ?_
     refine hw_ret ?_
     refine ret_p rfl ?_
     show HVal.int .i64 _ = _
     first
     | (exact congrArg _ (own_big (by omega)))
     | (rw [← own_end (by omega) hg]; simp_all; done)
     | (refine congrArg _ (own_bad (e := 5) (by omega) hg (by decide) ?_)
        rw [ownF, if_pos]
        simp_all
        done)
     | (refine congrArg _ (own_bad (e := 8) (by omega) hg (by decide) ?_)
        rw [ownF, if_neg, if_pos]
        all_goals simp_all
        done)
     | (refine congrArg _ (own_ord (by omega) hg ?_ ?_ ?_)
        ·rw [ownF, if_neg, if_neg] <;> simp_all
        ·simp_all
        ·simp_all)
    ·try simp at h12
     refine hw_skip ?_
     refine seqQ_n ?_
     refine hw_reg ?_
     refine dp rfl (pop_assign rfl) ?_
     refine dn ?_
     refine hw_ret ?_
     refine ret_p rfl ?_
     show HVal.int .i64 _ = _
     first
     | (exact congrArg _ (own_big (by omega)))
     | (rw [← own_end (by omega) hg]; simp_all; done)
     | (refine congrArg _ (own_bad (e := 5) (by omega) hg (by decide) ?_)
        rw [ownF, if_pos]
        simp_all
        done)
     | (refine congrArg _ (own_bad (e := 8) (by omega) hg (by decide) ?_)
        rw [ownF, if_neg, if_pos]
        all_goals simp_all
        done)
     | (refine congrArg _ (own_ord (by omega) hg ?_ ?_ ?_)
        ·rw [ownF, if_neg, if_neg] <;> simp_all
        ·simp_all
        ·simp_all)

/-- benchwarmer/benchref1.givesFault -/
theorem c_benchref1_givesFault [Tracks] {m : MarketS} {l : List GiveS} (ht : m.Teams.length ≤ 1000000) (hl : l.length ≤ 1000000) (hs : ∀ x ∈ l, x.Player.length ≤ 1000000) : ConP Tryz.prog 44 [eMarket m, eGives l] (.int .i64 (givesE m l)) := by
 refine Con.of_body Tryz.func44 rfl Tryz.ntmps44 rfl rfl ?_
 refine hw_reg ?_
 refine dp rfl (pop_box rfl rfl) ?_
 refine dp rfl (pop_assign rfl) ?_
 refine dn ?_
 refine hw_seq ?_
 refine hw_block ?_
 refine hw_reg ?_
 refine dp rfl (pop_move rfl) ?_
 refine dp rfl (pop_lenm ty45 rfl) ?_
 refine dp rfl (pop_eql rfl rfl) ?_
 refine dp rfl (pop_assign rfl) ?_
 refine dn ?_
 refine hw_cond rfl (fun h1 => ?_) (fun h2 => ?_)
 ·try simp at h1
  refine hw_reg ?_
  refine dp rfl (pop_assign rfl) ?_
  refine dn ?_
  refine hw_ret ?_
  refine ret_p rfl ?_
  show HVal.int .i64 _ = _
  first
  | (rw [givesE, if_pos (by simpa using h1)]; done)
  | (rw [givesE, if_neg (by simpa using h2), if_pos (by omega)]; done)
  | (exact congrArg _ (giv_end (by simpa using h2) (by omega) hg))
  | (refine congrArg _ (giv_bad (e := 5) (by simpa using h2) (by omega) hg (by decide) ?_)
     rw [givF, if_pos]
     simp_all
     done)
  | (refine congrArg _ (giv_bad (e := 8) (by simpa using h2) (by omega) hg (by decide) ?_)
     rw [givF, if_neg, if_pos]
     all_goals simp_all
     done)
  | (refine congrArg _ (giv_bad (e := 16) (by simpa using h2) (by omega) hg (by decide) ?_)
     rw [givF, if_neg, if_neg, if_pos]
     all_goals simp_all
     done)
  | (refine congrArg _ (giv_ord (by simpa using h2) (by omega) hg ?_ ?_ ?_)
     ·rw [givF, if_neg, if_neg, if_neg] <;> simp_all
     ·simp_all
     ·simp_all)
 ·try simp at h2
  refine hw_reg ?_
  refine dp rfl (pop_move rfl) ?_
  refine dp rfl (pop_lenm ty45 rfl) ?_
  refine dp rfl (pop_gtr rfl rfl) ?_
  refine dp rfl (pop_assign rfl) ?_
  refine dn ?_
  refine hw_cond rfl (fun h3 => ?_) (fun h4 => ?_)
  ·try simp at h3
   refine hw_reg ?_
   refine dp rfl (pop_assign rfl) ?_
   refine dn ?_
   refine hw_ret ?_
   refine ret_p rfl ?_
   show HVal.int .i64 _ = _
   first
   | (rw [givesE, if_pos (by simpa using h1)]; done)
   | (rw [givesE, if_neg (by simpa using h2), if_pos (by omega)]; done)
   | (exact congrArg _ (giv_end (by simpa using h2) (by omega) hg))
   | (refine congrArg _ (giv_bad (e := 5) (by simpa using h2) (by omega) hg (by decide) ?_)
      rw [givF, if_pos]
      simp_all
      done)
   | (refine congrArg _ (giv_bad (e := 8) (by simpa using h2) (by omega) hg (by decide) ?_)
      rw [givF, if_neg, if_pos]
      all_goals simp_all
      done)
   | (refine congrArg _ (giv_bad (e := 16) (by simpa using h2) (by omega) hg (by decide) ?_)
      rw [givF, if_neg, if_neg, if_pos]
      all_goals simp_all
      done)
   | (refine congrArg _ (giv_ord (by simpa using h2) (by omega) hg ?_ ?_ ?_)
      ·rw [givF, if_neg, if_neg, if_neg] <;> simp_all
      ·simp_all
      ·simp_all)
  ·try simp at h4
   refine hw_skip ?_
   refine blockQ_n ?_
   refine seqQ_n ?_
   refine hw_seq ?_
   refine hw_reg ?_
   refine dp rfl (pop_move rfl) ?_
   refine dp rfl (pop_lenm ty45 rfl) ?_
   refine dp rfl (pop_move rfl) ?_
   refine dn ?_
   refine hw_block ?_
   refine hw_loopw [4, 5, 6, 17, 18, 19, 20, 21, 22, 23, 24, 25, 26, 27, 28, 29, 30, 31, 32, 33, 34, 35, 36, 37, 38, 39, 40, 41, 42, 43, 44, 45, 46, 47, 48, 49, 50, 51, 52, 53, 54, 55, 56, 57, 58, 59, 60] (fun (k : Nat) => [(17, .int .i64 k)]) (fun (k : Nat) => []) (fun (k : Nat) => k ≤ l.length ∧ (chkGo (givF m) byGiv give0 l 0 l = chkGo (givF m) byGiv give0 l k (l.drop k))) (fun (k : Nat) => l.length - k) (0) ?_ ?_ ?_ ?_
   ·exact ⟨Nat.zero_le _, rfl⟩
   ·exact ⟨rfl, trivial⟩
   ·exact List.Perm.refl _
   ·intro k hinv
    obtain ⟨hk, hg⟩ := hinv
    refine hw_reg ?_
    refine dp rfl (pop_lss rfl rfl) ?_
    refine dn ?_
    refine hw_seq ?_
    refine hw_cond rfl (fun h5 => ?_) (fun h6 => ?_)
    ·try simp at h5
     obtain ⟨x, hx⟩ : ∃ x, l[k]? = some x := ⟨_, List.getElem?_eq_getElem h5⟩
     have hdx := drop_cons hx
     rw [hdx] at hg
     refine hw_skip ?_
     refine seqQ_n ?_
     refine hw_seq ?_
     refine hw_block ?_
     refine hw_reg ?_
     refine dp rfl (pop_move rfl) ?_
     refine dp rfl (pop_idx ty45 ty69 rfl rfl rfl (by first | assumption | simp_all)) ?_
     refine dp rfl (pop_loadw ty69 rfl rfl rfl rfl) ?_
     refine de rfl (eop_alloc ty69 rfl fun b6 => ?_)
     refine dp rfl (pop_assign rfl) ?_
     refine de0 (eop_storew ty69 rfl rfl rfl rfl rfl ?_)
     refine dn ?_
     refine hw_ghost (Ghost.fc0 6 rfl) ?_
     refine hw_block ?_
     refine hw_reg ?_
     refine dp rfl (pop_fieldAddr ty69 rfl ty9 (by decide) rfl) ?_
     refine dp rfl (pop_load ty9 rfl rfl rfl) ?_
     refine dp rfl (pop_call ca37 rfl (WeakL.refl _) (c_benchref1_Key (hs x (List.mem_of_getElem? hx)))) ?_
     refine dp rfl (pop_not rfl) ?_
     refine dp rfl (pop_assign rfl) ?_
     refine dn ?_
     refine hw_cond rfl (fun h7 => ?_) (fun h8 => ?_)
     ·try simp at h7
      refine hw_reg ?_
      refine dp rfl (pop_assign rfl) ?_
      refine dn ?_
      refine hw_ret ?_
      refine ret_p rfl ?_
      show HVal.int .i64 _ = _
      first
      | (rw [givesE, if_pos (by simpa using h1)]; done)
      | (rw [givesE, if_neg (by simpa using h2), if_pos (by omega)]; done)
      | (exact congrArg _ (giv_end (by simpa using h2) (by omega) hg))
      | (refine congrArg _ (giv_bad (e := 5) (by simpa using h2) (by omega) hg (by decide) ?_)
         rw [givF, if_pos]
         simp_all
         done)
      | (refine congrArg _ (giv_bad (e := 8) (by simpa using h2) (by omega) hg (by decide) ?_)
         rw [givF, if_neg, if_pos]
         all_goals simp_all
         done)
      | (refine congrArg _ (giv_bad (e := 16) (by simpa using h2) (by omega) hg (by decide) ?_)
         rw [givF, if_neg, if_neg, if_pos]
         all_goals simp_all
         done)
      | (refine congrArg _ (giv_ord (by simpa using h2) (by omega) hg ?_ ?_ ?_)
         ·rw [givF, if_neg, if_neg, if_neg] <;> simp_all
         ·simp_all
         ·simp_all)
     ·try simp at h8
      refine hw_reg ?_
      refine dp rfl (pop_loadw ty28 rfl rfl rfl rfl) ?_
      refine dp rfl (pop_fieldAddr ty69 rfl ty9 (by decide) rfl) ?_
      refine dp rfl (pop_load ty9 rfl rfl rfl) ?_
      refine dp rfl (pop_call ca43 rfl (WeakL.refl _) (c_benchref1_hasTeam (by first | assumption | omega | (simp; omega) | simp_all))) ?_
      refine dp rfl (pop_not rfl) ?_
      refine dp rfl (pop_move rfl) ?_
      refine dg rfl rfl (fun hc => ⟨_, OpenTo.refl _, pop_loadw ty28 rfl rfl rfl rfl⟩) ?_
      refine dg rfl rfl (fun hc => ⟨_, OpenTo.refl _, pop_fieldAddr ty69 rfl ty9 (by decide) rfl⟩) ?_
      refine dg rfl rfl (fun hc => ⟨_, OpenTo.upd (t := 35) rfl (by first | exact hc | simp_all) (OpenTo.refl _), pop_load ty9 rfl rfl rfl⟩) ?_
      refine dg rfl rfl (fun hc => by have hq := hc; (try simp at hq); exact ⟨_, OpenTo.upd (t := 36) rfl (by first | exact hc | simp_all) (OpenTo.upd (t := 34) rfl (by first | exact hc | simp_all) (OpenTo.refl _)), pop_call ca43 rfl (WeakL.refl _) (c_benchref1_hasTeam (by first | assumption | omega | (simp; omega) | simp_all))⟩) ?_
      refine dg rfl rfl (fun hc => ⟨_, OpenTo.upd (t := 37) rfl (by first | exact hc | simp_all) (OpenTo.refl _), pop_not rfl⟩) ?_
      refine dp rfl (pop_picko rfl (.inl rfl) (.inr ⟨_, rfl, fun h => by simp_all⟩)) ?_
      refine dp rfl (pop_assign rfl) ?_
      refine dn ?_
      refine hw_cond rfl (fun h9 => ?_) (fun h10 => ?_)
      ·try simp at h9
       refine hw_reg ?_
       refine dp rfl (pop_assign rfl) ?_
       refine dn ?_
       refine hw_ret ?_
       refine ret_p rfl ?_
       show HVal.int .i64 _ = _
       first
       | (rw [givesE, if_pos (by simpa using h1)]; done)
       | (rw [givesE, if_neg (by simpa using h2), if_pos (by omega)]; done)
       | (exact congrArg _ (giv_end (by simpa using h2) (by omega) hg))
       | (refine congrArg _ (giv_bad (e := 5) (by simpa using h2) (by omega) hg (by decide) ?_)
          rw [givF, if_pos]
          simp_all
          done)
       | (refine congrArg _ (giv_bad (e := 8) (by simpa using h2) (by omega) hg (by decide) ?_)
          rw [givF, if_neg, if_pos]
          all_goals simp_all
          done)
       | (refine congrArg _ (giv_bad (e := 16) (by simpa using h2) (by omega) hg (by decide) ?_)
          rw [givF, if_neg, if_neg, if_pos]
          all_goals simp_all
          done)
       | (refine congrArg _ (giv_ord (by simpa using h2) (by omega) hg ?_ ?_ ?_)
          ·rw [givF, if_neg, if_neg, if_neg] <;> simp_all
          ·simp_all
          ·simp_all)
      ·try simp at h10
       refine hw_reg ?_
       refine dp rfl (pop_fieldAddr ty69 rfl ty9 (by decide) rfl) ?_
       refine dp rfl (pop_load ty9 rfl rfl rfl) ?_
       refine dp rfl (pop_fieldAddr ty69 rfl ty9 (by decide) rfl) ?_
       refine dp rfl (pop_load ty9 rfl rfl rfl) ?_
       refine dp rfl (pop_eqls rfl rfl) ?_
       refine dp rfl (pop_assign rfl) ?_
       refine dn ?_
       refine hw_cond rfl (fun h11 => ?_) (fun h12 => ?_)
       ·try simp at h11
        refine hw_reg ?_
        refine dp rfl (pop_assign rfl) ?_
        refine dn ?_
        refine hw_ret ?_
        refine ret_p rfl ?_
        show HVal.int .i64 _ = _
        first
        | (rw [givesE, if_pos (by simpa using h1)]; done)
        | (rw [givesE, if_neg (by simpa using h2), if_pos (by omega)]; done)
        | (exact congrArg _ (giv_end (by simpa using h2) (by omega) hg))
        | (refine congrArg _ (giv_bad (e := 5) (by simpa using h2) (by omega) hg (by decide) ?_)
           rw [givF, if_pos]
           simp_all
           done)
        | (refine congrArg _ (giv_bad (e := 8) (by simpa using h2) (by omega) hg (by decide) ?_)
           rw [givF, if_neg, if_pos]
           all_goals simp_all
           done)
        | (refine congrArg _ (giv_bad (e := 16) (by simpa using h2) (by omega) hg (by decide) ?_)
           rw [givF, if_neg, if_neg, if_pos]
           all_goals simp_all
           done)
        | (refine congrArg _ (giv_ord (by simpa using h2) (by omega) hg ?_ ?_ ?_)
           ·rw [givF, if_neg, if_neg, if_neg] <;> simp_all
           ·simp_all
           ·simp_all)
       ·try simp at h12
        refine hw_draw (fun _ => True) [] mixed ?_
        refine ahp 0 rfl rfl (by kernel_rfl) (by kernel_rfl) (pop_move rfl) ?_
        refine ahp 1 rfl rfl (by kernel_rfl) (by kernel_rfl) (pop_gtr rfl rfl) ?_
        refine ahp 2 rfl rfl (by kernel_rfl) (by kernel_rfl) (pop_move rfl) ?_
        refine ahg 3 rfl rfl (by kernel_rfl) (by kernel_rfl) rfl (fun hc => ⟨_, OpenTo.refl _, pop_fieldAddr ty69 rfl ty9 (by decide) rfl⟩) ?_
        refine ahg 4 rfl rfl (by kernel_rfl) (by kernel_rfl) rfl (fun hc => ⟨_, OpenTo.upd (t := 50) rfl (by first | exact hc | simp_all) (OpenTo.refl _), pop_load ty9 rfl rfl rfl⟩) ?_
        refine ahg 5 rfl rfl (by kernel_rfl) (by kernel_rfl) rfl (fun hc => ⟨_, OpenTo.refl _, pop_move rfl⟩) ?_
        refine ahg 6 rfl rfl (by kernel_rfl) (by kernel_rfl) rfl (fun hc => ⟨_, OpenTo.refl _, pop_move rfl⟩) ?_
        refine ahg 7 rfl rfl (by kernel_rfl) (by kernel_rfl) rfl (fun hc => by have hq := hc; (try simp at hq); exact ⟨_, OpenTo.upd (t := 53) rfl (by first | exact hc | simp_all) (OpenTo.refl _), pop_sub64 rfl rfl (by omega) (by omega)⟩) ?_
        refine ahg 8 rfl rfl (by kernel_rfl) (by kernel_rfl) rfl (fun hc => by have hq := hc; (try simp at hq); exact ⟨_, OpenTo.upd (t := 54) rfl (by first | exact hc | simp_all) (OpenTo.upd (t := 52) rfl (by first | exact hc | simp_all) (OpenTo.refl _)), pop_idx (j := k - 1) (a := l.getD (k - 1) give0) ty45 ty69 rfl rfl (by omega) (getD_some (by omega))⟩) ?_
        refine ahg 9 rfl rfl (by kernel_rfl) (by kernel_rfl) rfl (fun hc => ⟨_, OpenTo.upd (t := 55) rfl (by first | exact hc | simp_all) (OpenTo.refl _), pop_fieldAddr ty69 rfl ty9 (by decide) rfl⟩) ?_
        refine ahg 10 rfl rfl (by kernel_rfl) (by kernel_rfl) rfl (fun hc => ⟨_, OpenTo.upd (t := 56) rfl (by first | exact hc | simp_all) (OpenTo.refl _), pop_load ty9 rfl rfl rfl⟩) ?_
        refine ahg 11 rfl rfl (by kernel_rfl) (by kernel_rfl) rfl (fun hc => ⟨_, OpenTo.upd (t := 57) rfl (by first | exact hc | simp_all) (OpenTo.upd (t := 51) rfl (by first | exact hc | simp_all) (OpenTo.refl _)), pop_leqs rfl rfl⟩) ?_
        refine ahp 12 rfl rfl (by kernel_rfl) (by kernel_rfl) (pop_picko rfl (.inr ⟨_, rfl, fun h => by simp_all⟩) (.inl rfl)) ?_
        refine ahp 13 rfl rfl (by kernel_rfl) (by kernel_rfl) (pop_assign rfl) ?_
        refine ahz (by kernel_rfl) ?_
        refine hw_cond rfl (fun h13 => ?_) (fun h14 => ?_)
        ·try simp at h13
         refine hw_reg ?_
         refine dp rfl (pop_assign rfl) ?_
         refine dn ?_
         refine hw_ret ?_
         refine ret_p rfl ?_
         show HVal.int .i64 _ = _
         first
         | (rw [givesE, if_pos (by simpa using h1)]; done)
         | (rw [givesE, if_neg (by simpa using h2), if_pos (by omega)]; done)
         | (exact congrArg _ (giv_end (by simpa using h2) (by omega) hg))
         | (refine congrArg _ (giv_bad (e := 5) (by simpa using h2) (by omega) hg (by decide) ?_)
            rw [givF, if_pos]
            simp_all
            done)
         | (refine congrArg _ (giv_bad (e := 8) (by simpa using h2) (by omega) hg (by decide) ?_)
            rw [givF, if_neg, if_pos]
            all_goals simp_all
            done)
         | (refine congrArg _ (giv_bad (e := 16) (by simpa using h2) (by omega) hg (by decide) ?_)
            rw [givF, if_neg, if_neg, if_pos]
            all_goals simp_all
            done)
         | (refine congrArg _ (giv_ord (by simpa using h2) (by omega) hg ?_ ?_ ?_)
            ·rw [givF, if_neg, if_neg, if_neg] <;> simp_all
            ·simp_all
            ·simp_all)
        ·try simp at h14
         refine hw_skip ?_
         refine blockQ_n ?_
         refine blockQ_n ?_
         refine seqQ_n ?_
         refine hw_reg1 ?_
         refine dp rfl (pop_add64 rfl rfl (by omega) (by omega)) ?_
         refine dp rfl (pop_move rfl) ?_
         refine dn ?_
         refine ⟨k + 1, ?_, ?_, ⟨rfl, trivial⟩, (by repeat (first | exact keeps_refl | refine keeps_upd rfl ?_ | refine keeps_loop rfl rfl ?_)), List.Perm.refl _⟩
         ·refine ⟨by omega, ?_⟩
          rw [hg, giv_next (by rw [givF, if_neg (by simp_all), if_neg (by simp_all), if_neg (by simp_all)]) (by intro hk0; simp_all)]
         ·dsimp only; omega
    ·try simp at h6
     have hnk : l.length ≤ k := by omega
     obtain rfl : k = l.length := by omega
     rw [drop_all (Nat.le_refl _)] at hg
     refine hw_exit ?_
     refine seqQ_x ?_
     refine loopQ_x ?_
     refine blockQ_eq ?_
     refine seqQ_n ?_
     refine hw_reg ?_
     refine dp rfl (pop_assign rfl) ?_
     refine dn ?_
     refine hw_ret ?_
     refine ret_p rfl ?_
     show HVal.int .i64 _ = _
     first
     | (rw [givesE, if_pos (by simpa using h1)]; done)
     | (rw [givesE, if_neg (by simpa using h2), if_pos (by omega)]; done)
     | (exact congrArg _ (giv_end (by simpa using h2) (by omega) hg))
     | (refine congrArg _ (giv_bad (e := 5) (by simpa using h2) (by omega) hg (by decide) ?_)
        rw [givF, if_pos]
        simp_all
        done)
     | (refine congrArg _ (giv_bad (e := 8) (by simpa using h2) (by omega) hg (by decide) ?_)
        rw [givF, if_neg, if_pos]
        all_goals simp_all
        done)
     | (refine congrArg _ (giv_bad (e := 16) (by simpa using h2) (by omega) hg (by decide) ?_)
        rw [givF, if_neg, if_neg, if_pos]
        all_goals simp_all
        done)
     | (refine congrArg _ (giv_ord (by simpa using h2) (by omega) hg ?_ ?_ ?_)
        ·rw [givF, if_neg, if_neg, if_neg] <;> simp_all
        ·simp_all
        ·simp_all)

/-- benchwarmer/benchref1.concerned -/
theorem c_benchref1_concerned [Tracks] {x : DealS} (hx : x.Gives.length ≤ 1000) : ConP Tryz.prog 46 [eDeal x] (eSs (concL x.Gives)) := by
 refine Con.of_body Tryz.func46 rfl Tryz.ntmps46 rfl rfl ?_
 refine hw_reg ?_
 refine dp rfl (pop_box rfl rfl) ?_
 refine dp rfl (pop_assign rfl) ?_
 refine dn ?_
 refine hw_reg ?_
 refine dp rfl (pop_assign rfl) ?_
 refine dn ?_
 refine hw_ghost (Ghost.arr_nil 1) ?_
 refine hw_seq ?_
 refine hw_reg ?_
 refine dp rfl ((by first | exact pop_fieldAddr ty47 rfl ty45 (by decide) rfl | exact pop_fieldAddr_raw ty47 rfl ty45 (by decide) rfl)) ?_
 refine dp rfl (pop_load ty45 rfl rfl rfl) ?_
 refine dp rfl (pop_lenm ty45 rfl) ?_
 refine dp rfl (pop_move rfl) ?_
 refine dn ?_
 refine hw_block ?_
 refine hw_loopw2 [3, 5, 9, 10, 11, 12, 13, 14, 15, 16, 17, 18, 19, 20] (fun (k : Nat) (u : Value) => [(9, .int .i64 k), (3, .raw u)]) (fun (k : Nat) (u : Value) => [.arr u 1 ((teamsG (x.Gives.take k)).map .str)]) (fun (k : Nat) (u : Value) => k ≤ x.Gives.length ∧ (True)) (fun (k : Nat) (u : Value) => x.Gives.length - k) (0) (.slice none 0 0) ?_ ?_ ?_ ?_
 ·exact ⟨Nat.zero_le _, trivial⟩
 ·exact ⟨rfl, rfl, trivial⟩
 ·exact perm_eq (by simp [teamsG])
 ·intro k u hinv
  obtain ⟨hk, -⟩ := hinv
  refine hw_reg ?_
  refine dp rfl (pop_lss rfl rfl) ?_
  refine dn ?_
  refine hw_seq ?_
  refine hw_cond rfl (fun h1 => ?_) (fun h2 => ?_)
  ·try simp at h1
   obtain ⟨g, hg⟩ : ∃ g, x.Gives[k]? = some g := ⟨_, List.getElem?_eq_getElem h1⟩
   have hdg := drop_cons hg
   refine hw_skip ?_
   refine seqQ_n ?_
   refine hw_seq ?_
   refine hw_block ?_
   refine hw_reg ?_
   refine dp rfl (pop_idx ty45 ty69 rfl rfl rfl (by first | assumption | simp_all)) ?_
   refine dp rfl (pop_loadw ty69 rfl rfl rfl rfl) ?_
   refine de rfl (eop_alloc ty69 rfl fun b5 => ?_)
   refine de0 (eop_storew ty69 rfl rfl rfl rfl rfl ?_)
   refine dn ?_
   refine hw_ghost (Ghost.fc0 5 rfl) ?_
   refine hw_reg1 ?_
   refine dp rfl (pop_move rfl) ?_
   refine dp rfl ((by first | exact pop_fieldAddr ty69 rfl ty9 (by decide) rfl | exact pop_fieldAddr_raw ty69 rfl ty9 (by decide) rfl)) ?_
   refine dp rfl (pop_load ty9 rfl rfl rfl) ?_
   refine dp rfl ((by first | exact pop_fieldAddr ty69 rfl ty9 (by decide) rfl | exact pop_fieldAddr_raw ty69 rfl ty9 (by decide) rfl)) ?_
   refine dp rfl (pop_load ty9 rfl rfl rfl) ?_
   refine dp rfl (pop_buildSlice (hs := [_, _]) ty26 ty9 rfl rfl (by decide) (by decide) rfl) ?_
   refine de rfl (eop_append (i := 0) ty26 ty9 rfl rfl rfl rfl rfl (by simp [flat, hcells]) (by have := teamsG_len (x.Gives.take k); simp only [List.length_map, List.length_cons, List.length_nil, List.length_take] at *; omega) fun v19 => ?_)
   refine dp rfl (pop_assign rfl) ?_
   refine dn ?_
   refine blockQ_n ?_
   refine seqQ_n ?_
   refine hw_reg1 ?_
   refine dp rfl (pop_add64 rfl rfl (by omega) (by omega)) ?_
   refine dp rfl (pop_move rfl) ?_
   refine dn ?_
   exact ⟨k + 1, v19, ⟨by omega, trivial⟩, by dsimp only; omega, ⟨rfl, rfl, trivial⟩, (by repeat (first | exact keeps_refl | refine keeps_upd rfl ?_ | refine keeps_loop rfl rfl ?_)), perm_eq (by dsimp only; rw [teamsG_take hg]; simp)⟩
  ·try simp at h2
   have hnk : x.Gives.length ≤ k := by omega
   obtain rfl : k = x.Gives.length := by omega
   rw [List.take_length]
   refine hw_exit ?_
   refine seqQ_x ?_
   refine loopQ2_x ?_
   refine blockQ_eq ?_
   refine seqQ_n ?_
   refine hw_ghost (Ghost.fa 3 (i := 0) rfl rfl) ?_
   refine hw_reg ?_
   refine dp rfl (pop_move rfl) ?_
   refine de rfl (eop_calla ca93 rfl (WeakL.refl _) (c_benchref1_once (l := teamsG x.Gives) (by rw [teamsG_len]; omega)) fun v22 => ?_)
   refine dp rfl (pop_assign rfl) ?_
   refine dn ?_
   refine hw_ret ?_
   exact ret_fa (M := []) 2 rfl rfl rfl

/-- benchwarmer/benchref1.OffersFault -/
theorem c_benchref1_OffersFault [Tracks] {m : MarketS} {l : List DealS} (ht : m.Teams.length ≤ 1000000) (hl : l.length ≤ 1000000) (hx : ∀ x ∈ l, x.Id.length ≤ 1000000 ∧ x.Gives.length ≤ 1000000 ∧ ∀ g ∈ x.Gives, g.Player.length ≤ 1000000) : ConP Tryz.prog 10 [eMarket m, eDeals l] (.int .i64 (dealsR m l)) := by
 refine Con.of_body Tryz.func10 rfl Tryz.ntmps10 rfl rfl ?_
 refine hw_reg ?_
 refine dp rfl (pop_box rfl rfl) ?_
 refine dp rfl (pop_assign rfl) ?_
 refine dn ?_
 refine hw_seq ?_
 refine hw_reg ?_
 refine dp rfl (pop_move rfl) ?_
 refine dp rfl (pop_lenm ty30 rfl) ?_
 refine dp rfl (pop_gtr rfl rfl) ?_
 refine dn ?_
 refine hw_cond rfl (fun h1 => ?_) (fun h2 => ?_)
 ·try simp at h1
  refine hw_reg ?_
  refine dp rfl (pop_assign rfl) ?_
  refine dn ?_
  refine hw_ret ?_
  refine ret_p rfl ?_
  show HVal.int .i64 _ = _
  first
  | (exact congrArg _ (deal_big (by omega)))
  | (exact congrArg _ (deal_end (by omega) hg))
  | (refine congrArg _ (deal_bad (by omega) hg (by decide) ?_)
     rw [dealF]; simp_all
     done)
  | (refine congrArg _ (deal_bad (by omega) hg ?_ ?_)
     ·simp_all
     ·rw [dealF]; simp_all
     done)
  | (refine congrArg _ (deal_ord (by omega) hg ?_ ?_ ?_)
     ·rw [dealF]; simp_all
     ·simp_all
     ·simp_all)
 ·try simp at h2
  refine hw_skip ?_
  refine seqQ_n ?_
  refine hw_seq ?_
  refine hw_reg ?_
  refine dp rfl (pop_move rfl) ?_
  refine dp rfl (pop_lenm ty30 rfl) ?_
  refine dp rfl (pop_move rfl) ?_
  refine dn ?_
  refine hw_block ?_
  refine hw_loopw (4 :: 5 :: 6 :: 7 :: 8 :: 14 :: 15 :: 16 :: 17 :: 18 :: 19 :: 20 :: 21 :: 22 :: 23 :: 24 :: 25 :: 26 :: 27 :: 28 :: 29 :: 30 :: 31 :: 32 :: 33 :: 34 :: 35 :: 36 :: 37 :: 38 :: 39 :: 40 :: 41 :: 42 :: 43 :: 44 :: 45 :: 46 :: 47 :: 48 :: 49 :: 50 :: 51 :: 52 :: 53 :: 54 :: 55 :: 56 :: 57 :: 58 :: 59 :: 60 :: 61 :: 62 :: 63 :: 64 :: 65 :: 66 :: 67 :: 68 :: 69 :: 70 :: 71 :: 72 :: 73 :: 74 :: 75 :: 76 :: []) (fun (k : Nat) => [(14, .int .i64 k)]) (fun (k : Nat) => []) (fun (k : Nat) => k ≤ l.length ∧ (chkGo (dealF m) byDeal deal0 l 0 l = chkGo (dealF m) byDeal deal0 l k (l.drop k))) (fun (k : Nat) => l.length - k) (0) ?_ ?_ ?_ ?_
  ·exact ⟨Nat.zero_le _, rfl⟩
  ·exact ⟨rfl, trivial⟩
  ·exact List.Perm.refl _
  ·intro k hinv
   obtain ⟨hk, hg⟩ := hinv
   refine hw_reg ?_
   refine dp rfl (pop_lss rfl rfl) ?_
   refine dn ?_
   refine hw_seq ?_
   refine hw_cond rfl (fun h3 => ?_) (fun h4 => ?_)
   ·try simp at h3
    obtain ⟨y, hy⟩ : ∃ y, l[k]? = some y := ⟨_, List.getElem?_eq_getElem h3⟩
    have hdy := drop_cons hy
    rw [hdy] at hg
    refine hw_skip ?_
    refine seqQ_n ?_
    refine hw_seq ?_
    refine hw_block ?_
    refine hw_reg ?_
    refine dp rfl (pop_move rfl) ?_
    refine dp rfl (pop_idx ty30 ty47 rfl rfl rfl (by first | assumption | simp_all)) ?_
    refine dp rfl (pop_loadw ty47 rfl rfl rfl rfl) ?_
    refine de rfl (eop_alloc ty47 rfl fun b6 => ?_)
    refine dp rfl (pop_assign rfl) ?_
    refine de0 (eop_storew ty47 rfl rfl rfl rfl rfl ?_)
    refine dn ?_
    refine hw_ghost (Ghost.fc0 6 rfl) ?_
    refine hw_reg ?_
    refine dp rfl (pop_fieldAddr ty47 rfl ty44 (by decide) rfl) ?_
    refine dp rfl (pop_eq (h' := .agg [.int .i64 y.From, .int .i64 y.To]) (pop_loada ty44 rfl rfl (Nat.le_of_ble_eq_true rfl)) rfl) ?_
    refine de rfl (eop_alloc ty44 rfl fun b7 => ?_)
    refine de0 (eop_storew ty44 rfl rfl rfl rfl rfl ?_)
    refine dn ?_
    refine hw_ghost (Ghost.fc0 7 rfl) ?_
    refine hw_seq ?_
    refine hw_block ?_
    refine hw_reg ?_
    refine dp rfl (pop_fieldAddr ty47 rfl ty9 (by decide) rfl) ?_
    refine dp rfl (pop_load ty9 rfl rfl rfl) ?_
    refine dp rfl (pop_call ca37 rfl (WeakL.refl _) (c_benchref1_Key (hx y (List.mem_of_getElem? hy)).1)) ?_
    refine dp rfl (pop_not rfl) ?_
    refine dp rfl (pop_assign rfl) ?_
    refine dn ?_
    refine hw_cond rfl (fun h5 => ?_) (fun h6 => ?_)
    ·try simp at h5
     refine hw_reg ?_
     refine dp rfl (pop_assign rfl) ?_
     refine dn ?_
     refine hw_ret ?_
     refine ret_p rfl ?_
     show HVal.int .i64 _ = _
     first
     | (exact congrArg _ (deal_big (by omega)))
     | (exact congrArg _ (deal_end (by omega) hg))
     | (refine congrArg _ (deal_bad (by omega) hg (by decide) ?_)
        rw [dealF]; simp_all
        done)
     | (refine congrArg _ (deal_bad (by omega) hg ?_ ?_)
        ·simp_all
        ·rw [dealF]; simp_all
        done)
     | (refine congrArg _ (deal_ord (by omega) hg ?_ ?_ ?_)
        ·rw [dealF]; simp_all
        ·simp_all
        ·simp_all)
    ·try simp at h6
     refine hw_reg ?_
     refine dp rfl (pop_loadw ty28 rfl rfl rfl rfl) ?_
     refine dp rfl (pop_fieldAddr ty47 rfl ty9 (by decide) rfl) ?_
     refine dp rfl (pop_load ty9 rfl rfl rfl) ?_
     refine dp rfl (pop_call ca43 rfl (WeakL.refl _) (c_benchref1_hasTeam (by first | assumption | omega | (simp; omega) | simp_all))) ?_
     refine dp rfl (pop_not rfl) ?_
     refine dp rfl (pop_assign rfl) ?_
     refine dn ?_
     refine hw_cond rfl (fun h7 => ?_) (fun h8 => ?_)
     ·try simp at h7
      refine hw_reg ?_
      refine dp rfl (pop_assign rfl) ?_
      refine dn ?_
      refine hw_ret ?_
      refine ret_p rfl ?_
      show HVal.int .i64 _ = _
      first
      | (exact congrArg _ (deal_big (by omega)))
      | (exact congrArg _ (deal_end (by omega) hg))
      | (refine congrArg _ (deal_bad (by omega) hg (by decide) ?_)
         rw [dealF]; simp_all
         done)
      | (refine congrArg _ (deal_bad (by omega) hg ?_ ?_)
         ·simp_all
         ·rw [dealF]; simp_all
         done)
      | (refine congrArg _ (deal_ord (by omega) hg ?_ ?_ ?_)
         ·rw [dealF]; simp_all
         ·simp_all
         ·simp_all)
     ·try simp at h8
      refine hw_reg ?_
      refine dp rfl (pop_fieldAddr ty44 rfl ty3 (by decide) rfl) ?_
      refine dp rfl (pop_load ty3 rfl rfl rfl) ?_
      refine dp rfl (pop_lss rfl rfl) ?_
      refine dp rfl (pop_move rfl) ?_
      refine dg rfl rfl (fun hc => ⟨_, OpenTo.refl _, pop_fieldAddr ty44 rfl ty3 (by decide) rfl⟩) ?_
      refine dg rfl rfl (fun hc => ⟨_, OpenTo.upd (t := 37) rfl (by first | exact hc | simp_all) (OpenTo.refl _), pop_load ty3 rfl rfl rfl⟩) ?_
      refine dg rfl rfl (fun hc => ⟨_, OpenTo.refl _, pop_fieldAddr ty44 rfl ty3 (by decide) rfl⟩) ?_
      refine dg rfl rfl (fun hc => ⟨_, OpenTo.upd (t := 39) rfl (by first | exact hc | simp_all) (OpenTo.refl _), pop_load ty3 rfl rfl rfl⟩) ?_
      refine dg rfl rfl (fun hc => ⟨_, OpenTo.upd (t := 40) rfl (by first | exact hc | simp_all) (OpenTo.upd (t := 38) rfl (by first | exact hc | simp_all) (OpenTo.refl _)), pop_geq rfl rfl⟩) ?_
      refine dp rfl (pop_picko rfl (.inl rfl) (.inr ⟨_, rfl, fun h => by simp_all⟩)) ?_
      refine dp rfl (pop_move rfl) ?_
      refine dg rfl rfl (fun hc => ⟨_, OpenTo.refl _, pop_fieldAddr ty44 rfl ty3 (by decide) rfl⟩) ?_
      refine dg rfl rfl (fun hc => ⟨_, OpenTo.upd (t := 44) rfl (by first | exact hc | simp_all) (OpenTo.refl _), pop_load ty3 rfl rfl rfl⟩) ?_
      refine dg rfl rfl (fun hc => ⟨_, OpenTo.upd (t := 45) rfl (by first | exact hc | simp_all) (OpenTo.refl _), pop_gtr rfl rfl⟩) ?_
      refine dp rfl (pop_picko rfl (.inl rfl) (.inr ⟨_, rfl, fun h => by simp_all⟩)) ?_
      refine dp rfl (pop_assign rfl) ?_
      refine dn ?_
      refine hw_cond rfl (fun h9 => ?_) (fun h10 => ?_)
      ·try simp at h9
       have hw := window_t h9
       refine hw_reg ?_
       refine dp rfl (pop_assign rfl) ?_
       refine dn ?_
       refine hw_ret ?_
       refine ret_p rfl ?_
       show HVal.int .i64 _ = _
       first
       | (exact congrArg _ (deal_big (by omega)))
       | (exact congrArg _ (deal_end (by omega) hg))
       | (refine congrArg _ (deal_bad (by omega) hg (by decide) ?_)
          rw [dealF]; simp_all
          done)
       | (refine congrArg _ (deal_bad (by omega) hg ?_ ?_)
          ·simp_all
          ·rw [dealF]; simp_all
          done)
       | (refine congrArg _ (deal_ord (by omega) hg ?_ ?_ ?_)
          ·rw [dealF]; simp_all
          ·simp_all
          ·simp_all)
      ·try simp at h10
       refine hw_skip ?_
       refine blockQ_n ?_
       refine seqQ_n ?_
       refine hw_seq ?_
       obtain ⟨hw1, hw2⟩ := window_f h10
       refine hw_reg ?_
       refine dp rfl (pop_loadw ty28 rfl rfl rfl rfl) ?_
       refine dp rfl (pop_fieldAddr ty47 rfl ty45 (by decide) rfl) ?_
       refine dp rfl (pop_load ty45 rfl rfl rfl) ?_
       refine dp rfl (pop_call ca44 rfl (WeakL.refl _) (c_benchref1_givesFault (l := y.Gives) ht (hx y (List.mem_of_getElem? hy)).2.1 (hx y (List.mem_of_getElem? hy)).2.2)) ?_
       refine dp rfl (pop_assign rfl) ?_
       refine dn ?_
       refine hw_reg ?_
       refine dp rfl (pop_move rfl) ?_
       refine dp rfl (pop_neq rfl rfl) ?_
       refine dn ?_
       refine hw_cond rfl (fun h11 => ?_) (fun h12 => ?_)
       ·try simp at h11
        refine hw_reg ?_
        refine dp rfl (pop_move rfl) ?_
        refine dp rfl (pop_assign rfl) ?_
        refine dn ?_
        refine hw_ret ?_
        refine ret_p rfl ?_
        show HVal.int .i64 _ = _
        first
        | (exact congrArg _ (deal_big (by omega)))
        | (exact congrArg _ (deal_end (by omega) hg))
        | (refine congrArg _ (deal_bad (by omega) hg (by decide) ?_)
           rw [dealF]; simp_all
           done)
        | (refine congrArg _ (deal_bad (by omega) hg ?_ ?_)
           ·simp_all
           ·rw [dealF]; simp_all
           done)
        | (refine congrArg _ (deal_ord (by omega) hg ?_ ?_ ?_)
           ·rw [dealF]; simp_all
           ·simp_all
           ·simp_all)
       ·try simp at h12
        refine hw_skip ?_
        refine seqQ_n ?_
        refine hw_block ?_
        obtain ⟨hgo1, hgo2, _⟩ := givesE_ok (m := m) (l := y.Gives) (by simp_all)
        refine hw_draw (fun _ => True) [] mixed ?_
        refine ahp 0 rfl rfl (by kernel_rfl) (by kernel_rfl) (pop_loadw ty47 rfl rfl rfl rfl) ?_
        refine ahp 1 rfl rfl (by kernel_rfl) (by kernel_rfl) (pop_call ca46 rfl (WeakL.refl _) (c_benchref1_concerned (by first | assumption | omega | (simp; omega) | simp_all))) ?_
        refine ahp 2 rfl rfl (by kernel_rfl) (by kernel_rfl) (pop_fieldAddr ty47 rfl ty9 (by decide) rfl) ?_
        refine ahp 3 rfl rfl (by kernel_rfl) (by kernel_rfl) (pop_load ty9 rfl rfl rfl) ?_
        refine ahp 4 rfl rfl (by kernel_rfl) (by kernel_rfl) (pop_call ca45 rfl (WeakL.refl _) (c_slices_Contains_string_string (l := concL y.Gives) (s := y.By) (by have := concL_len y.Gives; omega))) ?_
        refine ahp 5 rfl rfl (by kernel_rfl) (by kernel_rfl) (pop_not rfl) ?_
        refine ahp 6 rfl rfl (by kernel_rfl) (by kernel_rfl) (pop_assign rfl) ?_
        refine ahz (by kernel_rfl) ?_
        refine hw_cond rfl (fun h13 => ?_) (fun h14 => ?_)
        ·try simp at h13
         refine hw_reg ?_
         refine dp rfl (pop_assign rfl) ?_
         refine dn ?_
         refine hw_ret ?_
         refine ret_p rfl ?_
         show HVal.int .i64 _ = _
         first
         | (exact congrArg _ (deal_big (by omega)))
         | (exact congrArg _ (deal_end (by omega) hg))
         | (refine congrArg _ (deal_bad (by omega) hg (by decide) ?_)
            rw [dealF]; simp_all
            done)
         | (refine congrArg _ (deal_bad (by omega) hg ?_ ?_)
            ·simp_all
            ·rw [dealF]; simp_all
            done)
         | (refine congrArg _ (deal_ord (by omega) hg ?_ ?_ ?_)
            ·rw [dealF]; simp_all
            ·simp_all
            ·simp_all)
        ·try simp at h14
         refine hw_draw (fun _ => True) [] mixed ?_
         refine ahp 0 rfl rfl (by kernel_rfl) (by kernel_rfl) (pop_move rfl) ?_
         refine ahp 1 rfl rfl (by kernel_rfl) (by kernel_rfl) (pop_gtr rfl rfl) ?_
         refine ahp 2 rfl rfl (by kernel_rfl) (by kernel_rfl) (pop_move rfl) ?_
         refine ahg 3 rfl rfl (by kernel_rfl) (by kernel_rfl) rfl (fun hc => ⟨_, OpenTo.refl _, pop_fieldAddr ty47 rfl ty9 (by decide) rfl⟩) ?_
         refine ahg 4 rfl rfl (by kernel_rfl) (by kernel_rfl) rfl (fun hc => ⟨_, OpenTo.upd (t := 66) rfl (by first | exact hc | simp_all) (OpenTo.refl _), pop_load ty9 rfl rfl rfl⟩) ?_
         refine ahg 5 rfl rfl (by kernel_rfl) (by kernel_rfl) rfl (fun hc => ⟨_, OpenTo.refl _, pop_move rfl⟩) ?_
         refine ahg 6 rfl rfl (by kernel_rfl) (by kernel_rfl) rfl (fun hc => ⟨_, OpenTo.refl _, pop_move rfl⟩) ?_
         refine ahg 7 rfl rfl (by kernel_rfl) (by kernel_rfl) rfl (fun hc => by have hq := hc; (try simp at hq); exact ⟨_, OpenTo.upd (t := 69) rfl (by first | exact hc | simp_all) (OpenTo.refl _), pop_sub64 rfl rfl (by omega) (by omega)⟩) ?_
         refine ahg 8 rfl rfl (by kernel_rfl) (by kernel_rfl) rfl (fun hc => by have hq := hc; (try simp at hq); exact ⟨_, OpenTo.upd (t := 70) rfl (by first | exact hc | simp_all) (OpenTo.upd (t := 68) rfl (by first | exact hc | simp_all) (OpenTo.refl _)), pop_idx (j := k - 1) (a := l.getD (k - 1) deal0) ty30 ty47 rfl rfl (by omega) (getD_some (by omega))⟩) ?_
         refine ahg 9 rfl rfl (by kernel_rfl) (by kernel_rfl) rfl (fun hc => ⟨_, OpenTo.upd (t := 71) rfl (by first | exact hc | simp_all) (OpenTo.refl _), pop_fieldAddr ty47 rfl ty9 (by decide) rfl⟩) ?_
         refine ahg 10 rfl rfl (by kernel_rfl) (by kernel_rfl) rfl (fun hc => ⟨_, OpenTo.upd (t := 72) rfl (by first | exact hc | simp_all) (OpenTo.refl _), pop_load ty9 rfl rfl rfl⟩) ?_
         refine ahg 11 rfl rfl (by kernel_rfl) (by kernel_rfl) rfl (fun hc => ⟨_, OpenTo.upd (t := 73) rfl (by first | exact hc | simp_all) (OpenTo.upd (t := 67) rfl (by first | exact hc | simp_all) (OpenTo.refl _)), pop_leqs rfl rfl⟩) ?_
         refine ahp 12 rfl rfl (by kernel_rfl) (by kernel_rfl) (pop_picko rfl (.inr ⟨_, rfl, fun h => by simp_all⟩) (.inl rfl)) ?_
         refine ahp 13 rfl rfl (by kernel_rfl) (by kernel_rfl) (pop_assign rfl) ?_
         refine ahz (by kernel_rfl) ?_
         refine hw_cond rfl (fun h15 => ?_) (fun h16 => ?_)
         ·try simp at h15
          refine hw_reg ?_
          refine dp rfl (pop_assign rfl) ?_
          refine dn ?_
          refine hw_ret ?_
          refine ret_p rfl ?_
          show HVal.int .i64 _ = _
          first
          | (exact congrArg _ (deal_big (by omega)))
          | (exact congrArg _ (deal_end (by omega) hg))
          | (refine congrArg _ (deal_bad (by omega) hg (by decide) ?_)
             rw [dealF]; simp_all
             done)
          | (refine congrArg _ (deal_bad (by omega) hg ?_ ?_)
             ·simp_all
             ·rw [dealF]; simp_all
             done)
          | (refine congrArg _ (deal_ord (by omega) hg ?_ ?_ ?_)
             ·rw [dealF]; simp_all
             ·simp_all
             ·simp_all)
         ·try simp at h16
          refine hw_skip ?_
          refine blockQ_n ?_
          refine blockQ_n ?_
          refine seqQ_n ?_
          refine hw_reg1 ?_
          refine dp rfl (pop_add64 rfl rfl (by omega) (by omega)) ?_
          refine dp rfl (pop_move rfl) ?_
          refine dn ?_
          refine ⟨k + 1, ?_, ?_, ⟨rfl, trivial⟩, (by repeat (first | exact keeps_refl | refine keeps_upd rfl ?_ | refine keeps_loop rfl rfl ?_)), List.Perm.refl _⟩
          ·refine ⟨by omega, ?_⟩
           rw [hg, deal_next ?_ (by intro hk0; simp_all)]
           rw [dealF]; simp_all
          ·dsimp only; omega
   ·try simp at h4
    have hnk : l.length ≤ k := by omega
    obtain rfl : k = l.length := by omega
    rw [drop_all (Nat.le_refl _)] at hg
    refine hw_exit ?_
    refine seqQ_x ?_
    refine loopQ_x ?_
    refine blockQ_eq ?_
    refine seqQ_n ?_
    refine hw_reg ?_
    refine dp rfl (pop_assign rfl) ?_
    refine dn ?_
    refine hw_ret ?_
    refine ret_p rfl ?_
    show HVal.int .i64 _ = _
    first
    | (exact congrArg _ (deal_big (by omega)))
    | (exact congrArg _ (deal_end (by omega) hg))
    | (refine congrArg _ (deal_bad (by omega) hg (by decide) ?_)
       rw [dealF]; simp_all
       done)
    | (refine congrArg _ (deal_bad (by omega) hg ?_ ?_)
       ·simp_all
       ·rw [dealF]; simp_all
       done)
    | (refine congrArg _ (deal_ord (by omega) hg ?_ ?_ ?_)
       ·rw [dealF]; simp_all
       ·simp_all
       ·simp_all)

/-- benchwarmer/benchref1.byAnswer -/
theorem c_benchref1_byAnswer [Tracks] {a b : ReplyS}  : ConP Tryz.prog 105 [eReply a, eReply b] (.int .i64 (byRep a b)) := by
 refine Con.of_body Tryz.func105 rfl Tryz.ntmps105 rfl rfl ?_
 refine hw_reg ?_
 refine dp rfl (pop_box rfl rfl) ?_
 refine dp rfl (pop_box rfl rfl) ?_
 refine dp rfl (pop_assign rfl) ?_
 refine dn ?_
 refine hw_draw (fun _ => True) [] mixed ?_
 refine ahp 0 rfl rfl (by kernel_rfl) (by kernel_rfl) (pop_fieldAddr ty164 rfl ty3 (by decide) rfl) ?_
 refine ahp 1 rfl rfl (by kernel_rfl) (by kernel_rfl) (pop_load ty3 rfl rfl rfl) ?_
 refine ahp 2 rfl rfl (by kernel_rfl) (by kernel_rfl) (pop_fieldAddr ty164 rfl ty3 (by decide) rfl) ?_
 refine ahp 3 rfl rfl (by kernel_rfl) (by kernel_rfl) (pop_load ty3 rfl rfl rfl) ?_
 refine ahp 4 rfl rfl (by kernel_rfl) (by kernel_rfl) (pop_call ca144 rfl (WeakL.refl _) c_cmp_Compare_int) ?_
 refine ahp 5 rfl rfl (by kernel_rfl) (by kernel_rfl) (pop_fieldAddr ty164 rfl ty9 (by decide) rfl) ?_
 refine ahp 6 rfl rfl (by kernel_rfl) (by kernel_rfl) (pop_load ty9 rfl rfl rfl) ?_
 refine ahp 7 rfl rfl (by kernel_rfl) (by kernel_rfl) (pop_fieldAddr ty164 rfl ty9 (by decide) rfl) ?_
 refine ahp 8 rfl rfl (by kernel_rfl) (by kernel_rfl) (pop_load ty9 rfl rfl rfl) ?_
 refine ahp 9 rfl rfl (by kernel_rfl) (by kernel_rfl) (pop_call ca32 rfl (WeakL.refl _) c_strings_Compare) ?_
 refine ahp 10 rfl rfl (by kernel_rfl) (by kernel_rfl) (pop_fieldAddr ty164 rfl ty9 (by decide) rfl) ?_
 refine ahp 11 rfl rfl (by kernel_rfl) (by kernel_rfl) (pop_load ty9 rfl rfl rfl) ?_
 refine ahp 12 rfl rfl (by kernel_rfl) (by kernel_rfl) (pop_fieldAddr ty164 rfl ty9 (by decide) rfl) ?_
 refine ahp 13 rfl rfl (by kernel_rfl) (by kernel_rfl) (pop_load ty9 rfl rfl rfl) ?_
 refine ahp 14 rfl rfl (by kernel_rfl) (by kernel_rfl) (pop_call ca32 rfl (WeakL.refl _) c_strings_Compare) ?_
 refine ahp 15 rfl rfl (by kernel_rfl) (by kernel_rfl) (pop_buildSlice (hs := [_, _, _]) ty22 ty3 rfl rfl (by decide) (by decide) rfl) ?_
 refine ahp 16 rfl rfl (by kernel_rfl) (by kernel_rfl) (pop_call ca143 rfl (WeakL.refl _) (c_cmp_Or_int (l := [_, _, _]) (by simp))) ?_
 refine ahp 17 rfl rfl (by kernel_rfl) (by kernel_rfl) (pop_assign rfl) ?_
 refine ahz (by kernel_rfl) ?_
 refine hw_ret ?_
 refine ret_p rfl ?_
 rfl

/-- benchwarmer/benchref1.AnswersFault -/
theorem c_benchref1_AnswersFault [Tracks] {m : MarketS} {l : List ReplyS} (ht : m.Teams.length ≤ 1000000) (hl : l.length ≤ 1000000) (hs : ∀ x ∈ l, x.Offer.length ≤ 1000000) : ConP Tryz.prog 61 [eMarket m, eReplies l] (.int .i64 (repsR m l)) := by
 refine Con.of_body Tryz.func61 rfl Tryz.ntmps61 rfl rfl ?_
 refine hw_reg ?_
 refine dp rfl (pop_box rfl rfl) ?_
 refine dp rfl (pop_assign rfl) ?_
 refine dn ?_
 refine hw_seq ?_
 refine hw_reg ?_
 refine dp rfl (pop_move rfl) ?_
 refine dp rfl (pop_lenm ty125 rfl) ?_
 refine dp rfl (pop_gtr rfl rfl) ?_
 refine dn ?_
 refine hw_cond rfl (fun h1 => ?_) (fun h2 => ?_)
 ·try simp at h1
  refine hw_reg ?_
  refine dp rfl (pop_assign rfl) ?_
  refine dn ?_
  refine hw_ret ?_
  refine ret_p rfl ?_
  show HVal.int .i64 _ = _
  first
  | (exact congrArg _ (rep_big (by omega)))
  | (exact congrArg _ (rep_end (by omega) hg))
  | (refine congrArg _ (rep_bad (e := 5) (by omega) hg (by decide) ?_)
     rw [repF, if_pos]
     simp_all
     done)
  | (refine congrArg _ (rep_bad (e := 8) (by omega) hg (by decide) ?_)
     rw [repF, if_neg, if_pos]
     all_goals simp_all
     done)
  | (refine congrArg _ (rep_bad (e := 1) (by omega) hg (by decide) ?_)
     rw [repF, if_neg, if_neg, if_pos]
     all_goals simp_all
     done)
  | (refine congrArg _ (rep_bad (e := 4) (by omega) hg (by decide) ?_)
     rw [repF, if_neg, if_neg, if_neg, if_pos]
     all_goals simp_all
     done)
  | (refine congrArg _ (rep_ord (by omega) hg ?_ ?_ ?_)
     ·rw [repF, if_neg, if_neg, if_neg, if_neg] <;> simp_all
     ·simp_all
     ·rw [← rep_ge]; simp_all)
 ·try simp at h2
  refine hw_skip ?_
  refine seqQ_n ?_
  refine hw_seq ?_
  refine hw_reg ?_
  refine dp rfl (pop_move rfl) ?_
  refine dp rfl (pop_lenm ty125 rfl) ?_
  refine dp rfl (pop_move rfl) ?_
  refine dn ?_
  refine hw_block ?_
  refine hw_loopw [4, 5, 6, 12, 13, 14, 15, 16, 17, 18, 19, 20, 21, 22, 23, 24, 25, 26, 27, 28, 29, 30, 31, 32, 33, 34, 35, 36, 37, 38, 39, 40, 41, 42, 43, 44, 45, 46, 47, 48, 49, 50, 51] (fun (k : Nat) => [(12, .int .i64 k)]) (fun (k : Nat) => []) (fun (k : Nat) => k ≤ l.length ∧ (chkGo (repF m) byRep reply0 l 0 l = chkGo (repF m) byRep reply0 l k (l.drop k))) (fun (k : Nat) => l.length - k) (0) ?_ ?_ ?_ ?_
  ·exact ⟨Nat.zero_le _, rfl⟩
  ·exact ⟨rfl, trivial⟩
  ·exact List.Perm.refl _
  ·intro k hinv
   obtain ⟨hk, hg⟩ := hinv
   refine hw_reg ?_
   refine dp rfl (pop_lss rfl rfl) ?_
   refine dn ?_
   refine hw_seq ?_
   refine hw_cond rfl (fun h3 => ?_) (fun h4 => ?_)
   ·try simp at h3
    obtain ⟨x, hx⟩ : ∃ x, l[k]? = some x := ⟨_, List.getElem?_eq_getElem h3⟩
    have hdx := drop_cons hx
    rw [hdx] at hg
    refine hw_skip ?_
    refine seqQ_n ?_
    refine hw_seq ?_
    refine hw_block ?_
    refine hw_reg ?_
    refine dp rfl (pop_move rfl) ?_
    refine dp rfl (pop_idx ty125 ty164 rfl rfl rfl (by first | assumption | simp_all)) ?_
    refine dp rfl (pop_loadw ty164 rfl rfl rfl rfl) ?_
    refine de rfl (eop_alloc ty164 rfl fun b6 => ?_)
    refine dp rfl (pop_assign rfl) ?_
    refine de0 (eop_storew ty164 rfl rfl rfl rfl rfl ?_)
    refine dn ?_
    refine hw_ghost (Ghost.fc0 6 rfl) ?_
    refine hw_block ?_
    refine hw_reg ?_
    refine dp rfl (pop_fieldAddr ty164 rfl ty9 (by decide) rfl) ?_
    refine dp rfl (pop_load ty9 rfl rfl rfl) ?_
    refine dp rfl (pop_call ca37 rfl (WeakL.refl _) (c_benchref1_Key (hs x (List.mem_of_getElem? hx)))) ?_
    refine dp rfl (pop_not rfl) ?_
    refine dp rfl (pop_assign rfl) ?_
    refine dn ?_
    refine hw_cond rfl (fun h5 => ?_) (fun h6 => ?_)
    ·try simp at h5
     refine hw_reg ?_
     refine dp rfl (pop_assign rfl) ?_
     refine dn ?_
     refine hw_ret ?_
     refine ret_p rfl ?_
     show HVal.int .i64 _ = _
     first
     | (exact congrArg _ (rep_big (by omega)))
     | (exact congrArg _ (rep_end (by omega) hg))
     | (refine congrArg _ (rep_bad (e := 5) (by omega) hg (by decide) ?_)
        rw [repF, if_pos]
        simp_all
        done)
     | (refine congrArg _ (rep_bad (e := 8) (by omega) hg (by decide) ?_)
        rw [repF, if_neg, if_pos]
        all_goals simp_all
        done)
     | (refine congrArg _ (rep_bad (e := 1) (by omega) hg (by decide) ?_)
        rw [repF, if_neg, if_neg, if_pos]
        all_goals simp_all
        done)
     | (refine congrArg _ (rep_bad (e := 4) (by omega) hg (by decide) ?_)
        rw [repF, if_neg, if_neg, if_neg, if_pos]
        all_goals simp_all
        done)
     | (refine congrArg _ (rep_ord (by omega) hg ?_ ?_ ?_)
        ·rw [repF, if_neg, if_neg, if_neg, if_neg] <;> simp_all
        ·simp_all
        ·rw [← rep_ge]; simp_all)
    ·try simp at h6
     refine hw_reg ?_
     refine dp rfl (pop_loadw ty28 rfl rfl rfl rfl) ?_
     refine dp rfl (pop_fieldAddr ty164 rfl ty9 (by decide) rfl) ?_
     refine dp rfl (pop_load ty9 rfl rfl rfl) ?_
     refine dp rfl (pop_call ca43 rfl (WeakL.refl _) (c_benchref1_hasTeam (by first | assumption | omega | (simp; omega) | simp_all))) ?_
     refine dp rfl (pop_not rfl) ?_
     refine dp rfl (pop_assign rfl) ?_
     refine dn ?_
     refine hw_cond rfl (fun h7 => ?_) (fun h8 => ?_)
     ·try simp at h7
      refine hw_reg ?_
      refine dp rfl (pop_assign rfl) ?_
      refine dn ?_
      refine hw_ret ?_
      refine ret_p rfl ?_
      show HVal.int .i64 _ = _
      first
      | (exact congrArg _ (rep_big (by omega)))
      | (exact congrArg _ (rep_end (by omega) hg))
      | (refine congrArg _ (rep_bad (e := 5) (by omega) hg (by decide) ?_)
         rw [repF, if_pos]
         simp_all
         done)
      | (refine congrArg _ (rep_bad (e := 8) (by omega) hg (by decide) ?_)
         rw [repF, if_neg, if_pos]
         all_goals simp_all
         done)
      | (refine congrArg _ (rep_bad (e := 1) (by omega) hg (by decide) ?_)
         rw [repF, if_neg, if_neg, if_pos]
         all_goals simp_all
         done)
      | (refine congrArg _ (rep_bad (e := 4) (by omega) hg (by decide) ?_)
         rw [repF, if_neg, if_neg, if_neg, if_pos]
         all_goals simp_all
         done)
      | (refine congrArg _ (rep_ord (by omega) hg ?_ ?_ ?_)
         ·rw [repF, if_neg, if_neg, if_neg, if_neg] <;> simp_all
         ·simp_all
         ·rw [← rep_ge]; simp_all)
     ·try simp at h8
      refine hw_reg ?_
      refine dp rfl (pop_fieldAddr ty164 rfl ty3 (by decide) rfl) ?_
      refine dp rfl (pop_load ty3 rfl rfl rfl) ?_
      refine dp rfl (pop_call ca104 rfl (WeakL.refl _) c_benchref1_MomentFault) ?_
      refine dp rfl (pop_neq rfl rfl) ?_
      refine dp rfl (pop_assign rfl) ?_
      refine dn ?_
      refine hw_cond rfl (fun h9 => ?_) (fun h10 => ?_)
      ·try simp at h9
       refine hw_reg ?_
       refine dp rfl (pop_assign rfl) ?_
       refine dn ?_
       refine hw_ret ?_
       refine ret_p rfl ?_
       show HVal.int .i64 _ = _
       first
       | (exact congrArg _ (rep_big (by omega)))
       | (exact congrArg _ (rep_end (by omega) hg))
       | (refine congrArg _ (rep_bad (e := 5) (by omega) hg (by decide) ?_)
          rw [repF, if_pos]
          simp_all
          done)
       | (refine congrArg _ (rep_bad (e := 8) (by omega) hg (by decide) ?_)
          rw [repF, if_neg, if_pos]
          all_goals simp_all
          done)
       | (refine congrArg _ (rep_bad (e := 1) (by omega) hg (by decide) ?_)
          rw [repF, if_neg, if_neg, if_pos]
          all_goals simp_all
          done)
       | (refine congrArg _ (rep_bad (e := 4) (by omega) hg (by decide) ?_)
          rw [repF, if_neg, if_neg, if_neg, if_pos]
          all_goals simp_all
          done)
       | (refine congrArg _ (rep_ord (by omega) hg ?_ ?_ ?_)
          ·rw [repF, if_neg, if_neg, if_neg, if_neg] <;> simp_all
          ·simp_all
          ·rw [← rep_ge]; simp_all)
      ·try simp at h10
       refine hw_reg ?_
       refine dp rfl (pop_fieldAddr ty164 rfl ty3 (by decide) rfl) ?_
       refine dp rfl (pop_load ty3 rfl rfl rfl) ?_
       refine dp rfl (pop_call ca38 rfl (WeakL.refl _) c_benchref1_in) ?_
       refine dp rfl (pop_not rfl) ?_
       refine dp rfl (pop_assign rfl) ?_
       refine dn ?_
       refine hw_cond rfl (fun h11 => ?_) (fun h12 => ?_)
       ·try simp at h11
        refine hw_reg ?_
        refine dp rfl (pop_assign rfl) ?_
        refine dn ?_
        refine hw_ret ?_
        refine ret_p rfl ?_
        show HVal.int .i64 _ = _
        first
        | (exact congrArg _ (rep_big (by omega)))
        | (exact congrArg _ (rep_end (by omega) hg))
        | (refine congrArg _ (rep_bad (e := 5) (by omega) hg (by decide) ?_)
           rw [repF, if_pos]
           simp_all
           done)
        | (refine congrArg _ (rep_bad (e := 8) (by omega) hg (by decide) ?_)
           rw [repF, if_neg, if_pos]
           all_goals simp_all
           done)
        | (refine congrArg _ (rep_bad (e := 1) (by omega) hg (by decide) ?_)
           rw [repF, if_neg, if_neg, if_pos]
           all_goals simp_all
           done)
        | (refine congrArg _ (rep_bad (e := 4) (by omega) hg (by decide) ?_)
           rw [repF, if_neg, if_neg, if_neg, if_pos]
           all_goals simp_all
           done)
        | (refine congrArg _ (rep_ord (by omega) hg ?_ ?_ ?_)
           ·rw [repF, if_neg, if_neg, if_neg, if_neg] <;> simp_all
           ·simp_all
           ·rw [← rep_ge]; simp_all)
       ·try simp at h12
        refine hw_draw (fun _ => True) [] mixed ?_
        refine ahp 0 rfl rfl (by kernel_rfl) (by kernel_rfl) (pop_move rfl) ?_
        refine ahp 1 rfl rfl (by kernel_rfl) (by kernel_rfl) (pop_gtr rfl rfl) ?_
        refine ahp 2 rfl rfl (by kernel_rfl) (by kernel_rfl) (pop_move rfl) ?_
        refine ahg 3 rfl rfl (by kernel_rfl) (by kernel_rfl) rfl (fun hc => ⟨_, OpenTo.refl _, pop_move rfl⟩) ?_
        refine ahg 4 rfl rfl (by kernel_rfl) (by kernel_rfl) rfl (fun hc => ⟨_, OpenTo.refl _, pop_move rfl⟩) ?_
        refine ahg 5 rfl rfl (by kernel_rfl) (by kernel_rfl) rfl (fun hc => by have hq := hc; (try simp at hq); exact ⟨_, OpenTo.upd (t := 43) rfl (by first | exact hc | simp_all) (OpenTo.refl _), pop_sub64 rfl rfl (by omega) (by omega)⟩) ?_
        refine ahg 6 rfl rfl (by kernel_rfl) (by kernel_rfl) rfl (fun hc => by have hq := hc; (try simp at hq); exact ⟨_, OpenTo.upd (t := 44) rfl (by first | exact hc | simp_all) (OpenTo.upd (t := 42) rfl (by first | exact hc | simp_all) (OpenTo.refl _)), pop_idx (j := k - 1) (a := l.getD (k - 1) reply0) ty125 ty164 rfl rfl (by omega) (getD_some (by omega))⟩) ?_
        refine ahg 7 rfl rfl (by kernel_rfl) (by kernel_rfl) rfl (fun hc => ⟨_, OpenTo.upd (t := 45) rfl (by first | exact hc | simp_all) (OpenTo.refl _), pop_loadw ty164 rfl rfl rfl rfl⟩) ?_
        refine ahg 8 rfl rfl (by kernel_rfl) (by kernel_rfl) rfl (fun hc => ⟨_, OpenTo.refl _, pop_loadw ty164 rfl rfl rfl rfl⟩) ?_
        refine ahg 9 rfl rfl (by kernel_rfl) (by kernel_rfl) rfl (fun hc => ⟨_, OpenTo.upd (t := 47) rfl (by first | exact hc | simp_all) (OpenTo.upd (t := 46) rfl (by first | exact hc | simp_all) (OpenTo.refl _)), pop_call ca105 rfl (WeakL.refl _) c_benchref1_byAnswer⟩) ?_
        refine ahg 10 rfl rfl (by kernel_rfl) (by kernel_rfl) rfl (fun hc => ⟨_, OpenTo.upd (t := 48) rfl (by first | exact hc | simp_all) (OpenTo.refl _), pop_geq rfl rfl⟩) ?_
        refine ahp 11 rfl rfl (by kernel_rfl) (by kernel_rfl) (pop_picko rfl (.inr ⟨_, rfl, fun h => by simp_all⟩) (.inl rfl)) ?_
        refine ahp 12 rfl rfl (by kernel_rfl) (by kernel_rfl) (pop_assign rfl) ?_
        refine ahz (by kernel_rfl) ?_
        refine hw_cond rfl (fun h13 => ?_) (fun h14 => ?_)
        ·try simp at h13
         refine hw_reg ?_
         refine dp rfl (pop_assign rfl) ?_
         refine dn ?_
         refine hw_ret ?_
         refine ret_p rfl ?_
         show HVal.int .i64 _ = _
         first
         | (exact congrArg _ (rep_big (by omega)))
         | (exact congrArg _ (rep_end (by omega) hg))
         | (refine congrArg _ (rep_bad (e := 5) (by omega) hg (by decide) ?_)
            rw [repF, if_pos]
            simp_all
            done)
         | (refine congrArg _ (rep_bad (e := 8) (by omega) hg (by decide) ?_)
            rw [repF, if_neg, if_pos]
            all_goals simp_all
            done)
         | (refine congrArg _ (rep_bad (e := 1) (by omega) hg (by decide) ?_)
            rw [repF, if_neg, if_neg, if_pos]
            all_goals simp_all
            done)
         | (refine congrArg _ (rep_bad (e := 4) (by omega) hg (by decide) ?_)
            rw [repF, if_neg, if_neg, if_neg, if_pos]
            all_goals simp_all
            done)
         | (refine congrArg _ (rep_ord (by omega) hg ?_ ?_ ?_)
            ·rw [repF, if_neg, if_neg, if_neg, if_neg] <;> simp_all
            ·simp_all
            ·rw [← rep_ge]; simp_all)
        ·try simp at h14
         refine hw_skip ?_
         refine blockQ_n ?_
         refine blockQ_n ?_
         refine seqQ_n ?_
         refine hw_reg1 ?_
         refine dp rfl (pop_add64 rfl rfl (by omega) (by omega)) ?_
         refine dp rfl (pop_move rfl) ?_
         refine dn ?_
         refine ⟨k + 1, ?_, ?_, ⟨rfl, trivial⟩, (by repeat (first | exact keeps_refl | refine keeps_upd rfl ?_ | refine keeps_loop rfl rfl ?_)), List.Perm.refl _⟩
         ·refine ⟨by omega, ?_⟩
          rw [hg, rep_next (by rw [repF, if_neg (by simp_all), if_neg (by simp_all), if_neg (by simp_all), if_neg (by simp_all)]) (by intro hk0; rw [← rep_ge]; simp_all)]
         ·dsimp only; omega
   ·try simp at h4
    have hnk : l.length ≤ k := by omega
    obtain rfl : k = l.length := by omega
    rw [drop_all (Nat.le_refl _)] at hg
    refine hw_exit ?_
    refine seqQ_x ?_
    refine loopQ_x ?_
    refine blockQ_eq ?_
    refine seqQ_n ?_
    refine hw_reg ?_
    refine dp rfl (pop_assign rfl) ?_
    refine dn ?_
    refine hw_ret ?_
    refine ret_p rfl ?_
    show HVal.int .i64 _ = _
    first
    | (exact congrArg _ (rep_big (by omega)))
    | (exact congrArg _ (rep_end (by omega) hg))
    | (refine congrArg _ (rep_bad (e := 5) (by omega) hg (by decide) ?_)
       rw [repF, if_pos]
       simp_all
       done)
    | (refine congrArg _ (rep_bad (e := 8) (by omega) hg (by decide) ?_)
       rw [repF, if_neg, if_pos]
       all_goals simp_all
       done)
    | (refine congrArg _ (rep_bad (e := 1) (by omega) hg (by decide) ?_)
       rw [repF, if_neg, if_neg, if_pos]
       all_goals simp_all
       done)
    | (refine congrArg _ (rep_bad (e := 4) (by omega) hg (by decide) ?_)
       rw [repF, if_neg, if_neg, if_neg, if_pos]
       all_goals simp_all
       done)
    | (refine congrArg _ (rep_ord (by omega) hg ?_ ?_ ?_)
       ·rw [repF, if_neg, if_neg, if_neg, if_neg] <;> simp_all
       ·simp_all
       ·rw [← rep_ge]; simp_all)
end Go.Proofs.YtdjpppifnmjhoaaGreatDoor
end
