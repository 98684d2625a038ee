/- The statement is proved: the card of the law, out of its function's contract; no conditions. -/
import Derived.Test.YtcnfhcicepmjcaaGreatDoorPBudgetsAreEnough4
import Derived.LaidMore
import Derived.Lay
import Derived.Lib.AtoiBound
import Derived.Lib.ItoaMem
import Derived.OpenShut
import Derived.ProofKit
import Derived.SevenTiedAt
import Derived.Stop.Joined
import Derived.Test.YtcnfhcicepmjcaaGreatDoorCards
import Derived.Test.YtcnfhcicepmjcaaGreatDoorTie
set_option linter.unusedVariables false
set_option linter.unusedSimpArgs false
section
namespace Go.HL
def mA (h : Hall) (l : List Sale) (t : Str) : Int := if mostE h l t != 0 then 0 else mostOf h l t
def mL (h : Hall) (l : List Sale) : List PairS := if salesE h l != 0 then [] else moneyL h l
def sS (h : Hall) (l : List Sale) (p : Str) (lim : List PairS) : Sale := if sellE h l p lim != 0 then sale0 else sellS p (sellT h l lim)
def sB (h : Hall) (l : List Sale) (p : Str) (lim : List PairS) : Bool := if sellE h l p lim != 0 then false else decide ((sellT h l lim).team ≠ [])
theorem salesE_z {h : Hall} {l : List Sale} (e : hallFault h = 0) : salesFault h l = salesE h l := by simp [salesE, e]
theorem sellE_z {h : Hall} {l : List Sale} {p : Str} {lim : List PairS} (hv : ∀ x ∈ lim, x.Val ∈ vals) (e : salesE h l = 0) : sellR h l p lim = sellE h l p lim := by
 rw [← sell_ref hv, if_neg (by simp [e])]
theorem sellE_ok {h : Hall} {l : List Sale} {p : Str} {lim : List PairS} (e : sellE h l p lim = 0) : salesE h l = 0 ∧ limGo h lim 0 lim = 0 := by
 unfold sellE at e
 split at e
 ·rename_i hc; simp [e] at hc
 ·rename_i hc
  refine ⟨by simpa using hc, ?_⟩
  split at e
  ·omega
  ·split at e
   ·omega
   ·unfold limE at e; split at e
    ·omega
    ·exact e
theorem mA_z {h : Hall} {l : List Sale} {t : Str} (e : mostE h l t = 0) : mostOf h l t = mA h l t := by simp [mA, e]
theorem mL_z {h : Hall} {l : List Sale} (e : salesE h l = 0) : moneyL h l = mL h l := by simp [mL, e]
theorem mL_len {h : Hall} {l : List Sale} (ht : h.Teams.length ≤ 1000000) : (mL h l).length ≤ 1000000 := by
 unfold mL; split
 ·simp
 ·simp [moneyL]; exact ht
end Go.HL
end
section
namespace Go.HL
theorem decFrom_app : ∀ (l m : List UInt8) (acc : Nat), Lib.decFrom acc (l ++ m) = (Lib.decFrom acc l).bind fun a => Lib.decFrom a m
 | [], m, acc => rfl
 | b :: l, m, acc => by
   simp only [List.cons_append, Lib.decFrom]
   cases Lib.digitVal b with
   | none => rfl
   | some d => exact decFrom_app l m _
theorem digit_ok : ∀ d, d < 10 → Lib.digitVal (UInt8.ofNat (48 + d)) = some d ∧ dig (UInt8.ofNat (48 + d)) = true ∧ dig10.contains (UInt8.ofNat (48 + d)) = true := by decide
theorem digits_read : ∀ u : Nat, Lib.decFrom 0 (Lib.decDigits u) = some u := fun u => by
 induction u using Nat.strongRecOn with
 | ind u ih =>
   rw [Lib.decDigits]
   by_cases h : u < 10
   ·rw [dif_pos h]
    simp only [Lib.decFrom, (digit_ok u h).1]; simp
   ·rw [dif_neg h, decFrom_app, ih (u / 10) (by omega)]
    simp only [Option.bind_some, Lib.decFrom, (digit_ok (u % 10) (by omega)).1]
    congr 1; omega
theorem digits_mem : ∀ (u : Nat) (c : UInt8), c ∈ Lib.decDigits u → ∃ d, d < 10 ∧ c = UInt8.ofNat (48 + d) := fun u => by
 induction u using Nat.strongRecOn with
 | ind u ih =>
   intro c hc
   rw [Lib.decDigits] at hc
   by_cases h : u < 10
   ·rw [dif_pos h] at hc
    exact ⟨u, h, by simpa using hc⟩
   ·rw [dif_neg h] at hc
    rcases List.mem_append.1 hc with hc | hc
    ·exact ih (u / 10) (by omega) c hc
    ·exact ⟨u % 10, by omega, by simpa using hc⟩
theorem digits_ne (u : Nat) : Lib.decDigits u ≠ [] := by
 rw [Lib.decDigits]; split <;> simp
theorem digits_cons (u : Nat) : ∃ d r, d < 10 ∧ Lib.decDigits u = UInt8.ofNat (48 + d) :: r := by
 cases h : Lib.decDigits u with
 | nil => exact absurd h (digits_ne u)
 | cons c r =>
   obtain ⟨d, hd, e⟩ := digits_mem u c (by rw [h]; exact List.mem_cons_self)
   exact ⟨d, r, hd, by rw [e]⟩
theorem digit_head : ∀ d, d < 10 → (UInt8.ofNat (48 + d) == 45) = false ∧ (UInt8.ofNat (48 + d) == 43) = false ∧ UInt8.ofNat (48 + d) ≠ 45 := by decide
theorem atoi_nat (u : Nat) : Lib.atoi (Lib.decDigits u) = some (u : Int) := by
 obtain ⟨d, r, hd, e⟩ := digits_cons u
 have h := digits_read u
 rw [e] at h ⊢
 simp only [Lib.atoi, (digit_head d hd).1, (digit_head d hd).2.1, Lib.decNat, h]; simp
theorem atoi_itoa (n : Int) : Lib.atoi (Lib.itoa n) = some n := by
 rcases Int.lt_or_le n 0 with h | h
 ·obtain ⟨u, rfl⟩ : ∃ u : Nat, n = -(u : Int) := ⟨n.natAbs, by omega⟩
  rw [Lib.itoa_neg u (by omega)]
  have h2 := digits_read u
  have h3 : (Lib.decDigits u).isEmpty = false := by simpa using digits_ne u
  simp [Lib.atoi, Lib.decNat, h2, h3]
 ·obtain ⟨u, rfl⟩ : ∃ u : Nat, n = (u : Int) := ⟨n.toNat, by omega⟩
  rw [Lib.itoa_nonneg]; exact atoi_nat u
theorem numV_itoa (n : Int) : numV (Lib.itoa n) = n := by unfold numV; rw [atoi_itoa]; rfl
theorem nDigits_le : ∀ (k u : Nat), u < 10 ^ (k + 1) → Lib.nDigits u ≤ k + 1
 | 0, u, h => by rw [Lib.nDigits_small (by simpa using h)]; omega
 | k + 1, u, h => by
   by_cases h1 : u < 10
   ·rw [Lib.nDigits_small h1]; omega
   ·rw [Lib.nDigits_big h1]
    have := nDigits_le k (u / 10) (by rw [Nat.pow_succ] at h; omega)
    omega
theorem digits_le {u : Nat} (h : u < 1000000000) : (Lib.decDigits u).length ≤ 9 := by
 rw [Lib.decDigits_length]; exact nDigits_le 8 u (by simpa using h)
theorem dropW_all {p : UInt8 → Bool} : ∀ {s : Str}, (∀ c ∈ s, p c = true) → s.dropWhile p = []
 | [], _ => rfl
 | c :: s, h => by
   rw [List.dropWhile_cons, if_pos (h c List.mem_cons_self)]
   exact dropW_all fun x hx => h x (List.mem_cons_of_mem _ hx)
theorem trim10_digits (u : Nat) : trim10 (Lib.decDigits u) = [] := by
 have h : ∀ c ∈ Lib.decDigits u, dig10.contains c = true := fun c hc => by
  obtain ⟨d, hd, rfl⟩ := digits_mem u c hc
  exact (digit_ok d hd).2.2
 unfold trim10 rtrim
 rw [dropW_all (s := (Lib.decDigits u).reverse) fun c hc => h c (List.mem_reverse.1 hc)]
 rfl
theorem cut_digits (u : Nat) : cutMinus (Lib.decDigits u) = Lib.decDigits u := by
 obtain ⟨d, r, hd, e⟩ := digits_cons u
 rw [e]
 unfold cutMinus
 split
 ·rename_i heq
  exact absurd (List.cons.inj heq).1 (digit_head d hd).2.2
 ·rfl
/-- A number from 0 on with at most nine digits is read as it was written. -/
theorem int_itoa {n : Int} (h0 : 0 ≤ n) (h9 : n < 1000000000) : intC (Lib.itoa n) 9 = false ∧ intR (Lib.itoa n) 9 = n ∧ intB (Lib.itoa n) 9 = true := by
 obtain ⟨u, rfl⟩ : ∃ u : Nat, n = (u : Int) := ⟨n.toNat, by omega⟩
 have hl := digits_le (u := u) (by omega)
 have hp : 0 < (Lib.decDigits u).length := List.length_pos_iff.2 (digits_ne u)
 have hc : intC (Lib.itoa (u : Int)) 9 = false := by
  unfold intC
  rw [Lib.itoa_nonneg, cut_digits, trim10_digits, Bool.or_eq_false_iff]
  refine ⟨?_, by simp⟩
  simp only [out, Bool.or_eq_false_iff, decide_eq_false_iff_not]; omega
 refine ⟨hc, ?_, ?_⟩
 ·unfold intR; rw [if_neg (by simp [hc]), numV_itoa]
 ·unfold intB; rw [hc, numV_itoa]; simp
theorem dropW_nil {p : UInt8 → Bool} : ∀ {s : Str}, s.dropWhile p = [] → ∀ c ∈ s, p c = true
 | [], _, c, hc => by cases hc
 | x :: s, h, c, hc => by
   rw [List.dropWhile_cons] at h
   split at h
   ·rcases List.mem_cons.1 hc with rfl | hc
    ·assumption
    ·exact dropW_nil h c hc
   ·cases h
theorem dropW_sub {p : UInt8 → Bool} : ∀ {s : Str} (c : UInt8), c ∈ s → p c = true ∨ c ∈ s.dropWhile p
 | x :: s, c, hc => by
   rw [List.dropWhile_cons]
   split
   ·rename_i hx
    rcases List.mem_cons.1 hc with rfl | hc
    ·exact .inl hx
    ·exact dropW_sub c hc
   ·exact .inr hc
theorem trim10_nil {s : Str} (h : trim10 s = []) : ∀ c ∈ s, dig10.contains c = true := fun c hc => by
 unfold trim10 at h
 have h1 := dropW_nil h
 rcases dropW_sub (p := (dig10.contains ·)) (s := s.reverse) c (List.mem_reverse.2 hc) with h2 | h2
 ·exact h2
 ·exact h1 c (by unfold rtrim; exact List.mem_reverse.2 h2)
theorem dig10_val : ∀ c : UInt8, dig10.contains c = true → ∃ d, Lib.digitVal c = some d := fun c h => by
 have : c.toNat < 256 := c.toNat_lt
 simp only [dig10, List.contains_cons, List.contains_nil, Bool.or_false, Bool.or_eq_true, beq_iff_eq] at h
 rcases h with rfl | rfl | rfl | rfl | rfl | rfl | rfl | rfl | rfl | rfl <;> exact ⟨_, rfl⟩
theorem decFrom_some : ∀ (l : List UInt8) (acc : Nat), (∀ c ∈ l, dig10.contains c = true) → ∃ n, Lib.decFrom acc l = some n
 | [], acc, _ => ⟨acc, rfl⟩
 | c :: l, acc, h => by
   obtain ⟨d, hd⟩ := dig10_val c (h c List.mem_cons_self)
   obtain ⟨n, hn⟩ := decFrom_some l (acc * 10 + d) fun x hx => h x (List.mem_cons_of_mem _ hx)
   exact ⟨n, by simp only [Lib.decFrom, hd, hn]⟩
theorem dig10_head : dig10.contains 45 = false ∧ dig10.contains 43 = false := by decide
/-- What the reference takes for a number is read. -/
theorem int_read {s : Str} (h : intC s 9 = false) : (Lib.atoi s).isSome = true ∧ s.length ≤ 18 ∧ -1000000000000000000 < numV s ∧ numV s < 1000000000000000000 := by
 unfold intC at h
 rw [Bool.or_eq_false_iff] at h
 obtain ⟨h1, h2⟩ := h
 have h1 := out_f h1
 have h3 := trim10_nil (by simpa using h2)
 have hs : (Lib.atoi s).isSome = true := by
  cases s with
  | nil => simp [cutMinus] at h1
  | cons b r =>
    by_cases hb : b = 45
    ·subst hb
     have e : cutMinus (45 :: r) = r := rfl
     rw [e] at h1 h3
     obtain ⟨n, hn⟩ := decFrom_some r 0 h3
     have hr : r.isEmpty = false := by cases r with
      | nil => simp at h1
      | cons a b => rfl
     simp [Lib.atoi, Lib.decNat, hn, hr]
    ·have e : cutMinus (b :: r) = b :: r := by
      unfold cutMinus; split
      ·rename_i heq; exact absurd (List.cons.inj heq).1 hb
      ·rfl
     rw [e] at h3
     obtain ⟨n, hn⟩ := decFrom_some (b :: r) 0 h3
     have hc := h3 b List.mem_cons_self
     have e1 : (b == 45) = false := by simpa using hb
     have e2 : (b == 43) = false := by
      rw [beq_eq_false_iff_ne]; intro e; subst e; rw [dig10_head.2] at hc; cases hc
     simp [Lib.atoi, Lib.decNat, hn, e1, e2]
 have hl : s.length ≤ 18 := by
  have : s.length ≤ (cutMinus s).length + 1 := by
   unfold cutMinus; split <;> simp
  omega
 refine ⟨hs, hl, ?_⟩
 obtain ⟨n, hn⟩ := Option.isSome_iff_exists.1 hs
 have := Lib.atoi_bound hn hl
 unfold numV; rw [hn]; exact this
end Go.HL
end
section
namespace Go.HL
theorem salesGo_at {h : Hall} {l : List Sale} : ∀ (t : List Sale) (i : Nat), l.drop i = t → salesGo h l i t = 0 → ∀ (j : Nat) (x : Sale), i ≤ j → l[j]? = some x → saleFault h (l.take j) x = 0
 | [], i, hd, _, j, x, hj, hx => by
   have : l.length ≤ i := by simpa using hd
   have := lt_of_get hx; omega
 | y :: t, i, hd, h0, j, x, hj, hx => by
   have hy : l[i]? = some y := by
    have := congrArg (fun q => q[0]?) hd
    simpa [List.getElem?_drop] using this
   have hd' : l.drop (i + 1) = t := by
    have := drop_cons hy
    rw [hd] at this
    exact (List.cons.inj this).2.symm
   rw [salesGo] at h0
   split at h0
   ·rename_i hc; simp [h0] at hc
   ·rename_i hc
    rcases Nat.lt_or_eq_of_le hj with hj | rfl
    ·exact salesGo_at t (i + 1) hd' h0 j x hj hx
    ·rw [hy] at hx; cases hx; simpa using hc
theorem salesGo_of {h : Hall} {l : List Sale} : ∀ (t : List Sale) (i : Nat), l.drop i = t → (∀ (j : Nat) (x : Sale), i ≤ j → l[j]? = some x → saleFault h (l.take j) x = 0) → salesGo h l i t = 0
 | [], _, _, _ => rfl
 | y :: t, i, hd, h0 => by
   have hy : l[i]? = some y := by
    have := congrArg (fun q => q[0]?) hd
    simpa [List.getElem?_drop] using this
   have hd' : l.drop (i + 1) = t := by
    have := drop_cons hy
    rw [hd] at this
    exact (List.cons.inj this).2.symm
   rw [salesGo, if_neg (by simp [h0 i y (Nat.le_refl _) hy])]
   exact salesGo_of t (i + 1) hd' fun j x hj hx => h0 j x (by omega) hx
theorem salesE_ok {h : Hall} {l : List Sale} (e : salesE h l = 0) : hallFault h = 0 ∧ l.length ≤ 600 ∧ ∀ (j : Nat) (x : Sale), l[j]? = some x → saleFault h (l.take j) x = 0 := by
 have h1 := salesE_hall e
 unfold salesE at e
 rw [if_neg (by simp [h1])] at e
 unfold salesFault at e
 split at e
 ·omega
 ·exact ⟨h1, by omega, fun j x hx => salesGo_at l 0 rfl e j x (Nat.zero_le _) hx⟩
theorem sales_snoc {h : Hall} {l : List Sale} {y : Sale} (e : salesE h l = 0) (hl : l.length < 600) (hy : saleFault h l y = 0) : salesE h (l ++ [y]) = 0 := by
 obtain ⟨h1, h2, h3⟩ := salesE_ok e
 unfold salesE salesFault
 rw [if_neg (by simp [h1]), if_neg (by simp; omega)]
 refine salesGo_of _ 0 rfl fun j x _ hx => ?_
 rcases Nat.lt_or_ge j l.length with hj | hj
 ·rw [List.getElem?_append_left hj] at hx
  rw [List.take_append_of_le_length (Nat.le_of_lt hj)]
  exact h3 j x hx
 ·have hlt := lt_of_get hx
  rw [List.length_append, List.length_singleton] at hlt
  have e : j = l.length := by omega
  subst e
  simp only [List.getElem?_concat_length, Option.some.injEq] at hx
  rw [List.take_left' rfl, ← hx]; exact hy
theorem saleFault_ok {h : Hall} {l : List Sale} {x : Sale} (e : saleFault h l x = 0) : x.Player ∈ h.Players ∧ x.Team ∈ h.Teams ∧ l.any (fun y => y.Player == x.Player) = false ∧ 1 ≤ x.Price ∧ many l x.Team ≠ h.Places ∧ x.Price ≤ mostOf h l x.Team := by
 unfold saleFault at e
 split at e
 ·omega
 split at e
 ·omega
 split at e
 ·omega
 split at e
 ·omega
 split at e
 ·omega
 rename_i c1 c2 c3 c4 c5
 simp only [Bool.or_eq_true, Bool.not_eq_true', not_or, Bool.not_eq_false] at c1
 exact ⟨by simpa using c1.1, by simpa using c1.2, by simpa using c2, by omega, c4, by omega⟩
theorem hallFault_bd {h : Hall} (e : hallFault h = 0) : (1 ≤ h.Budget ∧ h.Budget ≤ 1000000) ∧ (1 ≤ h.Places ∧ h.Places ≤ 30) ∧ h.Places ≤ h.Budget := by
 unfold hallFault at e
 split at e
 ·rename_i hc; simp [e] at hc
 split at e
 ·omega
 split at e
 ·omega
 rename_i c1 c2
 simp only [Bool.or_eq_true, not_or, Bool.not_eq_true, decide_eq_true_eq] at c1 c2
 exact ⟨out_f c1.1, out_f c1.2, by omega⟩
/-- Each team has as many places left as it can pay. -/
theorem bud_ok {h : Hall} {l : List Sale} (e : salesE h l = 0) : ∀ i, i ≤ l.length → ∀ t, 0 ≤ spent (l.take i) t ∧ many (l.take i) t ≤ h.Places ∧ h.Places - many (l.take i) t ≤ h.Budget - spent (l.take i) t
 | 0, _, t => by
   have := hallFault_bd (salesE_ok e).1
   simp [spent, many]; omega
 | i + 1, hi, t => by
   obtain ⟨x, hx⟩ : ∃ x, l[i]? = some x := ⟨_, List.getElem?_eq_getElem (by omega)⟩
   obtain ⟨a, b, c⟩ := bud_ok e i (by omega) t
   have hb := bud_ok e i (by omega) x.Team
   obtain ⟨_, _, _, d1, d2, d3⟩ := saleFault_ok ((salesE_ok e).2.2 i x hx)
   unfold mostOf at d3
   rw [if_neg d2] at d3
   rw [take_snoc' hx, spent_snoc, many_snoc]
   by_cases ht : x.Team = t
   ·subst ht; rw [if_pos rfl, if_pos rfl]; omega
   ·rw [if_neg ht, if_neg ht]; omega
theorem money_law {h : Hall} {l : List Sale} (e : salesE h l = 0) (t : Str) : 0 ≤ h.Budget - spent l t ∧ h.Budget - spent l t ≤ 1000000 ∧ 0 ≤ mostOf h l t ∧ mostOf h l t ≤ h.Budget - spent l t := by
 obtain ⟨a, b, c⟩ := bud_ok e l.length (Nat.le_refl _) t
 rw [List.take_length] at a b c
 have := hallFault_bd (salesE_ok e).1
 unfold mostOf
 split <;> omega
theorem money_mem {h : Hall} {l : List Sale} (e : salesE h l = 0) {x : PairS} (hx : x ∈ mL h l) : ∃ t ∈ h.Teams, x = ⟨t, Lib.itoa (h.Budget - spent l t)⟩ := by
 rw [← mL_z e] at hx
 obtain ⟨t, ht, rfl⟩ := List.mem_map.1 hx
 exact ⟨t, ht, rfl⟩
theorem intR_bd {s : Str} (h : s ∈ vals) : -100 ≤ intR s 9 ∧ intR s 9 ≤ 100 := by
 have := (vals_ok h).2.2.2.2.2.1
 unfold intR; split <;> omega
/-- What the best bid so far tells. -/
def TopOk (f : Str → Option Int) (T : List Str) (q : Top) : Prop := (q.team = [] ∧ q.first = 0 ∧ q.second = 0) ∨ (q.team ∈ T ∧ f q.team = some q.first ∧ 1 ≤ q.first ∧ 0 ≤ q.second)
theorem top_ok {f : Str → Option Int} (hf : ∀ t n, f t = some n → 1 ≤ n) : ∀ (T U : List Str) (q : Top), (∀ t ∈ T, t ∈ U) → TopOk f U q → TopOk f U (topGo f q T)
 | [], U, q, _, h => h
 | t :: T, U, q, hT, h => by
   rw [topGo]
   refine top_ok hf T U _ (fun u hu => hT u (List.mem_cons_of_mem _ hu)) ?_
   cases hb : f t with
   | none => exact h
   | some n =>
     have hn := hf t n hb
     have ht := hT t List.mem_cons_self
     unfold Top.step
     dsimp only
     rcases h with ⟨h1, h2, h3⟩ | ⟨h1, h2, h3, h4⟩
     ·rw [if_pos (by omega)]; exact .inr ⟨ht, hb, hn, by dsimp only; omega⟩
     ·split
      ·exact .inr ⟨ht, hb, hn, by dsimp only; omega⟩
      ·exact .inr ⟨h1, h2, h3, by dsimp only; omega⟩
theorem find_idx {α : Type} {p : α → Bool} : ∀ {l : List α} {x : α} (k : Int), l.find? p = some x → ∃ i : Nat, idxF p l k = k + i ∧ l[i]? = some x
 | [], x, k, h => by simp at h
 | y :: l, x, k, h => by
   rw [List.find?_cons] at h
   unfold idxF
   cases hp : p y with
   | true => rw [hp] at h; simp only [Option.some.injEq] at h; subst h; exact ⟨0, by simp, rfl⟩
   | false =>
     rw [hp] at h
     obtain ⟨i, h1, h2⟩ := find_idx (k + 1) h
     exact ⟨i + 1, by simp only [Bool.false_eq_true, if_false]; rw [h1]; omega, by simpa using h2⟩
/-- What is sold, from its parts. -/
theorem sell_law {h : Hall} {l : List Sale} {player : Str} {lim : List PairS} (hv : ∀ x ∈ lim, x.Val ∈ vals) (hl : l.length < 600) (e : sellE h l player lim = 0) (hb : sB h l player lim = true) :
 ∃ (i : Nat) (p : PairS), idxF (fun p => p.Name == (sS h l player lim).Team) lim 0 = i ∧ lim[i]? = some p ∧ (sS h l player lim).Player = player ∧ 1 ≤ (sS h l player lim).Price ∧ (sS h l player lim).Price ≤ intR p.Val 9 ∧ salesE h (l ++ [sS h l player lim]) = 0 := by
 obtain ⟨e1, e2⟩ := sellE_ok e
 have hS : sS h l player lim = sellS player (sellT h l lim) := by unfold sS; rw [if_neg (by simp [e])]
 have hB : (sellT h l lim).team ≠ [] := by
  unfold sB at hb; rw [if_neg (by simp [e])] at hb; simpa using hb
 have ht := top_ok (f := bid h l lim) (fun t n q => bid_pos t n q) h.Teams h.Teams ⟨[], 0, 0⟩ (fun _ q => q) (.inl ⟨rfl, rfl, rfl⟩)
 change TopOk _ _ (sellT h l lim) at ht
 rcases ht with ⟨q, _⟩ | ⟨t1, t2, t3, t4⟩
 ·exact absurd q hB
 generalize hq : sellT h l lim = q at *
 have hy : sS h l player lim = ⟨player, q.team, min q.first (q.second + 1)⟩ := by rw [hS]; unfold sellS; rw [if_neg hB]
 rw [hy]
 unfold bid at t2
 cases hf : lim.find? (fun p => p.Name == q.team) with
 | none => rw [hf] at t2; cases t2
 | some p =>
   rw [hf] at t2
   simp only at t2
   split at t2
   ·cases t2
   ·have t2 := Option.some.inj t2
    obtain ⟨i, i1, i2⟩ := find_idx 0 hf
    have hpm := List.mem_of_getElem? i2
    have hn : intR p.Val 9 = numR p.Val 9 := (vals_ok (hv p hpm)).2.1 (limGo_num lim 0 e2 p hpm)
    refine ⟨i, p, by rw [i1]; omega, i2, rfl, by dsimp only; omega, by dsimp only; rw [hn]; omega, ?_⟩
    refine sales_snoc e1 hl ?_
    have hpl : h.Players.contains player = true ∧ l.any (fun y => y.Player == player) = false := by
     unfold sellE at e
     rw [if_neg (by simp [e1])] at e
     split at e
     ·omega
     ·split at e
      ·omega
      ·rename_i a b; exact ⟨by simpa using a, by simpa using b⟩
    unfold saleFault
    rw [if_neg (by simp only [hpl.1]; simpa using t1), if_neg (by rw [hpl.2]; simp), if_neg (by dsimp only; omega)]
    have hm : 1 ≤ mostOf h l q.team := by omega
    rw [if_neg (fun hc => by dsimp only at hc; unfold mostOf at hm; rw [if_pos hc] at hm; omega), if_neg (by dsimp only; omega)]
end Go.HL
end
section
namespace Go.Proofs.YtcnfhcicepmjcaaGreatDoor
open Go.HL
set_option maxRecDepth 100000
set_option linter.unusedVariables false
set_option linter.unusedSimpArgs false
theorem w_MostBid [Tracks] {h : Hall} {l : List Sale} {team : Str} (hl : l.length ≤ 1000) (hB : ∀ x ∈ l, -2000000 ≤ x.Price ∧ x.Price ≤ 2000000) (ht : h.Teams.length ≤ 1000000) (hp : h.Players.length ≤ 1000000) : ConP Tryz.prog 62 [eHall h, eSales l, .str team] (.tup [.int .i64 (mA h l team), .int .i64 (mostE h l team)]) := c_draft_MostBid hl hB ht hp

theorem w_Money [Tracks] {h : Hall} {l : List Sale} (hl : l.length ≤ 1000) (hB : ∀ x ∈ l, -2000000 ≤ x.Price ∧ x.Price ≤ 2000000) (ht : h.Teams.length ≤ 1000000) (hp : h.Players.length ≤ 1000000) : ConP Tryz.prog 60 [eHall h, eSales l] (.tup [ePairs (mL h l), .int .i64 (salesE h l)]) := c_draft_Money hl hB ht hp

theorem w_Sell [Tracks] {h : Hall} {l : List Sale} {player : Str} {lim : List PairS} (hl : l.length ≤ 1000) (hB : ∀ x ∈ l, -2000000 ≤ x.Price ∧ x.Price ≤ 2000000) (ht : h.Teams.length ≤ 1000000) (hp : h.Players.length ≤ 1000000) (hlim : lim.length ≤ 1000) (hv : ∀ x ∈ lim, x.Val ∈ vals) : ConP Tryz.prog 63 [eHall h, eSales l, .str player, ePairs lim] (.tup [eSale (sS h l player lim), .bool (sB h l player lim), .int .i64 (sellE h l player lim)]) := c_draft_Sell hl hB ht hp hlim hv

theorem w_SalesFault [Tracks] {h : Hall} {l : List Sale} (hl : l.length ≤ 1000) (hB : ∀ x ∈ l, -2000000 ≤ x.Price ∧ x.Price ≤ 2000000) (ht : h.Teams.length ≤ 1000000) (hp : h.Players.length ≤ 1000000) (e : hallFault h = 0) : ConP Tryz.prog 59 [eHall h, eSales l] (.int .i64 (salesE h l)) := by
 obtain ⟨f1, f2, f3, f4⟩ := hallFault_ok e
 rw [← salesE_z e]
 exact c_benchref1_SalesFault hl hB (by omega) (by omega) ht hp

theorem w_SellFault [Tracks] {h : Hall} {l : List Sale} {player : Str} {lim : List PairS} (hl : l.length ≤ 1000) (hlim : lim.length ≤ 1000) (hv : ∀ x ∈ lim, x.Val ∈ vals) (ht : h.Teams.length ≤ 1000000) (hp : h.Players.length ≤ 1000000) (e : salesE h l = 0) : ConP Tryz.prog 64 [eHall h, eSales l, .str player, ePairs lim] (.int .i64 (sellE h l player lim)) := by
 rw [← sellE_z hv e]
 exact c_benchref1_SellFault hl hlim hv ht hp

/-- benchwarmer/benchref1.Int -/
theorem c_benchref1_Int_g [Tracks] {s : Str} (hs : s.length ≤ 1000000) : ConP Tryz.prog 61 [.str s, .int .i64 9] (.tup [.int .i64 (intR s 9), .bool (intB s 9)]) := by
 have hcl := cutMinus_len s
 refine Con.of_body Tryz.func61 rfl Tryz.ntmps61 rfl rfl ?_
 refine hw_reg ?_
 refine dp rfl (pop_assign rfl) ?_
 refine dp rfl (pop_assign rfl) ?_
 refine dn ?_
 refine hw_reg ?_
 refine dp rfl (pop_move rfl) ?_
 refine dp rfl (pop_call ca148 rfl (WeakL.refl _) c_strings_TrimPrefix) ?_
 refine dp rfl (pop_assign rfl) ?_
 refine dn ?_
 refine hw_seq ?_
 refine hw_reg ?_
 refine dp rfl (pop_move rfl) ?_
 refine dp rfl (pop_lens ty9 rfl) ?_
 refine dp rfl (pop_move rfl) ?_
 refine dp rfl (pop_call ca149 rfl (WeakL.refl _) c_benchref1_in) ?_
 refine dp rfl (pop_not rfl) ?_
 refine dp rfl (pop_move rfl) ?_
 refine dg rfl rfl (fun hc => ⟨_, OpenTo.refl _, pop_move rfl⟩) ?_
 refine dg rfl rfl (fun hc => by have hq := hc; (try simp at hq); exact ⟨_, OpenTo.upd (t := 17) rfl (hc) (OpenTo.refl _), pop_call ca150 rfl (WeakL.refl _) (c_strings_Trim (l := dig10) (by omega) (by decide) (by decide) (by decide))⟩) ?_
 refine dg rfl rfl (fun hc => ⟨_, OpenTo.upd (t := 18) rfl (hc) (OpenTo.refl _), pop_neqs rfl rfl⟩) ?_
 refine dp rfl (pop_picko rfl (.inl rfl) (.inr ⟨_, rfl, fun h => by simp_all⟩)) ?_
 refine dn ?_
 refine hw_cond rfl (fun h1 => ?_) (fun h2 => ?_)
 ·try simp at h1
  refine hw_reg ?_
  refine dp rfl (pop_assign rfl) ?_
  refine dp rfl (pop_assign rfl) ?_
  refine dn ?_
  refine hw_ret ?_
  refine ret_p rfl ?_
  show HVal.tup _ = _
  (have hic : intC s 9 = true := (by simpa [intC, trim10] using h1); simp [intR, intB, hic, ofVal, ofVal1]; done)
 ·try simp at h2
  refine hw_skip ?_
  refine seqQ_n ?_
  refine hw_reg ?_
  refine dp rfl (pop_move rfl) ?_
  have hic : intC s 9 = false := by simpa [intC, trim10] using h2
  obtain ⟨hvat, hv18, hvb1, hvb2⟩ := int_read hic
  refine dp rfl (pop_call ca151 rfl (WeakL.refl _) (c_strconv_Atoi hv18 hvat)) ?_
  refine dp rfl (pop_move rfl) ?_
  refine dp rfl (pop_extract rfl rfl) ?_
  refine dp rfl (pop_extract rfl rfl) ?_
  refine dp rfl (pop_assign rfl) ?_
  refine dp rfl (pop_assign rfl) ?_
  refine dn ?_
  refine hw_reg ?_
  refine dp rfl (pop_move rfl) ?_
  refine dp rfl (pop_move rfl) ?_
  refine dp rfl (pop_eqnilI Tryz.underlying249 rfl) ?_
  refine dp rfl (pop_move rfl) ?_
  refine dg rfl rfl (fun hc => ⟨_, OpenTo.refl _, pop_move rfl⟩) ?_
  refine dg rfl rfl (fun hc => by have hq := hc; (try simp at hq); exact ⟨_, OpenTo.upd (t := 30) rfl (hc) (OpenTo.refl _), pop_call ca116 rfl (WeakL.refl _) (c_Itoa (n := numV s) (by omega) (by omega))⟩) ?_
  refine dg rfl rfl (fun hc => ⟨_, OpenTo.refl _, pop_move rfl⟩) ?_
  refine dg rfl rfl (fun hc => ⟨_, OpenTo.upd (t := 32) rfl (hc) (OpenTo.upd (t := 31) rfl (hc) (OpenTo.refl _)), pop_eqls rfl rfl⟩) ?_
  refine dp rfl (pop_picko rfl (.inr ⟨_, rfl, fun h => by simp_all⟩) (.inl rfl)) ?_
  refine dp rfl (pop_assign rfl) ?_
  refine dp rfl (pop_assign rfl) ?_
  refine dn ?_
  refine hw_ret ?_
  refine ret_p rfl ?_
  show HVal.tup _ = _
  (simp [intR, intB, hic]; done)

/-- benchwarmer/benchkeep1.BudgetsAreEnough$1 -/
theorem c_benchkeep1_BudgetsAreEnough_1 [Tracks] {p : PairS} {y : Sale}  : ConP Tryz.prog 66 [ePair p, .vptr (hcells (eSale y)) 0] (.bool (p.Name == y.Team)) := by
 refine Con.of_body Tryz.func66 rfl Tryz.ntmps66 rfl rfl ?_
 refine hw_reg ?_
 refine dp rfl (pop_box rfl rfl) ?_
 refine dp rfl (pop_assign rfl) ?_
 refine dn ?_
 refine hw_reg ?_
 refine dp rfl (pop_fieldAddr ty52 rfl ty9 (by decide) rfl) ?_
 refine dp rfl (pop_load ty9 rfl rfl rfl) ?_
 refine dp rfl (pop_fieldAddr ty112 rfl ty9 (by decide) rfl) ?_
 refine dp rfl (pop_load ty9 rfl rfl rfl) ?_
 refine dp rfl (pop_eqls rfl rfl) ?_
 refine dp rfl (pop_assign rfl) ?_
 refine dn ?_
 refine hw_ret ?_
 refine ret_p rfl ?_
 rfl

set_option maxHeartbeats 2000000 in
/-- benchwarmer/benchkeep1.BudgetsAreEnough -/
theorem c_benchkeep1_BudgetsAreEnough [Tracks] {l : List Int} (hT : Tracks.on = false) : ConP Tryz.prog 6 [.slice 1 (l.map (.int .i64))] (.bool true) := by
 refine Con.of_body Tryz.func6 rfl Tryz.ntmps6 rfl rfl ?_
 refine hw_reg ?_
 refine dp rfl (pop_assign rfl) ?_
 refine dn ?_
 refine hw_reg ?_
 refine dp rfl (pop_move rfl) ?_
 refine dp rfl (pop_build (cs := [_, _]) ty25 pl25 rfl) ?_
 refine de rfl (eop_box rfl rfl fun b => ?_)
 refine dghost (M' := [St b l 0]) rfl ?_
 refine dp rfl (pop_assign rfl) ?_
 refine dn ?_
 refine hw_reg ?_
 refine dp rfl (pop_move rfl) ?_
 refine de rfl (eop_callx (i := 0) ca55 rfl (WeakL.refl _) rfl (c_benchmake_Stream_HallOf (by omega)) ?_)
 rintro _ _ ⟨h25, a25, rfl, hh25, ha25, rfl⟩
 refine de rfl (eop_alloc ty99 rfl fun b4 => ?_)
 refine de0 (eop_storew ty99 rfl rfl rfl rfl rfl ?_)
 refine dn ?_
 refine hw_ghost (Ghost.fc0 4 rfl) ?_
 have ht1 : h25.Teams.length ≤ 1000000 := Nat.le_trans hh25.t4 (by omega)
 have hp1 : h25.Players.length ≤ 1000000 := Nat.le_trans hh25.p20 (by omega)
 have hs1 := hh25.ts
 have hs2 := hh25.ps
 refine hw_draw (fun _ => True) [] mixed ?_
 refine ahp 0 rfl rfl (by kernel_rfl) (by kernel_rfl) (pop_move rfl) ?_
 refine ahp 1 rfl rfl (by kernel_rfl) (by kernel_rfl) (pop_loadw ty99 rfl rfl rfl rfl) ?_
 refine ahp 3 rfl rfl (by kernel_rfl) (by kernel_rfl) (pop_move rfl) ?_
 refine ahp 4 rfl rfl (by kernel_rfl) (by kernel_rfl) (pop_loadw ty99 rfl rfl rfl rfl) ?_
 refine ahp 6 rfl rfl (by kernel_rfl) (by kernel_rfl) (pop_move rfl) ?_
 refine ahp 7 rfl rfl (by kernel_rfl) (by kernel_rfl) (pop_buildSlice (hs := [_, _, _]) ty28 ty9 rfl rfl (by decide) (by decide) rfl) ?_
 refine ahe 2 rfl (by kernel_rfl) ?_
 refine hop_e rfl (eop_callx (i := 0) ca56 rfl (WeakL.refl _) rfl (c_benchmake_Stream_SaleList (by omega) (by assumption)) ?_)
 rintro _ _ ⟨l28, a28, rfl, hl28, ha28, rfl⟩
 refine ⟨fun _ => .inl trivial, ?_⟩
 refine ahe 5 rfl (by kernel_rfl) ?_
 refine hop_e rfl (eop_callx (i := 0) ca57 rfl (WeakL.refl _) rfl (c_benchmake_Stream_Limits (by omega) (by assumption)) ?_)
 rintro _ _ ⟨p31, a31, rfl, hp31, ha31, rfl⟩
 refine ⟨fun _ => .inl trivial, ?_⟩
 refine ahe 8 rfl (by kernel_rfl) ?_
 refine hop_e rfl (eop_callx (i := 0) ca13 rfl (WeakL.refl _) rfl (c_benchmake_Stream_Some (L := [_, _, _]) (by omega) (by simp_all) (by simp_all)) ?_)
 rintro _ _ ⟨y34, rfl, hy34, rfl⟩
 refine ⟨fun _ => .inl trivial, ?_⟩
 refine ahp 9 rfl rfl (by kernel_rfl) (by kernel_rfl) (pop_assign rfl) ?_
 refine ahp 10 rfl rfl (by kernel_rfl) (by kernel_rfl) (pop_assign rfl) ?_
 refine ahp 11 rfl rfl (by kernel_rfl) (by kernel_rfl) (pop_assign rfl) ?_
 refine ahz (by kernel_rfl) ?_
 have hl0 := hl28.len
 have hl1 : l28.length ≤ 1000 := Nat.le_trans hl28.len (by omega)
 have hB1 : ∀ x ∈ l28, -2000000 ≤ x.Price ∧ x.Price ≤ 2000000 := fun x hx => by have := hl28.all x hx; omega
 have hv1 := hp31.all
 have hv2 := hp31.len
 refine hw_seq ?_
 refine hw_reg ?_
 refine dp rfl (pop_loadw ty99 rfl rfl rfl rfl) ?_
 refine dp rfl (pop_call ca58 rfl (WeakL.refl _) (c_benchref1_HallFault ht1 hp1 hs1 hs2)) ?_
 refine dp rfl (pop_neq rfl rfl) ?_
 refine dp rfl (pop_move rfl) ?_
 refine dg rfl rfl (fun hc => ⟨_, OpenTo.refl _, pop_loadw ty99 rfl rfl rfl rfl⟩) ?_
 refine dg rfl rfl (fun hc => ⟨_, OpenTo.refl _, pop_move rfl⟩) ?_
 refine dg rfl rfl (fun hc => by
  have hck : hallFault h25 = 0 := by simpa using hc
  exact ⟨_, OpenTo.upd (t := 40) rfl (hc) (OpenTo.upd (t := 39) rfl (hc) (OpenTo.refl _)), pop_call ca59 rfl (WeakL.refl _) (w_SalesFault hl1 hB1 ht1 hp1 hck)⟩) ?_
 refine dg rfl rfl (fun hc => ⟨_, OpenTo.upd (t := 41) rfl (hc) (OpenTo.refl _), pop_neq rfl rfl⟩) ?_
 refine dp rfl (pop_picko rfl (.inl rfl) (.inr ⟨_, rfl, fun h => by simp_all⟩)) ?_
 refine dn ?_
 refine hw_cond rfl (fun h1 => ?_) (fun h2 => ?_)
 ·try simp at h1
  refine hw_reg ?_
  refine dp rfl (pop_call ca39 rfl (WeakL.refl _) (c_benchkeep1_ready hT)) ?_
  refine dp rfl (pop_assign rfl) ?_
  refine dn ?_
  refine hw_ret ?_
  refine ret_g Ghost.clear rfl ⟨?_, rfl⟩
  show HVal.bool _ = _
  rfl
 ·try simp at h2
  refine hw_skip ?_
  refine seqQ_n ?_
  have hmL : mL h25 l28 = moneyL h25 l28 := (mL_z h2.2).symm
  refine hw_reg ?_
  refine dp rfl (pop_loadw ty99 rfl rfl rfl rfl) ?_
  refine dp rfl (pop_move rfl) ?_
  refine dp rfl (pop_call ca60 rfl (WeakL.refl _) (w_Money hl1 hB1 ht1 hp1)) ?_
  refine dp rfl (pop_move rfl) ?_
  refine dp rfl (pop_extract rfl rfl) ?_
  refine dp rfl (pop_extract rfl rfl) ?_
  refine dp rfl (pop_assign rfl) ?_
  refine dp rfl (pop_assign rfl) ?_
  refine dn ?_
  refine hw_seq ?_
  simp only [h2.2]
  refine hw_reg ?_
  refine dp rfl (pop_move rfl) ?_
  refine dp rfl (pop_neq rfl rfl) ?_
  refine dp rfl (pop_move rfl) ?_
  refine dg rfl rfl (fun hc => ⟨_, OpenTo.refl _, pop_move rfl⟩) ?_
  refine dg rfl rfl (fun hc => ⟨_, OpenTo.upd (t := 54) rfl (hc) (OpenTo.refl _), pop_lenm ty36 rfl⟩) ?_
  refine dg rfl rfl (fun hc => ⟨_, OpenTo.refl _, pop_fieldAddr ty99 rfl ty28 (by decide) rfl⟩) ?_
  refine dg rfl rfl (fun hc => ⟨_, OpenTo.upd (t := 56) rfl (hc) (OpenTo.refl _), pop_load ty28 rfl rfl rfl⟩) ?_
  refine dg rfl rfl (fun hc => ⟨_, OpenTo.upd (t := 57) rfl (hc) (OpenTo.refl _), pop_lenm ty28 rfl⟩) ?_
  refine dg rfl rfl (fun hc => ⟨_, OpenTo.upd (t := 58) rfl (hc) (OpenTo.upd (t := 55) rfl (hc) (OpenTo.refl _)), pop_neq rfl rfl⟩) ?_
  refine dp rfl (pop_picko rfl (.inl rfl) (.inr ⟨_, rfl, fun h => by simp_all⟩)) ?_
  refine dn ?_
  refine hw_cond rfl (fun h3 => ?_) (fun h3 => ?_)
  ·exfalso
   try simp at h3
   exact h3 (by rw [hmL]; simp [moneyL])
  ·try simp at h3
   refine hw_skip ?_
   refine seqQ_n ?_
   refine hw_seq ?_
   refine hw_reg ?_
   refine dp rfl (pop_move rfl) ?_
   refine dp rfl (pop_lenm ty36 rfl) ?_
   refine dp rfl (pop_move rfl) ?_
   refine dn ?_
   refine hw_block ?_
   refine hw_loopw [2, 11, 12, 13, 14, 15, 63, 64, 65, 66, 67, 68, 69, 70, 71, 72, 73, 74, 75, 76, 77, 78, 79, 80, 81, 82, 83, 84, 85, 86, 87, 88, 89, 90, 91, 92, 93, 94, 95, 96, 97, 98, 99, 100] (fun (k : Nat) => [(63, .int .i64 k)]) (fun (k : Nat) => [St b l (a31 + 1)]) (fun (k : Nat) => k ≤ (mL h25 l28).length ∧ (True)) (fun (k : Nat) => (mL h25 l28).length - k) (0) ?_ ?_ ?_ ?_
   ·exact ⟨Nat.zero_le _, trivial⟩
   ·exact ⟨rfl, trivial⟩
   ·exact List.Perm.refl _
   ·intro k hinv
    obtain ⟨hk, -⟩ := hinv
    refine hw_reg ?_
    refine dp rfl (pop_lss rfl rfl) ?_
    refine dn ?_
    refine hw_seq ?_
    refine hw_cond rfl (fun h4 => ?_) (fun h5 => ?_)
    ·try simp at h4
     obtain ⟨x, hx⟩ : ∃ x, (mL h25 l28)[k]? = some x := ⟨_, List.getElem?_eq_getElem h4⟩
     have hdx := drop_cons hx
     obtain ⟨t, htm, rfl⟩ := money_mem h2.2 (List.mem_of_getElem? hx)
     obtain ⟨m1, m2, m3, m4⟩ := money_law h2.2 t
     obtain ⟨i1, i2, i3⟩ := int_itoa (n := h25.Budget - spent l28 t) m1 (by omega)
     have hmE : mostE h25 l28 t = 0 := by unfold mostE; rw [if_neg (by simp [h2.2]), if_neg (by simpa using htm)]
     have hmb : (mL h25 l28).length ≤ 1000000 := mL_len ht1
     refine hw_skip ?_
     refine seqQ_n ?_
     refine hw_seq ?_
     refine hw_block ?_
     refine hw_reg ?_
     refine dp rfl (pop_idx ty36 ty52 rfl rfl rfl (by assumption)) ?_
     refine dp rfl (pop_loadw ty52 rfl rfl rfl rfl) ?_
     refine de rfl (eop_alloc ty52 rfl fun b11 => ?_)
     refine de0 (eop_storew ty52 rfl rfl rfl rfl rfl ?_)
     refine dn ?_
     refine hw_ghost (Ghost.fc0 11 rfl) ?_
     refine hw_reg ?_
     refine dp rfl (pop_fieldAddr ty52 rfl ty9 (by decide) rfl) ?_
     refine dp rfl (pop_load ty9 rfl rfl rfl) ?_
     refine dp rfl (pop_call ca61 rfl (WeakL.refl _) (c_benchref1_Int_g (Nat.le_trans (int_read i1).2.1 (by omega)))) ?_
     refine dp rfl (pop_move rfl) ?_
     refine dp rfl (pop_extract rfl rfl) ?_
     refine dp rfl (pop_extract rfl rfl) ?_
     refine dp rfl (pop_assign rfl) ?_
     refine dp rfl (pop_assign rfl) ?_
     refine dn ?_
     simp only [i2, i3]
     refine hw_reg ?_
     refine dp rfl (pop_loadw ty99 rfl rfl rfl rfl) ?_
     refine dp rfl (pop_move rfl) ?_
     refine dp rfl (pop_fieldAddr ty52 rfl ty9 (by decide) rfl) ?_
     refine dp rfl (pop_load ty9 rfl rfl rfl) ?_
     refine dp rfl (pop_call ca62 rfl (WeakL.refl _) (w_MostBid hl1 hB1 ht1 hp1)) ?_
     refine dp rfl (pop_move rfl) ?_
     refine dp rfl (pop_extract rfl rfl) ?_
     refine dp rfl (pop_extract rfl rfl) ?_
     refine dp rfl (pop_assign rfl) ?_
     refine dp rfl (pop_assign rfl) ?_
     refine dn ?_
     simp only [hmE, ← mA_z hmE]
     refine hw_reg ?_
     refine dp rfl (pop_move rfl) ?_
     refine dp rfl (pop_not rfl) ?_
     refine dp rfl (pop_move rfl) ?_
     refine dg rfl rfl (fun hc => ⟨_, OpenTo.refl _, pop_move rfl⟩) ?_
     refine dg rfl rfl (fun hc => ⟨_, OpenTo.upd (t := 84) rfl (hc) (OpenTo.refl _), pop_lss rfl rfl⟩) ?_
     refine dp rfl (pop_picko rfl (.inl rfl) (.inr ⟨_, rfl, fun h => by simp_all⟩)) ?_
     refine dp rfl (pop_move rfl) ?_
     refine dg rfl rfl (fun hc => ⟨_, OpenTo.refl _, pop_move rfl⟩) ?_
     refine dg rfl rfl (fun hc => ⟨_, OpenTo.upd (t := 88) rfl (hc) (OpenTo.refl _), pop_neq rfl rfl⟩) ?_
     refine dp rfl (pop_picko rfl (.inl rfl) (.inr ⟨_, rfl, fun h => by simp_all⟩)) ?_
     refine dp rfl (pop_move rfl) ?_
     refine dg rfl rfl (fun hc => ⟨_, OpenTo.refl _, pop_move rfl⟩) ?_
     refine dg rfl rfl (fun hc => ⟨_, OpenTo.refl _, pop_move rfl⟩) ?_
     refine dg rfl rfl (fun hc => ⟨_, OpenTo.upd (t := 93) rfl (hc) (OpenTo.upd (t := 92) rfl (hc) (OpenTo.refl _)), pop_gtr rfl rfl⟩) ?_
     refine dp rfl (pop_picko rfl (.inl rfl) (.inr ⟨_, rfl, fun h => by simp_all⟩)) ?_
     refine dp rfl (pop_move rfl) ?_
     refine dg rfl rfl (fun hc => ⟨_, OpenTo.refl _, pop_move rfl⟩) ?_
     refine dg rfl rfl (fun hc => ⟨_, OpenTo.upd (t := 97) rfl (hc) (OpenTo.refl _), pop_lss rfl rfl⟩) ?_
     refine dp rfl (pop_picko rfl (.inl rfl) (.inr ⟨_, rfl, fun h => by simp_all⟩)) ?_
     refine dn ?_
     refine hw_cond rfl (fun h6 => ?_) (fun h6 => ?_)
     ·exfalso
      try simp at h6
      omega
     ·try simp at h6
      refine hw_skip ?_
      refine blockQ_n ?_
      refine seqQ_n ?_
      refine hw_reg1 ?_
      refine dp rfl (pop_add64 rfl rfl (by omega) (by omega)) ?_
      refine dp rfl (pop_move rfl) ?_
      refine dn ?_
      refine ⟨k + 1, ?_, ?_, ⟨rfl, trivial⟩, (by repeat (first | exact keeps_refl | refine keeps_upd rfl ?_ | refine keeps_loop rfl rfl ?_)), List.Perm.refl _⟩
      ·exact ⟨by omega, trivial⟩
      ·dsimp only; omega
    ·try simp at h5
     have hnk : (mL h25 l28).length ≤ k := by omega
     obtain rfl : k = (mL h25 l28).length := by omega
     refine hw_exit ?_
     refine seqQ_x ?_
     refine loopQ_x ?_
     refine blockQ_eq ?_
     refine seqQ_n ?_
     refine hw_reg ?_
     refine dp rfl (pop_loadw ty99 rfl rfl rfl rfl) ?_
     refine dp rfl (pop_move rfl) ?_
     refine dp rfl (pop_move rfl) ?_
     refine dp rfl (pop_move rfl) ?_
     refine dp rfl (pop_call ca63 rfl (WeakL.refl _) (w_Sell hl1 hB1 ht1 hp1 (by omega) hv1)) ?_
     refine dp rfl (pop_move rfl) ?_
     refine dp rfl (pop_extract rfl rfl) ?_
     refine dp rfl (pop_extract rfl rfl) ?_
     refine dp rfl (pop_extract rfl rfl) ?_
     refine de rfl (eop_alloc ty112 rfl fun b16 => ?_)
     refine de0 (eop_storew ty112 rfl rfl rfl rfl rfl ?_)
     refine dp rfl (pop_assign rfl) ?_
     refine dp rfl (pop_assign rfl) ?_
     refine dn ?_
     refine hw_ghost (Ghost.fc0 16 rfl) ?_
     refine hw_seq ?_
     refine hw_reg ?_
     refine dp rfl (pop_move rfl) ?_
     refine dp rfl (pop_neq rfl rfl) ?_
     refine dp rfl (pop_move rfl) ?_
     refine dg rfl rfl (fun hc => ⟨_, OpenTo.refl _, pop_move rfl⟩) ?_
     refine dg rfl rfl (fun hc => ⟨_, OpenTo.upd (t := 113) rfl (hc) (OpenTo.refl _), pop_not rfl⟩) ?_
     refine dp rfl (pop_picko rfl (.inl rfl) (.inr ⟨_, rfl, fun h => by simp_all⟩)) ?_
     refine dn ?_
     refine hw_cond rfl (fun h7 => ?_) (fun h8 => ?_)
     ·try simp at h7
      refine hw_reg ?_
      refine dp rfl (pop_move rfl) ?_
      refine dp rfl (pop_loadw ty99 rfl rfl rfl rfl) ?_
      refine dp rfl (pop_move rfl) ?_
      refine dp rfl (pop_move rfl) ?_
      refine dp rfl (pop_move rfl) ?_
      refine dp rfl (pop_call ca64 rfl (WeakL.refl _) (w_SellFault hl1 (by omega) hv1 ht1 hp1 h2.2)) ?_
      refine dp rfl (pop_eql rfl rfl) ?_
      refine dp rfl (pop_move rfl) ?_
      refine dg rfl rfl (fun hc => ⟨_, OpenTo.refl _, pop_call ca39 rfl (WeakL.refl _) (c_benchkeep1_ready hT)⟩) ?_
      refine dp rfl (pop_picko rfl (.inr ⟨_, rfl, fun h => by simp_all⟩) (.inl rfl)) ?_
      refine dp rfl (pop_assign rfl) ?_
      refine dn ?_
      refine hw_ret ?_
      refine ret_g Ghost.clear rfl ⟨?_, rfl⟩
      show HVal.bool _ = _
      (simp; done)
     ·try simp at h8
      refine hw_skip ?_
      refine seqQ_n ?_
      obtain ⟨i, pl, k1, k2, k3, k4, k5, k6⟩ := sell_law hv1 (by omega) h8.1 h8.2
      refine hw_reg ?_
      refine dp rfl (pop_move rfl) ?_
      refine dp rfl (pop_makeFunc rfl rfl) ?_
      refine dp rfl (pop_call ca65 rfl (WeakL.refl _) (c_slices_IndexFunc_api_Pair_api_Pair (p := fun p => p.Name == (sS h25 l28 y34 p31).Team) ca66 (fun _ => c_benchkeep1_BudgetsAreEnough_1) (by omega))) ?_
      refine dp rfl (pop_assign rfl) ?_
      refine dn ?_
      simp only [k1]
      refine hw_seq ?_
      refine hw_reg ?_
      refine dp rfl (pop_move rfl) ?_
      refine dp rfl (pop_lss rfl rfl) ?_
      refine dn ?_
      refine hw_cond rfl (fun h9 => ?_) (fun h9 => ?_)
      ·exfalso
       try simp at h9
       omega
      ·try simp at h9
       refine hw_skip ?_
       refine seqQ_n ?_
       refine hw_reg ?_
       refine dp rfl (pop_move rfl) ?_
       refine dp rfl (pop_move rfl) ?_
       refine dp rfl (pop_idx (j := i) (a := pl) ty36 ty52 rfl rfl rfl k2) ?_
       refine dp rfl (pop_fieldAddr ty52 rfl ty9 (by decide) rfl) ?_
       refine dp rfl (pop_load ty9 rfl rfl rfl) ?_
       refine dp rfl (pop_call ca61 rfl (WeakL.refl _) (c_benchref1_Int_g (Nat.le_trans (vals_ok (hv1 pl (List.mem_of_getElem? k2))).2.2.2.2.2.2 (by omega)))) ?_
       refine dp rfl (pop_move rfl) ?_
       refine dp rfl (pop_extract rfl rfl) ?_
       refine dp rfl (pop_extract rfl rfl) ?_
       refine dp rfl (pop_assign rfl) ?_
       refine dp rfl (pop_assign rfl) ?_
       refine dn ?_
       have hl2 : (l28 ++ [(sS h25 l28 y34 p31)]).length ≤ 1000 := by simp; omega
       have hB2 : ∀ x ∈ l28 ++ [(sS h25 l28 y34 p31)], -2000000 ≤ x.Price ∧ x.Price ≤ 2000000 := fun x hx => by
        rcases List.mem_append.1 hx with hx | hx
        ·exact hB1 x hx
        ·have hb := (vals_ok (hv1 pl (List.mem_of_getElem? k2))).2.2.2.2.2.1
         have hn := intR_bd (hv1 pl (List.mem_of_getElem? k2))
         rw [List.mem_singleton.1 hx]; omega
       refine hw_draw (fun _ => True) [] mixed ?_
       refine ahp 0 rfl rfl (by kernel_rfl) (by kernel_rfl) (pop_fieldAddr ty112 rfl ty9 (by decide) rfl) ?_
       refine ahp 1 rfl rfl (by kernel_rfl) (by kernel_rfl) (pop_load ty9 rfl rfl rfl) ?_
       refine ahp 2 rfl rfl (by kernel_rfl) (by kernel_rfl) (pop_move rfl) ?_
       refine ahp 3 rfl rfl (by kernel_rfl) (by kernel_rfl) (pop_eqls rfl rfl) ?_
       refine ahp 4 rfl rfl (by kernel_rfl) (by kernel_rfl) (pop_move rfl) ?_
       refine ahg 5 rfl rfl (by kernel_rfl) (by kernel_rfl) rfl (fun hc => ⟨_, OpenTo.refl _, pop_fieldAddr ty112 rfl ty3 (by decide) rfl⟩) ?_
       refine ahg 6 rfl rfl (by kernel_rfl) (by kernel_rfl) rfl (fun hc => ⟨_, OpenTo.upd (t := 145) rfl (hc) (OpenTo.refl _), pop_load ty3 rfl rfl rfl⟩) ?_
       refine ahg 7 rfl rfl (by kernel_rfl) (by kernel_rfl) rfl (fun hc => ⟨_, OpenTo.upd (t := 146) rfl (hc) (OpenTo.refl _), pop_geq rfl rfl⟩) ?_
       refine ahp 8 rfl rfl (by kernel_rfl) (by kernel_rfl) (pop_picko rfl (.inr ⟨_, rfl, fun h => by simp_all⟩) (.inl rfl)) ?_
       refine ahp 9 rfl rfl (by kernel_rfl) (by kernel_rfl) (pop_move rfl) ?_
       refine ahg 10 rfl rfl (by kernel_rfl) (by kernel_rfl) rfl (fun hc => ⟨_, OpenTo.refl _, pop_fieldAddr ty112 rfl ty3 (by decide) rfl⟩) ?_
       refine ahg 11 rfl rfl (by kernel_rfl) (by kernel_rfl) rfl (fun hc => ⟨_, OpenTo.upd (t := 150) rfl (hc) (OpenTo.refl _), pop_load ty3 rfl rfl rfl⟩) ?_
       refine ahg 12 rfl rfl (by kernel_rfl) (by kernel_rfl) rfl (fun hc => ⟨_, OpenTo.refl _, pop_move rfl⟩) ?_
       refine ahg 13 rfl rfl (by kernel_rfl) (by kernel_rfl) rfl (fun hc => ⟨_, OpenTo.upd (t := 152) rfl (hc) (OpenTo.upd (t := 151) rfl (hc) (OpenTo.refl _)), pop_leq rfl rfl⟩) ?_
       refine ahp 14 rfl rfl (by kernel_rfl) (by kernel_rfl) (pop_picko rfl (.inr ⟨_, rfl, fun h => by simp_all⟩) (.inl rfl)) ?_
       refine ahp 15 rfl rfl (by kernel_rfl) (by kernel_rfl) (pop_move rfl) ?_
       refine ahg 16 rfl rfl (by kernel_rfl) (by kernel_rfl) rfl (fun hc => ⟨_, OpenTo.refl _, pop_loadw ty99 rfl rfl rfl rfl⟩) ?_
       refine ahg 17 rfl rfl (by kernel_rfl) (by kernel_rfl) rfl (fun hc => ⟨_, OpenTo.refl _, pop_move rfl⟩) ?_
       refine ahg 19 rfl rfl (by kernel_rfl) (by kernel_rfl) rfl (fun hc => ⟨_, OpenTo.refl _, pop_loadw ty112 rfl rfl rfl rfl⟩) ?_
       refine ahg 20 rfl rfl (by kernel_rfl) (by kernel_rfl) rfl (fun hc => ⟨_, OpenTo.upd (t := 159) rfl (hc) (OpenTo.refl _), pop_buildSlice (hs := [_]) ty101 ty112 rfl rfl (by decide) (by decide) rfl⟩) ?_
       refine ahe 18 rfl (by kernel_rfl) ?_
       refine hop_gt rfl rfl (by simp [k3, k4, k5]) (EOp.open (OpenTo.upd (t := 157) rfl (by simp [k3, k4, k5]) (OpenTo.refl _)) (eop_calla ca68 rfl (WeakL.refl _) (c_slices_Clone_api_Sale_api_Sale (l := l28) (by omega)) fun v158 => ?_))
       refine ⟨fun _ => .inl trivial, ?_⟩
       refine ahe 21 rfl (by kernel_rfl) ?_
       refine hop_gt rfl rfl (by simp [k3, k4, k5]) (EOp.open (OpenTo.upd (t := 160) rfl (by simp [k3, k4, k5]) (OpenTo.refl _)) (EOp.fzi (N := [St b l (a31 + 1)]) (sz := 3) (es := (l28 ++ [(sS h25 l28 y34 p31)]).map eSale) 0 (eop_append (i := 0) ty101 ty112 rfl rfl rfl rfl rfl (by simp [flat, hcells]) (by simp; omega) fun v161 => ⟨v161, rfl, by simp, rfl⟩) ?_))
       refine ⟨fun _ => .inl trivial, ?_⟩
       refine ahg 22 rfl rfl (by kernel_rfl) (by kernel_rfl) rfl (fun hc => ⟨_, OpenTo.upd (t := 156) rfl (hc) (OpenTo.refl _), pop_call ca67 rfl (WeakL.refl _) (c_draft_CheckSales (l := l28 ++ [(sS h25 l28 y34 p31)]) hl2 hB2 ht1 hp1)⟩) ?_
       refine ahg 23 rfl rfl (by kernel_rfl) (by kernel_rfl) rfl (fun hc => ⟨_, OpenTo.upd (t := 162) rfl (hc) (OpenTo.refl _), pop_eql rfl rfl⟩) ?_
       refine ahp 24 rfl rfl (by kernel_rfl) (by kernel_rfl) (pop_picko rfl (.inr ⟨_, rfl, fun h => by simp_all⟩) (.inl rfl)) ?_
       refine ahp 25 rfl rfl (by kernel_rfl) (by kernel_rfl) (pop_move rfl) ?_
       refine ahg 26 rfl rfl (by kernel_rfl) (by kernel_rfl) rfl (fun hc => ⟨_, OpenTo.refl _, pop_call ca39 rfl (WeakL.refl _) (c_benchkeep1_ready hT)⟩) ?_
       refine ahp 27 rfl rfl (by kernel_rfl) (by kernel_rfl) (pop_picko rfl (.inr ⟨_, rfl, fun h => by simp_all⟩) (.inl rfl)) ?_
       refine ahp 28 rfl rfl (by kernel_rfl) (by kernel_rfl) (pop_assign rfl) ?_
       refine ahz (by kernel_rfl) ?_
       refine hw_ret ?_
       refine ret_g Ghost.clear rfl ⟨?_, rfl⟩
       show HVal.bool _ = _
       (simp [k3, k4, k5, k6]; done)
end Go.Proofs.YtcnfhcicepmjcaaGreatDoor
end
section
namespace Go.Proofs.YtcnfhcicepmjcaaGreatDoor
open Go.ChangeShapes Go.WideShapes Go.ChangeAt Go.RowKit Go.HL
theorem ownBudgetsAreEnough : ownKnob Tryz.prog.godebug = none := by kernel_rfl
theorem laidOutBudgetsAreEnough : laidOutB Tryz.prog = true := by kernel_rfl
theorem cellsBudgetsAreEnough : Tryz.prog.cellsOf 3 = 1 := by kernel_rfl
theorem tabBudgetsAreEnough {W : World} (h : laidMetH Tryz.prog Rows.budgetsAreEnoughRow.laid W) : TabI Tryz.prog (allI W) := by
 rw [MakeChecks.laidMetH_plain _ _ _ (by kernel_rfl)] at h
 letI : Tracks := ⟨false⟩
 exact tabI_of_laid (i := 2) (g := 3) (t := 417) h (by kernel_rfl) (by kernel_rfl) (by kernel_rfl) Tryz.underlying417 Tryz.underlying308 (by kernel_rfl) (by kernel_rfl)
theorem callsBudgetsAreEnough {W : World} (ht : TabI Tryz.prog (allI W)) {a : Option Addr} {len cap : Nat} {H : Type} {enc : TypeId × Value → H} {d0 : DataW H} {p : List MemPlace} (h : DataW.Trod enc Tryz.prog W 0 (fun _ => true) true 22 (.slice a len cap) d0 p) :
 Calls Tryz.prog 6 #[.slice a len cap] W fun e W' => e = .returned (.bool true) ∧ Below W.heap.size W W' := by
 obtain ⟨fuel, hf⟩ := h
 rcases open_ints Tryz.underlying22 Tryz.underlying3 cellsBudgetsAreEnough hf with ⟨hcs, hx⟩ | ⟨a', len', cap', zs, hcs, _, hl, hm, hz, hx, hcell, hwz⟩
 ·simp [Value.cells] at hcs
  obtain ⟨rfl, rfl, rfl⟩ := hcs
  letI : Tracks := ⟨false⟩
  exact conp_law (l := []) (c_benchkeep1_BudgetsAreEnough rfl) ht (.slice0 _ _ _)
 ·simp [Value.cells] at hcs
  obtain ⟨rfl, rfl, rfl⟩ := hcs
  simp only [if_true] at hz
  letI : Tracks := ⟨false⟩
  exact conp_law (l := zs.take len) (c_benchkeep1_BudgetsAreEnough rfl) ht (v_ints hcell (by omega) hl)
set_option maxRecDepth 100000 in
theorem liftedBudgetsAreEnough (os : Os) (started : os.Started) (H : Type) (enc : TypeId × Value → H) :
 ReturnsInHanded {} Tryz.checked os 6 .any (fun w args => (Rows.budgetsAreEnoughSpec.pre enc Tryz.prog Tryz.f6 Rows.budgetsAreEnoughRow.domain false w args ∧ laidMetH Tryz.prog Rows.budgetsAreEnoughRow.laid w) ∧ sizedMet enc Tryz.prog Tryz.f6 (OpenSpec.ofChange Rows.budgetsAreEnoughSpec) false w args)
  (Rows.budgetsAreEnoughSpec.post enc Tryz.prog Tryz.f6 false true false false) := by
 refine returnsInHanded_of_change_and (C := Tryz.checked) (X := fun w _ => laidMetH Tryz.prog Rows.budgetsAreEnoughRow.laid w) (fun _ _ _ hh h => h.of_heap hh) ownBudgetsAreEnough started (by kernel_rfl) Tryz.func6
  (ChangeSpec.witness_shaped (enc := enc) (C := Tryz.checked) (os := os) (X := fun w _ => laidMetH Tryz.prog Rows.budgetsAreEnoughRow.laid w) false (World.laidAll Tryz.prog os Rows.budgetsAreEnoughRow.laid) #[.slice none 0 0] 8 (World.laidAll_os _ _ _)
    (World.shaped_of_ZipB (by kernel_rfl) (by kernel_rfl)) (by kernel_rfl) (by kernel_rfl) (by kernel_rfl)
    (by rw [MakeChecks.laidMetH_plain _ _ _ (by kernel_rfl)]; exact laidMet_laidAll _ (by kernel_rfl) (by kernel_rfl))) ?_
 intro W base args ds gs before hval0 hW _ _ hL _
 have hval : ∀ (j : Nat) t v, Tryz.f6.params[j]? = some t → args[j]? = some v → Value.okWide Tryz.prog W .any base t v := hval0
 have hW' := hW
 obtain ⟨p, q, hA0, hV, rfl, _, _⟩ := hW
 have hA : DataW.TrodAll enc Tryz.prog W 0 (fun _ => true) true Tryz.f6.params.toList args.toList ds p := hA0
 rw [Tryz.params6] at hA hval
 obtain ⟨v0, d0, rfl, rfl, h0⟩ := trodAll_one hA
 obtain ⟨rfl, rfl⟩ := trodVars_none hV
 obtain ⟨a0, len, cap, rfl⟩ := okWide_slice Tryz.underlying22 (hval 0 22 v0 rfl rfl)
 simp only [List.append_nil] at hW'
 have hlt : ∀ x ∈ p, x.block < W.heap.size := fun x hx => by simpa using hW'.lt x hx
 refine (callsBudgetsAreEnough (tabBudgetsAreEnough hL) h0).mono fun e W' ⟨he, hb⟩ => ?_
 subst he
 have hargs : DataW.Trod enc Tryz.prog W' 0 (fun b => decide (b < W.heap.size)) true 22 (.slice a0 len cap) d0 p :=
  Below.trod laidOutBudgetsAreEnough (by kernel_rfl) (of_decide_eq_true (by kernel_rfl)) h0 hb hlt
 exact ⟨_, rfl, _, _, _, [], p, [], hW', trodAll_mk1 (shut_bool Tryz.underlying4 _), trodAll_mk1 hargs, rfl, hb.frame _, fun h => by cases h⟩
theorem mapsBudgetsAreEnough : mapsRowed Tryz.prog = true := by kernel_rfl
theorem inplBudgetsAreEnough : (Rows.budgetsAreEnoughRow.inPlace == Tryz.prog.inPlace 6) = true := by kernel_rfl
theorem unfoBudgetsAreEnough : (Rows.budgetsAreEnoughRow.unfollowed == Tryz.prog.unfollowed 6) = true := by kernel_rfl
theorem recuBudgetsAreEnough : (Rows.budgetsAreEnoughRow.recurses == Tryz.prog.recurses 6) = true := by kernel_rfl
theorem varsBudgetsAreEnough : (Rows.budgetsAreEnoughRow.named == Tryz.prog.varsNamed 6) = true := by kernel_rfl
theorem joinBudgetsAreEnough : joinedFacts Tryz.prog 6 Tryz.f6 Rows.budgetsAreEnoughSpec Rows.budgetsAreEnoughRow = true := by
 simp only [joinedFacts, Bool.and_eq_true]
 repeat' apply And.intro
 all_goals first
  | with_reducible exact laidOutBudgetsAreEnough
  | with_reducible exact mapsBudgetsAreEnough
  | with_reducible exact inplBudgetsAreEnough
  | with_reducible exact unfoBudgetsAreEnough
  | with_reducible exact recuBudgetsAreEnough
  | with_reducible exact varsBudgetsAreEnough
  | kernel_rfl
theorem lookBudgetsAreEnough : true = Tryz.prog.looks [] := by kernel_rfl
theorem goesBudgetsAreEnough : false = Rows.budgetsAreEnoughRow.goesBy Tryz.prog := by kernel_rfl
theorem wfbtBudgetsAreEnough : Rows.budgetsAreEnoughRow.wfByText (OpenSpec.ofChange Rows.budgetsAreEnoughSpec) = true := by kernel_rfl
theorem mainBudgetsAreEnough : Tryz.prog.mainIs = some ("c10688da5c0affb0e5611adcc8e2c63f8c4a2cc29d8e1b38022dd36eb1f7a5f6" |> fun h => (true, h.toList)) := by kernel_rfl
theorem stanBudgetsAreEnough : ([22].all fun u => !Tryz.prog.wantsStandIn u) = true := by kernel_rfl
theorem fnamBudgetsAreEnough : Tryz.prog.funcNamed Rows.budgetsAreEnoughRow.func = some 6 := by kernel_rfl
theorem holdsBudgetsAreEnough : Rows.BudgetsAreEnoughSaid :=
 OpenClaim.holds_of_wide 6 Tryz.f6 rfl rfl rfl rfl rfl rfl rfl ⟨rfl, rfl, rfl, rfl, rfl⟩ rfl rfl rfl rfl rfl fnamBudgetsAreEnough Tryz.func6 joinBudgetsAreEnough
  (of_decide_eq_true (by kernel_rfl)) (by unfold Func.isWrapper; first | (rw [if_pos (by decide +kernel)]; kernel_rfl) | (rw [if_neg (by decide +kernel)]; exact ⟨rfl, rfl⟩))
  (fun os started H enc _ => liftedBudgetsAreEnough os started H enc)
theorem cardBudgetsAreEnough : Rows.BudgetsAreEnoughCardSaid :=
 Claim7.holds_tied_plain_at .later [] [.data, .data, .data, .data, .sentinel, .sentinel, .pinned] true (true, "c10688da5c0affb0e5611adcc8e2c63f8c4a2cc29d8e1b38022dd36eb1f7a5f6") true holdsBudgetsAreEnough (fun _ h => by cases h) wfbtBudgetsAreEnough (fun _ h => by cases h) budgetsAreEnough_row_tie rfl ⟨rfl, rfl⟩ mainBudgetsAreEnough rfl
  (fun f fn hf hfn => by
    obtain rfl : f = 6 := Option.some.inj (fnamBudgetsAreEnough.symm.trans hf) |>.symm
    obtain rfl : fn = Tryz.f6 := (Option.some.inj (Tryz.func6.symm.trans hfn)).symm
    exact ⟨lookBudgetsAreEnough, fun j t ht => by
     rw [Tryz.params6] at ht
     have hm : t ∈ [22] := by simpa using Array.mem_of_getElem? ht
     have hall := stanBudgetsAreEnough
     exact (show Tryz.prog.wantsStandIn t = false by simpa using List.all_eq_true.1 hall t hm)⟩)
  goesBudgetsAreEnough
end Go.Proofs.YtcnfhcicepmjcaaGreatDoor
end
