/- Part 4 of the proof: a program logic, contracts of functions and plain facts; no conditions. -/
import Derived.Test.YtjecenjmphpmfaaGreatDoorQCountsTurned3
import Derived.Lib.AtoiBound
import Derived.Lib.ItoaMem
import Derived.Lib.Join
import Derived.Lib.SplitLaws
import Derived.Lib.Strings
set_option linter.unusedVariables false
set_option linter.unusedSimpArgs false
namespace Go.HL
section
theorem Cmp.lt_trans {α : Type} {c : α → α → Int} {s : α → Prop} (h : Cmp c s) {x y z : α} (hx : s x) (hy : s y) (hz : s z) (h1 : c x y < 0) (h2 : c y z < 0) : c x z < 0 := by
 rcases Int.lt_or_le (c x z) 0 with q | q
 ·exact q
 ·exfalso
  have a1 := h.flip y z hy hz
  have a2 := h.flip z x hz hx
  have hzx : c z x ≤ 0 := by
   rcases Int.lt_or_le 0 (c z x) with r | r
   ·have := h.flip x z hx hz; omega
   ·exact r
  have := h.trans z x y hz hx hy hzx (by omega)
  omega
theorem zch (x y : Play) : byNo x y = -byNo y x := by
 unfold byNo
 rw [zou, zfr x.Source, zpA]
theorem zq2 (x y : Play) : byNo x y = if zaX x.Source y.Source ≠ 0 then zaX x.Source y.Source else zcj x.No y.No := by unfold byNo; rw [zh6]
theorem zjJ {a b c : Str} (h1 : zaX a b ≤ 0) (h2 : zaX b c ≤ 0) (h : zaX a c = 0) : zaX a b = 0 ∧ zaX b c = 0 := by
 have e := zbH.1 h
 subst e
 rw [zfr b a] at *
 omega
theorem zuH : Cmp byNo (fun _ => True) where
 flip x y _ _ := by rw [zch x y]; omega
 trans x y z _ _ _ h1 h2 := by
  rw [zq2] at *
  have k1 : zaX x.Source y.Source ≤ 0 := by split at h1 <;> omega
  have k2 : zaX y.Source z.Source ≤ 0 := by split at h2 <;> omega
  have k3 := zfA k1 k2
  split
  ·exact k3
  ·rename_i hz
   have hz' : zaX x.Source z.Source = 0 := by simpa using hz
   obtain ⟨e1, e2⟩ := zjJ k1 k2 hz'
   rw [if_neg (by simp [e1]), zkM] at h1
   rw [if_neg (by simp [e2]), zkM] at h2
   rw [zkM]; omega
theorem zlp {l : List Play} : ∀ (r : List Play) (k : Nat), zaG l k r = 0 → r = l.drop k → ∀ (i : Nat) (x y : Play), k ≤ i → 0 < i → l[i]? = some x → l[i - 1]? = some y → 0 < byNo x y
 | [], k, _, e, i, x, y, hk, h0, hx, hy => by
   have := zK hx
   have h2 := congrArg List.length e
   simp at h2; omega
 | p :: r, k, h, e, i, x, y, hk, h0, hx, hy => by
   rw [zaG] at h
   split at h
   ·contradiction
   ·split at h
    ·omega
    ·rename_i h1 h2
     have hp : l[k]? = some p := by
      have := congrArg (·[0]?) e
      simpa using this.symm
     rcases Nat.eq_or_lt_of_le hk with q | q
     ·subst q
      rw [hp] at hx; cases hx
      have : l.getD (k - 1) zdc = y := by simp [List.getD, hy]
      rw [this] at h2
      omega
     ·refine zlp r (k + 1) h ?_ i x y q h0 hx hy
      have := congrArg List.tail e
      simpa using this
theorem zr2 {l : List Play} (h : zz l = 0) : l.Pairwise fun a b => byNo a b < 0 := by
 have hadj := zlp l 0 (zft h).2 rfl
 rw [List.pairwise_iff_getElem]
 intro i j hi hj hij
 have key : ∀ d (hd : i + d + 1 < l.length), byNo l[i] l[i + d + 1] < 0 := by
  intro d
  induction d with
  | zero =>
    intro hd
    have := hadj (i + 1) _ _ (Nat.zero_le _) (by omega) (List.getElem?_eq_getElem hd) (List.getElem?_eq_getElem (by omega : i + 1 - 1 < l.length))
    rw [zch] at this
    simp only [Nat.add_sub_cancel] at this
    have h' : byNo l[i] l[i + 0 + 1] < 0 := by omega
    exact h'
  | succ d ih =>
    intro hd
    have h1 := ih (by omega)
    have h2 := hadj (i + (d + 1) + 1) _ _ (Nat.zero_le _) (by omega) (List.getElem?_eq_getElem hd) (List.getElem?_eq_getElem (by omega : i + (d + 1) + 1 - 1 < l.length))
    rw [zch] at h2
    simp only [Nat.add_sub_cancel] at h2
    exact zuH.lt_trans trivial trivial trivial h1 (by
     have e : i + (d + 1) = i + d + 1 := by omega
     simp only [e] at h2 ⊢; omega)
 have := key (j - i - 1) (by omega)
 have e : i + (j - i - 1) + 1 = j := by omega
 simpa only [e] using this
/-- A source and a number name one play. -/
def zez (p : Play) : Num := (p.Source, p.No)
def zg9 (l : List Play) : Prop := ∀ (i j : Nat) (x y : Play), l[i]? = some x → l[j]? = some y → zez x = zez y → i = j
theorem zs1 {l : List Play} (h : zz l = 0) : zg9 l := by
 intro i j x y hx hy e
 obtain ⟨hi, rfl⟩ := List.getElem?_eq_some_iff.1 hx
 obtain ⟨hj, rfl⟩ := List.getElem?_eq_some_iff.1 hy
 have hp := List.pairwise_iff_getElem.1 (zr2 h)
 simp only [zez, Prod.mk.injEq] at e
 have hz : ∀ a b : Play, a.Source = b.Source ∧ a.No = b.No → byNo a b = 0 := fun a b q => by
  rw [zq2, q.1, q.2, if_neg (by simp [zbH]), zgA]
 rcases Nat.lt_trichotomy i j with q | q | q
 ·have := hp i j hi hj q
  rw [hz _ _ e] at this; omega
 ·exact q
 ·have := hp j i hj hi q
  rw [hz _ _ ⟨e.1.symm, e.2.symm⟩] at this; omega
theorem ztn {l : List Play} (h : zg9 l) (n : Int) (x : Num) (q : Play) : alk x (zeS l n) = some q ↔ q ∈ l ∧ q.At ≤ n ∧ zez q = x := by
 have key : ∀ k, k ≤ l.length → (alk x (zeS (l.take k) n) = some q ↔ q ∈ l.take k ∧ q.At ≤ n ∧ zez q = x) := by
  intro k
  induction k with
  | zero => intro _; simp [zeS, alk]
  | succ k ih =>
    intro hk
    have hx := List.getElem?_eq_getElem (l := l) (i := k) (by omega)
    generalize l[k] = p at hx
    have ih := ih (by omega)
    rw [zkG hx, zad hx]
    unfold ziT
    have hnew : ∀ y ∈ l.take k, zez y ≠ zez p := fun y hy e => by
     obtain ⟨i, hi, rfl⟩ := List.getElem_of_mem hy
     rw [List.getElem_take] at e
     simp only [List.length_take] at hi
     have := h i k _ _ (List.getElem?_eq_getElem (by omega)) hx e
     omega
    by_cases hp : p.At ≤ n
    ·rw [if_pos hp, zcr]
     by_cases e : x = (p.Source, p.No)
     ·rw [if_pos e]
      constructor
      ·intro hq; cases hq
       exact ⟨by simp, hp, e.symm⟩
      ·rintro ⟨h1, h2, h3⟩
       rcases List.mem_append.1 h1 with h1 | h1
       ·exact absurd (h3.trans e) (hnew q h1)
       ·rw [List.mem_singleton.1 h1]
     ·rw [if_neg e, ih]
      constructor
      ·rintro ⟨h1, h2⟩; exact ⟨List.mem_append_left _ h1, h2⟩
      ·rintro ⟨h1, h2, h3⟩
       rcases List.mem_append.1 h1 with h1 | h1
       ·exact ⟨h1, h2, h3⟩
       ·rw [List.mem_singleton.1 h1] at h3
        exact absurd h3.symm e
    ·rw [if_neg hp, ih]
     constructor
     ·rintro ⟨h1, h2⟩; exact ⟨List.mem_append_left _ h1, h2⟩
     ·rintro ⟨h1, h2, h3⟩
      rcases List.mem_append.1 h1 with h1 | h1
      ·exact ⟨h1, h2, h3⟩
      ·rw [List.mem_singleton.1 h1] at h2; exact absurd h2 hp
 have := key l.length (Nat.le_refl _)
 rwa [List.take_length] at this
/-- p takes q back, as it is known at n. -/
def zfq (n : Int) (p q : Play) : Prop := p.At ≤ n ∧ p.Undo ≠ 0 ∧ q.At ≤ n ∧ zez q = (p.Source, p.Undo) ∧ zhb q p = true
theorem zvD {l : List Play} (h : zg9 l) (n : Int) (x : Num) : zgu l n x = true ↔ ∃ p ∈ l, ∃ q ∈ l, zez q = x ∧ zfq n p q := by
 have key : ∀ m : List Play, ((alk x (ze1 (zeS l n) n m)).getD false = true ↔ ∃ p ∈ m, ∃ q ∈ l, zez q = x ∧ zfq n p q) ∧ ∀ v, alk x (ze1 (zeS l n) n m) = some v → v = true := by
  intro m
  have kk : ∀ k, k ≤ m.length → ((alk x (ze1 (zeS l n) n (m.take k))).getD false = true ↔ ∃ p ∈ m.take k, ∃ q ∈ l, zez q = x ∧ zfq n p q) ∧ ∀ v, alk x (ze1 (zeS l n) n (m.take k)) = some v → v = true := by
   intro k
   induction k with
   | zero => intro _; simp [ze1, alk]
   | succ k ih =>
     intro hk
     have hx := List.getElem?_eq_getElem (l := m) (i := k) (by omega)
     generalize m[k] = p at hx
     obtain ⟨i1, i2⟩ := ih (by omega)
     rw [zgk hx, zad hx]
     have hno : (¬ ∃ q ∈ l, zez q = x ∧ zfq n p q) → ((∃ p' ∈ m.take k ++ [p], ∃ q ∈ l, zez q = x ∧ zfq n p' q) ↔ ∃ p' ∈ m.take k, ∃ q ∈ l, zez q = x ∧ zfq n p' q) := fun hq => by
      constructor
      ·rintro ⟨p', h1, h2⟩
       rcases List.mem_append.1 h1 with h1 | h1
       ·exact ⟨p', h1, h2⟩
       ·rw [List.mem_singleton.1 h1] at h2; exact absurd h2 hq
      ·rintro ⟨p', h1, h2⟩; exact ⟨p', List.mem_append_left _ h1, h2⟩
     unfold zf1
     by_cases c1 : n < p.At ∨ p.Undo = 0
     ·rw [if_pos c1, hno (by rintro ⟨q, _, _, t1, t2, _⟩; omega)]
      exact ⟨i1, i2⟩
     ·rw [if_neg c1]
      by_cases c2 : (alk (p.Source, p.Undo) (zeS l n)).isSome = true ∧ zhb ((alk (p.Source, p.Undo) (zeS l n)).getD zdc) p = true
      ·rw [if_pos c2]
       obtain ⟨q, hq⟩ := Option.isSome_iff_exists.1 c2.1
       have c3 := c2.2
       rw [hq, Option.getD_some] at c3
       obtain ⟨g1, g2, g3⟩ := (ztn h n _ q).1 hq
       rw [zcr]
       by_cases e : x = (p.Source, p.Undo)
       ·rw [if_pos e]
        exact ⟨⟨fun _ => ⟨p, by simp, q, g1, g3.trans e.symm, by omega, by omega, g2, g3, c3⟩, fun _ => rfl⟩, fun v hv => by cases hv; rfl⟩
       ·rw [if_neg e, hno (by rintro ⟨q', _, t0, _, _, _, t4, _⟩; exact e (t0.symm.trans t4))]
        exact ⟨i1, i2⟩
      ·rw [if_neg c2, hno ?_]
       ·exact ⟨i1, i2⟩
       ·rintro ⟨q, hq, t0, t1, t2, t3, t4, t5⟩
        have := (ztn h n (p.Source, p.Undo) q).2 ⟨hq, t3, t4⟩
        exact c2 ⟨by rw [this]; rfl, by rw [this]; exact t5⟩
  have := kk m.length (Nat.le_refl _)
  rwa [List.take_length] at this
 exact (key l).1
/-- The reference's way: the place of the play that is taken back. -/
def zgr (l : List Play) (n : Int) (x y : Play) : Bool := y.Source == x.Source && y.No == x.Undo && y.Undo == 0 && decide (y.At ≤ n) && y.Match == x.Match && y.Player == x.Player && y.Stat == x.Stat
def zfF (l : List Play) (x : Play) (n : Int) : Option Nat := if x.Undo = 0 ∨ n < x.At then none else l.findIdx? (zgr l n x)
theorem ziV (l : List Play) (n : Int) (x y : Play) : zgr l n x y = true ↔ y.At ≤ n ∧ zez y = (x.Source, x.Undo) ∧ zhb y x = true := by
 unfold zgr zhb zez
 simp only [Bool.and_eq_true, beq_iff_eq, decide_eq_true_eq, Prod.mk.injEq]
 constructor
 ·rintro ⟨⟨⟨⟨⟨⟨a, b⟩, c⟩, d⟩, e⟩, f⟩, g⟩; exact ⟨d, ⟨a, b⟩, ⟨⟨c, e⟩, f⟩, g⟩
 ·rintro ⟨d, ⟨a, b⟩, ⟨⟨c, e⟩, f⟩, g⟩; exact ⟨⟨⟨⟨⟨⟨a, b⟩, c⟩, d⟩, e⟩, f⟩, g⟩
theorem zjb {l : List Play} (h : zg9 l) (n : Int) {i : Nat} {x : Play} (hx : l[i]? = some x) : zgu l n (zez x) = true ↔ ∃ p ∈ l, zfF l p n = some i := by
 rw [zvD h]
 constructor
 ·rintro ⟨p, hp, q, hq, e, t1, t2, t3, t4, t5⟩
  obtain ⟨j, hj, rfl⟩ := List.getElem_of_mem hq
  have hij := h j i _ _ (List.getElem?_eq_getElem hj) hx e
  subst hij
  refine ⟨p, hp, ?_⟩
  unfold zfF
  rw [if_neg (by omega), List.findIdx?_eq_some_iff_getElem]
  refine ⟨hj, (ziV l n p _).2 ⟨t3, t4, t5⟩, fun k hk hq => ?_⟩
  obtain ⟨a, b, c⟩ := (ziV l n p _).1 hq
  have := h k j _ _ (List.getElem?_eq_getElem (by omega)) (List.getElem?_eq_getElem hj) (b.trans t4.symm)
  omega
 ·rintro ⟨p, hp, ht⟩
  unfold zfF at ht
  split at ht
  ·cases ht
  ·rename_i hc
   obtain ⟨hi, h1, _⟩ := List.findIdx?_eq_some_iff_getElem.1 ht
   obtain ⟨_, rfl⟩ := List.getElem?_eq_some_iff.1 hx
   obtain ⟨a, b, c⟩ := (ziV l n p _).1 h1
   exact ⟨p, hp, _, List.getElem_mem hi, rfl, by omega, by omega, a, b, c⟩
end
section
def SLt (a b : Str) : Prop := a ≤ b ∧ a ≠ b
theorem zmR {a b : List Str} (ha : a.Pairwise SLt) (hb : b.Pairwise SLt) (h : ∀ x, x ∈ a ↔ x ∈ b) : a = b := by
 have na : a.Nodup := ha.imp fun q => q.2
 have nb : b.Nodup := hb.imp fun q => q.2
 have hp : a.Perm b := (List.perm_ext_iff_of_nodup na nb).2 h
 exact List.Perm.eq_of_pairwise (le := SLt) (fun x y _ _ h1 h2 => List.le_antisymm h1.1 h2.1) ha hb hp
theorem zm5 : ∀ (l : List Str) (p : Option Str) (s : Str), s ∈ l → s ∈ zcl p l ∨ p = some s
 | [], _, _, h => by cases h
 | x :: r, p, s, h => by
   simp only [zcl]
   rcases List.mem_cons.1 h with rfl | h
   ·split
    ·rename_i e; exact .inr e
    ·exact .inl (by simp)
   ·rcases zm5 r (some x) s h with q | q
    ·split
     ·exact .inl q
     ·exact .inl (List.mem_cons_of_mem _ q)
    ·cases q
     split
     ·rename_i e; exact .inr e
     ·exact .inl (by simp)
theorem zkg : ∀ (l : List Str) (p : Option Str), l.Pairwise (fun x y => x ≤ y) → (∀ q, p = some q → ∀ x ∈ l, q ≤ x) → (zcl p l).Pairwise SLt ∧ ∀ q, p = some q → ∀ y ∈ zcl p l, SLt q y
 | [], _, _, _ => ⟨by simp [zcl], fun q _ y hy => by simp [zcl] at hy⟩
 | x :: r, p, h, hp => by
   obtain ⟨h1, h2⟩ := List.pairwise_cons.1 h
   obtain ⟨i1, i2⟩ := zkg r (some x) h2 (fun q e y hy => by cases e; exact h1 y hy)
   simp only [zcl]
   split
   ·rename_i e
    refine ⟨i1, fun q eq y hy => ?_⟩
    rw [e] at eq; cases eq
    exact i2 x rfl y hy
   ·rename_i e
    refine ⟨List.pairwise_cons.2 ⟨fun y hy => i2 x rfl y hy, i1⟩, fun q eq y hy => ?_⟩
    have hqx : SLt q x := ⟨hp q eq x (by simp), fun he => e (by rw [eq, he])⟩
    rcases List.mem_cons.1 hy with rfl | hy
    ·exact hqx
    ·have hxy := i2 x rfl y hy
     refine ⟨List.le_trans hqx.1 hxy.1, fun he => ?_⟩
     subst he
     exact hqx.2 (List.le_antisymm hqx.1 hxy.1)
def zcK (l : List Str) : List Str := Lib.compact (zaQ l)
theorem zkv (l : List Str) : (zcK l).Pairwise SLt := by
 unfold zcK
 rw [zfz]
 exact (zkg _ none (zkl l) (fun q e => by cases e)).1
theorem zkc {l : List Str} {s : Str} : s ∈ zcK l ↔ s ∈ l := by
 constructor
 ·exact zwE
 ·intro h
  unfold zcK
  rw [zfz]
  rcases zm5 (zaQ l) none s ((List.mergeSort_perm _ _).mem_iff.2 h) with q | q
  ·exact q
  ·cases q
theorem zhn {l : List Str} (h : l.Nodup) : (zaQ l).Pairwise SLt := by
 have hn : (zaQ l).Nodup := (List.mergeSort_perm _ _).nodup_iff.2 h
 have hs := zkl l
 rw [List.pairwise_iff_getElem] at *
 intro i j hi hj hij
 exact ⟨hs i j hi hj hij, List.pairwise_iff_getElem.1 hn i j hi hj hij⟩
theorem zqH {l : List Str} (h : l.Nodup) : zcK l = zaQ l :=
 zmR (zkv l) (zhn h) fun x => by rw [zkc, zaQ, (List.mergeSort_perm _ _).mem_iff]
/-- What is told of the sources, the reference's way. -/
def zvr (l : List Play) (trust : List Str) (n : Int) : List PairS := ((zcK (l.map (·.Match))).filter fun m => zdL l trust m n != []).map fun m => ⟨m, zdL l trust m n⟩
theorem zyi {l : List Play} {trust : List Str} {n : Int} {O : List (Str × Str)} (hn : ANodup O) (hO : ∀ m, alk m O = zgj l trust n m) (ht : ∀ s ∈ trust, s ≠ []) :
 ((zaQ (O.map (·.1))).map fun m => (⟨m, (alk m O).getD []⟩ : PairS)) = zvr l trust n := by
 unfold zvr
 have e : zaQ (O.map (·.1)) = (zcK (l.map (·.Match))).filter fun m => zdL l trust m n != [] := by
  refine zmR (zhn hn) ((zkv _).filter _) fun m => ?_
  rw [zaQ, (List.mergeSort_perm _ _).mem_iff, List.mem_filter, zkc]
  have hk : m ∈ O.map (·.1) ↔ ¬ alk m O = none := by rw [zcM]; exact Decidable.not_not.symm
  rw [hk, hO, zhs]
  constructor
  ·intro h
   obtain ⟨s, hs⟩ := Option.ne_none_iff_exists'.1 h
   rw [hs]
   rw [zpH] at hs
   have h1 := List.find?_some hs
   have h2 := List.mem_of_find?_eq_some hs
   unfold zgC at h1
   rw [List.any_eq_true] at h1
   obtain ⟨x, hx, hq⟩ := h1
   simp only [Bool.and_eq_true, beq_iff_eq, decide_eq_true_eq] at hq
   exact ⟨List.mem_map.2 ⟨x, hx, hq.1.2⟩, by simpa using ht s h2⟩
  ·rintro ⟨_, h⟩ hc
   rw [hc] at h; simp at h
 rw [e]
 refine List.map_congr_left fun m _ => ?_
 rw [zhs, hO]
/-- The sums of one player. -/
def zbs {κ : Type} (c : List ((Str × κ) × Int)) (s : Str) : List (κ × Int) := (c.filter fun e => e.1.1 == s).map fun e => (e.1.2, e.2)
theorem znK {κ : Type} [DecidableEq κ] (s : Str) (st : κ) (v : Int) (s' : Str) : ∀ c : List ((Str × κ) × Int), zbs (zY (s, st) v c) s' = if s' = s then zY st v (zbs c s) else zbs c s'
 | [] => by
   by_cases e : s' = s
   ·subst e; simp [zbs, zY]
   ·have : ¬ s = s' := fun q => e q.symm
    simp [zbs, zY, e, this]
 | p :: r => by
   have ih := znK s st v s' r
   obtain ⟨⟨a, b⟩, w⟩ := p
   simp only [zY, Prod.mk.injEq]
   by_cases h1 : s = a
   ·subst h1
    by_cases h2 : st = b
    ·subst h2
     rw [if_pos ⟨rfl, rfl⟩]
     by_cases e : s' = s
     ·subst e; simp [zbs, zY]
     ·have : ¬ s = s' := fun q => e q.symm
      simp [zbs, e, this]
    ·rw [if_neg (fun q => h2 q.2)]
     by_cases e : s' = s
     ·subst e
      rw [if_pos rfl] at ih ⊢
      simp only [zbs, List.filter_cons, beq_self_eq_true, if_true, List.map_cons, zY, if_neg h2] at ih ⊢
      rw [ih]
     ·have : ¬ s = s' := fun q => e q.symm
      rw [if_neg e] at ih ⊢
      simp only [zbs, List.filter_cons, beq_iff_eq, if_neg this] at ih ⊢
      exact ih
   ·rw [if_neg (fun q => h1 q.1)]
    by_cases e : s' = s
    ·subst e
     have : ¬ a = s' := fun q => h1 q.symm
     rw [if_pos rfl] at ih ⊢
     simp only [zbs, List.filter_cons, beq_iff_eq, if_neg this] at ih ⊢
     exact ih
    ·rw [if_neg e] at ih ⊢
     by_cases h3 : a = s'
     ·simp only [zbs, List.filter_cons, beq_iff_eq, if_pos h3, List.map_cons] at ih ⊢
      rw [ih]
     ·simp only [zbs, List.filter_cons, beq_iff_eq, if_neg h3] at ih ⊢
      exact ih
theorem zhG {κ : Type} [DecidableEq κ] (s : Str) (st : κ) : ∀ c : List ((Str × κ) × Int), alk st (zbs c s) = alk (s, st) c
 | [] => rfl
 | ⟨⟨a, b⟩, w⟩ :: r => by
   have ih := zhG s st r
   by_cases h : a = s
   ·subst h
    simp only [zbs, List.filter_cons, beq_self_eq_true, if_true, List.map_cons, alk, Prod.mk.injEq, true_and] at ih ⊢
    rw [ih]
   ·have : ¬ s = a := fun q => h q.symm
    simp only [zbs, List.filter_cons, beq_iff_eq, if_neg h, alk, Prod.mk.injEq, this, false_and, if_false] at ih ⊢
    exact ih
def zeB (E : List (Str × Int)) : List StatS := zaV za9 ((E.filter fun e => e.2 != 0).map fun e => ⟨e.1, e.2⟩)
theorem znh (c : List (Of2 × Int)) (s : Str) : zaW c s = ((zbs c s).filter fun e => e.2 != 0).map fun e => ⟨e.1, e.2⟩ := by
 unfold zaW zbs
 rw [List.filter_map, List.map_map, List.filter_filter]
 congr 1
 refine List.filter_congr fun e _ => ?_
 simp [Bool.and_comm]
theorem zoG (c : List (Of2 × Int)) (s : Str) : zbx c s = zeB (zbs c s) := by unfold zbx zeB; rw [znh]
end
section
/-- Too great a count, or too many. -/
def zgf (L : List LineS) : Bool := L.any fun x => decide (40 < x.Stats.length) || x.Stats.any fun s => out s.Count (-100000) 100000
theorem zli (c : List (Of2 × Int)) (s : Str) : (zbx c s).length = (zaW c s).length := by unfold zbx; rw [zcZ]
theorem zn1 {c : List (Of2 × Int)} {s : Str} {x : StatS} : x ∈ zbx c s ↔ x ∈ zaW c s := by unfold zbx; rw [zdk]
theorem zvQ {c : List (Of2 × Int)} {S : List Str} {week : Int} (hin : ∀ e ∈ c, e.1.1 ∈ S) : zgf ((zaQ S).map fun s => ⟨s, week, zbx c s⟩) = zdS c S := by
 rw [Bool.eq_iff_iff]
 unfold zgf zdS
 rw [List.any_map, Bool.or_eq_true, List.any_eq_true, List.any_eq_true, List.any_eq_true]
 constructor
 ·rintro ⟨s, hs, h⟩
  have hs' : s ∈ S := (List.mergeSort_perm _ _).mem_iff.1 hs
  simp only [Function.comp, Bool.or_eq_true, decide_eq_true_eq] at h
  rcases h with h | h
  ·rw [zli] at h
   exact .inr ⟨s, hs', by simpa using h⟩
  ·obtain ⟨x, hx, ho⟩ := List.any_eq_true.1 h
   rw [zn1] at hx
   unfold zaW at hx
   obtain ⟨e, he, rfl⟩ := List.mem_map.1 hx
   exact .inl ⟨e, (List.mem_filter.1 he).1, ho⟩
 ·rintro (⟨e, he, ho⟩ | ⟨s, hs, h⟩)
  ·refine ⟨e.1.1, (List.mergeSort_perm _ _).mem_iff.2 (hin e he), ?_⟩
   simp only [Function.comp, Bool.or_eq_true]
   right
   rw [List.any_eq_true]
   refine ⟨⟨e.1.2, e.2⟩, ?_, ho⟩
   rw [zn1]
   refine List.mem_map.2 ⟨e, List.mem_filter.2 ⟨he, ?_⟩, rfl⟩
   have : e.2 ≠ 0 := fun q => by rw [q] at ho; simp [out] at ho
   simp [this]
  ·refine ⟨s, (List.mergeSort_perm _ _).mem_iff.2 hs, ?_⟩
   simp only [Function.comp, Bool.or_eq_true]
   left
   rw [zli]; simpa using h
theorem zvc {l : List Play} {trust : List Str} {week n : Int} : ∀ (m : List Play) (q : LnS), (∀ e ∈ q.c, e.1.1 ∈ q.S) → ∀ e ∈ (m.foldl (zdi l trust week n) q).c, e.1.1 ∈ (m.foldl (zdi l trust week n) q).S
 | [], _, h => h
 | x :: m, q, h => by
   rw [List.foldl_cons]
   refine zvc m _ ?_
   unfold zdi
   split
   ·intro e he
    rcases zce he with rfl | he
    ·exact zfc.2 (.inl rfl)
    ·exact zfc.2 (.inr (h e he))
   ·exact h
/-- The lines of the references, before they are looked at. -/
def zdq (q : LnS) (week : Int) : List LineS := (zcK q.S).map fun s => ⟨s, week, zeB (zbs q.c s)⟩
def ziK (l : List Play) (trust : List Str) (week n : Int) : List LineS := if zgf (zdq (zaB l trust week n l) week) then [] else zdq (zaB l trust week n l) week
def ziz (l : List Play) (trust : List Str) (week n : Int) : Int := if zgf (zdq (zaB l trust week n l) week) then 12 else 0
theorem zsU {l : List Play} {trust : List Str} {week n : Int} (ok : ∀ x ∈ l, playFault x = 0) : ziK l trust week n = zcx l trust week n ∧ ziz l trust week n = zaS l trust week n := by
 have hok := zja (l := l) (trust := trust) (week := week) (n := n) ok
 have hin := zvc (l := l) (trust := trust) (week := week) (n := n) l ⟨[], []⟩ (fun e h => by cases h)
 have e : zdq (zaB l trust week n l) week = (zaQ (zaB l trust week n l).S).map fun s => ⟨s, week, zbx (zaB l trust week n l).c s⟩ := by
  unfold zdq
  rw [zqH hok.S]
  refine List.map_congr_left fun s _ => ?_
  rw [zoG]
 have hf : zgf (zdq (zaB l trust week n l) week) = zdS (zaB l trust week n l).c (zaB l trust week n l).S := by
  rw [e]; exact zvQ hin
 unfold ziK ziz zcx zaS zeO zfo
 rw [hf, e]
 exact ⟨rfl, rfl⟩
/-- Whether a play counts, asked as the references ask. -/
theorem zuo {l : List Play} {trust : List Str} {week n : Int} (h : zg9 l) {i : Nat} {x : Play} (hx : l[i]? = some x) (g : Bool) (hg : g = true ↔ ∃ p ∈ l, zfF l p n = some i) :
 (!(x.Week != week || decide (n < x.At) || zdL l trust x.Match n != x.Source || g || decide (0 < x.Undo))) = ze0 l trust week n x := by
 have hgg : g = zgu l n (x.Source, x.No) := by
  rw [Bool.eq_iff_iff, hg]; exact (zjb h n hx).symm
 unfold ze0
 rw [hgg, zhs]
 cases decide (n < x.At) <;> cases (x.Week != week) <;> cases decide (0 < x.Undo) <;> cases zgu l n (x.Source, x.No) <;> simp
end
section
def zl6 (a b : Of2) : Int := orI [zaX a.1 b.1, zaX a.2 b.2]
theorem zwj (a b : Of2) : zl6 a b = if zaX a.1 b.1 ≠ 0 then zaX a.1 b.1 else zaX a.2 b.2 := by unfold zl6; rw [zh6]
theorem ztq (a b : Of2) : zl6 a b = -zl6 b a := by
 unfold zl6
 rw [zfr a.1, zfr a.2, zpA]
theorem zum : Cmp zl6 (fun _ => True) where
 flip x y _ _ := by rw [ztq x y]; omega
 trans x y z _ _ _ h1 h2 := by
  rw [zwj] at *
  have k1 : zaX x.1 y.1 ≤ 0 := by split at h1 <;> omega
  have k2 : zaX y.1 z.1 ≤ 0 := by split at h2 <;> omega
  have k3 := zfA k1 k2
  split
  ·exact k3
  ·rename_i hz
   have hz' : zaX x.1 z.1 = 0 := by simpa using hz
   obtain ⟨e1, e2⟩ := zjJ k1 k2 hz'
   rw [if_neg (by simp [e1])] at h1
   rw [if_neg (by simp [e2])] at h2
   exact zfA h1 h2
def OLt (a b : Of2) : Prop := zl6 a b < 0
/-- The sums of each source: who told, and what they count. -/
structure DisS where
 S : List Str
 c : List ((Str × Of2) × Int)
def zqs (p : Play) : Str × Of2 := (p.Source, (p.Player, p.Stat))
def zwH (q : DisS) (p : Play) : List ((Str × Of2) × Int) := zY (zqs p) ((alk (zqs p) q.c).getD 0 + p.Count) q.c
end
section
theorem zjz {α : Type} {s : Str} {v : α} : ∀ {G : List (Str × α)}, (zY s v G).map (·.1) = zbR s (G.map (·.1))
 | [] => by simp [zY, zbR]
 | p :: r => by
   have ih := zjz (s := s) (v := v) (G := r)
   simp only [zY]
   by_cases h : s = p.1
   ·rw [if_pos h]
    unfold zbR
    rw [if_pos (by simp [h])]
    simp [h]
   ·rw [if_neg h, List.map_cons, ih]
    unfold zbR
    by_cases hc : (r.map (·.1)).contains s = true
    ·rw [if_pos hc, if_pos (by simp at hc ⊢; exact .inr hc)]; rfl
    ·rw [if_neg hc, if_neg (by simp at hc ⊢; exact ⟨h, hc⟩)]; rfl
theorem zjY {α : Type} {s : Str} {v : α} {p : Str × α} : ∀ {G : List (Str × α)}, ANodup G → p ∈ zY s v G → p = (s, v) ∨ (p ∈ G ∧ p.1 ≠ s)
 | [], _, h => by simp [zY] at h; exact .inl h
 | q :: r, hn, h => by
   have h1 := List.nodup_cons.1 hn
   simp only [zY] at h
   by_cases hs : s = q.1
   ·rw [if_pos hs] at h
    rcases List.mem_cons.1 h with h | h
    ·exact .inl h
    ·refine .inr ⟨List.mem_cons_of_mem _ h, fun e => h1.1 ?_⟩
     show q.1 ∈ r.map (·.1)
     rw [← hs, ← e]; exact List.mem_map_of_mem h
   ·rw [if_neg hs] at h
    rcases List.mem_cons.1 h with h | h
    ·subst h; exact .inr ⟨by simp, fun e => hs e.symm⟩
    ·rcases zjY h1.2 h with e | e
     ·exact .inl e
     ·exact .inr ⟨List.mem_cons_of_mem _ e.1, e.2⟩
section
variable {κ : Type}
/-- The maps of maps hold the za5 sums. -/
structure GrOk (S : List Str) (c : List ((Str × κ) × Int)) (G : GrM κ) : Prop where
 keys : G.map (·.1) = S
 nodup : S.Nodup
 val : ∀ p ∈ G, p.2.2 = zbs c p.1
 inS : ∀ e ∈ c, e.1.1 ∈ S
theorem GrOk.anodup {S : List Str} {c : List ((Str × κ) × Int)} {G : GrM κ} (h : GrOk S c G) : ANodup G := by unfold ANodup; rw [h.keys]; exact h.nodup
theorem GrOk.nil : GrOk ([] : List Str) ([] : List ((Str × κ) × Int)) [] := ⟨rfl, List.nodup_nil, (fun p h => by cases h), (fun e h => by cases h)⟩
theorem GrOk.get {S : List Str} {c : List ((Str × κ) × Int)} {G : GrM κ} (h : GrOk S c G) {s : Str} {b : Nat} {L : List (κ × Int)} (hq : alk s G = some (b, L)) : L = zbs c s := h.val _ (zbK hq)
theorem GrOk.none {S : List Str} {c : List ((Str × κ) × Int)} {G : GrM κ} (h : GrOk S c G) {s : Str} : alk s G = none ↔ s ∉ S := by rw [zcM, h.keys]
theorem zsK {S : List Str} {c : List ((Str × κ) × Int)} {s : Str} (h : ∀ e ∈ c, e.1.1 ∈ S) (hs : s ∉ S) : zbs c s = [] := by
 unfold zbs
 rw [List.map_eq_nil_iff, List.filter_eq_nil_iff]
 intro e he hq
 exact hs ((eq_of_beq hq) ▸ h e he)
theorem GrOk.add {S : List Str} {c : List ((Str × κ) × Int)} {G : GrM κ} (h : GrOk S c G) {s : Str} (b : Nat) (hs : alk s G = Option.none) : GrOk (zbR s S) c (zY s (b, []) G) := by
 have hn := h.none.1 hs
 refine ⟨by rw [zjz, h.keys], zgU h.nodup, fun p hp => ?_, fun e he => zfc.2 (.inr (h.inS e he))⟩
 rcases zjY h.anodup hp with rfl | ⟨hp, _⟩
 ·exact (zsK h.inS hn).symm
 ·exact h.val p hp
variable [DecidableEq κ]
theorem GrOk.put {S : List Str} {c : List ((Str × κ) × Int)} {G : GrM κ} (h : GrOk S c G) {s : Str} {b : Nat} {L : List (κ × Int)} (hq : alk s G = some (b, L)) (k : κ) (v : Int) : GrOk S (zY (s, k) v c) (zY s (b, zY k v L) G) := by
 have hs : s ∈ S := by
  refine Decidable.not_not.1 fun hn => ?_
  have := h.none.2 hn
  rw [this] at hq; cases hq
 refine ⟨?_, h.nodup, fun p hp => ?_, fun e he => ?_⟩
 ·rw [zjz, h.keys]
  unfold zbR
  rw [if_pos (by simpa using hs)]
 ·rw [znK]
  rcases zjY h.anodup hp with rfl | ⟨hp, hne⟩
  ·rw [if_pos rfl, ← h.get hq]
  ·rw [if_neg hne]; exact h.val p hp
 ·rcases zce he with rfl | he
  ·exact hs
  ·exact h.inS e he
end
end
section
theorem zry {α : Type} (p : α → Bool) : ∀ (l : List α) (k : Int), zaP p l k = match l.findIdx? p with | none => -1 | some i => k + i
 | [], k => rfl
 | x :: r, k => by
   have ih := zry p r (k + 1)
   simp only [zaP, List.findIdx?_cons]
   by_cases h : p x = true
   ·rw [if_pos h, if_pos h]; simp
   ·rw [if_neg h, if_neg h, ih]
    cases r.findIdx? p with
    | none => rfl
    | some i =>
      show k + 1 + (i : Int) = k + ((i + 1 : Nat) : Int)
      omega
def zeY (l : List Play) (x : Play) (n : Int) : Int := if x.Undo = 0 ∨ n < x.At then -1 else zaP (zgr l n x) l 0
theorem ztE (l : List Play) (x : Play) (n : Int) : zeY l x n = match zfF l x n with | none => -1 | some i => (i : Int) := by
 unfold zeY zfF
 split
 ·rfl
 ·rw [zry]
  cases l.findIdx? (zgr l n x) with
  | none => rfl
  | some i => simp
theorem zmO {l : List Play} {x : Play} {n : Int} {i : Nat} : zeY l x n = (i : Int) ↔ zfF l x n = some i := by
 rw [ztE]
 cases zfF l x n with
 | none => simp
 | some j => simp; omega
/-- The places of the plays that are taken back, as they are found. -/
def zdT (l : List Play) (n : Int) (m : List Play) : List Int := (m.map fun x => zeY l x n).filter fun z => decide (0 ≤ z)
theorem zue {l m : List Play} {n : Int} {k : Nat} {x : Play} (hx : m[k]? = some x) (h : 0 ≤ zeY l x n) : zdT l n (m.take (k + 1)) = zdT l n (m.take k) ++ [zeY l x n] := by
 unfold zdT; rw [zad hx, List.map_append, List.filter_append]; simp [h]
theorem zv4 {l m : List Play} {n : Int} {k : Nat} {x : Play} (hx : m[k]? = some x) (h : ¬ 0 ≤ zeY l x n) : zdT l n (m.take (k + 1)) = zdT l n (m.take k) := by
 unfold zdT; rw [zad hx, List.map_append, List.filter_append]; simp [h]
theorem zpS (l m : List Play) (n : Int) : (zdT l n m).length ≤ m.length := by
 unfold zdT
 exact Nat.le_trans (List.length_filter_le _ _) (by simp)
theorem zuF {l : List Play} {n : Int} {i : Nat} : (i : Int) ∈ zdT l n l ↔ ∃ p ∈ l, zfF l p n = some i := by
 unfold zdT
 rw [List.mem_filter, List.mem_map]
 constructor
 ·rintro ⟨⟨p, hp, e⟩, _⟩; exact ⟨p, hp, zmO.1 e⟩
 ·rintro ⟨p, hp, e⟩; exact ⟨⟨p, hp, zmO.2 e⟩, by simp⟩
/-- Any list with the same members tells who is gone. -/
theorem zoC {l : List Play} (h : zg9 l) {n : Int} {U : List Int} (hU : ∀ z, z ∈ U ↔ z ∈ zdT l n l) {i : Nat} {x : Play} (hx : l[i]? = some x) : U.contains (i : Int) = zgu l n (x.Source, x.No) := by
 rw [Bool.eq_iff_iff, List.contains_iff_mem, hU, zuF]
 exact (zjb h n hx).symm
/-- The line's condition as the references ask. -/
theorem ziG {l : List Play} {trust : List Str} {week n : Int} (h : zg9 l) {U : List Int} (hU : ∀ z, z ∈ U ↔ z ∈ zdT l n l) {i : Nat} {x : Play} (hx : l[i]? = some x) :
 (!(x.Week != week || decide (n < x.At) || zdL l trust x.Match n != x.Source || U.contains (i : Int) || decide (0 < x.Undo))) = ze0 l trust week n x :=
 zuo h hx _ (by rw [zoC h hU hx]; exact zjb h n hx)
end
section
/-- A list without the things that equal the one before (p ahead of the first). -/
def zdb (p : Option Of2) : List Of2 → List Of2
 | [] => []
 | x :: r => if p = some x then zdb (some x) r else x :: zdb (some x) r
theorem OLt.trans {a b c : Of2} (h1 : OLt a b) (h2 : OLt b c) : OLt a c := zum.lt_trans trivial trivial trivial h1 h2
end
section
/-- The plays of the sources that count. -/
def zyf (l : List Play) (trust : List Str) (n : Int) (x : Play) : Bool := decide (zgj l trust n x.Match = some x.Source)
def kept (l : List Play) (trust : List Str) (n : Int) : List Play := l.filter (zyf l trust n)
end
section
structure ChkIs (q : ChkS) (l : List Play) : Prop where
 sn : q.S.Nodup
 s : ∀ s, s ∈ q.S ↔ ∃ x ∈ l, x.Source = s
 wn : ANodup q.W
 w : ∀ m, m ∈ q.W.map (·.1) ↔ ∃ x ∈ l, x.Match = m
 wv : ∀ m v, alk m q.W = some v → ∃ x ∈ l, x.Match = m ∧ x.Week = v
 c : q.c = false ↔ ∀ x ∈ l, ∀ y ∈ l, x.Match = y.Match → x.Week = y.Week
theorem ChkIs.step {q : ChkS} {l : List Play} (h : ChkIs q l) (p : Play) : ChkIs (zgb q p) (l ++ [p]) where
 sn := zgU h.sn
 s s := by
  show s ∈ zbR p.Source q.S ↔ _
  rw [zfc, h.s]
  constructor
  ·rintro (rfl | ⟨x, hx, e⟩)
   ·exact ⟨p, by simp, rfl⟩
   ·exact ⟨x, List.mem_append_left _ hx, e⟩
  ·rintro ⟨x, hx, e⟩
   rcases List.mem_append.1 hx with hx | hx
   ·exact .inr ⟨x, hx, e⟩
   ·rw [List.mem_singleton.1 hx] at e; exact .inl e.symm
 wn := h.wn.put
 w m := by
  show m ∈ (zY p.Match p.Week q.W).map (·.1) ↔ _
  rw [zhR, h.w]
  constructor
  ·rintro (rfl | ⟨x, hx, e⟩)
   ·exact ⟨p, by simp, rfl⟩
   ·exact ⟨x, List.mem_append_left _ hx, e⟩
  ·rintro ⟨x, hx, e⟩
   rcases List.mem_append.1 hx with hx | hx
   ·exact .inr ⟨x, hx, e⟩
   ·rw [List.mem_singleton.1 hx] at e; exact .inl e.symm
 wv m v hv := by
  have hv' : alk m (zY p.Match p.Week q.W) = some v := hv
  rw [zcr] at hv'
  by_cases e : m = p.Match
  ·rw [if_pos e] at hv'; cases hv'
   exact ⟨p, by simp, e.symm, rfl⟩
  ·rw [if_neg e] at hv'
   obtain ⟨x, hx, e1⟩ := h.wv m v hv'
   exact ⟨x, List.mem_append_left _ hx, e1⟩
 c := by
  show (q.c || ((alk p.Match q.W).isSome && ((alk p.Match q.W).getD 0 != p.Week))) = false ↔ _
  rw [Bool.or_eq_false_iff, h.c]
  constructor
  ·rintro ⟨h1, h2⟩
   have hp : ∀ x ∈ l, x.Match = p.Match → x.Week = p.Week := fun x hx e => by
    have hk : p.Match ∈ q.W.map (·.1) := (h.w _).2 ⟨x, hx, e⟩
    have hne : ¬ alk p.Match q.W = none := by rw [zcM]; exact fun z => z hk
    obtain ⟨v, hv⟩ := Option.ne_none_iff_exists'.1 hne
    rw [hv] at h2
    simp at h2
    obtain ⟨y, hy, e1, e2⟩ := h.wv _ _ hv
    rw [h1 x hx y hy (by rw [e, e1]), e2, h2]
   intro x hx y hy e
   rcases List.mem_append.1 hx with hx | hx <;> rcases List.mem_append.1 hy with hy | hy
   ·exact h1 x hx y hy e
   ·rw [List.mem_singleton.1 hy] at e ⊢; exact hp x hx e
   ·rw [List.mem_singleton.1 hx] at e ⊢; exact (hp y hy e.symm).symm
   ·rw [List.mem_singleton.1 hx, List.mem_singleton.1 hy]
  ·intro hall
   refine ⟨fun x hx y hy e => hall x (List.mem_append_left _ hx) y (List.mem_append_left _ hy) e, ?_⟩
   cases hv : alk p.Match q.W with
   | none => rfl
   | some v =>
     obtain ⟨y, hy, e1, e2⟩ := h.wv _ _ hv
     have := hall y (List.mem_append_left _ hy) p (by simp) e1
     simp
     rw [← e2, this]
theorem zwD (l : List Play) : ChkIs (za4 l) l := by
 have key : ∀ k, k ≤ l.length → ChkIs (za4 (l.take k)) (l.take k) := by
  intro k
  induction k with
  | zero =>
    intro _
    refine ⟨List.nodup_nil, fun s => ?_, ANodup.nil, fun m => ?_, fun m v hv => ?_, ?_⟩
    ·simp [za4]
    ·simp [za4]
    ·simp [za4, alk] at hv
    ·simp [za4]
  | succ k ih =>
    intro hk
    have hx := List.getElem?_eq_getElem (l := l) (i := k) (by omega)
    rw [zcW hx, zad hx]
    exact (ih (by omega)).step _
 have := key l.length (Nat.le_refl _)
 rwa [List.take_length] at this
end
section
theorem zwU {p : Play} (h : playFault p = 0) : 1 ≤ p.Week := by
 have h1 := (zcG h).2.2.2.1
 unfold zb3 at h1
 have := zdw (n := p.Week) (lo := 1) (hi := 60) (by simpa using h1)
 omega
theorem zv8 {l : List Play} (hok : ∀ y ∈ l, playFault y = 0) {m : Str} {v : Int} (h : alk m (za4 l).W = some v) : 1 ≤ v := by
 obtain ⟨x, hx, _, rfl⟩ := (zwD l).wv m v h
 exact zwU (hok x hx)
/-- Two weeks of a match, asked as the references ask. -/
theorem zrv {l : List Play} (hok : ∀ y ∈ l, playFault y = 0) (p : Play) :
 ((za4 l).c || ((alk p.Match (za4 l).W).getD 0 != 0 && (alk p.Match (za4 l).W).getD 0 != p.Week)) = (zgb (za4 l) p).c := by
 unfold zgb
 dsimp only
 cases h : alk p.Match (za4 l).W with
 | none => simp
 | some v =>
   have := zv8 hok h
   have h0 : (v != 0) = true := by simp; omega
   simp [h0]
/-! statistics -/
def zcp (E : List (Str × Int)) : List StatS := (E.filter fun e => e.2 != 0).map fun e => ⟨e.1, e.2⟩
theorem zom (E : List (Str × Int)) (q : Str × Int) : zcp (E ++ [q]) = zcp E ++ if q.2 ≠ 0 then [⟨q.1, q.2⟩] else [] := by
 unfold zcp
 rw [List.filter_append, List.map_append, List.filter_cons]
 by_cases h : q.2 ≠ 0
 ·rw [if_pos h, if_pos (by simpa using h)]; rfl
 ·rw [if_neg h, if_neg (by simpa using h)]; rfl
theorem zt8 {E : List (Str × Int)} {q : Str × Int} (h : q.2 ≠ 0) : zcp (E ++ [q]) = zcp E ++ [⟨q.1, q.2⟩] := by rw [zom, if_pos h]
theorem zwg {E : List (Str × Int)} {q : Str × Int} (h : ¬ q.2 ≠ 0) : zcp (E ++ [q]) = zcp E := by rw [zom, if_neg h, List.append_nil]
theorem znt (E : List (Str × Int)) : (zcp E).length ≤ E.length := by unfold zcp; rw [List.length_map]; exact List.length_filter_le _ _
theorem ztY {E c : List (Str × Int)} (h : E.Perm c) : (zcp E).Perm (zcp c) := (h.filter _).map _
theorem zrP {c : List (Str × Int)} (h : ANodup c) {x y : StatS} (hx : x ∈ zcp c) (hy : y ∈ zcp c) (e : x.Name = y.Name) : x = y := by
 unfold zcp at hx hy
 obtain ⟨p, hp, rfl⟩ := List.mem_map.1 hx
 obtain ⟨p', hp', rfl⟩ := List.mem_map.1 hy
 have h1 := (List.mem_filter.1 hp).1
 have h2 := (List.mem_filter.1 hp').1
 have e' : p.1 = p'.1 := e
 have a1 := (zcg h (x := p.1) (v := p.2)).1 h1
 have a2 := (zcg h (x := p'.1) (v := p'.2)).1 h2
 rw [← e', a1] at a2
 have k : p.2 = p'.2 := Option.some.inj a2
 rw [e', k]
theorem zto {E c : List (Str × Int)} (hE : E.Perm c) (hn : ANodup c) {L : List StatS} (hp : L.Perm (zcp E)) (hw : L.Pairwise fun a b => ¬ za9 b a < 0) : L = zeB c := by
 show L = zaV za9 (zcp c)
 exact zcd zbT (fun x y hx hy e => zrP hn hx hy (zbH.1 e)) (hp.trans (ztY hE)) hw
theorem zmJ (c : List (Str × Int)) : (zeB c).length ≤ c.length := by
 show (zaV za9 (zcp c)).length ≤ _
 rw [zcZ]; exact znt c
/-! the sums of players keep apart -/
theorem zqF {κ : Type} [DecidableEq κ] {c : List ((Str × κ) × Int)} (h : ANodup c) (s : Str) : ANodup (zbs c s) := by
 unfold ANodup List.Nodup at *
 rw [List.pairwise_map] at h
 unfold zbs
 rw [List.map_map, List.pairwise_map]
 refine (h.sublist List.filter_sublist).imp_of_mem fun {a b} ha hb hne e => hne ?_
 have k1 := (List.mem_filter.1 ha).2
 have k2 := (List.mem_filter.1 hb).2
 simp only [beq_iff_eq] at k1 k2
 exact Prod.ext (k1.trans k2.symm) e
theorem zoe {κ : Type} (c : List ((Str × κ) × Int)) (s : Str) : (zbs c s).length ≤ c.length := by
 unfold zbs; rw [List.length_map]; exact List.length_filter_le _ _
/-- What the lines say, step by step. -/
def zrK (q : LnS) (week : Int) (s : Str) : LineS := ⟨s, week, zeB (zbs q.c s)⟩
theorem zlj (q : LnS) (week : Int) : zdq q week = (zcK q.S).map (zrK q week) := rfl
/-! what is told to a bound -/
theorem zob (l : List Str) : (zcK l).length ≤ l.length := by
 unfold zcK
 rw [zfz]
 have := zpy (zaQ l) none
 rw [zfl] at this
 exact this
end
section
def zc3 (x : Play) : Prop := Sh x.Source ∧ Sh x.Match ∧ Sh x.Player ∧ Sh x.Stat
structure GoodPl (k : List Play) : Prop where
 len : k.length ≤ 15
 all : ∀ x ∈ k, zc3 x
structure GoodTr (t : List Str) : Prop where
 len : t.length ≤ 4
 all : ∀ s ∈ t, Sh s
def zeX : List Str := [[102, 97], [102, 98], [102, 99]]
theorem ziC : ∀ s ∈ zeX, Sh s := fun s hs => by simp [zeX] at hs; rcases hs with rfl | rfl | rfl <;> (unfold Sh; simp)
def zjg : List Int := [1, 1, 2]
def zd2 : List Str := [[109, 97], [109, 98], [109, 99]]
theorem zhS (k : Nat) : Sh (zd2.getD k []) := by
 match k with
 | 0 => unfold Sh; simp [zd2]
 | 1 => unfold Sh; simp [zd2]
 | 2 => unfold Sh; simp [zd2]
 | n + 3 => unfold Sh; simp [zd2]
theorem zoQ {l : List Int} {z : Int} : l.contains z = l.any (· == z) := by
 rw [Bool.eq_iff_iff, List.contains_iff_mem, List.any_eq_true]
 constructor
 ·intro h; exact ⟨z, h, by simp⟩
 ·rintro ⟨y, hy, e⟩; rw [beq_iff_eq] at e; exact e ▸ hy
end
end Go.HL
namespace Go.Proofs.YtjecenjmphpmfaaGreatDoor
set_option maxRecDepth 100000
set_option linter.unusedVariables false
set_option linter.unusedSimpArgs false
section
open Go.HL
/-- slices.IndexFunc[[]benchwarmer/api.Play,benchwarmer/api.Play] -/
theorem zcA [Tracks] {l : List Play} {fid : FuncId} {caps : List HVal} {p : Play → Bool} (hca : Callable Tryz.prog fid) (hp : ∀ x, ConP Tryz.prog fid ([zR x] ++ caps) (.bool (p x))) (hl : l.length ≤ 1000000) : ConP Tryz.prog 270 [.slice 9 (l.map zR), .fn (.func fid) [] caps] (.int .i64 (zaP p l 0)) := by
 refine Con.of_body Tryz.func270 rfl Tryz.ntmps270 rfl rfl ?_
 refine za ?_
 refine das rfl ?_
 refine dn ?_
 refine zf ?_
 refine za ?_
 refine dmv rfl ?_
 refine dq (zL zaC rfl) ?_
 refine dmv rfl ?_
 refine dn ?_
 refine zn ?_
 refine zak [4, 5, 8, 9, 10, 11, 12, 13, 14, 15, 16, 17, 18] (fun (k : Nat) => [(8, .int .i64 k)]) (fun (k : Nat) => []) (fun (k : Nat) => k ≤ l.length ∧ (zaP p l 0 = zaP p (l.drop k) k)) (fun (k : Nat) => l.length - k) (0) ?_ ?_ ?_ ?_
 ·exact ⟨Nat.zero_le _, rfl⟩
 ·exact ⟨rfl, trivial⟩
 ·exact List.Perm.refl _
 ·intro k hinv
  obtain ⟨hk, hg⟩ := hinv
  refine za ?_
  refine dq (zW rfl rfl) ?_
  refine dn ?_
  refine zf ?_
  refine zi rfl (fun h1 => ?_) (fun h2 => ?_)
  ·try simp at h1
   obtain ⟨x, hx⟩ : ∃ x, l[k]? = some x := ⟨_, List.getElem?_eq_getElem h1⟩
   have hdx := zX hx
   rw [hdx] at hg
   refine zl ?_
   refine ze ?_
   refine zf ?_
   refine zn ?_
   refine za ?_
   refine dmv rfl ?_
   refine das rfl ?_
   refine dn ?_
   refine za ?_
   refine dmv rfl ?_
   refine dmv rfl ?_
   refine dmv rfl ?_
   refine dq (zP zaC zm rfl rfl rfl (by assumption)) ?_
   refine dq (zN zm rfl rfl rfl rfl) ?_
   refine dq (zb4 hca rfl rfl (WeakL.refl _) (hp _)) ?_
   refine dn ?_
   refine zi rfl (fun h3 => ?_) (fun h4 => ?_)
   ·try simp at h3
    refine za ?_
    refine dmv rfl ?_
    refine das rfl ?_
    refine dn ?_
    refine zk ?_
    refine zF rfl ?_
    show HVal.int .i64 _ = _
    (rw [hg]; simp_all [zaP])
   ·try simp at h4
    refine zl ?_
    refine zG ?_
    refine ze ?_
    refine zB ?_
    refine dq (zC rfl rfl (by omega) (by omega)) ?_
    refine dmv rfl ?_
    refine dn ?_
    refine ⟨k + 1, ?_, ?_, ⟨rfl, trivial⟩, (by repeat (first | exact zp | refine zt rfl ?_ | refine zq rfl rfl ?_)), List.Perm.refl _⟩
    ·refine ⟨by omega, ?_⟩
     rw [hg, zaP, if_neg (by simp_all)]; rfl
    ·dsimp only; omega
  ·try simp at h2
   have hnk : l.length ≤ k := by omega
   obtain rfl : k = l.length := by omega
   rw [zap (Nat.le_refl _)] at hg
   refine zU ?_
   refine z6 ?_
   refine zas ?_
   refine zJ ?_
   refine ze ?_
   refine za ?_
   refine das rfl ?_
   refine dn ?_
   refine zk ?_
   refine zF rfl ?_
   show HVal.int .i64 _ = _
   (rw [hg]; rfl)

/-- slices.ContainsFunc[[]benchwarmer/api.Play,benchwarmer/api.Play] -/
theorem zd5 [Tracks] {l : List Play} {fid : FuncId} {caps : List HVal} {p : Play → Bool} (hca : Callable Tryz.prog fid) (hp : ∀ x, ConP Tryz.prog fid ([zR x] ++ caps) (.bool (p x))) (hl : l.length ≤ 1000000) : ConP Tryz.prog 224 [.slice 9 (l.map zR), .fn (.func fid) [] caps] (.bool (l.any p)) := by
 refine Con.of_body Tryz.func224 rfl Tryz.ntmps224 rfl rfl ?_
 refine za ?_
 refine das rfl ?_
 refine dn ?_
 refine za ?_
 refine dmv rfl ?_
 refine dmv rfl ?_
 refine dq (zj zu7 rfl (WeakL.refl _) (zcA hca hp hl)) ?_
 refine dq (zbW rfl rfl) ?_
 refine das rfl ?_
 refine dn ?_
 refine zk ?_
 refine zF rfl ?_
 congr 1; exact zdp p l 0 (by omega)

/-- slices.ContainsFunc[[]benchwarmer/api.Stat,benchwarmer/api.Stat] -/
theorem zd1 [Tracks] {l : List StatS} {fid : FuncId} {caps : List HVal} {p : StatS → Bool} (hca : Callable Tryz.prog fid) (hp : ∀ x, ConP Tryz.prog fid ([zaD x] ++ caps) (.bool (p x))) (hl : l.length ≤ 1000000) : ConP Tryz.prog 229 [.slice 2 (l.map zaD), .fn (.func fid) [] caps] (.bool (l.any p)) := by
 refine Con.of_body Tryz.func229 rfl Tryz.ntmps229 rfl rfl ?_
 refine za ?_
 refine das rfl ?_
 refine dn ?_
 refine za ?_
 refine dmv rfl ?_
 refine dmv rfl ?_
 refine dq (zj zvg rfl (WeakL.refl _) (zcB hca hp hl)) ?_
 refine dq (zbW rfl rfl) ?_
 refine das rfl ?_
 refine dn ?_
 refine zk ?_
 refine zF rfl ?_
 congr 1; exact zdp p l 0 (by omega)

theorem znG [Tracks] {l : List Int} {v : Value} (hl : l.length ≤ 1000000) : Con Tryz.prog 222 [.raw v] [.arr v 1 (l.map (.int .i64))] fun x M' => x = .tup [] ∧ M' = [.arr v 1 ((zje l).map (.int .i64))] :=
 zuw (zj9 l) (fun b off cap w h1 h2 _ => Any.slices_Sort_int Tryz.lays189 b off cap l w h1 h2 (by omega)) (fun _ => ze4 fun I w args ha => by
  obtain ⟨u, rfl, hu⟩ := ha.one
  obtain ⟨p, cap, rfl⟩ := hu.slice_len
  exact ⟨.tuple #[], .tup (by simp) (fun j c v h _ => by simp at h), Any.slices_Sort_int_none Tryz.lays189 p cap w⟩)

theorem zk2 [Tracks] {l : List Int} {v : Value} (hl : l.length ≤ 1000000) : Con Tryz.prog 223 [.raw v] [.arr v 1 (l.map (.int .i64))] fun x M' => ∃ u, x = .raw u ∧ M' = [.arr u 1 ((Lib.compact l).map (.int .i64))] :=
 ztN (zll l) (fun b off cap w h1 _ h3 => Any.slices_Compact_int Tryz.lays220 b off cap l w h1 (by omega) h3) (fun _ w => Any.slices_Compact_int_empty Tryz.lays220 none 0 w)

/-- slices.Index[[]int,int] -/
theorem zh2 [Tracks] {l : List Int} {z : Int} (hl : l.length ≤ 1000000) : ConP Tryz.prog 226 [.slice 1 (l.map (.int .i64)), .int .i64 z] (.int .i64 (zaP (· == z) l 0)) := by
 refine Con.of_body Tryz.func226 rfl Tryz.ntmps226 rfl rfl ?_
 refine za ?_
 refine das rfl ?_
 refine dn ?_
 refine zf ?_
 refine za ?_
 refine dmv rfl ?_
 refine dq (zL zaq rfl) ?_
 refine dmv rfl ?_
 refine dn ?_
 refine zn ?_
 refine zak [4, 5, 8, 9, 10, 11, 12, 13, 14, 15, 16, 17, 18] (fun (k : Nat) => [(8, .int .i64 k)]) (fun (k : Nat) => []) (fun (k : Nat) => k ≤ l.length ∧ (zaP (· == z) l 0 = zaP (· == z) (l.drop k) k)) (fun (k : Nat) => l.length - k) (0) ?_ ?_ ?_ ?_
 ·exact ⟨Nat.zero_le _, rfl⟩
 ·exact ⟨rfl, trivial⟩
 ·exact List.Perm.refl _
 ·intro k hinv
  obtain ⟨hk, hg⟩ := hinv
  refine za ?_
  refine dq (zW rfl rfl) ?_
  refine dn ?_
  refine zf ?_
  refine zi rfl (fun h1 => ?_) (fun h2 => ?_)
  ·try simp at h1
   obtain ⟨x, hx⟩ : ∃ x, l[k]? = some x := ⟨_, List.getElem?_eq_getElem h1⟩
   have hdx := zX hx
   rw [hdx] at hg
   refine zl ?_
   refine ze ?_
   refine zf ?_
   refine zn ?_
   refine za ?_
   refine dmv rfl ?_
   refine das rfl ?_
   refine dn ?_
   refine za ?_
   refine dmv rfl ?_
   refine dmv rfl ?_
   refine dmv rfl ?_
   refine dq (zP zaq ty3 rfl rfl rfl (by assumption)) ?_
   refine dq (zc ty3 rfl rfl rfl) ?_
   refine dq (zaJ rfl rfl) ?_
   refine dn ?_
   refine zi rfl (fun h3 => ?_) (fun h4 => ?_)
   ·try simp at h3
    refine za ?_
    refine dmv rfl ?_
    refine das rfl ?_
    refine dn ?_
    refine zk ?_
    refine zF rfl ?_
    show HVal.int .i64 _ = _
    (rw [hg]; simp_all [zaP])
   ·try simp at h4
    refine zl ?_
    refine zG ?_
    refine ze ?_
    refine zB ?_
    refine dq (zC rfl rfl (by omega) (by omega)) ?_
    refine dmv rfl ?_
    refine dn ?_
    refine ⟨k + 1, ?_, ?_, ⟨rfl, trivial⟩, (by repeat (first | exact zp | refine zt rfl ?_ | refine zq rfl rfl ?_)), List.Perm.refl _⟩
    ·refine ⟨by omega, ?_⟩
     rw [hg, zaP, if_neg (by simp_all; try omega)]; rfl
    ·dsimp only; omega
  ·try simp at h2
   have hnk : l.length ≤ k := by omega
   obtain rfl : k = l.length := by omega
   rw [zap (Nat.le_refl _)] at hg
   refine zU ?_
   refine z6 ?_
   refine zas ?_
   refine zJ ?_
   refine ze ?_
   refine za ?_
   refine das rfl ?_
   refine dn ?_
   refine zk ?_
   refine zF rfl ?_
   show HVal.int .i64 _ = _
   (rw [hg]; rfl)

/-- slices.Contains[[]int,int] -/
theorem zg2 [Tracks] {l : List Int} {z : Int} (hl : l.length ≤ 1000000) : ConP Tryz.prog 161 [.slice 1 (l.map (.int .i64)), .int .i64 z] (.bool (l.contains z)) := by
 refine Con.of_body Tryz.func161 rfl Tryz.ntmps161 rfl rfl ?_
 refine za ?_
 refine das rfl ?_
 refine dn ?_
 refine za ?_
 refine dmv rfl ?_
 refine dmv rfl ?_
 refine dq (zj zw6 rfl (WeakL.refl _) (zh2 (by assumption))) ?_
 refine dq (zbW rfl rfl) ?_
 refine das rfl ?_
 refine dn ?_
 refine zk ?_
 refine zF rfl ?_
 show HVal.bool _ = _
 rw [zoQ, ← zdp _ l 0 (by omega)]

/-- benchwarmer/benchref1.WeekFault -/
theorem zcI [Tracks] {n : Int}  : ConP Tryz.prog 20 [.int .i64 n] (.int .i64 (if zb3 n then 0 else 1)) := by
 refine Con.of_body Tryz.func20 rfl Tryz.ntmps20 rfl rfl ?_
 refine za ?_
 refine das rfl ?_
 refine dn ?_
 refine za ?_
 refine dmv rfl ?_
 refine dq (zj ca54 rfl (WeakL.refl _) zfn) ?_
 refine das rfl ?_
 refine dn ?_
 refine zk ?_
 refine zF rfl ?_
 show HVal.int .i64 _ = _
 unfold zb3
 cases out n 1 60 <;> rfl

/-- benchwarmer/benchref1.PlayFault -/
theorem ziu [Tracks] {p : Play} (hgp : zc3 p) : ConP Tryz.prog 48 [zR p] (.int .i64 (playFault p)) := by
 refine Con.of_body Tryz.func48 rfl Tryz.ntmps48 rfl rfl ?_
 refine za ?_
 refine dq (zao rfl rfl) ?_
 refine das rfl ?_
 refine dn ?_
 refine zf ?_
 refine zn ?_
 refine za ?_
 refine dq (zb zm rfl ty9 (by decide) rfl) ?_
 refine dq (zc ty9 rfl rfl rfl) ?_
 refine dq (zj zgH rfl (WeakL.refl _) (zbV hgp.1)) ?_
 refine dq (zaa rfl) ?_
 refine das rfl ?_
 refine dn ?_
 refine zi rfl (fun h1 => ?_) (fun h2 => ?_)
 ·try simp at h1
  refine za ?_
  refine das rfl ?_
  refine dn ?_
  refine zk ?_
  refine zF rfl ?_
  show HVal.int .i64 _ = _
  simp_all [playFault]
 ·try simp at h2
  refine za ?_
  refine dq (zb zm rfl ty3 (by decide) rfl) ?_
  refine dq (zc ty3 rfl rfl rfl) ?_
  refine dq (zj zf9 rfl (WeakL.refl _) za7) ?_
  refine dq (zaa rfl) ?_
  refine dmv rfl ?_
  refine dg rfl rfl (fun hc => ⟨_, OpenTo.refl _, zb zm rfl ty3 (by decide) rfl⟩) ?_
  refine dg rfl rfl (fun hc => ⟨_, OpenTo.upd (t := 14) rfl (hc) (OpenTo.refl _), zc ty3 rfl rfl rfl⟩) ?_
  refine dg rfl rfl (fun hc => ⟨_, OpenTo.upd (t := 15) rfl (hc) (OpenTo.refl _), zj zpo rfl (WeakL.refl _) zbP⟩) ?_
  refine dg rfl rfl (fun hc => ⟨_, OpenTo.upd (t := 16) rfl (hc) (OpenTo.refl _), zai rfl rfl⟩) ?_
  refine dq (zv rfl (.inl rfl) (.inr ⟨_, rfl, fun h => by simp_all⟩)) ?_
  refine dmv rfl ?_
  refine dg rfl rfl (fun hc => ⟨_, OpenTo.refl _, zb zm rfl ty3 (by decide) rfl⟩) ?_
  refine dg rfl rfl (fun hc => ⟨_, OpenTo.upd (t := 20) rfl (hc) (OpenTo.refl _), zc ty3 rfl rfl rfl⟩) ?_
  refine dg rfl rfl (fun hc => ⟨_, OpenTo.upd (t := 21) rfl (hc) (OpenTo.refl _), zj zrQ rfl (WeakL.refl _) zcI⟩) ?_
  refine dg rfl rfl (fun hc => ⟨_, OpenTo.upd (t := 22) rfl (hc) (OpenTo.refl _), zai rfl rfl⟩) ?_
  refine dq (zv rfl (.inl rfl) (.inr ⟨_, rfl, fun h => by simp_all⟩)) ?_
  refine das rfl ?_
  refine dn ?_
  refine zi rfl (fun h3 => ?_) (fun h4 => ?_)
  ·try simp at h3
   refine za ?_
   refine das rfl ?_
   refine dn ?_
   refine zk ?_
   refine zF rfl ?_
   show HVal.int .i64 _ = _
   simp_all [playFault]
  ·try simp at h4
   refine za ?_
   refine dq (zb zm rfl ty9 (by decide) rfl) ?_
   refine dq (zc ty9 rfl rfl rfl) ?_
   refine dq (zj zgH rfl (WeakL.refl _) (zbV hgp.2.1)) ?_
   refine dq (zaa rfl) ?_
   refine dmv rfl ?_
   refine dg rfl rfl (fun hc => ⟨_, OpenTo.refl _, zb zm rfl ty9 (by decide) rfl⟩) ?_
   refine dg rfl rfl (fun hc => ⟨_, OpenTo.upd (t := 31) rfl (hc) (OpenTo.refl _), zc ty9 rfl rfl rfl⟩) ?_
   refine dg rfl rfl (fun hc => ⟨_, OpenTo.upd (t := 32) rfl (hc) (OpenTo.refl _), zj zgH rfl (WeakL.refl _) (zbV hgp.2.2.1)⟩) ?_
   refine dg rfl rfl (fun hc => ⟨_, OpenTo.upd (t := 33) rfl (hc) (OpenTo.refl _), zaa rfl⟩) ?_
   refine dq (zv rfl (.inl rfl) (.inr ⟨_, rfl, fun h => by simp_all⟩)) ?_
   refine dmv rfl ?_
   refine dg rfl rfl (fun hc => ⟨_, OpenTo.refl _, zb zm rfl ty9 (by decide) rfl⟩) ?_
   refine dg rfl rfl (fun hc => ⟨_, OpenTo.upd (t := 37) rfl (hc) (OpenTo.refl _), zc ty9 rfl rfl rfl⟩) ?_
   refine dg rfl rfl (fun hc => ⟨_, OpenTo.upd (t := 38) rfl (hc) (OpenTo.refl _), zj zgH rfl (WeakL.refl _) (zbV hgp.2.2.2)⟩) ?_
   refine dg rfl rfl (fun hc => ⟨_, OpenTo.upd (t := 39) rfl (hc) (OpenTo.refl _), zaa rfl⟩) ?_
   refine dq (zv rfl (.inl rfl) (.inr ⟨_, rfl, fun h => by simp_all⟩)) ?_
   refine das rfl ?_
   refine dn ?_
   refine zi rfl (fun h5 => ?_) (fun h6 => ?_)
   ·try simp at h5
    refine za ?_
    refine das rfl ?_
    refine dn ?_
    refine zk ?_
    refine zF rfl ?_
    show HVal.int .i64 _ = _
    simp_all [playFault]
   ·try simp at h6
    refine za ?_
    refine dq (zb zm rfl ty3 (by decide) rfl) ?_
    refine dq (zc ty3 rfl rfl rfl) ?_
    refine dq (zj zf9 rfl (WeakL.refl _) za7) ?_
    refine dq (zaa rfl) ?_
    refine dmv rfl ?_
    refine dg rfl rfl (fun hc => ⟨_, OpenTo.refl _, zb zm rfl ty3 (by decide) rfl⟩) ?_
    refine dg rfl rfl (fun hc => ⟨_, OpenTo.upd (t := 48) rfl (hc) (OpenTo.refl _), zc ty3 rfl rfl rfl⟩) ?_
    refine dg rfl rfl (fun hc => ⟨_, OpenTo.refl _, zb zm rfl ty3 (by decide) rfl⟩) ?_
    refine dg rfl rfl (fun hc => ⟨_, OpenTo.upd (t := 50) rfl (hc) (OpenTo.refl _), zc ty3 rfl rfl rfl⟩) ?_
    have hN := zdw (n := p.No) (lo := 1) (hi := 3000) (by simp_all)
    refine dg rfl rfl (fun hc => by have hq := hc; (try simp at hq); exact ⟨_, OpenTo.upd (t := 51) rfl (hc) (OpenTo.refl _), zbd rfl rfl (by omega) (by omega)⟩) ?_
    refine dg rfl rfl (fun hc => ⟨_, OpenTo.upd (t := 52) rfl (hc) (OpenTo.upd (t := 49) rfl (hc) (OpenTo.refl _)), zj zf9 rfl (WeakL.refl _) za7⟩) ?_
    refine dg rfl rfl (fun hc => ⟨_, OpenTo.upd (t := 53) rfl (hc) (OpenTo.refl _), zaa rfl⟩) ?_
    refine dq (zv rfl (.inl rfl) (.inr ⟨_, rfl, fun h => by simp_all⟩)) ?_
    refine das rfl ?_
    refine dn ?_
    refine zi rfl (fun h7 => ?_) (fun h8 => ?_)
    ·try simp at h7
     refine za ?_
     refine das rfl ?_
     refine dn ?_
     refine zk ?_
     refine zF rfl ?_
     show HVal.int .i64 _ = _
     simp_all [playFault]
    ·try simp at h8
     refine za ?_
     refine dq (zb zm rfl ty3 (by decide) rfl) ?_
     refine dq (zc ty3 rfl rfl rfl) ?_
     refine dq (zaf rfl rfl) ?_
     refine dmv rfl ?_
     refine dg rfl rfl (fun hc => ⟨_, OpenTo.refl _, zb zm rfl ty3 (by decide) rfl⟩) ?_
     refine dg rfl rfl (fun hc => ⟨_, OpenTo.upd (t := 61) rfl (hc) (OpenTo.refl _), zc ty3 rfl rfl rfl⟩) ?_
     refine dg rfl rfl (fun hc => ⟨_, OpenTo.upd (t := 62) rfl (hc) (OpenTo.refl _), zai rfl rfl⟩) ?_
     refine dq (zv rfl (.inr ⟨_, rfl, fun h => by simp_all⟩) (.inl rfl)) ?_
     refine das rfl ?_
     refine dn ?_
     refine zi rfl (fun h9 => ?_) (fun h10 => ?_)
     ·try simp at h9
      refine za ?_
      refine das rfl ?_
      refine dn ?_
      refine zk ?_
      refine zF rfl ?_
      show HVal.int .i64 _ = _
      simp_all [playFault]
     ·try simp at h10
      refine zl ?_
      refine zG ?_
      refine ze ?_
      refine za ?_
      refine das rfl ?_
      refine dn ?_
      refine zk ?_
      refine zF rfl ?_
      show HVal.int .i64 _ = _
      simp_all [playFault]

/-- benchwarmer/benchref1.byPlay -/
theorem zgw [Tracks] {a b : Play}  : ConP Tryz.prog 49 [zR a, zR b] (.int .i64 (byNo a b)) := by
 refine Con.of_body Tryz.func49 rfl Tryz.ntmps49 rfl rfl ?_
 refine za ?_
 refine dq (zao rfl rfl) ?_
 refine dq (zao rfl rfl) ?_
 refine das rfl ?_
 refine dn ?_
 refine zaM (fun _ => True) [] mixed ?_
 refine ahp 0 rfl rfl (by kernel_rfl) (by kernel_rfl) (zb zm rfl ty9 (by decide) rfl) ?_
 refine ahp 1 rfl rfl (by kernel_rfl) (by kernel_rfl) (zc ty9 rfl rfl rfl) ?_
 refine ahp 2 rfl rfl (by kernel_rfl) (by kernel_rfl) (zb zm rfl ty9 (by decide) rfl) ?_
 refine ahp 3 rfl rfl (by kernel_rfl) (by kernel_rfl) (zc ty9 rfl rfl rfl) ?_
 refine ahp 4 rfl rfl (by kernel_rfl) (by kernel_rfl) (zj zfC rfl (WeakL.refl _) zaE) ?_
 refine ahp 5 rfl rfl (by kernel_rfl) (by kernel_rfl) (zb zm rfl ty3 (by decide) rfl) ?_
 refine ahp 6 rfl rfl (by kernel_rfl) (by kernel_rfl) (zc ty3 rfl rfl rfl) ?_
 refine ahp 7 rfl rfl (by kernel_rfl) (by kernel_rfl) (zb zm rfl ty3 (by decide) rfl) ?_
 refine ahp 8 rfl rfl (by kernel_rfl) (by kernel_rfl) (zc ty3 rfl rfl rfl) ?_
 refine ahp 9 rfl rfl (by kernel_rfl) (by kernel_rfl) (zj ziq rfl (WeakL.refl _) zbe) ?_
 refine ahp 10 rfl rfl (by kernel_rfl) (by kernel_rfl) (zw (hs := [_, _]) zaq ty3 rfl rfl (by decide) (by decide) rfl) ?_
 refine ahp 11 rfl rfl (by kernel_rfl) (by kernel_rfl) (zj zj0 rfl (WeakL.refl _) (zcz (l := [_, _]) (by simp))) ?_
 refine ahp 12 rfl rfl (by kernel_rfl) (by kernel_rfl) (zaA rfl) ?_
 refine ahz (by kernel_rfl) ?_
 refine zk ?_
 refine zF rfl ?_
 rfl

/-- benchwarmer/benchref1.PlaysFault -/
theorem zh5 [Tracks] {l : List Play} (hl : l.length ≤ 1000000) (hgl : ∀ x ∈ l, zc3 x) : ConP Tryz.prog 16 [zbD l] (.int .i64 (zz l)) := by
 refine Con.of_body Tryz.func16 rfl Tryz.ntmps16 rfl rfl ?_
 refine za ?_
 refine das rfl ?_
 refine dn ?_
 refine zf ?_
 refine za ?_
 refine dmv rfl ?_
 refine dq (zL zaC rfl) ?_
 refine dq (zaf rfl rfl) ?_
 refine dn ?_
 refine zi rfl (fun h1 => ?_) (fun h2 => ?_)
 ·try simp at h1
  refine za ?_
  refine das rfl ?_
  refine dn ?_
  refine zk ?_
  refine zat Ghost.clear rfl ⟨?_, rfl⟩
  show HVal.int .i64 _ = _
  (rw [zz, if_pos (by omega)]; done)
 ·try simp at h2
  refine zl ?_
  refine ze ?_
  refine za ?_
  refine de rfl (za1 fun m12 => ?_)
  refine de rfl (za1 fun m13 => ?_)
  refine das rfl ?_
  refine das rfl ?_
  refine dn ?_
  refine za ?_
  refine das rfl ?_
  refine dn ?_
  refine zf ?_
  refine za ?_
  refine dmv rfl ?_
  refine dq (zL zaC rfl) ?_
  refine dmv rfl ?_
  refine dn ?_
  refine zn ?_
  refine zak [2, 5, 6, 7, 8, 16, 17, 18, 19, 20, 21, 22, 23, 24, 25, 26, 27, 28, 29, 30, 31, 32, 33, 34, 35, 36, 37, 38, 39, 40, 41, 42, 43, 44, 45, 46, 47, 48, 49, 50, 51, 52, 53, 54, 55, 56, 57, 58, 59, 60, 61, 62, 63] (fun (k : Nat) => [(16, .int .i64 k), (5, .bool (za4 (l.take k)).c)]) (fun (k : Nat) => [.map m13 (sk (em (.int .i64) (za4 (l.take k)).W)), .map m12 (sk (zbv (za4 (l.take k)).S))]) (fun (k : Nat) => k ≤ l.length ∧ (zaG l 0 l = zaG l k (l.drop k) ∧ ∀ y ∈ l.take k, playFault y = 0)) (fun (k : Nat) => l.length - k) (0) ?_ ?_ ?_ ?_
  ·exact ⟨Nat.zero_le _, rfl, by simp⟩
  ·exact ⟨rfl, rfl, trivial⟩
  ·exact List.Perm.refl _
  ·intro k hinv
   obtain ⟨hk, hg, hok⟩ := hinv
   refine za ?_
   refine dq (zW rfl rfl) ?_
   refine dn ?_
   refine zf ?_
   refine zi rfl (fun h3 => ?_) (fun h4 => ?_)
   ·try simp at h3
    obtain ⟨x, hx⟩ : ∃ x, l[k]? = some x := ⟨_, List.getElem?_eq_getElem h3⟩
    have hdx := zX hx
    rw [hdx] at hg
    refine zl ?_
    refine ze ?_
    refine zf ?_
    refine zn ?_
    refine za ?_
    refine dmv rfl ?_
    refine dq (zP zaC zm rfl rfl rfl (by assumption)) ?_
    refine dq (zN zm rfl rfl rfl rfl) ?_
    refine de rfl (z8 zm rfl fun b7 => ?_)
    refine das rfl ?_
    refine de0 (zae zm rfl rfl rfl rfl rfl ?_)
    refine dn ?_
    refine zH (Ghost.fc0 7 rfl) ?_
    refine zf ?_
    refine za ?_
    refine dq (zN zm rfl rfl rfl rfl) ?_
    refine dq (zj ca48 rfl (WeakL.refl _) (ziu (hgl x (List.mem_of_getElem? hx)))) ?_
    refine das rfl ?_
    refine dn ?_
    refine za ?_
    refine dmv rfl ?_
    refine dq (zai rfl rfl) ?_
    refine dn ?_
    refine zi rfl (fun h5 => ?_) (fun h6 => ?_)
    ·try simp at h5
     refine za ?_
     refine dmv rfl ?_
     refine das rfl ?_
     refine dn ?_
     refine zk ?_
     refine zat Ghost.clear rfl ⟨?_, rfl⟩
     show HVal.int .i64 _ = _
     (rw [zbz (by omega) (by rw [hg, zaG, if_pos (by simpa using h5)]) (by simpa using h5)]; done)
    ·try simp at h6
     refine zl ?_
     refine ze ?_
     refine zf ?_
     refine zaM (fun _ => True) [] mixed ?_
     refine ahp 0 rfl rfl (by kernel_rfl) (by kernel_rfl) (zd rfl) ?_
     refine ahp 1 rfl rfl (by kernel_rfl) (by kernel_rfl) (zaf rfl rfl) ?_
     refine ahp 2 rfl rfl (by kernel_rfl) (by kernel_rfl) (zd rfl) ?_
     refine ahg 3 rfl rfl (by kernel_rfl) (by kernel_rfl) rfl (fun hc => ⟨_, OpenTo.refl _, zd rfl⟩) ?_
     refine ahg 4 rfl rfl (by kernel_rfl) (by kernel_rfl) rfl (fun hc => ⟨_, OpenTo.refl _, zd rfl⟩) ?_
     refine ahg 5 rfl rfl (by kernel_rfl) (by kernel_rfl) rfl (fun hc => by have hq := hc; (try simp at hq); exact ⟨_, OpenTo.upd (t := 30) rfl (hc) (OpenTo.refl _), zbd rfl rfl (by omega) (by omega)⟩) ?_
     refine ahg 6 rfl rfl (by kernel_rfl) (by kernel_rfl) rfl (fun hc => by have hq := hc; (try simp at hq); exact ⟨_, OpenTo.upd (t := 31) rfl (hc) (OpenTo.upd (t := 29) rfl (hc) (OpenTo.refl _)), zP (j := k - 1) (a := l.getD (k - 1) zdc) zaC zm rfl rfl (by omega) (getD_some (by omega))⟩) ?_
     refine ahg 7 rfl rfl (by kernel_rfl) (by kernel_rfl) rfl (fun hc => ⟨_, OpenTo.upd (t := 32) rfl (hc) (OpenTo.refl _), zN zm rfl rfl rfl rfl⟩) ?_
     refine ahg 8 rfl rfl (by kernel_rfl) (by kernel_rfl) rfl (fun hc => ⟨_, OpenTo.refl _, zN zm rfl rfl rfl rfl⟩) ?_
     refine ahg 9 rfl rfl (by kernel_rfl) (by kernel_rfl) rfl (fun hc => ⟨_, OpenTo.upd (t := 34) rfl (hc) (OpenTo.upd (t := 33) rfl (hc) (OpenTo.refl _)), zj ca49 rfl (WeakL.refl _) zgw⟩) ?_
     refine ahg 10 rfl rfl (by kernel_rfl) (by kernel_rfl) rfl (fun hc => ⟨_, OpenTo.upd (t := 35) rfl (hc) (OpenTo.refl _), zbW rfl rfl⟩) ?_
     refine ahp 11 rfl rfl (by kernel_rfl) (by kernel_rfl) (zv rfl (.inr ⟨_, rfl, fun h => by simp_all⟩) (.inl rfl)) ?_
     refine ahz (by kernel_rfl) ?_
     refine zi rfl (fun h7 => ?_) (fun h8 => ?_)
     ·try simp at h7
      refine za ?_
      refine das rfl ?_
      refine dn ?_
      refine zk ?_
      refine zat Ghost.clear rfl ⟨?_, rfl⟩
      show HVal.int .i64 _ = _
      (rw [zbz (c := 7) (by omega) (by rw [hg, zaG, if_neg (by simpa using h6), if_pos (by obtain ⟨qa, qb⟩ := h7; have qb' : 0 ≤ byNo (l.getD (k - 1) zdc) x := (by simpa using qb); rw [zch]; exact ⟨by omega, by omega⟩)]) (by decide)]; done)
     ·try simp at h8
      refine zl ?_
      refine ze ?_
      refine za ?_
      refine dmv rfl ?_
      refine dq (zb zm rfl ty9 (by decide) rfl) ?_
      refine dq (zc ty9 rfl rfl rfl) ?_
      refine de0 (zcv (i := 1) zgi ty9 rfl rfl rfl rfl ?_)
      refine dn ?_
      refine za ?_
      refine dmv rfl ?_
      refine dmv rfl ?_
      refine dg rfl rfl (fun hc => ⟨_, OpenTo.refl _, zd rfl⟩) ?_
      refine dg rfl rfl (fun hc => ⟨_, OpenTo.refl _, zb zm rfl ty9 (by decide) rfl⟩) ?_
      refine dg rfl rfl (fun hc => ⟨_, OpenTo.upd (t := 44) rfl (hc) (OpenTo.refl _), zc ty9 rfl rfl rfl⟩) ?_
      refine dgl rfl rfl (fun hc => ⟨_, OpenTo.upd (t := 45) rfl (hc) (OpenTo.upd (t := 43) rfl (hc) (OpenTo.refl _)), zbZ (i := 0) (z0 := (0 : Int)) zbM ty9 ty3 rfl rfl rfl rfl ⟨rfl, rfl⟩⟩) ?_
      refine dg rfl rfl (fun hc => ⟨_, OpenTo.upd (t := 46) rfl (hc) (OpenTo.refl _), zai rfl rfl⟩) ?_
      refine dg rfl rfl (fun hc => ⟨_, OpenTo.upd (t := 47) rfl (hc) (OpenTo.refl _), zd rfl⟩) ?_
      refine dg rfl rfl (fun hc => ⟨_, OpenTo.refl _, zd rfl⟩) ?_
      refine dg rfl rfl (fun hc => ⟨_, OpenTo.refl _, zb zm rfl ty9 (by decide) rfl⟩) ?_
      refine dg rfl rfl (fun hc => ⟨_, OpenTo.upd (t := 50) rfl (hc) (OpenTo.refl _), zc ty9 rfl rfl rfl⟩) ?_
      refine dgl rfl rfl (fun hc => ⟨_, OpenTo.upd (t := 51) rfl (hc) (OpenTo.upd (t := 49) rfl (hc) (OpenTo.refl _)), zbZ (i := 0) (z0 := (0 : Int)) zbM ty9 ty3 rfl rfl rfl rfl ⟨rfl, rfl⟩⟩) ?_
      refine dg rfl rfl (fun hc => ⟨_, OpenTo.refl _, zb zm rfl ty3 (by decide) rfl⟩) ?_
      refine dg rfl rfl (fun hc => ⟨_, OpenTo.upd (t := 53) rfl (hc) (OpenTo.refl _), zc ty3 rfl rfl rfl⟩) ?_
      refine dg rfl rfl (fun hc => ⟨_, OpenTo.upd (t := 54) rfl (hc) (OpenTo.upd (t := 52) rfl (hc) (OpenTo.refl _)), zai rfl rfl⟩) ?_
      refine dg rfl rfl (fun hc => ⟨_, OpenTo.upd (t := 48) rfl (hc) (OpenTo.refl _), zv rfl (.inr ⟨_, rfl, fun h => by simp_all⟩) (.inl rfl)⟩) ?_
      refine dq (zv rfl (.inl rfl) (.inr ⟨_, rfl, fun h => by simp_all⟩)) ?_
      refine das rfl ?_
      refine dn ?_
      refine zB ?_
      refine dmv rfl ?_
      refine dq (zb zm rfl ty9 (by decide) rfl) ?_
      refine dq (zc ty9 rfl rfl rfl) ?_
      refine dq (zb zm rfl ty3 (by decide) rfl) ?_
      refine dq (zc ty3 rfl rfl rfl) ?_
      refine de0 (zbu (i := 0) zbM ty9 rfl rfl rfl rfl ?_)
      refine dn ?_
      refine zG ?_
      refine ze ?_
      refine zB ?_
      refine dq (zC rfl rfl (by omega) (by omega)) ?_
      refine dmv rfl ?_
      refine dn ?_
      refine ⟨k + 1, ⟨by omega, ?_, ?_⟩, by dsimp only; omega, ⟨rfl, ?_, trivial⟩, (by repeat (first | exact zp | refine zt rfl ?_ | refine zq rfl rfl ?_)), ?_⟩
      ·rw [hg, zgR (by simpa using h6) (fun hk0 => by have hz := h8; rw [zch] at hz; simp_all; try omega)]
      ·intro y hy
       rw [zad hx] at hy
       rcases List.mem_append.1 hy with hy | hy
       ·exact hok y hy
       ·rw [List.mem_singleton.1 hy]; simpa using h6
      ·rw [zcW hx, ← zrv hok]; exact congrArg (fun b => some (HVal.bool b)) (by cases (za4 (l.take k)).c <;> simp)
      ·exact zS (by dsimp only; rw [zcW hx]; rfl)
   ·try simp at h4
    have hnk : l.length ≤ k := by omega
    obtain rfl : k = l.length := by omega
    rw [zap (Nat.le_refl _)] at hg
    rw [List.take_length]
    refine zU ?_
    refine z6 ?_
    refine zas ?_
    refine zJ ?_
    refine ze ?_
    refine zf ?_
    refine zn ?_
    have e1 : (sk (zbv (za4 l).S)).length = (za4 l).S.length := by simp [sk, zbv]
    have e2 : (sk (em (HVal.int .i64) (za4 l).W)).length = (za4 l).W.length := by simp [sk]
    refine za ?_
    refine dmv rfl ?_
    refine de rfl (zcw (i := 1) zgi rfl rfl ?_)
    refine dq (zaf rfl rfl) ?_
    refine dmv rfl ?_
    refine dg rfl rfl (fun hc => ⟨_, OpenTo.refl _, zd rfl⟩) ?_
    refine dgl rfl rfl (fun hc => ⟨_, OpenTo.upd (t := 69) rfl (hc) (OpenTo.refl _), zcw (i := 0) zbM rfl rfl ⟨rfl, rfl⟩⟩) ?_
    refine dg rfl rfl (fun hc => ⟨_, OpenTo.upd (t := 70) rfl (hc) (OpenTo.refl _), zaf rfl rfl⟩) ?_
    refine dq (zv rfl (.inl rfl) (.inr ⟨_, rfl, fun h => by simp_all⟩)) ?_
    refine das rfl ?_
    refine dn ?_
    refine zi rfl (fun h9 => ?_) (fun h10 => ?_)
    ·try simp at h9
     refine za ?_
     refine das rfl ?_
     refine dn ?_
     refine zk ?_
     refine zat Ghost.clear rfl ⟨?_, rfl⟩
     show HVal.int .i64 _ = _
     (rw [zay (by omega) hg, zaN, if_pos (by omega)]; done)
    ·try simp at h10
     refine za ?_
     refine dmv rfl ?_
     refine das rfl ?_
     refine dn ?_
     refine zi rfl (fun h11 => ?_) (fun h12 => ?_)
     ·try simp at h11
      refine za ?_
      refine das rfl ?_
      refine dn ?_
      refine zk ?_
      refine zat Ghost.clear rfl ⟨?_, rfl⟩
      show HVal.int .i64 _ = _
      (rw [zay (by omega) hg, zaN, if_neg (by omega), if_pos (by assumption)]; done)
     ·try simp at h12
      refine zl ?_
      refine zG ?_
      refine ze ?_
      refine za ?_
      refine das rfl ?_
      refine dn ?_
      refine zk ?_
      refine zat Ghost.clear rfl ⟨?_, rfl⟩
      show HVal.int .i64 _ = _
      (rw [zay (by omega) hg, zaN, if_neg (by omega), if_neg (by simp_all)]; done)

/-- benchwarmer/benchref1.TrustFault -/
theorem zih [Tracks] {l : List Str} (hl : l.length ≤ 1000000) (hs : ∀ s ∈ l, Sh s) : ConP Tryz.prog 18 [eSs l] (.int .i64 (zbw l)) := by
 refine Con.of_body Tryz.func18 rfl Tryz.ntmps18 rfl rfl ?_
 refine za ?_
 refine das rfl ?_
 refine dn ?_
 refine zf ?_
 refine za ?_
 refine dmv rfl ?_
 refine dq (zL zaj rfl) ?_
 refine dq (zaf rfl rfl) ?_
 refine dn ?_
 refine zi rfl (fun h1 => ?_) (fun h2 => ?_)
 ·try simp at h1
  refine za ?_
  refine das rfl ?_
  refine dn ?_
  refine zk ?_
  refine zF rfl ?_
  show HVal.int .i64 _ = _
  (rw [zbw, if_pos (by omega)]; done)
 ·try simp at h2
  refine zl ?_
  refine ze ?_
  refine zf ?_
  refine za ?_
  refine dmv rfl ?_
  refine dq (zL zaj rfl) ?_
  refine dmv rfl ?_
  refine dn ?_
  refine zn ?_
  refine zak [2, 3, 4, 10, 11, 12, 13, 14, 15, 16, 17, 18, 19, 20, 21, 22, 23, 24, 25] (fun (k : Nat) => [(10, .int .i64 k)]) (fun (k : Nat) => []) (fun (k : Nat) => k ≤ l.length ∧ (zbw l = zdf l k (l.drop k))) (fun (k : Nat) => l.length - k) (0) ?_ ?_ ?_ ?_
  ·refine ⟨Nat.zero_le _, ?_⟩
   rw [zbw, if_neg (by omega)]; rfl
  ·exact ⟨rfl, trivial⟩
  ·exact List.Perm.refl _
  ·intro k hinv
   obtain ⟨hk, hg⟩ := hinv
   refine za ?_
   refine dq (zW rfl rfl) ?_
   refine dn ?_
   refine zf ?_
   refine zi rfl (fun h3 => ?_) (fun h4 => ?_)
   ·try simp at h3
    obtain ⟨x, hx⟩ : ∃ x, l[k]? = some x := ⟨_, List.getElem?_eq_getElem h3⟩
    have hdx := zX hx
    rw [hdx] at hg
    refine zl ?_
    refine ze ?_
    refine zf ?_
    refine zn ?_
    refine za ?_
    refine dmv rfl ?_
    refine dq (zP zaj ty9 rfl rfl rfl (by assumption)) ?_
    refine dq (zc ty9 rfl rfl rfl) ?_
    refine das rfl ?_
    refine das rfl ?_
    refine dn ?_
    refine zn ?_
    refine za ?_
    refine dmv rfl ?_
    refine dq (zj zgH rfl (WeakL.refl _) (zbV (hs x (List.mem_of_getElem? hx)))) ?_
    refine dq (zaa rfl) ?_
    refine das rfl ?_
    refine dn ?_
    refine zi rfl (fun h5 => ?_) (fun h6 => ?_)
    ·try simp at h5
     refine za ?_
     refine das rfl ?_
     refine dn ?_
     refine zk ?_
     refine zF rfl ?_
     show HVal.int .i64 _ = _
     (rw [hg]; simp_all [zdf]; done)
    ·try simp at h6
     refine za ?_
     refine dmv rfl ?_
     refine dmv rfl ?_
     refine dq (zeN zaj ty9 rfl rfl ⟨_, _, rfl, rfl⟩ (by omega) (by omega)) ?_
     refine dmv rfl ?_
     refine dq (zj zuu rfl (WeakL.refl _) (zb9 (by simp; omega))) ?_
     refine das rfl ?_
     refine dn ?_
     refine zi rfl (fun h7 => ?_) (fun h8 => ?_)
     ·try simp at h7
      refine za ?_
      refine das rfl ?_
      refine dn ?_
      refine zk ?_
      refine zF rfl ?_
      show HVal.int .i64 _ = _
      (rw [hg]; simp_all [zdf]; done)
     ·try simp at h8
      refine zl ?_
      refine zG ?_
      refine zG ?_
      refine ze ?_
      refine zB ?_
      refine dq (zC rfl rfl (by omega) (by omega)) ?_
      refine dmv rfl ?_
      refine dn ?_
      refine ⟨k + 1, ?_, ?_, ⟨rfl, trivial⟩, (by repeat (first | exact zp | refine zt rfl ?_ | refine zq rfl rfl ?_)), List.Perm.refl _⟩
      ·refine ⟨by omega, ?_⟩
       rw [hg]; simp_all [zdf]
      ·dsimp only; omega
   ·try simp at h4
    have hnk : l.length ≤ k := by omega
    obtain rfl : k = l.length := by omega
    rw [zap (Nat.le_refl _)] at hg
    refine zU ?_
    refine z6 ?_
    refine zas ?_
    refine zJ ?_
    refine ze ?_
    refine za ?_
    refine das rfl ?_
    refine dn ?_
    refine zk ?_
    refine zF rfl ?_
    show HVal.int .i64 _ = _
    (rw [hg]; simp_all [zdf]; done)

/-- benchwarmer/benchref1.counting$1 -/
theorem zh4 [Tracks] {x : Play} {s m : Str} {n : Int}  : ConP Tryz.prog 225 [zR x, .vptr [.str s] 0, .vptr [.str m] 0, .vptr [.int .i64 n] 0] (.bool (x.Source == s && x.Match == m && decide (x.At ≤ n))) := by
 refine Con.of_body Tryz.func225 rfl Tryz.ntmps225 rfl rfl ?_
 refine za ?_
 refine dq (zao rfl rfl) ?_
 refine das rfl ?_
 refine dn ?_
 refine za ?_
 refine dq (zb zm rfl ty9 (by decide) rfl) ?_
 refine dq (zc ty9 rfl rfl rfl) ?_
 refine dq (zc ty9 rfl rfl rfl) ?_
 refine dq (zaY rfl rfl) ?_
 refine dmv rfl ?_
 refine dg rfl rfl (fun hc => ⟨_, OpenTo.refl _, zb zm rfl ty9 (by decide) rfl⟩) ?_
 refine dg rfl rfl (fun hc => ⟨_, OpenTo.upd (t := 11) rfl (hc) (OpenTo.refl _), zc ty9 rfl rfl rfl⟩) ?_
 refine dg rfl rfl (fun hc => ⟨_, OpenTo.refl _, zc ty9 rfl rfl rfl⟩) ?_
 refine dg rfl rfl (fun hc => ⟨_, OpenTo.upd (t := 13) rfl (hc) (OpenTo.upd (t := 12) rfl (hc) (OpenTo.refl _)), zaY rfl rfl⟩) ?_
 refine dq (zv rfl (.inr ⟨_, rfl, fun h => by simp_all⟩) (.inl rfl)) ?_
 refine dmv rfl ?_
 refine dg rfl rfl (fun hc => ⟨_, OpenTo.refl _, zb zm rfl ty3 (by decide) rfl⟩) ?_
 refine dg rfl rfl (fun hc => ⟨_, OpenTo.upd (t := 17) rfl (hc) (OpenTo.refl _), zc ty3 rfl rfl rfl⟩) ?_
 refine dg rfl rfl (fun hc => ⟨_, OpenTo.refl _, zc ty3 rfl rfl rfl⟩) ?_
 refine dg rfl rfl (fun hc => ⟨_, OpenTo.upd (t := 19) rfl (hc) (OpenTo.upd (t := 18) rfl (hc) (OpenTo.refl _)), zc1 rfl rfl⟩) ?_
 refine dq (zv rfl (.inr ⟨_, rfl, fun h => by simp_all⟩) (.inl rfl)) ?_
 refine das rfl ?_
 refine dn ?_
 refine zk ?_
 refine zF rfl ?_
 show HVal.bool _ = _
 (simp_all; done)

/-- benchwarmer/benchref1.counting -/
theorem zjp [Tracks] {l : List Play} {trust : List Str} {m : Str} {n : Int} (hl : l.length ≤ 1000000) (ht : trust.length ≤ 1000000) : ConP Tryz.prog 160 [zbD l, eSs trust, .str m, .int .i64 n] (.str (zdL l trust m n)) := by
 refine Con.of_body Tryz.func160 rfl Tryz.ntmps160 rfl rfl ?_
 refine za ?_
 refine dq (zao rfl rfl) ?_
 refine dq (zao rfl rfl) ?_
 refine das rfl ?_
 refine dn ?_
 refine zf ?_
 refine za ?_
 refine dmv rfl ?_
 refine dq (zL zaj rfl) ?_
 refine dmv rfl ?_
 refine dn ?_
 refine zn ?_
 refine zak [8, 10, 13, 14, 15, 16, 17, 18, 19, 20, 21] (fun (k : Nat) => [(13, .int .i64 k)]) (fun (k : Nat) => []) (fun (k : Nat) => k ≤ trust.length ∧ (zdL l trust m n = ((trust.drop k).find? (zgC l m n)).getD [])) (fun (k : Nat) => trust.length - k) (0) ?_ ?_ ?_ ?_
 ·exact ⟨Nat.zero_le _, rfl⟩
 ·exact ⟨rfl, trivial⟩
 ·exact List.Perm.refl _
 ·intro k hinv
  obtain ⟨hk, hg⟩ := hinv
  refine za ?_
  refine dq (zW rfl rfl) ?_
  refine dn ?_
  refine zf ?_
  refine zi rfl (fun h1 => ?_) (fun h2 => ?_)
  ·try simp at h1
   obtain ⟨x, hx⟩ : ∃ x, trust[k]? = some x := ⟨_, List.getElem?_eq_getElem h1⟩
   have hdx := zX hx
   rw [hdx] at hg
   refine zl ?_
   refine ze ?_
   refine zf ?_
   refine zn ?_
   refine za ?_
   refine dq (zP zaj ty9 rfl rfl rfl (by assumption)) ?_
   refine dq (zc ty9 rfl rfl rfl) ?_
   refine de rfl (z8 ty9 rfl fun b10 => ?_)
   refine de0 (zae ty9 rfl rfl rfl rfl rfl ?_)
   refine dn ?_
   refine zH (Ghost.fc0 10 rfl) ?_
   refine za ?_
   refine dmv rfl ?_
   refine dq (zcF rfl rfl) ?_
   refine dq (ziI (h' := .bool (zgC l m n x)) (zj zwZ rfl (WeakL.refl _) (zd5 (l := l) (p := fun y => y.Source == x && y.Match == m && decide (y.At ≤ n)) zxC (fun _ => zh4) hl)) rfl) ?_
   refine dn ?_
   refine zi rfl (fun h3 => ?_) (fun h4 => ?_)
   ·try simp at h3
    refine za ?_
    refine dq (zc ty9 rfl rfl rfl) ?_
    refine das rfl ?_
    refine dn ?_
    refine zk ?_
    refine zF rfl ?_
    show HVal.str _ = _
    (rw [hg, List.find?_cons_of_pos (by simp_all)]; rfl)
   ·try simp at h4
    refine zl ?_
    refine zG ?_
    refine ze ?_
    refine zB ?_
    refine dq (zC rfl rfl (by omega) (by omega)) ?_
    refine dmv rfl ?_
    refine dn ?_
    refine ⟨k + 1, ?_, ?_, ⟨rfl, trivial⟩, (by repeat (first | exact zp | refine zt rfl ?_ | refine zq rfl rfl ?_)), List.Perm.refl _⟩
    ·refine ⟨by omega, ?_⟩
     rw [hg, List.find?_cons_of_neg (by simp_all)]
    ·dsimp only; omega
  ·try simp at h2
   have hnk : trust.length ≤ k := by omega
   obtain rfl : k = trust.length := by omega
   rw [zap (Nat.le_refl _)] at hg
   refine zU ?_
   refine z6 ?_
   refine zas ?_
   refine zJ ?_
   refine ze ?_
   refine za ?_
   refine das rfl ?_
   refine dn ?_
   refine zk ?_
   refine zF rfl ?_
   show HVal.str _ = _
   (rw [hg]; rfl)

/-- benchwarmer/benchref1.takes$1 -/
theorem zjN [Tracks] {y x : Play} {n : Int}  : ConP Tryz.prog 271 [zR y, .vptr (zh (zR x)) 0, .vptr [.int .i64 n] 0] (.bool (zgr [] n x y)) := by
 refine Con.of_body Tryz.func271 rfl Tryz.ntmps271 rfl rfl ?_
 refine za ?_
 refine dq (zao rfl rfl) ?_
 refine das rfl ?_
 refine dn ?_
 refine za ?_
 refine dq (zb zm rfl ty9 (by decide) rfl) ?_
 refine dq (zc ty9 rfl rfl rfl) ?_
 refine dq (zb zm rfl ty9 (by decide) rfl) ?_
 refine dq (zc ty9 rfl rfl rfl) ?_
 refine dq (zaY rfl rfl) ?_
 refine dmv rfl ?_
 refine dg rfl rfl (fun hc => ⟨_, OpenTo.refl _, zb zm rfl ty3 (by decide) rfl⟩) ?_
 refine dg rfl rfl (fun hc => ⟨_, OpenTo.upd (t := 11) rfl (hc) (OpenTo.refl _), zc ty3 rfl rfl rfl⟩) ?_
 refine dg rfl rfl (fun hc => ⟨_, OpenTo.refl _, zb zm rfl ty3 (by decide) rfl⟩) ?_
 refine dg rfl rfl (fun hc => ⟨_, OpenTo.upd (t := 13) rfl (hc) (OpenTo.refl _), zc ty3 rfl rfl rfl⟩) ?_
 refine dg rfl rfl (fun hc => ⟨_, OpenTo.upd (t := 14) rfl (hc) (OpenTo.upd (t := 12) rfl (hc) (OpenTo.refl _)), zaJ rfl rfl⟩) ?_
 refine dq (zv rfl (.inr ⟨_, rfl, fun h => by simp_all⟩) (.inl rfl)) ?_
 refine dmv rfl ?_
 refine dg rfl rfl (fun hc => ⟨_, OpenTo.refl _, zb zm rfl ty3 (by decide) rfl⟩) ?_
 refine dg rfl rfl (fun hc => ⟨_, OpenTo.upd (t := 18) rfl (hc) (OpenTo.refl _), zc ty3 rfl rfl rfl⟩) ?_
 refine dg rfl rfl (fun hc => ⟨_, OpenTo.upd (t := 19) rfl (hc) (OpenTo.refl _), zaJ rfl rfl⟩) ?_
 refine dq (zv rfl (.inr ⟨_, rfl, fun h => by simp_all⟩) (.inl rfl)) ?_
 refine dmv rfl ?_
 refine dg rfl rfl (fun hc => ⟨_, OpenTo.refl _, zb zm rfl ty3 (by decide) rfl⟩) ?_
 refine dg rfl rfl (fun hc => ⟨_, OpenTo.upd (t := 23) rfl (hc) (OpenTo.refl _), zc ty3 rfl rfl rfl⟩) ?_
 refine dg rfl rfl (fun hc => ⟨_, OpenTo.refl _, zc ty3 rfl rfl rfl⟩) ?_
 refine dg rfl rfl (fun hc => ⟨_, OpenTo.upd (t := 25) rfl (hc) (OpenTo.upd (t := 24) rfl (hc) (OpenTo.refl _)), zc1 rfl rfl⟩) ?_
 refine dq (zv rfl (.inr ⟨_, rfl, fun h => by simp_all⟩) (.inl rfl)) ?_
 refine dmv rfl ?_
 refine dg rfl rfl (fun hc => ⟨_, OpenTo.refl _, zb zm rfl ty9 (by decide) rfl⟩) ?_
 refine dg rfl rfl (fun hc => ⟨_, OpenTo.upd (t := 29) rfl (hc) (OpenTo.refl _), zc ty9 rfl rfl rfl⟩) ?_
 refine dg rfl rfl (fun hc => ⟨_, OpenTo.refl _, zb zm rfl ty9 (by decide) rfl⟩) ?_
 refine dg rfl rfl (fun hc => ⟨_, OpenTo.upd (t := 31) rfl (hc) (OpenTo.refl _), zc ty9 rfl rfl rfl⟩) ?_
 refine dg rfl rfl (fun hc => ⟨_, OpenTo.upd (t := 32) rfl (hc) (OpenTo.upd (t := 30) rfl (hc) (OpenTo.refl _)), zaY rfl rfl⟩) ?_
 refine dq (zv rfl (.inr ⟨_, rfl, fun h => by simp_all⟩) (.inl rfl)) ?_
 refine dmv rfl ?_
 refine dg rfl rfl (fun hc => ⟨_, OpenTo.refl _, zb zm rfl ty9 (by decide) rfl⟩) ?_
 refine dg rfl rfl (fun hc => ⟨_, OpenTo.upd (t := 36) rfl (hc) (OpenTo.refl _), zc ty9 rfl rfl rfl⟩) ?_
 refine dg rfl rfl (fun hc => ⟨_, OpenTo.refl _, zb zm rfl ty9 (by decide) rfl⟩) ?_
 refine dg rfl rfl (fun hc => ⟨_, OpenTo.upd (t := 38) rfl (hc) (OpenTo.refl _), zc ty9 rfl rfl rfl⟩) ?_
 refine dg rfl rfl (fun hc => ⟨_, OpenTo.upd (t := 39) rfl (hc) (OpenTo.upd (t := 37) rfl (hc) (OpenTo.refl _)), zaY rfl rfl⟩) ?_
 refine dq (zv rfl (.inr ⟨_, rfl, fun h => by simp_all⟩) (.inl rfl)) ?_
 refine dmv rfl ?_
 refine dg rfl rfl (fun hc => ⟨_, OpenTo.refl _, zb zm rfl ty9 (by decide) rfl⟩) ?_
 refine dg rfl rfl (fun hc => ⟨_, OpenTo.upd (t := 43) rfl (hc) (OpenTo.refl _), zc ty9 rfl rfl rfl⟩) ?_
 refine dg rfl rfl (fun hc => ⟨_, OpenTo.refl _, zb zm rfl ty9 (by decide) rfl⟩) ?_
 refine dg rfl rfl (fun hc => ⟨_, OpenTo.upd (t := 45) rfl (hc) (OpenTo.refl _), zc ty9 rfl rfl rfl⟩) ?_
 refine dg rfl rfl (fun hc => ⟨_, OpenTo.upd (t := 46) rfl (hc) (OpenTo.upd (t := 44) rfl (hc) (OpenTo.refl _)), zaY rfl rfl⟩) ?_
 refine dq (zv rfl (.inr ⟨_, rfl, fun h => by simp_all⟩) (.inl rfl)) ?_
 refine das rfl ?_
 refine dn ?_
 refine zk ?_
 refine zF rfl ?_
 show HVal.bool _ = _
 unfold zgr
 cases y.Source == x.Source <;> cases y.No == x.Undo <;> cases y.Undo == 0 <;> cases y.Match == x.Match <;> cases y.Player == x.Player <;> cases y.Stat == x.Stat <;> simp_all

/-- benchwarmer/benchref1.takes -/
theorem zk9 [Tracks] {l : List Play} {i : Nat} {x : Play} {n : Int} (hl : l.length ≤ 1000000) (hx : l[i]? = some x) : ConP Tryz.prog 221 [zbD l, .int .i64 (i : Int), .int .i64 n] (.int .i64 (zeY l x n)) := by
 refine Con.of_body Tryz.func221 rfl Tryz.ntmps221 rfl rfl ?_
 refine za ?_
 refine dq (zao rfl rfl) ?_
 refine das rfl ?_
 refine dn ?_
 refine za ?_
 refine dmv rfl ?_
 refine dmv rfl ?_
 refine dq (zP (j := i) (a := x) zaC zm rfl rfl rfl hx) ?_
 refine dq (zN zm rfl rfl rfl rfl) ?_
 refine de rfl (z8 zm rfl fun b7 => ?_)
 refine de0 (zae zm rfl rfl rfl rfl rfl ?_)
 refine dn ?_
 refine zH (Ghost.fc0 7 rfl) ?_
 refine zf ?_
 refine za ?_
 refine dq (zb zm rfl ty3 (by decide) rfl) ?_
 refine dq (zc ty3 rfl rfl rfl) ?_
 refine dq (zaJ rfl rfl) ?_
 refine dmv rfl ?_
 refine dg rfl rfl (fun hc => ⟨_, OpenTo.refl _, zb zm rfl ty3 (by decide) rfl⟩) ?_
 refine dg rfl rfl (fun hc => ⟨_, OpenTo.upd (t := 16) rfl (hc) (OpenTo.refl _), zc ty3 rfl rfl rfl⟩) ?_
 refine dg rfl rfl (fun hc => ⟨_, OpenTo.refl _, zc ty3 rfl rfl rfl⟩) ?_
 refine dg rfl rfl (fun hc => ⟨_, OpenTo.upd (t := 18) rfl (hc) (OpenTo.upd (t := 17) rfl (hc) (OpenTo.refl _)), zaf rfl rfl⟩) ?_
 refine dq (zv rfl (.inl rfl) (.inr ⟨_, rfl, fun h => by simp_all⟩)) ?_
 refine dn ?_
 refine zi rfl (fun h1 => ?_) (fun h2 => ?_)
 ·try simp at h1
  refine za ?_
  refine das rfl ?_
  refine dn ?_
  refine zk ?_
  refine zF rfl ?_
  show HVal.int .i64 _ = _
  (rw [zeY, if_pos (by simpa using h1)]; done)
 ·try simp at h2
  refine zl ?_
  refine ze ?_
  refine za ?_
  refine dmv rfl ?_
  refine dq (zcF rfl rfl) ?_
  refine dq (zj zu7 rfl (WeakL.refl _) (zcA (l := l) (p := zgr l n x) zxb (fun _ => zjN) hl)) ?_
  refine das rfl ?_
  refine dn ?_
  refine zk ?_
  refine zF rfl ?_
  show HVal.int .i64 _ = _
  (rw [zeY, if_neg (by simpa using h2)]; done)

/-- benchwarmer/benchref1.undoneBy -/
theorem zjt [Tracks] {l : List Play} {n : Int} (hl : l.length ≤ 1000000) : Con Tryz.prog 159 [zbD l, .int .i64 n] [] (fun x M' => ∃ U : List Int, x = .slice 1 (U.map (.int .i64)) ∧ (U.length ≤ 1000000 ∧ ∀ z, z ∈ U ↔ z ∈ zdT l n l) ∧ M' = []) := by
 refine Con.of_body Tryz.func159 rfl Tryz.ntmps159 rfl rfl ?_
 refine za ?_
 refine das rfl ?_
 refine dn ?_
 refine za ?_
 refine das rfl ?_
 refine dn ?_
 refine zH (Ghost.arr_nil 1) ?_
 refine zf ?_
 refine za ?_
 refine dmv rfl ?_
 refine dq (zL zaC rfl) ?_
 refine dmv rfl ?_
 refine dn ?_
 refine zn ?_
 refine zaI [5, 6, 7, 10, 11, 12, 13, 14, 15, 16, 17, 18, 19, 20, 21, 22, 23] (fun (k : Nat) (u : Value) => [(10, .int .i64 k), (5, .raw u)]) (fun (k : Nat) (u : Value) => [.arr u 1 ((zdT l n (l.take k)).map (.int .i64))]) (fun (k : Nat) (u : Value) => k ≤ l.length ∧ (True)) (fun (k : Nat) (u : Value) => l.length - k) (0) (.slice none 0 0) ?_ ?_ ?_ ?_
 ·exact ⟨Nat.zero_le _, trivial⟩
 ·exact ⟨rfl, rfl, trivial⟩
 ·exact List.Perm.refl _
 ·intro k u hinv
  obtain ⟨hk, -⟩ := hinv
  refine za ?_
  refine dq (zW rfl rfl) ?_
  refine dn ?_
  refine zf ?_
  refine zi rfl (fun h1 => ?_) (fun h2 => ?_)
  ·try simp at h1
   obtain ⟨x, hx⟩ : ∃ x, l[k]? = some x := ⟨_, List.getElem?_eq_getElem h1⟩
   have hdx := zX hx
   have hul : (zdT l n (l.take k)).length ≤ k := Nat.le_trans (zpS _ _ _) (by simp; omega)
   refine zl ?_
   refine ze ?_
   refine zf ?_
   refine zn ?_
   refine za ?_
   refine dmv rfl ?_
   refine das rfl ?_
   refine dn ?_
   refine za ?_
   refine dmv rfl ?_
   refine dmv rfl ?_
   refine dmv rfl ?_
   refine dq (zj zya rfl (WeakL.refl _) (zk9 hl hx)) ?_
   refine das rfl ?_
   refine dn ?_
   refine za ?_
   refine dmv rfl ?_
   refine dq (zbW rfl rfl) ?_
   refine dn ?_
   refine zi rfl (fun h3 => ?_) (fun h4 => ?_)
   ·try simp at h3
    refine zB ?_
    refine dmv rfl ?_
    refine dmv rfl ?_
    refine dq (zw (hs := [_]) zaq ty3 rfl rfl (by decide) (by decide) rfl) ?_
    refine de rfl (zan (i := 0) zaq ty3 rfl rfl rfl rfl rfl (by simp [za5, zh]) (by first | omega | (simp; omega)) fun v22 => ?_)
    refine das rfl ?_
    refine dn ?_
    refine zG ?_
    refine ze ?_
    refine zB ?_
    refine dq (zC rfl rfl (by omega) (by omega)) ?_
    refine dmv rfl ?_
    refine dn ?_
    exact ⟨k + 1, v22, ⟨by omega, trivial⟩, by dsimp only; omega, ⟨rfl, rfl, trivial⟩, (by repeat (first | exact zp | refine zt rfl ?_ | refine zq rfl rfl ?_)), zS (by dsimp only; rw [zue hx (by simpa using h3)]; simp)⟩
   ·try simp at h4
    refine zl ?_
    refine zG ?_
    refine ze ?_
    refine zB ?_
    refine dq (zC rfl rfl (by omega) (by omega)) ?_
    refine dmv rfl ?_
    refine dn ?_
    exact ⟨k + 1, u, ⟨by omega, trivial⟩, by dsimp only; omega, ⟨rfl, rfl, trivial⟩, (by repeat (first | exact zp | refine zt rfl ?_ | refine zq rfl rfl ?_)), zS (by dsimp only; rw [zv4 hx (by simpa using h4)])⟩
  ·try simp at h2
   have hnk : l.length ≤ k := by omega
   obtain rfl : k = l.length := by omega
   refine zU ?_
   refine z6 ?_
   refine zaR ?_
   refine zJ ?_
   refine ze ?_
   rw [List.take_length]
   have hul := zpS l l n
   refine za ?_
   refine dmv rfl ?_
   refine de rfl (zo (i := 0) zx0 rfl (WeakL.refl _) rfl (znG (l := zdT l n l) (by omega)) ?_)
   rintro _ _ ⟨rfl, rfl⟩
   refine dn ?_
   refine za ?_
   refine dmv rfl ?_
   refine de rfl (zo (i := 0) zxA rfl (WeakL.refl _) rfl (zk2 (l := zje (zdT l n l)) (by rw [zj9]; omega)) ?_)
   rintro _ _ ⟨u27, rfl, rfl⟩
   refine das rfl ?_
   refine dn ?_
   refine zk ?_
   refine zat (Ghost.fa 4 (i := 0) rfl rfl) rfl ⟨Lib.compact (zje (zdT l n l)), rfl, ⟨by have := zll (zje (zdT l n l)); rw [zj9] at this; omega, fun z => by rw [zpG, zsT]⟩, rfl⟩

/-- benchwarmer/benchref1.stats$1 -/
theorem zjL [Tracks] {a b : StatS}  : ConP Tryz.prog 228 [zaD a, zaD b] (.int .i64 (za9 a b)) := by
 refine Con.of_body Tryz.func228 rfl Tryz.ntmps228 rfl rfl ?_
 refine za ?_
 refine dq (zao rfl rfl) ?_
 refine dq (zao rfl rfl) ?_
 refine das rfl ?_
 refine dn ?_
 refine za ?_
 refine dq (zb zam rfl ty9 (by decide) rfl) ?_
 refine dq (zc ty9 rfl rfl rfl) ?_
 refine dq (zb zam rfl ty9 (by decide) rfl) ?_
 refine dq (zc ty9 rfl rfl rfl) ?_
 refine dq (zj zfC rfl (WeakL.refl _) zaE) ?_
 refine das rfl ?_
 refine dn ?_
 refine zk ?_
 refine zF rfl ?_
 rfl

set_option maxHeartbeats 1000000 in
/-- benchwarmer/benchref1.stats -/
theorem zgL [Tracks] {b : Nat} {c : List (Str × Int)} (hn : ANodup c) (hc : c.length ≤ 1000000) : Con Tryz.prog 163 [.raw (.map (some b))] [.map b (sk (em (HVal.int .i64) c))] (fun x M' => x = zm7 (zeB c) ∧ M' = [.map b (sk (em (HVal.int .i64) c))]) := by
 refine Con.of_body Tryz.func163 rfl Tryz.ntmps163 rfl rfl ?_
 refine za ?_
 refine das rfl ?_
 refine dn ?_
 refine za ?_
 refine das rfl ?_
 refine dn ?_
 refine zH (Ghost.arr_nil 2) ?_
 refine zf ?_
 refine za ?_
 refine dmv rfl ?_
 refine de rfl (zfp (i := 1) zbM rfl rfl fun r => ?_)
 refine dn ?_
 refine zn ?_
 refine zdO [3, 4, 5, 8, 9, 10, 11, 12, 13, 14, 15, 16, 17, 18, 19, 20] (fun (vis : List Nat) (E : List (Str × Int)) (u : Value) => [(3, .raw u)]) (fun (vis : List Nat) (E : List (Str × Int)) (u : Value) => [.arr u 2 ((zcp E).map zaD), .iter r b (sk (em (HVal.int .i64) c)) vis]) (fun (vis : List Nat) (E : List (Str × Int)) (u : Value) => VisOk (c) vis E ∧ (True)) (fun (vis : List Nat) (E : List (Str × Int)) (u : Value) => (c).length - vis.length) ([]) ([]) (.slice none 0 0) ?_ ?_ ?_ ?_
 ·exact ⟨VisOk.nil _, trivial⟩
 ·exact ⟨rfl, trivial⟩
 ·exact zS rfl
 ·intro vis E u hinv
  obtain ⟨hvis, -⟩ := hinv
  refine za ?_
  refine de rfl (zfm (i := 1) (L := c) (enc := (fun p : Str × Int => (HVal.str p.1, HVal.int .i64 p.2))) rfl rfl (zo9 _ _) hvis.nd hvis.lt fun cb R vis' hnx => ?_)
  refine dq (zx rfl rfl) ?_
  refine dn ?_
  refine zf ?_
  refine zi rfl (fun h1 => ?_) (fun h2 => ?_)
  ·try simp at h1
   obtain ⟨j, q, hq, hj, rfl⟩ := hnx.t h1
   have hroom := hvis.room hq hj
   have hstep := hvis.step hq hj
   have hqm := List.mem_of_getElem? hq
   refine zl ?_
   refine ze ?_
   refine zn ?_
   refine za ?_
   refine de rfl (zeL (i := 1) (L := c) (enc := (fun p : Str × Int => (HVal.str p.1, HVal.int .i64 p.2))) rfl rfl (zo9 _ _) hq ?_)
   refine dq (zx rfl rfl) ?_
   refine dq (zx rfl rfl) ?_
   refine das rfl ?_
   refine das rfl ?_
   refine dn ?_
   refine za ?_
   refine dmv rfl ?_
   refine dq (zai rfl rfl) ?_
   refine dn ?_
   refine zi rfl (fun h3 => ?_) (fun h4 => ?_)
   ·try simp at h3
    refine zB ?_
    refine dmv rfl ?_
    refine dmv rfl ?_
    refine dmv rfl ?_
    refine dq (zaw (cs := [_, _]) zam zpb rfl) ?_
    refine dq (zw (hs := [_]) zax zam rfl rfl (by decide) (by decide) rfl) ?_
    refine de rfl (zan (i := 0) zax zam rfl rfl rfl rfl rfl (by simp [za5, zh]) (by have := znt E; have := hvis.len; simp only [List.length_map, List.length_cons, List.length_nil]; omega) fun v20 => ?_)
    refine das rfl ?_
    refine dn ?_
    refine zG ?_
    exact ⟨_, E ++ [q], v20, ⟨hstep, trivial⟩, by dsimp only; rw [List.length_append]; simp only [List.length_cons, List.length_nil]; omega, ⟨rfl, trivial⟩, (by repeat (first | exact zp | refine zt rfl ?_ | refine zq rfl rfl ?_)), zS (by dsimp only; rw [zt8 (by simpa using h3)]; try simp)⟩
   ·try simp at h4
    refine zl ?_
    refine zG ?_
    exact ⟨_, E ++ [q], u, ⟨hstep, trivial⟩, by dsimp only; rw [List.length_append]; simp only [List.length_cons, List.length_nil]; omega, ⟨rfl, trivial⟩, (by repeat (first | exact zp | refine zt rfl ?_ | refine zq rfl rfl ?_)), zS (by dsimp only; rw [zwg (by simpa using h4)]; try simp)⟩
  ·try simp at h2
   obtain ⟨rfl, hlen⟩ := hnx.f h2
   have hEp := hvis.done hlen
   refine zU ?_
   refine z6 ?_
   refine zeH ?_
   refine zJ ?_
   refine ze ?_
   refine zH (Ghost.iterOver (i := 1) rfl) ?_
   refine zH (Ghost.of_eq (M' := [.arr u 2 ((zcp E).map zaD), .map b (sk (em (HVal.int .i64) c))]) rfl) ?_
   have hEl := hEp.length_eq
   have hrl := znt E
   refine za ?_
   refine dmv rfl ?_
   refine de rfl (za0 (M1 := [.arr u 2 ((zcp E).map zaD)]) (R := [.map b (sk (em (HVal.int .i64) c))]) zr3 rfl (WeakL.refl _) (List.Perm.refl _) (zij (c := za9) (zga zbT) zxm (fun _ _ => @zjL zdg _ _) (l := zcp E) (by omega)) ?_)
   rintro _ _ ⟨l', rfl, hp', hw', rfl⟩
   obtain rfl := zto hEp hn hp' hw'
   refine dn ?_
   refine za ?_
   refine dmv rfl ?_
   refine das rfl ?_
   refine dn ?_
   refine zk ?_
   refine zat (Ghost.fa 2 (i := 0) rfl rfl) rfl ⟨rfl, rfl⟩

/-- benchwarmer/benchref1.full$1 -/
theorem zkA [Tracks] {x : StatS}  : ConP Tryz.prog 230 [zaD x] (.bool (out x.Count (-100000) 100000)) := by
 refine Con.of_body Tryz.func230 rfl Tryz.ntmps230 rfl rfl ?_
 refine za ?_
 refine dq (zao rfl rfl) ?_
 refine das rfl ?_
 refine dn ?_
 refine za ?_
 refine dq (zb zam rfl ty3 (by decide) rfl) ?_
 refine dq (zc ty3 rfl rfl rfl) ?_
 refine dq (zj zf9 rfl (WeakL.refl _) za7) ?_
 refine dq (zaa rfl) ?_
 refine das rfl ?_
 refine dn ?_
 refine zk ?_
 refine zF rfl ?_
 show HVal.bool _ = _
 simp

/-- benchwarmer/benchref1.full -/
theorem zl2 [Tracks] {l : List LineS} (hl : l.length ≤ 1000000) (hs : ∀ y ∈ l, y.Stats.length ≤ 1000000) : ConP Tryz.prog 164 [zcm l] (.int .i64 (if zgf l then 12 else 0)) := by
 refine Con.of_body Tryz.func164 rfl Tryz.ntmps164 rfl rfl ?_
 refine za ?_
 refine das rfl ?_
 refine dn ?_
 refine zf ?_
 refine za ?_
 refine dmv rfl ?_
 refine dq (zL zbl rfl) ?_
 refine dmv rfl ?_
 refine dn ?_
 refine zn ?_
 refine zak [2, 4, 7, 8, 9, 10, 11, 12, 13, 14, 15, 16, 17, 18, 19, 20] (fun (k : Nat) => [(7, .int .i64 k)]) (fun (k : Nat) => []) (fun (k : Nat) => k ≤ l.length ∧ (zgf l = zgf (l.drop k))) (fun (k : Nat) => l.length - k) (0) ?_ ?_ ?_ ?_
 ·exact ⟨Nat.zero_le _, rfl⟩
 ·exact ⟨rfl, trivial⟩
 ·exact List.Perm.refl _
 ·intro k hinv
  obtain ⟨hk, hg⟩ := hinv
  refine za ?_
  refine dq (zW rfl rfl) ?_
  refine dn ?_
  refine zf ?_
  refine zi rfl (fun h1 => ?_) (fun h2 => ?_)
  ·try simp at h1
   obtain ⟨x, hx⟩ : ∃ x, l[k]? = some x := ⟨_, List.getElem?_eq_getElem h1⟩
   have hdx := zX hx
   rw [hdx] at hg
   refine zl ?_
   refine ze ?_
   refine zf ?_
   refine zn ?_
   refine za ?_
   refine dq (zP zbl zag rfl rfl rfl (by assumption)) ?_
   refine dq (zN zag rfl rfl rfl rfl) ?_
   refine de rfl (z8 zag rfl fun b4 => ?_)
   refine de0 (zae zag rfl rfl rfl rfl rfl ?_)
   refine dn ?_
   refine zH (Ghost.fc0 4 rfl) ?_
   refine za ?_
   refine dq (zb zag rfl zax (by decide) rfl) ?_
   refine dq (zc zax rfl rfl rfl) ?_
   refine dq (zL zax rfl) ?_
   refine dq (zaf rfl rfl) ?_
   refine dmv rfl ?_
   refine dg rfl rfl (fun hc => ⟨_, OpenTo.refl _, zb zag rfl zax (by decide) rfl⟩) ?_
   refine dg rfl rfl (fun hc => ⟨_, OpenTo.upd (t := 16) rfl (hc) (OpenTo.refl _), zc zax rfl rfl rfl⟩) ?_
   refine dg rfl rfl (fun hc => ⟨_, OpenTo.upd (t := 17) rfl (hc) (OpenTo.refl _), zj zxI rfl (WeakL.refl _) (zd1 (p := fun y => out y.Count (-100000) 100000) zxL (fun _ => zkA) (hs x (List.mem_of_getElem? hx)))⟩) ?_
   refine dq (zv rfl (.inl rfl) (.inr ⟨_, rfl, fun h => by simp_all⟩)) ?_
   refine dn ?_
   refine zi rfl (fun h3 => ?_) (fun h4 => ?_)
   ·try simp at h3
    refine za ?_
    refine das rfl ?_
    refine dn ?_
    refine zk ?_
    refine zF rfl ?_
    show HVal.int .i64 _ = _
    rw [hg]
    (have hx3 : (decide (40 < x.Stats.length) || x.Stats.any fun s => out s.Count (-100000) 100000) = true := by
      rw [Bool.or_eq_true]
      rcases h3 with q | ⟨y, hy, q⟩
      ·exact .inl (decide_eq_true (by omega))
      ·exact .inr (List.any_eq_true.2 ⟨y, hy, q⟩)
     rw [zgf, List.any_cons, hx3, Bool.true_or]; rfl)
   ·try simp at h4
    refine zl ?_
    refine zG ?_
    refine ze ?_
    refine zB ?_
    refine dq (zC rfl rfl (by omega) (by omega)) ?_
    refine dmv rfl ?_
    refine dn ?_
    refine ⟨k + 1, ?_, ?_, ⟨rfl, trivial⟩, (by repeat (first | exact zp | refine zt rfl ?_ | refine zq rfl rfl ?_)), List.Perm.refl _⟩
    ·refine ⟨by omega, ?_⟩
     have hx4 : (decide (40 < x.Stats.length) || x.Stats.any fun s => out s.Count (-100000) 100000) = false := by
      rw [Bool.or_eq_false_iff]
      exact ⟨decide_eq_false (by omega), List.any_eq_false.2 fun y hy => by rw [h4.2 y hy]; simp⟩
     rw [hg, zgf, List.any_cons, hx4, Bool.false_or]; rfl
    ·dsimp only; omega
  ·try simp at h2
   have hnk : l.length ≤ k := by omega
   obtain rfl : k = l.length := by omega
   rw [zap (Nat.le_refl _)] at hg
   refine zU ?_
   refine z6 ?_
   refine zas ?_
   refine zJ ?_
   refine ze ?_
   refine za ?_
   refine das rfl ?_
   refine dn ?_
   refine zk ?_
   refine zF rfl ?_
   show HVal.int .i64 _ = _
   rw [hg]
   rfl

end
end Go.Proofs.YtjecenjmphpmfaaGreatDoor
namespace Go.HL
section
/-! mends as they are made up -/
def zgD (x : MendS) : Prop := Sh x.Player ∧ Sh x.Stat ∧ Sh x.By
structure GoodMds (k : List MendS) : Prop where
 len : k.length ≤ 24
 all : ∀ x ∈ k, zgD x
def mp3 : List Str := [[97, 110, 110], [98, 101, 97], [122, 111, 101]]
def ms2 : List Str := [[103, 111, 97, 108], [112, 97, 115, 115]]
theorem zwx : ∀ s ∈ mp3, Sh s := fun s hs => by
 simp [mp3] at hs; rcases hs with rfl | rfl | rfl <;> (unfold Sh; simp)
theorem zww : ∀ s ∈ ms2, Sh s := fun s hs => by
 simp [ms2] at hs; rcases hs with rfl | rfl <;> (unfold Sh; simp)
theorem GLok.mono {α : Type} {P : α → Prop} {n n' m m' : Nat} {q : GL α} (h : GLok P n m q) (hn : n ≤ n') (hm : m ≤ m') : GLok P n' m' q := ⟨Nat.le_trans h.len hn, h.all, Nat.le_trans h.a hm⟩
/-! the lines of plays, with mends -/
def zco (m : List MendS) (week : Int) : List MendS := m.filter fun y => y.Week == week
theorem zho (m : List MendS) (week : Int) : (zco m week).length ≤ m.length := List.length_filter_le _ _
theorem zoM (m : List MendS) (week : Int) (k : Nat) : (zco (m.take k) week).length ≤ k := Nat.le_trans (zho _ _) (by rw [List.length_take]; omega)
theorem zuB {m : List MendS} {week : Int} {k : Nat} {x : MendS} (h : m[k]? = some x) (e : x.Week = week) : zco (m.take (k + 1)) week = zco (m.take k) week ++ [x] := by
 unfold zco; rw [zad h, List.filter_append]; simp [e]
theorem zwc {m : List MendS} {week : Int} {k : Nat} {x : MendS} (h : m[k]? = some x) (e : ¬ x.Week = week) : zco (m.take (k + 1)) week = zco (m.take k) week := by
 unfold zco; rw [zad h, List.filter_append]; simp [e]
def knL (l : List Play) (t : List Str) (m : List MendS) (week n : Int) : List LineS := if zaS l t week n ≠ 0 then [] else mdL (zcx l t week n) m n
def zcs (l : List Play) (t : List Str) (week f g : Int) : Int := if zaS l t week f ≠ 0 then zaS l t week f else zaS l t week g
def zcc (l : List Play) (t : List Str) (m : List MendS) (week f g : Int) : List TurnedS :=
 if zaS l t week f ≠ 0 then [] else if zaS l t week g ≠ 0 then [] else dfL (knL l t (zco m week) week f) (knL l t (zco m week) week g)
theorem zjE {c : List (Of2 × Int)} (hn : ANodup c) (s : Str) : ((zbx c s).map (·.Name)).Nodup := by
 unfold zbx
 refine ((zbo za9 _).map _).nodup_iff.2 ?_
 have hr : (zaW c s).Nodup := by
  unfold zaW
  refine List.pairwise_map.2 (((List.pairwise_map.1 hn).filter _).imp_of_mem fun {a b} ha hb hab e => hab ?_)
  have h1 := (List.mem_filter.1 ha).2
  have h2 := (List.mem_filter.1 hb).2
  simp only [Bool.and_eq_true, beq_iff_eq] at h1 h2
  have e1 : a.1.2 = b.1.2 := congrArg StatS.Name e
  exact Prod.ext (h1.1.trans h2.1.symm) e1
 refine List.pairwise_map.2 (hr.imp_of_mem fun {a b} ha hb hab e => hab (znV hn s ha hb e))
theorem zf6 {l : List Play} {t : List Str} {week n : Int} (hok : ∀ x ∈ l, playFault x = 0) (hl : l.length ≤ 15) :
 (zcx l t week n).length ≤ 15 ∧ ∀ y ∈ zcx l t week n, y.Stats.length ≤ 15 ∧ (y.Stats.map (·.Name)).Nodup ∧ y.Week = week := by
 have h := zja (l := l) (m := l) (trust := t) (week := week) (n := n) hok
 have a1 := h.Sl
 have a2 := h.cl
 unfold zcx zeO
 split
 ·exact ⟨Nat.zero_le _, fun y hy => by cases hy⟩
 ·refine ⟨by rw [List.length_map, (zfI _).length_eq]; omega, fun y hy => ?_⟩
  obtain ⟨s, _, rfl⟩ := List.mem_map.1 hy
  refine ⟨?_, zjE h.c s, rfl⟩
  have h2 := zim (zaB l t week n l).c s
  show (zbx (zaB l t week n l).c s).length ≤ 15
  unfold zbx; rw [zcZ]; omega
theorem zl8 {l : List Play} {t : List Str} {m : List MendS} {week n : Int} (hok : ∀ x ∈ l, playFault x = 0) (hl : l.length ≤ 15) (hm : m.length ≤ 24) : GLen 40 (zdX (zcx l t week n) m n) :=
 (zpE m n (zn2 fun x hx => ((zf6 hok hl).2 x hx).1)).up (by omega)
theorem zpa {l : List Play} {t : List Str} {m : List MendS} {week n : Int} (hok : ∀ x ∈ l, playFault x = 0) (hl : l.length ≤ 15) (hm : m.length ≤ 24) : (knL l t m week n).length ≤ 1000 ∧ ∀ y ∈ knL l t m week n, y.Stats.length ≤ 100 := by
 unfold knL
 split
 ·exact ⟨by simp, fun y hy => by cases hy⟩
 ·have h40 := zl8 (t := t) (week := week) (n := n) hok hl hm
  have h1 := ziW (zcx l t week n) m n
  have h2 := (zf6 (t := t) (week := week) (n := n) hok hl).1
  refine ⟨by unfold mdL; rw [zcZ, List.length_map]; omega, fun y hy => ?_⟩
  unfold mdL at hy
  rw [zdk] at hy
  obtain ⟨q, hq, rfl⟩ := List.mem_map.1 hy
  have := h40 q hq
  show (zaV za9 q.2).length ≤ 100
  rw [zcZ]; omega
theorem zvM {l : List Play} {t : List Str} {m : List MendS} {week f g : Int} (hok : ∀ x ∈ l, playFault x = 0) (hl : l.length ≤ 15) (hm : m.length ≤ 24) : (zcc l t m week f g).length ≤ 1000000 := by
 have h1 := zho m week
 obtain ⟨a1, a2⟩ := zpa (t := t) (m := zco m week) (week := week) (n := f) hok hl (by omega)
 obtain ⟨b1, b2⟩ := zpa (t := t) (m := zco m week) (week := week) (n := g) hok hl (by omega)
 have h3 := zwl (knL l t (zco m week) week f) (knL l t (zco m week) week g)
 have h4 := zi9 a2
 have h5 := zi9 b2
 unfold zcc
 split
 ·simp
 ·split
  ·simp
  ·omega
end
end Go.HL
namespace Go.Proofs.YtjecenjmphpmfaaGreatDoor
set_option maxRecDepth 100000
set_option linter.unusedVariables false
set_option linter.unusedSimpArgs false
section
open Go.HL
/-- benchwarmer/play.Since$1 -/
theorem ziR [Tracks] {l : List Play} {trust : List Str} {m : List MendS} {week n : Int} (hT : Tracks.on = false) (hok : ∀ x ∈ l, playFault x = 0) (hl : l.length ≤ 15) (ht : trust.length ≤ 1000000) (hm : m.length ≤ 24) : ConP Tryz.prog 60 [.int .i64 n, .vptr [zbD l] 0, .vptr [eSs trust] 0, .vptr [.int .i64 week] 0, .vptr [zfH m] 0] (.tup [zcm (knL l trust m week n), .int .i64 (zaS l trust week n)]) := by
 obtain ⟨hln, hls⟩ := zf6 (t := trust) (week := week) (n := n) hok hl
 have h40 := zl8 (t := trust) (week := week) (n := n) hok hl hm
 refine Con.of_body Tryz.func60 rfl Tryz.ntmps60 rfl rfl ?_
 refine za ?_
 refine das rfl ?_
 refine das rfl ?_
 refine dn ?_
 refine za ?_
 refine dq (zc zaC rfl rfl rfl) ?_
 refine dq (zc zaj rfl rfl rfl) ?_
 refine dq (zc ty3 rfl rfl rfl) ?_
 refine dmv rfl ?_
 refine dq (zj ca61 rfl (WeakL.refl _) (zkJ hT (by omega) ht hok)) ?_
 refine dmv rfl ?_
 refine dq (zx rfl rfl) ?_
 refine dq (zx rfl rfl) ?_
 refine das rfl ?_
 refine das rfl ?_
 refine dn ?_
 refine zf ?_
 refine za ?_
 refine dmv rfl ?_
 refine dq (zai rfl rfl) ?_
 refine dn ?_
 refine zi rfl (fun h1 => ?_) (fun h2 => ?_)
 ·try simp at h1
  refine za ?_
  refine dmv rfl ?_
  refine das rfl ?_
  refine das rfl ?_
  refine dn ?_
  refine zk ?_
  first
  | exact zav rfl (zah (by rw [knL, if_pos (by simpa using h1)]; exact zal 3) (Weak.refl _))
  | (refine zF rfl ?_
     have hz : zaS l trust week n = 0 := by simpa using h2
     rw [knL, if_neg (by simpa using h2), hz])
 ·try simp at h2
  refine zl ?_
  refine ze ?_
  refine za ?_
  refine dmv rfl ?_
  refine dq (zc za2 rfl rfl rfl) ?_
  refine dmv rfl ?_
  refine dq (zj ca62 rfl (WeakL.refl _) (zo0 (l := zcx l trust week n) (m := m) (n := n) (by omega) (by omega) (fun x hx => Nat.le_trans (hls x hx).1 (by decide)) (fun x hx => (hls x hx).2.1) h40)) ?_
  refine dq (zx rfl rfl) ?_
  refine dq (zx rfl rfl) ?_
  refine das rfl ?_
  refine das rfl ?_
  refine dn ?_
  refine zk ?_
  first
  | exact zav rfl (zah (by rw [knL, if_pos (by simpa using h1)]; exact zal 3) (Weak.refl _))
  | (refine zF rfl ?_
     have hz : zaS l trust week n = 0 := by simpa using h2
     rw [knL, if_neg (by simpa using h2), hz])

/-- benchwarmer/benchref1.byMend -/
theorem zj8 [Tracks] {a b : MendS}  : ConP Tryz.prog 53 [zbi a, zbi b] (.int .i64 (zdx a b)) := by
 refine Con.of_body Tryz.func53 rfl Tryz.ntmps53 rfl rfl ?_
 refine za ?_
 refine dq (zao rfl rfl) ?_
 refine dq (zao rfl rfl) ?_
 refine das rfl ?_
 refine dn ?_
 refine zaM (fun _ => True) [] mixed ?_
 refine ahp 0 rfl rfl (by kernel_rfl) (by kernel_rfl) (zb zQ rfl ty9 (by decide) rfl) ?_
 refine ahp 1 rfl rfl (by kernel_rfl) (by kernel_rfl) (zc ty9 rfl rfl rfl) ?_
 refine ahp 2 rfl rfl (by kernel_rfl) (by kernel_rfl) (zb zQ rfl ty9 (by decide) rfl) ?_
 refine ahp 3 rfl rfl (by kernel_rfl) (by kernel_rfl) (zc ty9 rfl rfl rfl) ?_
 refine ahp 4 rfl rfl (by kernel_rfl) (by kernel_rfl) (zj zfC rfl (WeakL.refl _) zaE) ?_
 refine ahp 5 rfl rfl (by kernel_rfl) (by kernel_rfl) (zb zQ rfl ty3 (by decide) rfl) ?_
 refine ahp 6 rfl rfl (by kernel_rfl) (by kernel_rfl) (zc ty3 rfl rfl rfl) ?_
 refine ahp 7 rfl rfl (by kernel_rfl) (by kernel_rfl) (zb zQ rfl ty3 (by decide) rfl) ?_
 refine ahp 8 rfl rfl (by kernel_rfl) (by kernel_rfl) (zc ty3 rfl rfl rfl) ?_
 refine ahp 9 rfl rfl (by kernel_rfl) (by kernel_rfl) (zj ziq rfl (WeakL.refl _) zbe) ?_
 refine ahp 10 rfl rfl (by kernel_rfl) (by kernel_rfl) (zb zQ rfl ty9 (by decide) rfl) ?_
 refine ahp 11 rfl rfl (by kernel_rfl) (by kernel_rfl) (zc ty9 rfl rfl rfl) ?_
 refine ahp 12 rfl rfl (by kernel_rfl) (by kernel_rfl) (zb zQ rfl ty9 (by decide) rfl) ?_
 refine ahp 13 rfl rfl (by kernel_rfl) (by kernel_rfl) (zc ty9 rfl rfl rfl) ?_
 refine ahp 14 rfl rfl (by kernel_rfl) (by kernel_rfl) (zj zfC rfl (WeakL.refl _) zaE) ?_
 refine ahp 15 rfl rfl (by kernel_rfl) (by kernel_rfl) (zb zQ rfl ty3 (by decide) rfl) ?_
 refine ahp 16 rfl rfl (by kernel_rfl) (by kernel_rfl) (zc ty3 rfl rfl rfl) ?_
 refine ahp 17 rfl rfl (by kernel_rfl) (by kernel_rfl) (zb zQ rfl ty3 (by decide) rfl) ?_
 refine ahp 18 rfl rfl (by kernel_rfl) (by kernel_rfl) (zc ty3 rfl rfl rfl) ?_
 refine ahp 19 rfl rfl (by kernel_rfl) (by kernel_rfl) (zj ziq rfl (WeakL.refl _) zbe) ?_
 refine ahp 20 rfl rfl (by kernel_rfl) (by kernel_rfl) (zw (hs := [_, _, _, _]) zaq ty3 rfl rfl (by decide) (by decide) rfl) ?_
 refine ahp 21 rfl rfl (by kernel_rfl) (by kernel_rfl) (zj zj0 rfl (WeakL.refl _) (zcz (l := [_, _, _, _]) (by simp))) ?_
 refine ahp 22 rfl rfl (by kernel_rfl) (by kernel_rfl) (zaA rfl) ?_
 refine ahz (by kernel_rfl) ?_
 refine zk ?_
 refine zF rfl ?_
 rfl

/-- benchwarmer/benchref1.MendsFault -/
theorem zin [Tracks] {m : List MendS} (hl : m.length ≤ 1000000) (hgm : ∀ x ∈ m, zgD x) : ConP Tryz.prog 19 [zfH m] (.int .i64 (zaz m)) := by
 refine Con.of_body Tryz.func19 rfl Tryz.ntmps19 rfl rfl ?_
 refine za ?_
 refine das rfl ?_
 refine dn ?_
 refine zf ?_
 refine za ?_
 refine dmv rfl ?_
 refine dq (zL za2 rfl) ?_
 refine dq (zaf rfl rfl) ?_
 refine dn ?_
 refine zi rfl (fun h1 => ?_) (fun h2 => ?_)
 ·try simp at h1
  refine za ?_
  refine das rfl ?_
  refine dn ?_
  refine zk ?_
  refine zF rfl ?_
  show HVal.int .i64 _ = _
  first
  | (rw [zaz, if_pos (by omega)]; done)
  | (rw [zaz, if_neg (by omega), hg]; rfl)
  | (refine congrArg _ (zbc (c := 5) (by omega) hg (by decide) ?_)
     rw [zab, if_pos]
     simp_all
     done)
  | (refine congrArg _ (zbc (c := 1) (by omega) hg (by decide) ?_)
     rw [zab, if_neg, if_pos]
     all_goals simp_all
     done)
  | (have f1 := zbU.flip x (m.getD (k - 1) zb6) trivial trivial
     have f2 := zbU.flip (m.getD (k - 1) zb6) x trivial trivial
     refine congrArg _ (zcY (by omega) hg ?_ ?_ ?_)
     ·rw [zab, if_neg, if_neg] <;> simp_all
     ·simp_all
     ·simp_all; omega)
 ·try simp at h2
  refine zl ?_
  refine ze ?_
  refine zf ?_
  refine za ?_
  refine dmv rfl ?_
  refine dq (zL za2 rfl) ?_
  refine dmv rfl ?_
  refine dn ?_
  refine zn ?_
  refine zak (2 :: 3 :: 4 :: 10 :: 11 :: 12 :: 13 :: 14 :: 15 :: 16 :: 17 :: 18 :: 19 :: 20 :: 21 :: 22 :: 23 :: 24 :: 25 :: 26 :: 27 :: 28 :: 29 :: 30 :: 31 :: 32 :: 33 :: 34 :: 35 :: 36 :: 37 :: 38 :: 39 :: 40 :: 41 :: 42 :: 43 :: 44 :: 45 :: 46 :: 47 :: 48 :: 49 :: 50 :: 51 :: 52 :: 53 :: 54 :: 55 :: 56 :: 57 :: 58 :: 59 :: 60 :: 61 :: 62 :: 63 :: 64 :: 65 :: 66 :: 67 :: 68 :: []) (fun (k : Nat) => [(10, .int .i64 k)]) (fun (k : Nat) => []) (fun (k : Nat) => k ≤ m.length ∧ (zb2 zab zdx zb6 m 0 m = zb2 zab zdx zb6 m k (m.drop k))) (fun (k : Nat) => m.length - k) (0) ?_ ?_ ?_ ?_
  ·exact ⟨Nat.zero_le _, rfl⟩
  ·exact ⟨rfl, trivial⟩
  ·exact List.Perm.refl _
  ·intro k hinv
   obtain ⟨hk, hg⟩ := hinv
   refine za ?_
   refine dq (zW rfl rfl) ?_
   refine dn ?_
   refine zf ?_
   refine zi rfl (fun h3 => ?_) (fun h4 => ?_)
   ·try simp at h3
    obtain ⟨x, hx⟩ : ∃ x, m[k]? = some x := ⟨_, List.getElem?_eq_getElem h3⟩
    have hdx := zX hx
    rw [hdx] at hg
    refine zl ?_
    refine ze ?_
    refine zf ?_
    refine zn ?_
    refine za ?_
    refine dmv rfl ?_
    refine dq (zP za2 zQ rfl rfl rfl (by first | assumption | simp_all)) ?_
    refine dq (zN zQ rfl rfl rfl rfl) ?_
    refine de rfl (z8 zQ rfl fun b4 => ?_)
    refine das rfl ?_
    refine de0 (zae zQ rfl rfl rfl rfl rfl ?_)
    refine dn ?_
    refine zH (Ghost.fc0 4 rfl) ?_
    refine zn ?_
    refine za ?_
    refine dq (zb zQ rfl ty9 (by decide) rfl) ?_
    refine dq (zc ty9 rfl rfl rfl) ?_
    refine dq (zj zgH rfl (WeakL.refl _) (zbV (hgm x (List.mem_of_getElem? hx)).1)) ?_
    refine dq (zaa rfl) ?_
    refine dmv rfl ?_
    refine dg rfl rfl (fun hc => ⟨_, OpenTo.refl _, zb zQ rfl ty9 (by decide) rfl⟩) ?_
    refine dg rfl rfl (fun hc => ⟨_, OpenTo.upd (t := 21) rfl (by first | exact hc | simp_all) (OpenTo.refl _), zc ty9 rfl rfl rfl⟩) ?_
    refine dg rfl rfl (fun hc => ⟨_, OpenTo.upd (t := 22) rfl (by first | exact hc | simp_all) (OpenTo.refl _), zj zgH rfl (WeakL.refl _) (zbV (hgm x (List.mem_of_getElem? hx)).2.1)⟩) ?_
    refine dg rfl rfl (fun hc => ⟨_, OpenTo.upd (t := 23) rfl (by first | exact hc | simp_all) (OpenTo.refl _), zaa rfl⟩) ?_
    refine dq (zv rfl (.inl rfl) (.inr ⟨_, rfl, fun h => by simp_all⟩)) ?_
    refine dmv rfl ?_
    refine dg rfl rfl (fun hc => ⟨_, OpenTo.refl _, zb zQ rfl ty9 (by decide) rfl⟩) ?_
    refine dg rfl rfl (fun hc => ⟨_, OpenTo.upd (t := 27) rfl (by first | exact hc | simp_all) (OpenTo.refl _), zc ty9 rfl rfl rfl⟩) ?_
    refine dg rfl rfl (fun hc => ⟨_, OpenTo.upd (t := 28) rfl (by first | exact hc | simp_all) (OpenTo.refl _), zj zgH rfl (WeakL.refl _) (zbV (hgm x (List.mem_of_getElem? hx)).2.2)⟩) ?_
    refine dg rfl rfl (fun hc => ⟨_, OpenTo.upd (t := 29) rfl (by first | exact hc | simp_all) (OpenTo.refl _), zaa rfl⟩) ?_
    refine dq (zv rfl (.inl rfl) (.inr ⟨_, rfl, fun h => by simp_all⟩)) ?_
    refine das rfl ?_
    refine dn ?_
    refine zi rfl (fun h5 => ?_) (fun h6 => ?_)
    ·try simp at h5
     refine za ?_
     refine das rfl ?_
     refine dn ?_
     refine zk ?_
     refine zF rfl ?_
     show HVal.int .i64 _ = _
     first
     | (rw [zaz, if_pos (by omega)]; done)
     | (rw [zaz, if_neg (by omega), hg]; rfl)
     | (refine congrArg _ (zbc (c := 5) (by omega) hg (by decide) ?_)
        rw [zab, if_pos]
        simp_all
        done)
     | (refine congrArg _ (zbc (c := 1) (by omega) hg (by decide) ?_)
        rw [zab, if_neg, if_pos]
        all_goals simp_all
        done)
     | (have f1 := zbU.flip x (m.getD (k - 1) zb6) trivial trivial
        have f2 := zbU.flip (m.getD (k - 1) zb6) x trivial trivial
        refine congrArg _ (zcY (by omega) hg ?_ ?_ ?_)
        ·rw [zab, if_neg, if_neg] <;> simp_all
        ·simp_all
        ·simp_all; omega)
    ·try simp at h6
     refine za ?_
     refine dq (zb zQ rfl ty3 (by decide) rfl) ?_
     refine dq (zc ty3 rfl rfl rfl) ?_
     refine dq (zj zrQ rfl (WeakL.refl _) zcI) ?_
     refine dq (zai rfl rfl) ?_
     refine dmv rfl ?_
     refine dg rfl rfl (fun hc => ⟨_, OpenTo.refl _, zb zQ rfl ty3 (by decide) rfl⟩) ?_
     refine dg rfl rfl (fun hc => ⟨_, OpenTo.upd (t := 38) rfl (by first | exact hc | simp_all) (OpenTo.refl _), zc ty3 rfl rfl rfl⟩) ?_
     refine dg rfl rfl (fun hc => ⟨_, OpenTo.upd (t := 39) rfl (by first | exact hc | simp_all) (OpenTo.refl _), zj zf9 rfl (WeakL.refl _) za7⟩) ?_
     refine dg rfl rfl (fun hc => ⟨_, OpenTo.upd (t := 40) rfl (by first | exact hc | simp_all) (OpenTo.refl _), zaa rfl⟩) ?_
     refine dq (zv rfl (.inl rfl) (.inr ⟨_, rfl, fun h => by simp_all⟩)) ?_
     refine dmv rfl ?_
     refine dg rfl rfl (fun hc => ⟨_, OpenTo.refl _, zb zQ rfl ty3 (by decide) rfl⟩) ?_
     refine dg rfl rfl (fun hc => ⟨_, OpenTo.upd (t := 44) rfl (by first | exact hc | simp_all) (OpenTo.refl _), zc ty3 rfl rfl rfl⟩) ?_
     refine dg rfl rfl (fun hc => ⟨_, OpenTo.upd (t := 45) rfl (by first | exact hc | simp_all) (OpenTo.refl _), zj zpo rfl (WeakL.refl _) zbP⟩) ?_
     refine dg rfl rfl (fun hc => ⟨_, OpenTo.upd (t := 46) rfl (by first | exact hc | simp_all) (OpenTo.refl _), zai rfl rfl⟩) ?_
     refine dq (zv rfl (.inl rfl) (.inr ⟨_, rfl, fun h => by simp_all⟩)) ?_
     refine dmv rfl ?_
     refine dg rfl rfl (fun hc => ⟨_, OpenTo.refl _, zb zQ rfl ty3 (by decide) rfl⟩) ?_
     refine dg rfl rfl (fun hc => ⟨_, OpenTo.upd (t := 50) rfl (by first | exact hc | simp_all) (OpenTo.refl _), zc ty3 rfl rfl rfl⟩) ?_
     refine dg rfl rfl (fun hc => ⟨_, OpenTo.upd (t := 51) rfl (by first | exact hc | simp_all) (OpenTo.refl _), zj zf9 rfl (WeakL.refl _) za7⟩) ?_
     refine dg rfl rfl (fun hc => ⟨_, OpenTo.upd (t := 52) rfl (by first | exact hc | simp_all) (OpenTo.refl _), zaa rfl⟩) ?_
     refine dq (zv rfl (.inl rfl) (.inr ⟨_, rfl, fun h => by simp_all⟩)) ?_
     refine das rfl ?_
     refine dn ?_
     refine zi rfl (fun h7 => ?_) (fun h8 => ?_)
     ·try simp at h7
      refine za ?_
      refine das rfl ?_
      refine dn ?_
      refine zk ?_
      refine zF rfl ?_
      show HVal.int .i64 _ = _
      first
      | (rw [zaz, if_pos (by omega)]; done)
      | (rw [zaz, if_neg (by omega), hg]; rfl)
      | (refine congrArg _ (zbc (c := 5) (by omega) hg (by decide) ?_)
         rw [zab, if_pos]
         simp_all
         done)
      | (refine congrArg _ (zbc (c := 1) (by omega) hg (by decide) ?_)
         rw [zab, if_neg, if_pos]
         all_goals simp_all
         done)
      | (have f1 := zbU.flip x (m.getD (k - 1) zb6) trivial trivial
         have f2 := zbU.flip (m.getD (k - 1) zb6) x trivial trivial
         refine congrArg _ (zcY (by omega) hg ?_ ?_ ?_)
         ·rw [zab, if_neg, if_neg] <;> simp_all
         ·simp_all
         ·simp_all; omega)
     ·try simp at h8
      refine zaM (fun _ => True) [] mixed ?_
      refine ahp 0 rfl rfl (by kernel_rfl) (by kernel_rfl) (zd rfl) ?_
      refine ahp 1 rfl rfl (by kernel_rfl) (by kernel_rfl) (zaf rfl rfl) ?_
      refine ahp 2 rfl rfl (by kernel_rfl) (by kernel_rfl) (zd rfl) ?_
      refine ahg 3 rfl rfl (by kernel_rfl) (by kernel_rfl) rfl (fun hc => ⟨_, OpenTo.refl _, zd rfl⟩) ?_
      refine ahg 4 rfl rfl (by kernel_rfl) (by kernel_rfl) rfl (fun hc => ⟨_, OpenTo.refl _, zd rfl⟩) ?_
      refine ahg 5 rfl rfl (by kernel_rfl) (by kernel_rfl) rfl (fun hc => by have hq := hc; (try simp at hq); exact ⟨_, OpenTo.upd (t := 60) rfl (by first | exact hc | simp_all) (OpenTo.refl _), zbd rfl rfl (by omega) (by omega)⟩) ?_
      refine ahg 6 rfl rfl (by kernel_rfl) (by kernel_rfl) rfl (fun hc => by have hq := hc; (try simp at hq); exact ⟨_, OpenTo.upd (t := 61) rfl (by first | exact hc | simp_all) (OpenTo.upd (t := 59) rfl (by first | exact hc | simp_all) (OpenTo.refl _)), zP (j := k - 1) (a := m.getD (k - 1) zb6) za2 zQ rfl rfl (by omega) (getD_some (by omega))⟩) ?_
      refine ahg 7 rfl rfl (by kernel_rfl) (by kernel_rfl) rfl (fun hc => ⟨_, OpenTo.upd (t := 62) rfl (by first | exact hc | simp_all) (OpenTo.refl _), zN zQ rfl rfl rfl rfl⟩) ?_
      refine ahg 8 rfl rfl (by kernel_rfl) (by kernel_rfl) rfl (fun hc => ⟨_, OpenTo.refl _, zN zQ rfl rfl rfl rfl⟩) ?_
      refine ahg 9 rfl rfl (by kernel_rfl) (by kernel_rfl) rfl (fun hc => ⟨_, OpenTo.upd (t := 64) rfl (by first | exact hc | simp_all) (OpenTo.upd (t := 63) rfl (by first | exact hc | simp_all) (OpenTo.refl _)), zj ca53 rfl (WeakL.refl _) zj8⟩) ?_
      refine ahg 10 rfl rfl (by kernel_rfl) (by kernel_rfl) rfl (fun hc => ⟨_, OpenTo.upd (t := 65) rfl (by first | exact hc | simp_all) (OpenTo.refl _), zbW rfl rfl⟩) ?_
      refine ahp 11 rfl rfl (by kernel_rfl) (by kernel_rfl) (zv rfl (.inr ⟨_, rfl, fun h => by simp_all⟩) (.inl rfl)) ?_
      refine ahp 12 rfl rfl (by kernel_rfl) (by kernel_rfl) (zaA rfl) ?_
      refine ahz (by kernel_rfl) ?_
      refine zi rfl (fun h9 => ?_) (fun h10 => ?_)
      ·try simp at h9
       refine za ?_
       refine das rfl ?_
       refine dn ?_
       refine zk ?_
       refine zF rfl ?_
       show HVal.int .i64 _ = _
       first
       | (rw [zaz, if_pos (by omega)]; done)
       | (rw [zaz, if_neg (by omega), hg]; rfl)
       | (refine congrArg _ (zbc (c := 5) (by omega) hg (by decide) ?_)
          rw [zab, if_pos]
          simp_all
          done)
       | (refine congrArg _ (zbc (c := 1) (by omega) hg (by decide) ?_)
          rw [zab, if_neg, if_pos]
          all_goals simp_all
          done)
       | (have f1 := zbU.flip x (m.getD (k - 1) zb6) trivial trivial
          have f2 := zbU.flip (m.getD (k - 1) zb6) x trivial trivial
          refine congrArg _ (zcY (by omega) hg ?_ ?_ ?_)
          ·rw [zab, if_neg, if_neg] <;> simp_all
          ·simp_all
          ·simp_all; omega)
      ·try simp at h10
       refine zl ?_
       refine zG ?_
       refine zG ?_
       refine ze ?_
       refine zB ?_
       refine dq (zC rfl rfl (by omega) (by omega)) ?_
       refine dmv rfl ?_
       refine dn ?_
       refine ⟨k + 1, ?_, ?_, ⟨rfl, trivial⟩, (by repeat (first | exact zp | refine zt rfl ?_ | refine zq rfl rfl ?_)), List.Perm.refl _⟩
       ·refine ⟨by omega, ?_⟩
        rw [hg, zlF (by rw [zab, if_neg (by simp_all), if_neg (by simp_all)]) (by intro hk0; have := zbU.flip x (m.getD (k - 1) zb6) trivial trivial; have := zbU.flip (m.getD (k - 1) zb6) x trivial trivial; simp_all; try omega)]
       ·dsimp only; omega
   ·try simp at h4
    have hnk : m.length ≤ k := by omega
    obtain rfl : k = m.length := by omega
    rw [zap (Nat.le_refl _)] at hg
    refine zU ?_
    refine z6 ?_
    refine zas ?_
    refine zJ ?_
    refine ze ?_
    refine za ?_
    refine das rfl ?_
    refine dn ?_
    refine zk ?_
    refine zF rfl ?_
    show HVal.int .i64 _ = _
    first
    | (rw [zaz, if_pos (by omega)]; done)
    | (rw [zaz, if_neg (by omega), hg]; rfl)
    | (refine congrArg _ (zbc (c := 5) (by omega) hg (by decide) ?_)
       rw [zab, if_pos]
       simp_all
       done)
    | (refine congrArg _ (zbc (c := 1) (by omega) hg (by decide) ?_)
       rw [zab, if_neg, if_pos]
       all_goals simp_all
       done)
    | (have f1 := zbU.flip x (m.getD (k - 1) zb6) trivial trivial
       have f2 := zbU.flip (m.getD (k - 1) zb6) x trivial trivial
       refine congrArg _ (zcY (by omega) hg ?_ ?_ ?_)
       ·rw [zab, if_neg, if_neg] <;> simp_all
       ·simp_all
       ·simp_all; omega)
end
end Go.Proofs.YtjecenjmphpmfaaGreatDoor
namespace Go.HL
section
section
variable {α : Type}
def Srt (c : α → α → Int) (l : List α) : Prop := l.Pairwise fun a b => c a b ≤ 0
theorem Cmp.self {c : α → α → Int} (hc : Cmp c fun _ => True) (x : α) : c x x ≤ 0 := by
 have := hc.flip x x trivial trivial; omega
theorem Srt.get {c : α → α → Int} (hc : Cmp c fun _ => True) {l : List α} (h : Srt c l) {i j : Nat} {x y : α} (hij : i ≤ j) (hx : l[i]? = some x) (hy : l[j]? = some y) : c x y ≤ 0 := by
 rcases Nat.lt_or_ge i j with hlt | hge
 ·have h1 := zK hx
  have h2 := zK hy
  have := List.pairwise_iff_getElem.1 h i j h1 h2 hlt
  rw [List.getElem?_eq_getElem h1] at hx
  rw [List.getElem?_eq_getElem h2] at hy
  rw [Option.some.inj hx, Option.some.inj hy] at this
  exact this
 ·have e : i = j := by omega
  rw [e, hy] at hx
  rw [Option.some.inj hx]; exact hc.self _
theorem Srt.take {c : α → α → Int} {l : List α} (h : Srt c l) (k : Nat) : Srt c (l.take k) := List.Pairwise.sublist (List.take_sublist k l) h
theorem Srt.drop {c : α → α → Int} {l : List α} (h : Srt c l) (k : Nat) : Srt c (l.drop k) := List.Pairwise.sublist (List.drop_sublist k l) h
theorem Srt.nil {c : α → α → Int} : Srt c [] := List.Pairwise.nil
end
end
section
section
variable {α : Type} {c : α → α → Int}
/-- Each block of so many elements is sorted. -/
def Blk (c : α → α → Int) (bs : Nat) (l : List α) : Prop := ∀ q, Srt c ((l.drop (bs * q)).take bs)
theorem Blk.all {bs : Nat} {l : List α} (h : Blk c bs l) (hl : l.length ≤ bs) : Srt c l := by
 have := h 0
 rw [Nat.mul_zero, List.drop_zero, List.take_of_length_le hl] at this
 exact this
theorem Blk.nil {bs : Nat} : Blk c bs [] := fun q => by simp [Srt.nil]
theorem Blk.add {bs k : Nat} {Z W : List α} (h : Blk c bs Z) (hZ : Z.length = bs * k) (hW : Srt c W) (hl : W.length ≤ bs) : Blk c bs (Z ++ W) := by
 intro q
 rcases Nat.lt_trichotomy q k with hq | hq | hq
 ·have h1 : bs * q + bs ≤ Z.length := by rw [hZ, ← Nat.mul_succ]; exact Nat.mul_le_mul_left bs hq
  rw [List.drop_append_of_le_length (by omega), List.take_append_of_le_length (by rw [List.length_drop]; omega)]
  exact h q
 ·rw [hq, ← hZ, List.drop_left, List.take_of_length_le hl]; exact hW
 ·have h1 : Z.length + bs ≤ bs * q := by rw [hZ, ← Nat.mul_succ]; exact Nat.mul_le_mul_left bs hq
  rw [List.drop_of_length_le (by rw [List.length_append]; omega)]
  simp [Srt.nil]
theorem Blk.at {bs q a : Nat} {l : List α} (h : Blk c bs l) (ha : a = bs * q) : Srt c ((l.drop a).take bs) := by rw [ha]; exact h q
end
end
section
section
variable {α : Type} [DecidableEq α]
/-- A list without the things that equal the one before (p ahead of the first). -/
def zdd (p : Option α) : List α → List α
 | [] => []
 | x :: r => if p = some x then zdd (some x) r else x :: zdd (some x) r
theorem zmz (x : α) : ∀ (A : List α) (p : Option α), zdd p (A ++ [x]) = zdd p A ++ if (A.getLast?.or p) = some x then [] else [x]
 | [], p => by
   by_cases h : p = some x <;> simp [zdd, h]
 | y :: A, p => by
   have ih := zmz x A (some y)
   have e : ((y :: A).getLast?.or p) = (A.getLast?.or (some y)) := by
    cases A with
    | nil => simp
    | cons z A => simp [List.getLast?_cons_cons, List.getLast?_cons]
   simp only [List.cons_append, zdd]
   rw [e, ih]
   split <;> simp
theorem zmx {l : List α} {k : Nat} {x y : α} (hx : l[k]? = some x) (hy : l[k - 1]? = some y) (h0 : 0 < k) : zdd none (l.take (k + 1)) = zdd none (l.take k) ++ if x = y then [] else [x] := by
 have hk := zK hx
 rw [zad hx, zmz]
 have e : ((l.take k).getLast?.or none) = some y := by
  rw [List.getLast?_eq_getElem?, List.length_take, Nat.min_eq_left (by omega), List.getElem?_take_of_lt (by omega), hy]; rfl
 rw [e]
 by_cases h : x = y
 ·rw [if_pos h, if_pos (by rw [h])]
 ·rw [if_neg h, if_neg (by simpa using fun q : y = x => h q.symm)]
structure CmpA (l : List α) (j : Nat) (D : List α) : Prop where
 len : D.length = l.length
 lo : D.take (zdd none (l.take j)).length = zdd none (l.take j)
 lt : (zdd none (l.take j)).length < j
 hi : ∀ i, j ≤ i + 1 → D[i]? = l[i]?
theorem CmpA.start {l : List α} {k : Nat} {x y : α} (hx : l[k]? = some x) (hy : l[k - 1]? = some y) (h0 : 0 < k) (e : x = y) (h : zdd none (l.take k) = l.take k) : CmpA l (k + 1) l ∧ (zdd none (l.take (k + 1))).length = k := by
 have hk := zK hx
 have h1 : zdd none (l.take (k + 1)) = l.take k := by rw [zmx hx hy h0, if_pos e, h]; simp
 have h2 : (l.take k).length = k := by rw [List.length_take]; omega
 exact ⟨⟨rfl, by rw [h1, h2], by rw [h1, h2]; omega, fun _ _ => rfl⟩, by rw [h1, h2]⟩
theorem CmpA.same {l D : List α} {j : Nat} (h : CmpA l j D) {x y : α} (hx : l[j]? = some x) (hy : l[j - 1]? = some y) (e : x = y) : CmpA l (j + 1) D ∧ (zdd none (l.take (j + 1))).length = (zdd none (l.take j)).length := by
 have h0 := h.lt
 have h1 : zdd none (l.take (j + 1)) = zdd none (l.take j) := by rw [zmx hx hy (by omega), if_pos e]; simp
 exact ⟨⟨h.len, by rw [h1]; exact h.lo, by rw [h1]; omega, fun i hi => h.hi i (by omega)⟩, by rw [h1]⟩
variable {c : α → α → Int}
end
end
section
section
variable {α : Type} [DecidableEq α]
end
end
section
section
variable {P : Program} {e : Env} {dst : Option Tmp} {ty : TypeId} {pos : String} {af : Array Edge} {g : Option (Nat × Bool)}
end
section
variable {P : Program} {n : Nat} {e e' : Env} {M M' : List MObj} {Q Q' : Exit → Env → List MObj → Prop} {c c' : Code}
def zta {α β γ δ : Type} (e : Env) (ks : List Nat) (W : α → β → γ → δ → List (Nat × HVal)) (MM : α → β → γ → δ → List MObj) (Iv : α → β → γ → δ → Prop) (μ : α → β → γ → δ → Nat) (x : α) (y : β) (u : γ) (v : δ) (Q : Exit → Env → List MObj → Prop) : Exit → Env → List MObj → Prop
 | .normal, e', M => ∃ j k l m, Iv j k l m ∧ μ j k l m < μ x y u v ∧ zdZ e' (W j k l m) ∧ zfw ks e e' ∧ M.Perm (MM j k l m)
 | z, e', M => Q z e' M
theorem zpI {α β γ δ : Type} {e0 : Env} {ks : List Nat} {W : α → β → γ → δ → List (Nat × HVal)} {MM : α → β → γ → δ → List MObj} {Iv : α → β → γ → δ → Prop} {μ : α → β → γ → δ → Nat} {x : α} {y : β} {u : γ} {v : δ} {id : Nat} (h : Q (.exit id) e M) :
 zta e0 ks W MM Iv μ x y u v Q (.exit id) e M := h
theorem zoy [Tracks] {α β γ δ : Type} (ks : List Nat) (W : α → β → γ → δ → List (Nat × HVal)) (MM : α → β → γ → δ → List MObj) (Iv : α → β → γ → δ → Prop) (μ : α → β → γ → δ → Nat) (x : α) (y : β) (u : γ) (v : δ) (h0 : Iv x y u v) (hW : zdZ e (W x y u v)) (hM : M.Perm (MM x y u v))
 (hb : ∀ x y u v, Iv x y u v → HWp P n c (loopE e ks (W x y u v)) (MM x y u v) (zta e ks W MM Iv μ x y u v Q)) : HWp P n (.loop c) e M Q := by
 refine zak (ι := α × β × γ × δ) ks (fun p => W p.1 p.2.1 p.2.2.1 p.2.2.2) (fun p => MM p.1 p.2.1 p.2.2.1 p.2.2.2) (fun p => Iv p.1 p.2.1 p.2.2.1 p.2.2.2) (fun p => μ p.1 p.2.1 p.2.2.1 p.2.2.2) (x, y, u, v) h0 hW hM fun p hp => zis (hb p.1 p.2.1 p.2.2.1 p.2.2.2 hp) ?_
 intro z e1 M1 hq
 cases z with
 | normal => obtain ⟨j, k, l, m, h⟩ := hq; exact ⟨(j, k, l, m), h⟩
 | _ => exact hq
end
end
end Go.HL
namespace Go.Proofs.YtjecenjmphpmfaaGreatDoor
set_option maxRecDepth 100000
set_option linter.unusedVariables false
set_option linter.unusedSimpArgs false
section
open Go.HL

end
end Go.Proofs.YtjecenjmphpmfaaGreatDoor
namespace Go.HL
section
section
variable {P : Program} {e : Env} {dst : Option Tmp} {ty : TypeId} {pos : String} {af : Array Edge} {g : Option (Nat × Bool)} {M : List MObj} {K : HVal → List MObj → Prop}
theorem zmC [Tracks] {x : Operand} {t el : TypeId} {size bytes : Nat} {zero : Value} {p : Option Addr} {n c : Nat} (hf : Fits P t (.slice el) size bytes zero) (hx : zA e x = some (.raw (.slice p n c))) :
 POp P e ⟨dst, .call ⟨.builtin .cap, #[x], #[t]⟩, ty, pos, af, g⟩ (.int .i64 c) :=
 POp.of_val fun I a w ho => by
  have h1 := (ho.one (x := x) (by simp [Op.operands, Call.operands]) hx).raw_inv
  exact ⟨_, by simp [execOp, resolve, invoke, builtin, Builtin.cap_, h1, run_underlying hf.slice, goInt], .int _ _⟩
theorem ztv [Tracks] {x y : Operand} {t el : TypeId} {size bytes s2 b2 : Nat} {zero z2 : Value} {d : TD} (hf : Fits P t (.slice el) size bytes zero) (hel : Fits P el d s2 b2 z2) (hx : zA e x = some (.raw (.slice none 0 0))) (hy : zA e y = some (.int .i64 0)) :
 POp P e ⟨dst, .slice t x none (some y) none, ty, pos, af, g⟩ (.raw (.slice none 0 0)) :=
 POp.of_val fun I a w ho => by
  have h1 := (ho.one (x := x) (by simp [Op.operands]) hx).raw_inv
  have h2 := (ho.one (x := y) (by simp [Op.operands]) hy).int_inv
  exact ⟨_, by simp [execOp, h1, h2, Instr.sliceAt, Instr.slice, Instr.sliceBounds, Instr.sliceBound, asIntOf, run_underlying hf.slice, hel.run_sizeOf], .raw _ rfl⟩
/-- append(nil, make([]T, n)...). -/
theorem zqt [Tracks] {x y : Operand} {t el it : TypeId} {size bytes sz b2 s3 b3 n : Nat} {zero z2 z3 : Value} {d : TD} {q : Int}
 (hf : Fits P t (.slice el) size bytes zero) (hel : Fits P el d sz b2 z2) (hit : Fits P it (.int .i64) s3 b3 z3) (hz : z2.cells.size = sz) (hby : Nat.ble b2 100000 = true)
 (hx : zA e x = some (.raw (.slice none 0 0))) (hy : zA e y = some (.int .i64 q)) (hq : q = (n : Int)) (hn : n ≤ 1000000) (h0 : 0 < n)
 (hk : ∀ b nc cells, n ≤ nc → nc ≤ 9223372036854775807 → cells.size = nc * sz → K (.raw (.slice (some ⟨b, 0, none⟩) n nc)) (.obj b (.cells cells el (0, 0)) :: M)) :
 EOp P e M ⟨dst, .call ⟨.builtin .append, #[x, y], #[t, it]⟩, ty, pos, af, g⟩ K :=
 EOp.of_run fun I F a w ho hs => by
  subst hq
  have h1 := (ho.one (x := x) (by simp [Op.operands, Call.operands]) hx).raw_inv
  have h2 := (ho.one (x := y) (by simp [Op.operands, Call.operands]) hy).int_inv
  let nc := (Question.appendCap n 0 el).cut (w.tape w.drawn (.appendCap n 0 el))
  have hnc : n ≤ nc := by simp only [nc, Question.cut]; omega
  have hnm : nc ≤ 9223372036854775807 := by
   simp only [nc, Question.cut]
   have := Nat.mod_lt (w.tape w.drawn (.appendCap n 0 el)) (show 0 < 2 ^ 63 - n by omega)
   omega
  let cells : Array Value := #[] ++ Builtin.zeroCells z2.cells n ++ Builtin.zeroCells z2.cells (nc - n)
  have hcs : cells.size = nc * sz := by
   simp only [cells, Array.size_append, zdG, hz, List.size_toArray, List.length_nil]
   rw [Nat.zero_add, ← Nat.add_mul]; congr 1; omega
  have hsz0 : ¬ n * sz = 0 ∨ Builtin.zeroCells z2.cells n = #[] := by
   by_cases h : n * sz = 0
   ·right; apply Array.eq_empty_of_size_eq_zero; rw [zdG, hz, h]
   ·exact .inl h
  obtain ⟨ti, t1, t2, t3, t4⟩ := hel.typeInfo
  have hti : ∀ w1, (Go.typeInfo el).run P w1 = .ok ti w1 := fun w1 => by simp [Go.typeInfo, t1]
  have hwr : IntKind.i64.wrap (n : Int) = (n : Int) := zqf (by omega) (by omega)
  have hb0 : ¬ ((n : Int) * (b2 : Int) > 2 ^ 48) := by
   have e2 : b2 ≤ 100000 := Nat.le_of_ble_eq_true hby
   have : n * b2 ≤ 1000000 * 100000 := Nat.mul_le_mul hn e2
   have h9 : ((n * b2 : Nat) : Int) = (n : Int) * (b2 : Int) := Int.natCast_mul _ _
   omega
  have hb2 : ¬ ((n : Int) > IntKind.i64.max) := by
   have : IntKind.i64.max = 9223372036854775807 := by decide
   rw [this]; omega
  have hb3 : ¬ Builtin.nextslicecap n 0 * b2 > 2 ^ 48 := by
   have e1 := zfx (need := n) (cap := 0) h0
   have e2 : b2 ≤ 100000 := Nat.le_of_ble_eq_true hby
   have : Builtin.nextslicecap n 0 * b2 ≤ (2 * 1000000 + 192) * 100000 := Nat.mul_le_mul (by omega) e2
   omega
  have hch : (choose (.appendCap n 0 el)).run P w = .ok nc { w with drawn := w.drawn + 1 } := by simp [Question.forced, nc]
  refine ⟨.slice (some ⟨w.heap.size, 0, none⟩) n nc, _, _, { w with heap := w.heap.push (.cells cells el (0, 0)), drawn := w.drawn + 1 }, I, ?_, .refl I, hk w.heap.size nc cells hnc hnm hcs, .raw _ rfl, ?_⟩
  ·have hap : ∀ w1 : World, ((if n * sz = 0 then pure #[] else do pure (Builtin.zeroCells (← zeroValue el).cells n) : Sem (Array Value))).run P w1 = .ok (Builtin.zeroCells z2.cells n) w1 := fun w1 => by
    rcases hsz0 with h | h
    ·rw [if_neg h]; simp [hel.run_zero]
    ·by_cases h' : n * sz = 0
     ·rw [if_pos h', h]; simp
     ·rw [if_neg h']; simp [hel.run_zero]
   rw [zdR]
   simp only [List.map_toArray, List.map_cons, List.map_nil, h1, h2, Builtin.append_, List.getElem?_toArray, List.getElem?_cons_zero, List.getElem?_cons_succ, Sem.run_bind, run_underlying hf.slice, run_underlying hit.intD, Result.andThen_ok,
    hel.run_sizeOf, Sem.run_pure, if_true, asInt, hwr, hti, t3]
   have hai : ∀ w1 : World, (asIntOf (Value.int IntKind.i64 (n : Int))).run P w1 = .ok (.i64, (n : Int)) w1 := fun w1 => by simp [asIntOf]
   simp only [hai, Result.andThen_ok, hwr]
   rw [if_neg (show ¬ (n : Int) < 0 by omega)]
   simp only [Sem.run_bind, hti, Result.andThen_ok, t3, Sem.run_pure]
   rw [if_neg hb0]
   simp only [Sem.run_bind, hti, Result.andThen_ok, t3, Sem.run_pure, Int.toNat_natCast, Nat.zero_add]
   rw [if_neg (show ¬ n ≤ 0 by omega)]
   simp only [Sem.run_bind, hti, Result.andThen_ok, t3, Sem.run_pure]
   rw [if_neg (fun h => hb2 h.1)]
   simp only [Sem.run_bind, hti, Result.andThen_ok, t3, Sem.run_pure]
   rw [if_neg hb3]
   simp only [Sem.run_bind, Sem.run_pure, hch, Result.andThen_ok, hti, run_askRoom, Builtin.firstCells, Bool.not_true, Bool.false_eq_true, if_false, hap, hel.run_zero, newRow, run_newObj]
   rfl
  ·have hs1 : Sat P I (M ++ F) { w with drawn := w.drawn + 1 } := hs.of_same (fun _ _ => rfl) (fun _ _ => rfl) rfl rfl rfl
   exact hs1.new_own (.cells cells el (0, 0)) (.obj w.heap.size (.cells cells el (0, 0))) rfl (by simp [MSat, push])
end
/-- New cells of which none is in use. -/
theorem Ghost.objarr [Tracks] {e : Env} {M : List MObj} {b nc sz : Nat} {cells : Array Value} {el : TypeId} (hc : cells.size = nc * sz) (hn : nc ≤ 9223372036854775807) : Ghost e (.obj b (.cells cells el (0, 0)) :: M) e (.arr (.slice (some ⟨b, 0, none⟩) 0 nc) sz [] :: M) := fun _ I F tmps w h1 hs => by
 refine ⟨I, .refl I, h1, Sat.change (m := .obj b (.cells cells el (0, 0))) hs (fun _ _ _ => rfl) (fun x hx => .inl hx) (by simp [MObj.blocks]) ?_ rfl rfl rfl⟩
 have := hs.obj (.obj b (.cells cells el (0, 0))) (by simp)
 exact .inr ⟨b, 0, nc, cells, el, (0, 0), rfl, this, Free.zero _, by simp, ⟨Nat.zero_le _, hn⟩, by omega, by simp⟩
theorem zf0 {α : Type} {LL : List (List α)} {i : Nat} {x : List α} (hx : LL[i]? = some x) : (LL.take (i + 1)).flatten.length = (LL.take i).flatten.length + x.length := by
 rw [List.take_add_one, hx]; simp
theorem zoU {α : Type} {LL : List (List α)} {i : Nat} {x : List α} (hx : LL[i]? = some x) : (LL.take (i + 1)).flatten = (LL.take i).flatten ++ x := by
 rw [List.take_add_one, hx]; simp
theorem zjQ {α : Type} (LL : List (List α)) (i : Nat) : (LL.take i).flatten.length ≤ LL.flatten.length := by
 have := congrArg (fun q => q.flatten.length) (List.take_append_drop i LL)
 simp only [List.flatten_append, List.length_append] at this
 omega
end
end Go.HL
namespace Go.Proofs.YtjecenjmphpmfaaGreatDoor
set_option maxRecDepth 100000
set_option linter.unusedVariables false
set_option linter.unusedSimpArgs false
section
open Go.HL
/-- slices.IndexFunc[[]benchwarmer/api.Mend,benchwarmer/api.Mend] -/
theorem zew [Tracks] {l : List MendS} {fid : FuncId} {caps : List HVal} {p : MendS → Bool} (hca : Callable Tryz.prog fid) (hp : ∀ x, ConP Tryz.prog fid ([zbi x] ++ caps) (.bool (p x))) (hl : l.length ≤ 1000000) : ConP Tryz.prog 113 [.slice 7 (l.map zbi), .fn (.func fid) [] caps] (.int .i64 (zaP p l 0)) := by
 refine Con.of_body Tryz.func113 rfl Tryz.ntmps113 rfl rfl ?_
 refine za ?_
 refine das rfl ?_
 refine dn ?_
 refine zf ?_
 refine za ?_
 refine dmv rfl ?_
 refine dq (zL za2 rfl) ?_
 refine dmv rfl ?_
 refine dn ?_
 refine zn ?_
 refine zak [4, 5, 8, 9, 10, 11, 12, 13, 14, 15, 16, 17, 18] (fun (k : Nat) => [(8, .int .i64 k)]) (fun (k : Nat) => []) (fun (k : Nat) => k ≤ l.length ∧ (zaP p l 0 = zaP p (l.drop k) k)) (fun (k : Nat) => l.length - k) (0) ?_ ?_ ?_ ?_
 ·exact ⟨Nat.zero_le _, rfl⟩
 ·exact ⟨rfl, trivial⟩
 ·exact List.Perm.refl _
 ·intro k hinv
  obtain ⟨hk, hg⟩ := hinv
  refine za ?_
  refine dq (zW rfl rfl) ?_
  refine dn ?_
  refine zf ?_
  refine zi rfl (fun h1 => ?_) (fun h2 => ?_)
  ·try simp at h1
   obtain ⟨x, hx⟩ : ∃ x, l[k]? = some x := ⟨_, List.getElem?_eq_getElem h1⟩
   have hdx := zX hx
   rw [hdx] at hg
   refine zl ?_
   refine ze ?_
   refine zf ?_
   refine zn ?_
   refine za ?_
   refine dmv rfl ?_
   refine das rfl ?_
   refine dn ?_
   refine za ?_
   refine dmv rfl ?_
   refine dmv rfl ?_
   refine dmv rfl ?_
   refine dq (zP za2 zQ rfl rfl rfl (by first | assumption | simp_all)) ?_
   refine dq (zN zQ rfl rfl rfl rfl) ?_
   refine dq (zb4 hca rfl rfl (WeakL.refl _) (hp _)) ?_
   refine dn ?_
   refine zi rfl (fun h3 => ?_) (fun h4 => ?_)
   ·try simp at h3
    refine za ?_
    refine dmv rfl ?_
    refine das rfl ?_
    refine dn ?_
    refine zk ?_
    refine zF rfl ?_
    show HVal.int .i64 _ = _
    first | (rw [hg]; rfl) | (rw [hg]; simp_all [zaP])
   ·try simp at h4
    refine zl ?_
    refine zG ?_
    refine ze ?_
    refine zB ?_
    refine dq (zC rfl rfl (by omega) (by omega)) ?_
    refine dmv rfl ?_
    refine dn ?_
    refine ⟨k + 1, ?_, ?_, ⟨rfl, trivial⟩, (by repeat (first | exact zp | refine zt rfl ?_ | refine zq rfl rfl ?_)), List.Perm.refl _⟩
    ·refine ⟨by omega, ?_⟩
     rw [hg, zaP, if_neg (by simp_all)]; rfl
    ·dsimp only; omega
  ·try simp at h2
   have hnk : l.length ≤ k := by omega
   obtain rfl : k = l.length := by omega
   rw [zap (Nat.le_refl _)] at hg
   refine zU ?_
   refine z6 ?_
   refine zas ?_
   refine zJ ?_
   refine ze ?_
   refine za ?_
   refine das rfl ?_
   refine dn ?_
   refine zk ?_
   refine zF rfl ?_
   show HVal.int .i64 _ = _
   first | (rw [hg]; rfl) | (rw [hg]; simp_all [zaP])

/-- slices.Clone[[]benchwarmer/api.Mend,benchwarmer/api.Mend] -/
theorem zfi [Tracks] {l : List MendS} (hl : l.length ≤ 1000000) : zlW Tryz.prog 65 [.slice 7 (l.map zbi)] 7 (l.map zbi) := by
 refine Con.of_body Tryz.func65 rfl Tryz.ntmps65 rfl rfl ?_
 refine za ?_
 refine das rfl ?_
 refine dn ?_
 refine zf ?_
 refine za ?_
 refine dmv rfl ?_
 refine de rfl (zhO za2 rfl rfl fun b4 hb4 => ?_)
 refine dn ?_
 refine zi rfl (fun h1 => ?_) (fun h2 => ?_)
 ·try simp at h1
  refine za ?_
  refine das rfl ?_
  refine dn ?_
  refine zk ?_
  first | exact zgN rfl rfl | exact zat (Ghost.arr_nil 7) rfl ⟨_, rfl, by simp_all⟩
 ·try simp at h2
  refine zl ?_
  refine ze ?_
  refine za ?_
  refine de rfl (ziv za2 zQ fun v5 => ?_)
  refine dmv rfl ?_
  refine de rfl (zan (i := 0) za2 zQ rfl rfl rfl rfl rfl (by simp [za5, zh]) (by first | omega | (simp; omega)) fun v7 => ?_)
  refine das rfl ?_
  refine dn ?_
  refine zk ?_
  first | exact zgN rfl rfl | exact zat (Ghost.arr_nil 7) rfl ⟨_, rfl, by simp_all⟩
end
end Go.Proofs.YtjecenjmphpmfaaGreatDoor
namespace Go.HL
section
theorem zud {s : Str} {S : List Str} (h : s ∉ S) : zbR s S = S ++ [s] := by
 unfold zbR; rw [if_neg (by simpa using h)]
theorem zqr {s : Str} {S : List Str} (h : s ∈ S) : zbR s S = S := by
 unfold zbR; rw [if_pos (by simpa using h)]
section
variable {κ : Type}
theorem zsd {G : GrM κ} {s : Str} (h : ((alk s (zcR G)).getD none).isNone = true) : alk s G = none := by
 rw [zgx] at h
 cases hq : alk s G with
 | none => rfl
 | some q => rw [hq] at h; simp at h
theorem zrI {G : GrM κ} {s : Str} (h : ((alk s (zcR G)).getD none).isNone = false) : ∃ b L, alk s G = some (b, L) := by
 rw [zgx] at h
 cases hq : alk s G with
 | none => rw [hq] at h; simp at h
 | some q => exact ⟨q.1, q.2, rfl⟩
theorem GrOk.mem {S : List Str} {c : List ((Str × κ) × Int)} {G : GrM κ} (h : GrOk S c G) {s : Str} {b : Nat} {L : List (κ × Int)} (hq : alk s G = some (b, L)) : s ∈ S := by
 refine Decidable.not_not.1 fun hn => ?_
 rw [h.none.2 hn] at hq; cases hq
theorem GrOk.find {S : List Str} {c : List ((Str × κ) × Int)} {G : GrM κ} (h : GrOk S c G) {s : Str} (hs : s ∈ S) : ∃ b L, alk s G = some (b, L) := by
 cases hq : alk s G with
 | none => exact absurd hs (h.none.1 hq)
 | some q => exact ⟨q.1, q.2, rfl⟩
end
theorem zp5 {q : LnS} {week : Int} : (zdq q week).length ≤ q.S.length := by
 rw [zlj, List.length_map]; exact zob _
theorem znl {q : LnS} {week : Int} : ∀ y ∈ zdq q week, y.Stats.length ≤ q.c.length := fun y hy => by
 rw [zlj] at hy
 obtain ⟨s, _, rfl⟩ := List.mem_map.1 hy
 exact Nat.le_trans (zmJ _) (zoe _ _)
end
end Go.HL
namespace Go.Proofs.YtjecenjmphpmfaaGreatDoor
set_option maxRecDepth 100000
set_option linter.unusedVariables false
set_option linter.unusedSimpArgs false
section
open Go.HL
set_option maxHeartbeats 1000000 in
/-- benchwarmer/benchref1.LinesOf -/
theorem zjO [Tracks] {l : List Play} {trust : List Str} {week n : Int} (hok : zz l = 0) (ht : trust.length ≤ 1000000) : ConP Tryz.prog 114 [zbD l, eSs trust, .int .i64 week, .int .i64 n] (.tup [zcm (ziK l trust week n), .int .i64 (ziz l trust week n)]) := by
 have hone := zs1 hok
 have hpf := zea hok
 have hl3 := (zft hok).1
 have hl : l.length ≤ 1000000 := by omega
 refine Con.of_body Tryz.func114 rfl Tryz.ntmps114 rfl rfl ?_
 refine za ?_
 refine das rfl ?_
 refine das rfl ?_
 refine dn ?_
 refine za ?_
 refine dmv rfl ?_
 refine dmv rfl ?_
 refine de rfl (za0 (M1 := []) (R := []) zxf rfl (WeakL.refl _) (List.Perm.refl _) (zjt (l := l) (n := n) hl) ?_)
 rintro _ _ ⟨U, rfl, ⟨hUl, hU⟩, rfl⟩
 refine das rfl ?_
 refine dn ?_
 refine za ?_
 refine de rfl (za1 fun m22 => ?_)
 refine das rfl ?_
 refine dn ?_
 refine za ?_
 refine das rfl ?_
 refine dn ?_
 refine zH (Ghost.arr_nil 1) ?_
 refine zf ?_
 refine za ?_
 refine dmv rfl ?_
 refine dq (zL zaC rfl) ?_
 refine dmv rfl ?_
 refine dn ?_
 refine zn ?_
 refine zdO (12 :: 13 :: 14 :: 25 :: 26 :: 27 :: 28 :: 29 :: 30 :: 31 :: 32 :: 33 :: 34 :: 35 :: 36 :: 37 :: 38 :: 39 :: 40 :: 41 :: 42 :: 43 :: 44 :: 45 :: 46 :: 47 :: 48 :: 49 :: 50 :: 51 :: 52 :: 53 :: 54 :: 55 :: 56 :: 57 :: 58 :: 59 :: 60 :: 61 :: 62 :: 63 :: 64 :: 65 :: 66 :: 67 :: 68 :: 69 :: 70 :: 71 :: 72 :: 73 :: 74 :: 75 :: 76 :: 77 :: 78 :: 79 :: 80 :: 81 :: 82 :: 83 :: 84 :: 85 :: []) (fun (k : Nat) (G : GrM Str) (u : Value) => [(25, .int .i64 k), (12, .raw u)]) (fun (k : Nat) (G : GrM Str) (u : Value) => [MObj.map m22 (sk (em fM (zcR G))), .arr u 1 ((zaB l trust week n (l.take k)).S.map .str)] ++ grm HVal.str G) (fun (k : Nat) (G : GrM Str) (u : Value) => k ≤ l.length ∧ (GrOk (zaB l trust week n (l.take k)).S (zaB l trust week n (l.take k)).c G)) (fun (k : Nat) (G : GrM Str) (u : Value) => l.length - k) (0) ([]) (.slice none 0 0) ?_ ?_ ?_ ?_
 ·exact ⟨Nat.zero_le _, GrOk.nil⟩
 ·exact ⟨rfl, rfl, trivial⟩
 ·exact List.Perm.swap _ _ _
 ·intro k G u hinv
  obtain ⟨hk, hG⟩ := hinv
  refine za ?_
  refine dq (zW rfl rfl) ?_
  refine dn ?_
  refine zf ?_
  refine zi rfl (fun h1 => ?_) (fun h2 => ?_)
  ·try simp at h1
   obtain ⟨x, hx⟩ : ∃ x, l[k]? = some x := ⟨_, List.getElem?_eq_getElem h1⟩
   have hdx := zX hx
   have hpx := hpf x (List.mem_of_getElem? hx)
   obtain ⟨_, _, _, _, _, hcb, _⟩ := zcG hpx
   have hlk := zja (l := l) (m := l.take k) (trust := trust) (week := week) (n := n) (fun y hy => hpf y (List.mem_of_mem_take hy))
   have hSl := hlk.Sl
   have hlt : ((l.take k).length : Int) ≤ 3000 := by rw [List.length_take]; omega
   refine zl ?_
   refine ze ?_
   refine zf ?_
   refine zn ?_
   refine za ?_
   refine dmv rfl ?_
   refine dq (zP zaC zm rfl rfl rfl (by assumption)) ?_
   refine dq (zN zm rfl rfl rfl rfl) ?_
   refine de rfl (z8 zm rfl fun b14 => ?_)
   refine das rfl ?_
   refine de0 (zae zm rfl rfl rfl rfl rfl ?_)
   refine dn ?_
   refine zH (Ghost.fc0 14 rfl) ?_
   refine zf ?_
   refine zaM (fun _ => True) [] mixed ?_
   refine ahp 0 rfl rfl (by kernel_rfl) (by kernel_rfl) ((zb zm rfl ty3 (by decide) rfl)) ?_
   refine ahp 1 rfl rfl (by kernel_rfl) (by kernel_rfl) (zc ty3 rfl rfl rfl) ?_
   refine ahp 2 rfl rfl (by kernel_rfl) (by kernel_rfl) (zd rfl) ?_
   refine ahp 3 rfl rfl (by kernel_rfl) (by kernel_rfl) (zai rfl rfl) ?_
   refine ahp 4 rfl rfl (by kernel_rfl) (by kernel_rfl) (zd rfl) ?_
   refine ahg 5 rfl rfl (by kernel_rfl) (by kernel_rfl) rfl (fun hc => ⟨_, OpenTo.refl _, (zb zm rfl ty3 (by decide) rfl)⟩) ?_
   refine ahg 6 rfl rfl (by kernel_rfl) (by kernel_rfl) rfl (fun hc => ⟨_, OpenTo.upd (t := 35) rfl (hc) (OpenTo.refl _), zc ty3 rfl rfl rfl⟩) ?_
   refine ahg 7 rfl rfl (by kernel_rfl) (by kernel_rfl) rfl (fun hc => ⟨_, OpenTo.refl _, zd rfl⟩) ?_
   refine ahg 8 rfl rfl (by kernel_rfl) (by kernel_rfl) rfl (fun hc => ⟨_, OpenTo.upd (t := 37) rfl (hc) (OpenTo.upd (t := 36) rfl (hc) (OpenTo.refl _)), zaf rfl rfl⟩) ?_
   refine ahp 9 rfl rfl (by kernel_rfl) (by kernel_rfl) (zv rfl (.inl rfl) (.inr ⟨_, rfl, fun h => by simp_all⟩)) ?_
   refine ahp 10 rfl rfl (by kernel_rfl) (by kernel_rfl) (zd rfl) ?_
   refine ahg 11 rfl rfl (by kernel_rfl) (by kernel_rfl) rfl (fun hc => ⟨_, OpenTo.refl _, zd rfl⟩) ?_
   refine ahg 12 rfl rfl (by kernel_rfl) (by kernel_rfl) rfl (fun hc => ⟨_, OpenTo.refl _, zd rfl⟩) ?_
   refine ahg 13 rfl rfl (by kernel_rfl) (by kernel_rfl) rfl (fun hc => ⟨_, OpenTo.refl _, (zb zm rfl ty9 (by decide) rfl)⟩) ?_
   refine ahg 14 rfl rfl (by kernel_rfl) (by kernel_rfl) rfl (fun hc => ⟨_, OpenTo.upd (t := 43) rfl (hc) (OpenTo.refl _), zc ty9 rfl rfl rfl⟩) ?_
   refine ahg 15 rfl rfl (by kernel_rfl) (by kernel_rfl) rfl (fun hc => ⟨_, OpenTo.refl _, zd rfl⟩) ?_
   refine ahg 16 rfl rfl (by kernel_rfl) (by kernel_rfl) rfl (fun hc => ⟨_, OpenTo.upd (t := 45) rfl (hc) (OpenTo.upd (t := 44) rfl (hc) (OpenTo.upd (t := 42) rfl (hc) (OpenTo.upd (t := 41) rfl (hc) (OpenTo.refl _)))), zj zx1 rfl (WeakL.refl _) (zjp (m := x.Match) hl ht)⟩) ?_
   refine ahg 17 rfl rfl (by kernel_rfl) (by kernel_rfl) rfl (fun hc => ⟨_, OpenTo.refl _, (zb zm rfl ty9 (by decide) rfl)⟩) ?_
   refine ahg 18 rfl rfl (by kernel_rfl) (by kernel_rfl) rfl (fun hc => ⟨_, OpenTo.upd (t := 47) rfl (hc) (OpenTo.refl _), zc ty9 rfl rfl rfl⟩) ?_
   refine ahg 19 rfl rfl (by kernel_rfl) (by kernel_rfl) rfl (fun hc => ⟨_, OpenTo.upd (t := 48) rfl (hc) (OpenTo.upd (t := 46) rfl (hc) (OpenTo.refl _)), zf8 rfl rfl⟩) ?_
   refine ahp 20 rfl rfl (by kernel_rfl) (by kernel_rfl) (zv rfl (.inl rfl) (.inr ⟨_, rfl, fun h => by simp_all⟩)) ?_
   refine ahp 21 rfl rfl (by kernel_rfl) (by kernel_rfl) (zd rfl) ?_
   refine ahg 22 rfl rfl (by kernel_rfl) (by kernel_rfl) rfl (fun hc => ⟨_, OpenTo.refl _, zd rfl⟩) ?_
   refine ahg 23 rfl rfl (by kernel_rfl) (by kernel_rfl) rfl (fun hc => ⟨_, OpenTo.refl _, zd rfl⟩) ?_
   refine ahg 24 rfl rfl (by kernel_rfl) (by kernel_rfl) rfl (fun hc => ⟨_, OpenTo.upd (t := 53) rfl (hc) (OpenTo.upd (t := 52) rfl (hc) (OpenTo.refl _)), zj zx5 rfl (WeakL.refl _) (zg2 (l := U) (z := (k : Int)) hUl)⟩) ?_
   refine ahp 25 rfl rfl (by kernel_rfl) (by kernel_rfl) (zv rfl (.inl rfl) (.inr ⟨_, rfl, fun h => by simp_all⟩)) ?_
   refine ahp 26 rfl rfl (by kernel_rfl) (by kernel_rfl) (zd rfl) ?_
   refine ahg 27 rfl rfl (by kernel_rfl) (by kernel_rfl) rfl (fun hc => ⟨_, OpenTo.refl _, (zb zm rfl ty3 (by decide) rfl)⟩) ?_
   refine ahg 28 rfl rfl (by kernel_rfl) (by kernel_rfl) rfl (fun hc => ⟨_, OpenTo.upd (t := 57) rfl (hc) (OpenTo.refl _), zc ty3 rfl rfl rfl⟩) ?_
   refine ahg 29 rfl rfl (by kernel_rfl) (by kernel_rfl) rfl (fun hc => ⟨_, OpenTo.upd (t := 58) rfl (hc) (OpenTo.refl _), zaf rfl rfl⟩) ?_
   refine ahp 30 rfl rfl (by kernel_rfl) (by kernel_rfl) (zv rfl (.inl rfl) (.inr ⟨_, rfl, fun h => by simp_all⟩)) ?_
   refine ahz (by kernel_rfl) ?_
   refine zi rfl (fun h3 => ?_) (fun h4 => ?_)
   ·try simp at h3
    refine zU ?_
    refine z6 ?_
    refine zJ ?_
    refine ze ?_
    refine zB ?_
    refine dq (zC rfl rfl (by omega) (by omega)) ?_
    refine dmv rfl ?_
    refine dn ?_
    have hin : ze0 l trust week n x = false := by
     rw [← ziG hone hU hx, Bool.not_eq_eq_eq_not, Bool.not_false]
     simp only [Bool.or_eq_true, bne_iff_ne, ne_eq, decide_eq_true_eq, List.contains_iff_mem]
     exact h3
    have hgo : zaB l trust week n (l.take (k + 1)) = (zaB l trust week n (l.take k)) := by rw [zhL hx, zdi, if_neg (by rw [hin]; simp)]
    exact ⟨k + 1, G, u, ⟨by omega, by rw [hgo]; exact hG⟩, by dsimp only; omega, ⟨rfl, rfl, trivial⟩, (by repeat (first | exact zp | refine zt rfl ?_ | refine zq rfl rfl ?_)), zS (by dsimp only; rw [hgo])⟩
   ·try simp at h4
    refine zl ?_
    refine ze ?_
    refine zeb [12, 61, 62, 63, 64, 65, 66, 67, 68, 69, 70, 71, 72, 73, 74] (fun (p : GrM Str × Value) => [(12, .raw p.2)]) (fun (p : GrM Str × Value) => [MObj.map m22 (sk (em fM (zcR p.1))), .arr p.2 1 ((zbR x.Player (zaB l trust week n (l.take k)).S).map .str)] ++ grm HVal.str p.1) (fun (p : GrM Str × Value) => GrOk (zbR x.Player (zaB l trust week n (l.take k)).S) (zaB l trust week n (l.take k)).c p.1 ∧ ∃ b L, alk x.Player p.1 = some (b, L)) ?_ ?_
    ·skip
     refine za ?_
     refine dmv rfl ?_
     refine dq ((zb zm rfl ty9 (by decide) rfl)) ?_
     refine dq (zc ty9 rfl rfl rfl) ?_
     refine de rfl (zbZ (i := 0) (f := fM) (z0 := none) zo5 ty9 zbM rfl rfl rfl rfl ?_)
     refine dq (zsa zbM rfl rfl) ?_
     refine dn ?_
     refine zi rfl (fun h5 => ?_) (fun h6 => ?_)
     ·try simp at h5
      refine za ?_
      refine dmv rfl ?_
      refine dq ((zb zm rfl ty9 (by decide) rfl)) ?_
      refine dq (zc ty9 rfl rfl rfl) ?_
      refine de rfl (za1 fun m69 => ?_)
      refine de0 (zbu (i := 1) (f := fM) (v := some m69) zo5 ty9 rfl rfl rfl rfl ?_)
      refine dn ?_
      refine zB ?_
      refine dmv rfl ?_
      refine dq ((zb zm rfl ty9 (by decide) rfl)) ?_
      refine dq (zc ty9 rfl rfl rfl) ?_
      refine dq (zw (hs := [_]) zaj ty9 rfl rfl (by decide) (by decide) rfl) ?_
      refine de rfl (zan (i := 2) zaj ty9 rfl rfl rfl rfl rfl (by simp [za5, zh]) (by simp; omega) fun v74 => ?_)
      refine das rfl ?_
      refine dn ?_
      have hnone := zsd (by simpa using h5)
      have hns := hG.none.1 hnone
      exact ⟨(zY x.Player (m69, []) G, v74), ⟨hG.add m69 hnone, m69, [], by rw [zcr, if_pos rfl]⟩, ⟨rfl, trivial⟩, (by repeat (first | exact zp | refine zt rfl ?_ | refine zq rfl rfl ?_)), by dsimp only; rw [← zn7 (L := []), zud hns, List.map_append]; exact zvC (ek := HVal.str) (A := [_, _]) (b := m69) (L := []) hG.anodup hnone⟩
     ·try simp at h6
      refine zl ?_
      obtain ⟨b0, L0, hb0⟩ := zrI (by simpa using h6)
      have hins := hG.mem hb0
      exact ⟨(G, u), ⟨by rw [zqr hins]; exact hG, b0, L0, hb0⟩, ⟨rfl, trivial⟩, (by repeat (first | exact zp | refine zt rfl ?_ | refine zq rfl rfl ?_)), zS (by dsimp only; rw [zqr hins])⟩
    ·intro p hp
     have hin : ze0 l trust week n x = true := by rw [← ziG hone hU hx]; simpa using h4
     have hgo : zaB l trust week n (l.take (k + 1)) = zo2 (zaB l trust week n (l.take k)) x := by rw [zhL hx, zdi, if_pos hin]
     obtain ⟨G1, u1⟩ := p
     dsimp only at hp
     obtain ⟨hG1, b1, L1, hb⟩ := hp
     have hL := hG1.get hb
     have hvb := hlk.val (x.Player, x.Stat)
     rw [← zhG, ← hL] at hvb
     refine zH (Ghost.perm (zlS (ek := HVal.str) (A := [_, _]) hG1.anodup hb)) ?_
     refine zB ?_
     refine dmv rfl ?_
     refine dq ((zb zm rfl ty9 (by decide) rfl)) ?_
     refine dq (zc ty9 rfl rfl rfl) ?_
     refine de rfl (zbZ (i := 1) (f := fM) (z0 := none) zo5 ty9 zbM rfl rfl rfl rfl ?_)
     rw [zgx, hb]
     refine dq ((zb zm rfl ty9 (by decide) rfl)) ?_
     refine dq (zc ty9 rfl rfl rfl) ?_
     refine de rfl (zbZ (i := 0) (f := HVal.int .i64) (L := L1) (z0 := (0 : Int)) zbM ty9 ty3 rfl rfl rfl rfl ?_)
     refine dq ((zb zm rfl ty3 (by decide) rfl)) ?_
     refine dq (zc ty3 rfl rfl rfl) ?_
     refine dq (zC rfl rfl (by omega) (by omega)) ?_
     refine de0 (zbu (i := 0) (f := HVal.int .i64) (L := L1) (s := x.Stat) (v := (alk x.Stat L1).getD 0 + x.Count) zbM ty9 rfl rfl rfl rfl ?_)
     refine dn ?_
     refine zG ?_
     refine ze ?_
     refine zB ?_
     refine dq (zC rfl rfl (by omega) (by omega)) ?_
     refine dmv rfl ?_
     refine dn ?_
     exact ⟨k + 1, zY x.Player (b1, zY x.Stat ((alk x.Stat L1).getD 0 + x.Count) L1) G1, u1, ⟨by omega, by rw [hgo]; unfold zo2; rw [← zhG, ← hL]; exact hG1.put hb _ _⟩, by dsimp only; omega, ⟨rfl, rfl, trivial⟩, (by repeat (first | exact zp | refine zt rfl ?_ | refine zq rfl rfl ?_)), by dsimp only; rw [hgo, zmg hb]; exact zq9 (ek := HVal.str) (A := [_, _]) hG1.anodup⟩
  ·try simp at h2
   have hnk : l.length ≤ k := by omega
   obtain rfl : k = l.length := by omega
   rw [List.take_length] at hG ⊢
   have hlk := zja (l := l) (m := l) (trust := trust) (week := week) (n := n) hpf
   have hlk1 := hlk.cl
   have hlk2 := hlk.Sl
   have hlk3 := zob (zaB l trust week n l).S
   refine zU ?_
   refine z6 ?_
   refine zeH ?_
   refine zJ ?_
   refine ze ?_
   refine za ?_
   refine das rfl ?_
   refine dn ?_
   refine zH (Ghost.arr_nil 3) ?_
   refine zf ?_
   refine zH (Ghost.fa 12 (i := 2) rfl rfl) ?_
   refine zH (Ghost.of_eq (M' := [MObj.arr (.slice none 0 0) 3 [], .map m22 (sk (em fM (zcR G)))] ++ grm HVal.str G) rfl) ?_
   refine za ?_
   refine dmv rfl ?_
   refine de rfl (EOp.fz (zfs zxv rfl (WeakL.refl _) (zlN (l := (zaB l trust week n l).S) (by omega)) fun v => ⟨v, rfl, rfl⟩) ?_)
   refine dq (zL (f := HVal.str) (l := zcK (zaB l trust week n l).S) zaj rfl) ?_
   refine dmv rfl ?_
   refine dn ?_
   refine zn ?_
   refine zaI [15, 17, 89, 90, 91, 92, 93, 94, 95, 96, 97, 98, 99, 100, 101, 102, 103] (fun (k : Nat) (u : Value) => [(89, .int .i64 k), (15, .raw u)]) (fun (k : Nat) (u : Value) => [MObj.arr u 3 ((((zcK (zaB l trust week n l).S).take k).map (zrK (zaB l trust week n l) week)).map zaK), .map m22 (sk (em fM (zcR G)))] ++ grm HVal.str G) (fun (k : Nat) (u : Value) => k ≤ (zcK (zaB l trust week n l).S).length ∧ (True)) (fun (k : Nat) (u : Value) => (zcK (zaB l trust week n l).S).length - k) (0) (.slice none 0 0) ?_ ?_ ?_ ?_
   ·exact ⟨Nat.zero_le _, trivial⟩
   ·exact ⟨rfl, rfl, trivial⟩
   ·exact List.Perm.refl _
   ·intro k u hinv
    obtain ⟨hk, -⟩ := hinv
    refine za ?_
    refine dq (zW rfl rfl) ?_
    refine dn ?_
    refine zf ?_
    refine zi rfl (fun h7 => ?_) (fun h8 => ?_)
    ·try simp at h7
     obtain ⟨x, hx⟩ : ∃ x, (zcK (zaB l trust week n l).S)[k]? = some x := ⟨_, List.getElem?_eq_getElem h7⟩
     have hdx := zX hx
     have hxS := zkc.1 (List.mem_of_getElem? hx)
     obtain ⟨b1, L1, hb⟩ := hG.find hxS
     have hL := hG.get hb
     subst hL
     refine zl ?_
     refine ze ?_
     refine zf ?_
     refine zn ?_
     refine za ?_
     refine dq (zP (f := HVal.str) (l := zcK (zaB l trust week n l).S) (j := k) (a := x) zaj ty9 rfl rfl rfl hx) ?_
     refine dq (zc ty9 rfl rfl rfl) ?_
     refine das rfl ?_
     refine dn ?_
     refine zB ?_
     refine dmv rfl ?_
     refine dmv rfl ?_
     refine dmv rfl ?_
     refine dmv rfl ?_
     refine dmv rfl ?_
     refine de rfl (zbZ (i := 1) (f := fM) (z0 := none) zo5 ty9 zbM rfl rfl rfl rfl ?_)
     rw [zgx, hb]
     refine de rfl (za0 (M1 := [.map b1 (sk (em (HVal.int .i64) (zbs (zaB l trust week n l).c x)))]) (R := [MObj.arr u 3 ((((zcK (zaB l trust week n l).S).take k).map (zrK (zaB l trust week n l) week)).map zaK), .map m22 (sk (em fM (zcR G)))] ++ grm HVal.str (G.filter fun q => decide (q.1 ≠ x))) zvl rfl (WeakL.refl _) (zlS hG.anodup hb) (zgL (c := zbs (zaB l trust week n l).c x) (zqF hlk.c x) (Nat.le_trans (zoe _ _) (by omega))) ?_)
     rintro _ _ ⟨rfl, rfl⟩
     refine dq (zaw (cs := [_, _, _]) zag zpt rfl) ?_
     refine dq (zw (hs := [_]) zbl zag rfl rfl (by decide) (by decide) rfl) ?_
     refine de rfl (zan (i := 1) zbl zag rfl rfl rfl rfl rfl (by simp [za5, zh]) (by simp; omega) fun v102 => ?_)
     refine das rfl ?_
     refine dn ?_
     refine zG ?_
     refine ze ?_
     refine zB ?_
     refine dq (zC rfl rfl (by omega) (by omega)) ?_
     refine dmv rfl ?_
     refine dn ?_
     exact ⟨k + 1, v102, ⟨by omega, trivial⟩, by dsimp only; omega, ⟨rfl, rfl, trivial⟩, (by repeat (first | exact zp | refine zt rfl ?_ | refine zq rfl rfl ?_)), by dsimp only; rw [zad hx, List.map_append, List.map_append]; exact (zlS (ek := HVal.str) (A := [_, _]) hG.anodup hb).symm⟩
    ·try simp at h8
     have hnk : (zcK (zaB l trust week n l).S).length ≤ k := by omega
     obtain rfl : k = (zcK (zaB l trust week n l).S).length := by omega
     refine zU ?_
     refine z6 ?_
     refine zaR ?_
     refine zJ ?_
     refine ze ?_
     refine zf ?_
     rw [List.take_length]
     refine zH (Ghost.fa 15 (i := 0) rfl rfl) ?_
     refine za ?_
     refine dmv rfl ?_
     refine dq (zj zxT rfl (WeakL.refl _) (zl2 (l := zdq (zaB l trust week n l) week) (Nat.le_trans zp5 (by omega)) (fun y hy => Nat.le_trans (znl y hy) (by omega)))) ?_
     refine das rfl ?_
     refine dn ?_
     refine za ?_
     refine dmv rfl ?_
     refine dq (zai rfl rfl) ?_
     refine dn ?_
     refine zi rfl (fun h9 => ?_) (fun h10 => ?_)
     ·try simp at h9
      refine za ?_
      refine dmv rfl ?_
      refine das rfl ?_
      refine das rfl ?_
      refine dn ?_
      refine zk ?_
      exact ⟨_, [], Ghost.clear, _, _, rfl, zah (zal 3) (Weak.refl _), by rw [ziK, ziz, if_pos (by simpa using h9), if_pos (by simpa using h9)]; rfl, rfl⟩
     ·try simp at h10
      refine zl ?_
      refine ze ?_
      refine za ?_
      refine dmv rfl ?_
      refine das rfl ?_
      refine das rfl ?_
      refine dn ?_
      refine zk ?_
      (refine zat Ghost.clear rfl ⟨?_, rfl⟩
       rw [ziK, ziz, if_neg (by simpa using h10), if_neg (by simpa using h10)]; rfl)

end
end Go.Proofs.YtjecenjmphpmfaaGreatDoor
namespace Go.HL
section
structure DisOk (q : DisS) (n : Nat) : Prop where
 c : ANodup q.c
 S : q.S.Nodup
 k : ∀ s ∈ q.S, s.length ≤ 40
 cl : q.c.length ≤ n
 Sl : q.S.length ≤ n
 bd : ∀ e ∈ q.c, -(100000 * (n : Int)) ≤ e.2 ∧ e.2 ≤ 100000 * (n : Int)
theorem DisOk.val {q : DisS} {n : Nat} (h : DisOk q n) (s : Str × Of2) : -(100000 * (n : Int)) ≤ (alk s q.c).getD 0 ∧ (alk s q.c).getD 0 ≤ 100000 * (n : Int) := by
 cases hq : alk s q.c with
 | none => simp; omega
 | some v => exact h.bd _ (zbK hq)
theorem DisOk.sput {q : DisS} {n : Nat} (h : DisOk q n) {p : Play} (hp : playFault p = 0) : DisOk ⟨zbR p.Source q.S, q.c⟩ (n + 1) := by
 refine ⟨h.c, zgU h.S, fun s hs => ?_, by have := h.cl; dsimp only; omega, Nat.le_trans (zq7 _ _) (by have := h.Sl; omega), fun e he => by have := h.bd e he; omega⟩
 rcases zfc.1 hs with rfl | hs
 ·exact zq8 (zcG hp).1
 ·exact h.k s hs
theorem DisOk.put {q : DisS} {n : Nat} (h : DisOk q n) {p : Play} (hp : playFault p = 0) : DisOk ⟨zbR p.Source q.S, zwH q p⟩ (n + 1) := by
 have hs := h.sput hp
 obtain ⟨_, _, _, _, _, hb, _⟩ := zcG hp
 have hv := h.val (zqs p)
 refine ⟨h.c.put, hs.S, hs.k, Nat.le_trans (zeK _ _ _) (by have := h.cl; omega), hs.Sl, fun e he => ?_⟩
 rcases zce he with rfl | he
 ·dsimp only; omega
 ·have := h.bd e he; omega
end
section

end
section
theorem zmm (x : Of2) : ∀ (A : List Of2) (p : Option Of2), zdb p (A ++ [x]) = zdb p A ++ if (A.getLast?.or p) = some x then [] else [x]
 | [], p => by
   by_cases h : p = some x <;> simp [zdb, h]
 | y :: A, p => by
   have ih := zmm x A (some y)
   have e : ((y :: A).getLast?.or p) = (A.getLast?.or (some y)) := by
    cases A with
    | nil => simp
    | cons z A => simp [List.getLast?_cons_cons, List.getLast?_cons]
   simp only [List.cons_append, zdb]
   rw [e, ih]
   split <;> simp
theorem zmF {l : List Of2} {k : Nat} {x y : Of2} (hx : l[k]? = some x) (hy : l[k - 1]? = some y) (h0 : 0 < k) : zdb none (l.take (k + 1)) = zdb none (l.take k) ++ if x = y then [] else [x] := by
 have hk := zK hx
 rw [zad hx, zmm]
 have e : ((l.take k).getLast?.or none) = some y := by
  rw [List.getLast?_eq_getElem?, List.length_take, Nat.min_eq_left (by omega), List.getElem?_take_of_lt (by omega), hy]; rfl
 rw [e]
 by_cases h : x = y
 ·rw [if_pos h, if_pos (by rw [h])]
 ·rw [if_neg h, if_neg (by simpa using fun q : y = x => h q.symm)]
structure CmpO (l : List Of2) (j : Nat) (D : List Of2) : Prop where
 len : D.length = l.length
 lo : D.take (zdb none (l.take j)).length = zdb none (l.take j)
 lt : (zdb none (l.take j)).length < j
 hi : ∀ i, j ≤ i + 1 → D[i]? = l[i]?
theorem CmpO.start {l : List Of2} {k : Nat} {x y : Of2} (hx : l[k]? = some x) (hy : l[k - 1]? = some y) (h0 : 0 < k) (e : x = y) (h : zdb none (l.take k) = l.take k) : CmpO l (k + 1) l ∧ (zdb none (l.take (k + 1))).length = k := by
 have hk := zK hx
 have h1 : zdb none (l.take (k + 1)) = l.take k := by rw [zmF hx hy h0, if_pos e, h]; simp
 have h2 : (l.take k).length = k := by rw [List.length_take]; omega
 exact ⟨⟨rfl, by rw [h1, h2], by rw [h1, h2]; omega, fun _ _ => rfl⟩, by rw [h1, h2]⟩
theorem CmpO.same {l D : List Of2} {j : Nat} (h : CmpO l j D) {x y : Of2} (hx : l[j]? = some x) (hy : l[j - 1]? = some y) (e : x = y) : CmpO l (j + 1) D ∧ (zdb none (l.take (j + 1))).length = (zdb none (l.take j)).length := by
 have h0 := h.lt
 have h1 : zdb none (l.take (j + 1)) = zdb none (l.take j) := by rw [zmF hx hy (by omega), if_pos e]; simp
 exact ⟨⟨h.len, by rw [h1]; exact h.lo, by rw [h1]; omega, fun i hi => h.hi i (by omega)⟩, by rw [h1]⟩
end
section
theorem zuM {l : List Str} {i : Nat} (h : i < l.length) : l.getD i [] ∈ l := by
 rw [List.getD_eq_getElem?_getD, List.getElem?_eq_getElem h]; exact List.getElem_mem h
theorem zkj : ∀ l : List StatS, zbG zaD l l = true
 | [] => rfl
 | a :: r => by simp [zbG, zdt, zkj r, zh, zbX, eqH]
def zuf (a b : LineS) : Int := orI [zaX a.Player b.Player, zcj a.Week b.Week]
theorem ztM (x : LineS) : zuf x x = 0 := by
 unfold zuf; rw [zh6, if_neg (by simp [zbH]), zgA]
end
end Go.HL
namespace Go.Proofs.YtjecenjmphpmfaaGreatDoor
set_option maxRecDepth 100000
set_option linter.unusedVariables false
set_option linter.unusedSimpArgs false
section
open Go.HL

end
section
open Go.HL
set_option linter.unusedSimpArgs false
end
section
open Go.HL

end
section
open Go.HL

end
section
open Go.HL

end
section
open Go.HL

end
section
open Go.HL

end
section
open Go.HL
/-- slices.Equal[[]benchwarmer/api.Stat,benchwarmer/api.Stat] -/
theorem ze6 [Tracks] {l m : List StatS} (hl : l.length ≤ 1000000) : ConP Tryz.prog 124 [zm7 l, zm7 m] (.bool (zbG zaD l m)) := by
 refine Con.of_body Tryz.func124 rfl Tryz.ntmps124 rfl rfl ?_
 refine za ?_
 refine das rfl ?_
 refine dn ?_
 refine zf ?_
 refine za ?_
 refine dmv rfl ?_
 refine dq (zL zax rfl) ?_
 refine dmv rfl ?_
 refine dq (zL zax rfl) ?_
 refine dq (zai rfl rfl) ?_
 refine dn ?_
 refine zi rfl (fun h1 => ?_) (fun h2 => ?_)
 ·try simp at h1
  refine za ?_
  refine das rfl ?_
  refine dn ?_
  refine zk ?_
  refine zF rfl ?_
  show HVal.bool _ = _
  (congr 1; symm; exact zdK (by omega))
 ·try simp at h2
  refine zl ?_
  refine ze ?_
  refine zf ?_
  refine za ?_
  refine dmv rfl ?_
  refine dq (zL zax rfl) ?_
  refine dmv rfl ?_
  refine dn ?_
  refine zn ?_
  refine zak [4, 5, 13, 14, 15, 16, 17, 18, 19, 20, 21, 22, 23, 24, 25] (fun (k : Nat) => [(13, .int .i64 k)]) (fun (k : Nat) => []) (fun (k : Nat) => k ≤ l.length ∧ (l.length = m.length ∧ zbG zaD l m = zbG zaD (l.drop k) (m.drop k))) (fun (k : Nat) => l.length - k) (0) ?_ ?_ ?_ ?_
  ·refine ⟨Nat.zero_le _, ?_, rfl⟩
   omega
  ·exact ⟨rfl, trivial⟩
  ·exact List.Perm.refl _
  ·intro k hinv
   obtain ⟨hk, hg⟩ := hinv
   refine za ?_
   refine dq (zW rfl rfl) ?_
   refine dn ?_
   refine zf ?_
   refine zi rfl (fun h3 => ?_) (fun h4 => ?_)
   ·try simp at h3
    obtain ⟨x, hx⟩ : ∃ x, l[k]? = some x := ⟨_, List.getElem?_eq_getElem h3⟩
    have hdx := zX hx
    obtain ⟨y, hy⟩ : ∃ y, m[k]? = some y := ⟨_, List.getElem?_eq_getElem (by omega)⟩
    rw [hdx, zX hy] at hg
    refine zl ?_
    refine ze ?_
    refine zf ?_
    refine zn ?_
    refine za ?_
    refine dmv rfl ?_
    refine das rfl ?_
    refine dn ?_
    refine zaM (fun _ => True) [] mixed ?_
    refine ahp 0 rfl rfl (by kernel_rfl) (by kernel_rfl) (zd rfl) ?_
    refine ahp 1 rfl rfl (by kernel_rfl) (by kernel_rfl) (zd rfl) ?_
    refine ahp 2 rfl rfl (by kernel_rfl) (by kernel_rfl) (zP zax zam rfl rfl rfl (by assumption)) ?_
    refine ahp 3 rfl rfl (by kernel_rfl) (by kernel_rfl) (zN zam rfl rfl rfl rfl) ?_
    refine ahp 4 rfl rfl (by kernel_rfl) (by kernel_rfl) (zd rfl) ?_
    refine ahp 5 rfl rfl (by kernel_rfl) (by kernel_rfl) (zd rfl) ?_
    refine ahp 6 rfl rfl (by kernel_rfl) (by kernel_rfl) (zP zax zam rfl rfl rfl (by assumption)) ?_
    refine ahp 7 rfl rfl (by kernel_rfl) (by kernel_rfl) (zN zam rfl rfl rfl rfl) ?_
    refine ahp 8 rfl rfl (by kernel_rfl) (by kernel_rfl) (zkH zam zxO rfl rfl ⟨rfl, ⟨_, _, _, _, ty9, rfl⟩, ⟨rfl, ⟨_, _, _, _, ty3, rfl⟩, trivial⟩⟩) ?_
    refine ahz (by kernel_rfl) ?_
    refine zi rfl (fun h5 => ?_) (fun h6 => ?_)
    ·try simp at h5
     refine za ?_
     refine das rfl ?_
     refine dn ?_
     refine zk ?_
     refine zF rfl ?_
     show HVal.bool _ = _
     (rw [hg.2, zbG, show zdt zaD x y = false from h5]; rfl)
    ·try simp at h6
     refine zl ?_
     refine zG ?_
     refine ze ?_
     refine zB ?_
     refine dq (zC rfl rfl (by omega) (by omega)) ?_
     refine dmv rfl ?_
     refine dn ?_
     refine ⟨k + 1, ?_, ?_, ⟨rfl, trivial⟩, (by repeat (first | exact zp | refine zt rfl ?_ | refine zq rfl rfl ?_)), List.Perm.refl _⟩
     ·refine ⟨by omega, hg.1, ?_⟩
      rw [hg.2, zbG, show zdt zaD x y = true from h6]; rfl
     ·dsimp only; omega
   ·try simp at h4
    have hnk : l.length ≤ k := by omega
    obtain rfl : k = l.length := by omega
    rw [zap (Nat.le_refl _)] at hg
    refine zU ?_
    refine z6 ?_
    refine zas ?_
    refine zJ ?_
    refine ze ?_
    refine za ?_
    refine das rfl ?_
    refine dn ?_
    refine zk ?_
    refine zF rfl ?_
    show HVal.bool _ = _
    (rw [hg.2, zap (Nat.le_of_eq hg.1.symm)]; rfl)

/-- benchwarmer/benchref1.byLine -/
theorem zgt [Tracks] {a b : LineS}  : ConP Tryz.prog 123 [zaK a, zaK b] (.int .i64 (zuf a b)) := by
 refine Con.of_body Tryz.func123 rfl Tryz.ntmps123 rfl rfl ?_
 refine za ?_
 refine dq (zao rfl rfl) ?_
 refine dq (zao rfl rfl) ?_
 refine das rfl ?_
 refine dn ?_
 refine zaM (fun _ => True) [] mixed ?_
 refine ahp 0 rfl rfl (by kernel_rfl) (by kernel_rfl) (zb zag rfl ty9 (by decide) rfl) ?_
 refine ahp 1 rfl rfl (by kernel_rfl) (by kernel_rfl) (zc ty9 rfl rfl rfl) ?_
 refine ahp 2 rfl rfl (by kernel_rfl) (by kernel_rfl) (zb zag rfl ty9 (by decide) rfl) ?_
 refine ahp 3 rfl rfl (by kernel_rfl) (by kernel_rfl) (zc ty9 rfl rfl rfl) ?_
 refine ahp 4 rfl rfl (by kernel_rfl) (by kernel_rfl) (zj zfC rfl (WeakL.refl _) zaE) ?_
 refine ahp 5 rfl rfl (by kernel_rfl) (by kernel_rfl) (zb zag rfl ty3 (by decide) rfl) ?_
 refine ahp 6 rfl rfl (by kernel_rfl) (by kernel_rfl) (zc ty3 rfl rfl rfl) ?_
 refine ahp 7 rfl rfl (by kernel_rfl) (by kernel_rfl) (zb zag rfl ty3 (by decide) rfl) ?_
 refine ahp 8 rfl rfl (by kernel_rfl) (by kernel_rfl) (zc ty3 rfl rfl rfl) ?_
 refine ahp 9 rfl rfl (by kernel_rfl) (by kernel_rfl) (zj ziq rfl (WeakL.refl _) zbe) ?_
 refine ahp 10 rfl rfl (by kernel_rfl) (by kernel_rfl) (zw (hs := [_, _]) zaq ty3 rfl rfl (by decide) (by decide) rfl) ?_
 refine ahp 11 rfl rfl (by kernel_rfl) (by kernel_rfl) (zj zj0 rfl (WeakL.refl _) (zcz (l := [_, _]) (by simp))) ?_
 refine ahp 12 rfl rfl (by kernel_rfl) (by kernel_rfl) (zaA rfl) ?_
 refine ahz (by kernel_rfl) ?_
 refine zk ?_
 refine zF rfl ?_
 rfl

/-- benchwarmer/benchref1.SameLine -/
theorem zjw [Tracks] {x : LineS} (hs : x.Stats.length ≤ 1000000) : ConP Tryz.prog 73 [zaK x, zaK x] (.bool true) := by
 refine Con.of_body Tryz.func73 rfl Tryz.ntmps73 rfl rfl ?_
 refine za ?_
 refine dq (zao rfl rfl) ?_
 refine dq (zao rfl rfl) ?_
 refine das rfl ?_
 refine dn ?_
 refine za ?_
 refine dq (zN zag rfl rfl rfl rfl) ?_
 refine dq (zN zag rfl rfl rfl rfl) ?_
 refine dq (zj zvj rfl (WeakL.refl _) zgt) ?_
 refine dq (zaJ rfl rfl) ?_
 refine dmv rfl ?_
 refine dg rfl rfl (fun hc => ⟨_, OpenTo.refl _, zb zag rfl zax (by decide) rfl⟩) ?_
 refine dg rfl rfl (fun hc => ⟨_, OpenTo.upd (t := 10) rfl (hc) (OpenTo.refl _), zc zax rfl rfl rfl⟩) ?_
 refine dg rfl rfl (fun hc => ⟨_, OpenTo.refl _, zb zag rfl zax (by decide) rfl⟩) ?_
 refine dg rfl rfl (fun hc => ⟨_, OpenTo.upd (t := 12) rfl (hc) (OpenTo.refl _), zc zax rfl rfl rfl⟩) ?_
 refine dg rfl rfl (fun hc => ⟨_, OpenTo.upd (t := 13) rfl (hc) (OpenTo.upd (t := 11) rfl (hc) (OpenTo.refl _)), zj zxY rfl (WeakL.refl _) (ze6 (l := x.Stats) (m := x.Stats) hs)⟩) ?_
 refine dq (zv rfl (.inr ⟨_, rfl, fun h => by simp_all⟩) (.inl rfl)) ?_
 refine das rfl ?_
 refine dn ?_
 refine zk ?_
 refine zF rfl ?_
 show HVal.bool _ = _
 simp [ztM, zkj]
end
end Go.Proofs.YtjecenjmphpmfaaGreatDoor
namespace Go.HL
section

end
section
def zwS (x : LineS) : Prop := Sh x.Player ∧ ∀ s ∈ x.Stats, Sh s.Name
abbrev LnV := LineS × Value
structure LG where
 u : Value
 out : List LnV
 a : Nat
def ztP (p : LnV) : Prop := zwS p.1 ∧ p.1.Stats.length ≤ 3
structure LGok (n m : Nat) (q : LG) : Prop where
 len : q.out.length ≤ n
 all : ∀ p ∈ q.out, ztP p
 a : q.a ≤ m
theorem LGok.mono {n n' m m' : Nat} {q : LG} (h : LGok n m q) (hn : n ≤ n') (hm : m ≤ m') : LGok n' m' q := ⟨Nat.le_trans h.len hn, h.all, Nat.le_trans h.a hm⟩
theorem LGok.same {n m m' : Nat} {u : Value} {out : List LnV} {a1 a2 : Nat} (h : LGok n m ⟨u, out, a1⟩) (ha : a2 ≤ m') : LGok (n + 1) m' ⟨u, out, a2⟩ := ⟨Nat.le_succ_of_le h.len, h.all, ha⟩
theorem LGok.add {n m m' : Nat} {u u' : Value} {out : List LnV} {a1 a2 : Nat} {p : LnV} (h : LGok n m ⟨u, out, a1⟩) (hp : ztP p) (ha : a2 ≤ m') : LGok (n + 1) m' ⟨u', out ++ [p], a2⟩ :=
 ⟨by have := h.len; simp only [List.length_append, List.length_cons, List.length_nil] at *; omega, fun y hy => by
  rcases List.mem_append.1 hy with hy | hy
  ·exact h.all y hy
  ·rw [List.mem_singleton.1 hy]; exact hp, ha⟩
end
section
/-! sums -/
def zmj (p : Str) (c : List (Of2 × Int)) (s : StatS) : List (Of2 × Int) := zY (p, s.Name) ((alk (p, s.Name) c).getD 0 + s.Count) c
def zu2 (p : Str) (c : List (Of2 × Int)) (l : List StatS) : List (Of2 × Int) := l.foldl (zmj p) c
theorem LnOk.addC {q : LnS} {n : Nat} (h : LnOk q n) (p : Str) {s : StatS} (hb : -100000 ≤ s.Count ∧ s.Count ≤ 100000) : LnOk ⟨q.S, zmj p q.c s⟩ (n + 1) := by
 have hv := h.val (p, s.Name)
 refine ⟨h.c.put, h.S, h.k, Nat.le_trans (zeK _ _ _) (by have := h.cl; omega), by have := h.Sl; dsimp only; omega, fun e he => ?_⟩
 rcases zce he with rfl | he
 ·dsimp only; omega
 ·have := h.bd e he; omega
theorem LnOk.row (p : Str) : ∀ (l : List StatS) {q : LnS} {n : Nat}, LnOk q n → (∀ s ∈ l, -100000 ≤ s.Count ∧ s.Count ≤ 100000) → LnOk ⟨q.S, zu2 p q.c l⟩ (n + l.length)
 | [], q, n, h, _ => h
 | s :: r, q, n, h, hb => by
   have h1 := LnOk.row p r (h.addC p (hb s List.mem_cons_self)) fun y hy => hb y (List.mem_cons_of_mem _ hy)
   rw [List.length_cons, show n + (r.length + 1) = n + 1 + r.length by omega]
   exact h1
def flR (x : LineS) (l : List StatS) : CnS := l.map fun s => ((x.Player, x.Week, s.Name), s.Count)
def flA (l : List LineS) : CnS := l.flatMap fun x => flR x x.Stats
def zc4 (l : List LineS) (k : Cnt) : Int := (alk k (flA l)).getD 0
theorem zly (x : LineS) (l : List LineS) : flA (x :: l) = flR x x.Stats ++ flA l := rfl
theorem zq1 (l m : List LineS) : flA (l ++ m) = flA l ++ flA m := by unfold flA; rw [List.flatMap_append]
theorem zlu {κ α : Type} [DecidableEq κ] : ∀ {S D : List (κ × α)}, ANodup (D ++ S) → zci D S = D ++ S
 | [], D, _ => by simp [zci]
 | p :: r, D, h => by
   have hn : alk p.1 D = none := by
    rw [zcM]; intro hm
    unfold ANodup at h
    rw [List.map_append] at h
    exact (List.nodup_append.1 h).2.2 _ hm _ List.mem_cons_self rfl
   have e : zY p.1 p.2 D = D ++ [p] := zhp hn
   show zci (zY p.1 p.2 D) r = _
   rw [e, zlu (by simpa using h)]
   simp
theorem zok (x : LineS) : ∀ (l : List StatS) (C : CnS), zfN x C l = zci C (flR x l)
 | [], _ => rfl
 | s :: r, C => zok x r (ziw x C s)
theorem zsS {κ α : Type} [DecidableEq κ] (D S T : List (κ × α)) : zci D (S ++ T) = zci (zci D S) T := by unfold zci; rw [List.foldl_append]
theorem zru : ∀ (l : List LineS) (C : CnS), l.foldl zhf C = zci C (flA l)
 | [], _ => rfl
 | x :: r, C => by
   rw [List.foldl_cons, zru r, zly, zsS, ← zok]; rfl
theorem ztc {l : List LineS} (h1 : (l.map plL).Nodup) (h2 : ∀ x ∈ l, (x.Stats.map (·.Name)).Nodup) : ANodup (flA l) := by
 induction l with
 | nil => exact ANodup.nil
 | cons x r ih =>
   rw [List.map_cons, List.nodup_cons] at h1
   rw [zly]
   unfold ANodup
   rw [List.map_append]
   refine List.nodup_append.2 ⟨?_, ih h1.2 (fun y hy => h2 y (List.mem_cons_of_mem _ hy)), fun a ha b hb e => ?_⟩
   ·unfold flR
    rw [List.map_map]
    refine List.pairwise_map.2 ((List.pairwise_map.1 (h2 x List.mem_cons_self)).imp fun {a b} hab e => hab ?_)
    exact congrArg (fun z : Cnt => z.2.2) e
   ·unfold flR at ha
    rw [List.map_map] at ha
    obtain ⟨s, _, rfl⟩ := List.mem_map.1 ha
    obtain ⟨p, hp, rfl⟩ := List.mem_map.1 hb
    obtain ⟨y, hy, hp'⟩ := List.mem_flatMap.1 hp
    obtain ⟨t, _, rfl⟩ := List.mem_map.1 hp'
    refine h1.1 (List.mem_map.2 ⟨y, hy, ?_⟩)
    exact Prod.ext (congrArg (fun z : Cnt => z.1) e).symm (congrArg (fun z : Cnt => z.2.1) e).symm
theorem zlZ {l : List LineS} (h : zbm l = 0) : cnL l = flA l := by
 have h1 := zjm (zdm h).2.2
 have h2 := zlu (S := flA l) (D := []) (ztc h1 (zsA h))
 have h3 := zru l []
 unfold cnL
 rw [h3, h2]; rfl
theorem zqc {l : List LineS} (h : zbm l = 0) (k : Cnt) : zhF l k = zc4 l k := by unfold zhF zc4; rw [zlZ h]
/-! what differs, looked for line by line -/
theorem zik (x y : TurnedS) : zbX [.str x.Player, .int .i64 x.Week, .str x.Stat, .int .i64 x.Was, .int .i64 x.Now] [.str y.Player, .int .i64 y.Week, .str y.Stat, .int .i64 y.Was, .int .i64 y.Now] = true ↔ x = y := by
 obtain ⟨a1, a2, a3, a4, a5⟩ := x; obtain ⟨b1, b2, b3, b4, b5⟩ := y
 show (_ && (_ && (_ && (_ && (_ && true))))) = true ↔ _
 simp [eqH, and_assoc]
instance decTurnedS : DecidableEq TurnedS := fun x y => decidable_of_iff _ (zik x y)
theorem zsk (t : TurnedS) (l : List TurnedS) : (l.any fun y => zdt zaH t y) = decide (t ∈ l) := by
 rw [Bool.eq_iff_iff, decide_eq_true_iff, List.any_eq_true]
 constructor
 ·rintro ⟨y, hy, e⟩
  rw [(zik t y).1 e]; exact hy
 ·intro h; exact ⟨t, h, (zik t t).2 rfl⟩
def tuR (a b : List LineS) (k : Cnt) : TurnedS := ⟨k.1, k.2.1, k.2.2, zc4 a k, zc4 b k⟩
def zc5 (a b : List LineS) (O : List TurnedS) (k : Cnt) : List TurnedS := if zc4 a k ≠ zc4 b k ∧ tuR a b k ∉ O then O ++ [tuR a b k] else O
def zds (a b : List LineS) (K : List Cnt) : List TurnedS := K.foldl (zc5 a b) []
theorem zot (a b : List LineS) (K : List Cnt) (k : Cnt) : zds a b (K ++ [k]) = zc5 a b (zds a b K) k := by unfold zds; rw [List.foldl_append]; rfl
theorem zut {a b : List LineS} {K : List Cnt} {k : Cnt} (h : zc4 a k ≠ zc4 b k ∧ tuR a b k ∉ zds a b K) : zds a b (K ++ [k]) = zds a b K ++ [tuR a b k] := by rw [zot, zc5, if_pos h]
theorem zwq {a b : List LineS} {K : List Cnt} {k : Cnt} (h : ¬ (zc4 a k ≠ zc4 b k ∧ tuR a b k ∉ zds a b K)) : zds a b (K ++ [k]) = zds a b K := by rw [zot, zc5, if_neg h]
theorem zpx (a b : List LineS) : ∀ (K : List Cnt), (zds a b K).length ≤ K.length := fun K => by
 have key : ∀ (K : List Cnt) (O : List TurnedS), (K.foldl (zc5 a b) O).length ≤ O.length + K.length := fun K => by
  induction K with
  | nil => intro O; exact Nat.le_refl _
  | cons k r ih =>
    intro O
    have h1 := ih (zc5 a b O k)
    have h2 : (zc5 a b O k).length ≤ O.length + 1 := by unfold zc5; split <;> simp
    rw [List.foldl_cons, List.length_cons]; omega
 have h9 := key K []
 rw [List.length_nil, Nat.zero_add] at h9
 exact h9
theorem zwt (a b : List LineS) (K : List Cnt) : (zds a b K).Nodup ∧ ∀ t, t ∈ zds a b K ↔ ∃ k ∈ K, zc4 a k ≠ zc4 b k ∧ tuR a b k = t := by
 have key : ∀ (K : List Cnt) (O : List TurnedS), O.Nodup → (K.foldl (zc5 a b) O).Nodup ∧ ∀ t, t ∈ K.foldl (zc5 a b) O ↔ t ∈ O ∨ ∃ k ∈ K, zc4 a k ≠ zc4 b k ∧ tuR a b k = t := fun K => by
  induction K with
  | nil => intro O h; exact ⟨h, fun t => by simp⟩
  | cons k r ih =>
    intro O h
    have h1 : (zc5 a b O k).Nodup := by
     unfold zc5; split
     ·rename_i hc
      refine List.nodup_append.2 ⟨h, by simp, fun x hx y hy e => hc.2 ?_⟩
      rw [← List.mem_singleton.1 hy, ← e]; exact hx
     ·exact h
    have h2 : ∀ t, t ∈ zc5 a b O k ↔ t ∈ O ∨ (zc4 a k ≠ zc4 b k ∧ tuR a b k = t) := fun t => by
     unfold zc5; split
     ·rename_i hc
      rw [List.mem_append, List.mem_singleton]
      constructor
      ·rintro (q | q)
       ·exact .inl q
       ·exact .inr ⟨hc.1, q.symm⟩
      ·rintro (q | ⟨_, q⟩)
       ·exact .inl q
       ·exact .inr q.symm
     ·rename_i hc
      constructor
      ·exact .inl
      ·rintro (q | ⟨q1, q2⟩)
       ·exact q
       ·rw [← q2]
        exact Classical.byContradiction fun q3 => hc ⟨q1, q3⟩
    obtain ⟨i1, i2⟩ := ih _ h1
    refine ⟨i1, fun t => ?_⟩
    rw [List.foldl_cons, i2 t, h2 t]
    constructor
    ·rintro ((q | q) | ⟨y, hy, q⟩)
     ·exact .inl q
     ·exact .inr ⟨k, List.mem_cons_self, q⟩
     ·exact .inr ⟨y, List.mem_cons_of_mem _ hy, q⟩
    ·rintro (q | ⟨y, hy, q⟩)
     ·exact .inl (.inl q)
     ·rcases List.mem_cons.1 hy with rfl | hy
      ·exact .inl (.inr q)
      ·exact .inr ⟨y, hy, q⟩
 obtain ⟨h1, h2⟩ := key K [] List.nodup_nil
 exact ⟨h1, fun t => by rw [show zds a b K = K.foldl (zc5 a b) [] from rfl, h2 t]; simp⟩
theorem zpi {a b : List LineS} (ha : zbm a = 0) (hb : zbm b = 0) (k : Cnt) : dfT a b k = if zc4 a k ≠ zc4 b k then some (tuR a b k) else none := by
 unfold dfT tuR; rw [zqc ha, zqc hb]
theorem zwa {a b : List LineS} (ha : zbm a = 0) (hb : zbm b = 0) {l' : List TurnedS} (hp : l'.Perm (zds a b ((flA (a ++ b)).map (·.1)))) (hw : l'.Pairwise fun x y => ¬ zgF y x < 0) : l' = dfL a b := by
 obtain ⟨h1, h2⟩ := zwt a b ((flA (a ++ b)).map (·.1))
 have hn : (zgz a b).Nodup := zfR (znS a)
 have hn2 : ((zgz a b).filterMap (dfT a b)).Nodup := by
  refine List.pairwise_filterMap.2 (hn.imp fun {k k'} hk => fun t ht t' ht' e => hk ?_)
  rw [zkO ht, zkO ht', e]
 refine zsR (E := zci (cnL a) (cnL b)) (List.Perm.refl _) (hp.trans ((List.perm_ext_iff_of_nodup h1 hn2).2 fun t => ?_)) hw
 rw [h2 t, List.mem_filterMap]
 have hk : ∀ k, k ∈ zgz a b ↔ k ∈ (flA (a ++ b)).map (·.1) := fun k => by
  unfold zgz
  rw [zhJ, zlZ ha, zlZ hb, zq1, List.map_append, List.mem_append]
 constructor
 ·rintro ⟨k, hk1, q1, q2⟩
  exact ⟨k, (hk k).2 hk1, by rw [zpi ha hb, if_pos q1, q2]⟩
 ·rintro ⟨k, hk1, q⟩
  rw [zpi ha hb] at q
  split at q
  ·rename_i q1
   exact ⟨k, (hk k).1 hk1, q1, Option.some.inj q⟩
  ·cases q
end
section
def stP (l : List StatS) : List (Str × Int) := l.foldl (fun c s => zY s.Name s.Count c) []
theorem zuz {l : List StatS} {k : Nat} {s : StatS} (h : l[k]? = some s) : stP (l.take (k + 1)) = zY s.Name s.Count (stP (l.take k)) := by
 unfold stP; rw [zad h, List.foldl_append]; rfl
theorem znB (l : List StatS) : stP l = zci [] (stA l) := by
 unfold stP zci stA; rw [List.foldl_map]
theorem zow (l : List StatS) : ANodup (stP l) := by rw [znB]; exact zfR ANodup.nil
theorem zrw (l : List StatS) : (stP l).length ≤ l.length := by
 have := zjy (stA l) []
 rw [znB]; simpa using this
theorem zwQ {l : List StatS} (h : (l.map (·.Name)).Nodup) : stP l = stA l := by
 rw [znB, zlu (by simpa using zkn h)]; rfl
def zde (l : List StatS) (s : Str) (n : Int) : List StatS := zeB (zY s n (stP l))
theorem znY (l : List StatS) (s : Str) (n : Int) : (zde l s n).length ≤ l.length + 1 :=
 Nat.le_trans (zmJ _) (Nat.le_trans (zeK _ _ _) (by have := zrw l; omega))
def zeV (p : Str) (w : Int) (s : Str) (n : Int) : List LineS → List LineS
 | [] => [⟨p, w, zde [] s n⟩]
 | x :: r => if (p, w) = plL x then ⟨p, w, zde x.Stats s n⟩ :: r else x :: zeV p w s n r
theorem zp9 (p : Str) (w : Int) (s : Str) (n : Int) : ∀ l : List LineS, lnA (zeV p w s n l) = zY (p, w) (zde ((alk (p, w) (lnA l)).getD []) s n) (lnA l)
 | [] => rfl
 | x :: r => by
   have ih := zp9 p w s n r
   show lnA (if (p, w) = plL x then _ else _) = zY (p, w) (zde ((if (p, w) = plL x then some x.Stats else alk (p, w) (lnA r)).getD []) s n) ((plL x, x.Stats) :: lnA r)
   by_cases h : (p, w) = plL x
   ·rw [if_pos h, if_pos h]
    show _ = if (p, w) = plL x then _ else _
    rw [if_pos h]; rfl
   ·rw [if_neg h, if_neg h]
    show _ = if (p, w) = plL x then _ else _
    rw [if_neg h, ← ih]; rfl
abbrev zf3 (p : Str) (w : Int) (x : LineS) : Bool := x.Player == p && x.Week == w
theorem zkP {p : Str} {w : Int} {x : LineS} : zf3 p w x = true ↔ (p, w) = plL x := by
 simp only [zf3, Bool.and_eq_true, beq_iff_eq, Prod.mk.injEq, plL]
 constructor
 ·rintro ⟨a, b⟩; exact ⟨a.symm, b.symm⟩
 ·rintro ⟨a, b⟩; exact ⟨a.symm, b.symm⟩
theorem zqi {p : Str} {w : Int} {s : Str} {n : Int} : ∀ {l : List LineS}, l.any (zf3 p w) = false → zeV p w s n l = l ++ [⟨p, w, zde [] s n⟩]
 | [], _ => rfl
 | x :: r, h => by
   rw [List.any_cons, Bool.or_eq_false_iff] at h
   have ih := zqi (s := s) (n := n) h.2
   unfold zeV
   rw [if_neg (fun e => by rw [zkP.2 e] at h; cases h.1), ih]; rfl
theorem zq6 {p : Str} {w : Int} {s : Str} {n : Int} : ∀ {l : List LineS} {i : Nat} {x : LineS}, l[i]? = some x → zf3 p w x = true → (∀ y ∈ l.take i, zf3 p w y = false) → zeV p w s n l = l.set i ⟨p, w, zde x.Stats s n⟩
 | [], _, _, h, _, _ => by simp at h
 | y :: r, 0, x, h, hp, _ => by
   have : y = x := by simpa using h
   subst this
   unfold zeV
   rw [if_pos (zkP.1 hp)]; rfl
 | y :: r, i + 1, x, h, hp, hb => by
   have ih := zq6 (s := s) (n := n) (l := r) (i := i) (by simpa using h) hp fun z hz => hb z (by simp [hz])
   have h1 := hb y (by simp)
   unfold zeV
   rw [if_neg (fun e => by rw [zkP.2 e] at h1; cases h1), ih]; rfl
theorem zpk (p : Str) (w : Int) (s : Str) (n : Int) : ∀ l : List LineS, (zeV p w s n l).length ≤ l.length + 1
 | [] => Nat.le_refl _
 | x :: r => by
   have := zpk p w s n r
   unfold zeV; split <;> simp only [List.length_cons] <;> omega
theorem zmW {b : Nat} (p : Str) (w : Int) (s : Str) (n : Int) : ∀ l : List LineS, (∀ x ∈ l, x.Stats.length ≤ b) → ∀ x ∈ zeV p w s n l, x.Stats.length ≤ b + 1
 | [], _, x, hx => by
   rw [List.mem_singleton.1 hx]
   have := znY [] s n
   simp only [List.length_nil] at this
   show (zde [] s n).length ≤ b + 1
   omega
 | y :: r, h, x, hx => by
   unfold zeV at hx
   split at hx
   ·rcases List.mem_cons.1 hx with rfl | hx
    ·have h1 := znY y.Stats s n
     have h2 := h y List.mem_cons_self
     show (zde y.Stats s n).length ≤ b + 1
     omega
    ·have := h x (List.mem_cons_of_mem _ hx); omega
   ·rcases List.mem_cons.1 hx with rfl | hx
    ·have := h x List.mem_cons_self; omega
    ·exact zmW p w s n r (fun z hz => h z (List.mem_cons_of_mem _ hz)) x hx
/-! what a list of statistics then tells -/
theorem zuU {κ : Type} [DecidableEq κ] {c : List (κ × Int)} (hn : ANodup c) (k : κ) : (alk k (c.filter fun e => e.2 != 0)).getD 0 = (alk k c).getD 0 := by
 have hn2 : ANodup (c.filter fun e => e.2 != 0) := by
  unfold ANodup at *
  exact hn.sublist (List.filter_sublist.map _)
 cases hq : alk k (c.filter fun e => e.2 != 0) with
 | some v =>
   have h1 := (List.mem_filter.1 (zbK hq)).1
   rw [(zcg hn).1 h1]
 | none =>
   cases hr : alk k c with
   | none => rfl
   | some v =>
     by_cases hv : v = 0
     ·rw [hv]; rfl
     ·have h1 : (k, v) ∈ c.filter fun e => e.2 != 0 := List.mem_filter.2 ⟨zbK hr, by simpa using hv⟩
      rw [(zcg hn2).1 h1] at hq
      cases hq
theorem zng {c : List (Str × Int)} (hn : ANodup c) : StOk (zcp c) where
 nd := by
  unfold zcp
  rw [List.map_map]
  unfold ANodup at hn
  exact hn.sublist (List.filter_sublist.map _)
 nz x hx := by
  unfold zcp at hx
  obtain ⟨e, he, rfl⟩ := List.mem_map.1 hx
  have := (List.mem_filter.1 he).2
  simpa using this
theorem ztI {c : List (Str × Int)} (hn : ANodup c) : StOk (zeB c) := (zng hn).sort
theorem zsu {c : List (Str × Int)} (hn : ANodup c) (s : Str) : sv (zeB c) s = (alk s c).getD 0 := by
 have h1 : sv (zeB c) s = sv (zcp c) s := zv7 (zng hn).nd (zbo za9 _) s
 have h2 : stA (zcp c) = c.filter fun e => e.2 != 0 := by
  unfold stA zcp
  rw [List.map_map]
  exact List.map_id _
 rw [h1]
 unfold sv
 rw [h2]
 exact zuU hn s
theorem zn0 {l : List StatS} (h : (l.map (·.Name)).Nodup) (hw : l.Pairwise fun a b => ¬ za9 b a < 0) : zaV za9 l = l :=
 (zcd zbT (fun _ _ hx hy e => znm h hx hy (zbH.1 e)) (List.Perm.refl _) hw).symm
theorem zqE {l : List StatS} (h : (l.map (·.Name)).Nodup) : zaV za9 (zaV za9 l) = zaV za9 l := by
 have h1 := zdE zbT (l := l) (fun _ _ => trivial)
 refine zn0 (((zbo za9 l).map _).nodup_iff.2 h) (h1.imp fun {a b} hab => ?_)
 have := zbT.flip a b trivial trivial
 have := zbT.flip b a trivial trivial
 omega
structure RfSt (l : List StatS) : Prop where
 ok : StOk l
 so : zaV za9 l = l
theorem RfSt.nil : RfSt [] := ⟨StOk.nil, rfl⟩
theorem RfSt.put {l : List StatS} (h : RfSt l) (s : Str) (n : Int) : RfSt (zde l s n) ∧ ∀ t, sv (zde l s n) t = if t = s then n else sv l t := by
 have hn : ANodup (zY s n (stP l)) := (zow l).put
 refine ⟨⟨ztI hn, zqE (zng hn).nd⟩, fun t => ?_⟩
 unfold zde
 rw [zsu hn, zcr, zwQ h.ok.nd]
 by_cases e : t = s
 ·rw [if_pos e, if_pos e]; rfl
 ·rw [if_neg e, if_neg e]; rfl
structure RfOk (G : GrS) : Prop where
 nd : ANodup G
 st : ∀ q ∈ G, RfSt q.2
theorem RfOk.get {G : GrS} (h : RfOk G) (p : Plc) : RfSt ((alk p G).getD []) := by
 cases hq : alk p G with
 | none => exact RfSt.nil
 | some l => exact h.st _ (zbK hq)
theorem RfOk.gs {G : GrS} (h : RfOk G) : GSOk G := ⟨h.nd, fun q hq => (h.st q hq).ok⟩
theorem RfOk.put {G : GrS} (h : RfOk G) (p : Plc) (s : Str) (n : Int) : RfOk (zY p (zde ((alk p G).getD []) s n) G) :=
 ⟨h.nd.put, fun q hq => by
  rcases zce hq with rfl | hq
  ·exact ((h.get p).put s n).1
  ·exact h.st q hq⟩
def zc9 (n : Int) (l : List LineS) (x : MendS) : List LineS := if x.At ≤ n then zeV x.Player x.Week x.Stat x.Count l else l
def zcX (l : List LineS) (m : List MendS) (n : Int) : List LineS := m.foldl (zc9 n) l
theorem zoj {l : List LineS} {m : List MendS} {n : Int} {k : Nat} {x : MendS} (h : m[k]? = some x) : zcX l (m.take (k + 1)) n = zc9 n (zcX l (m.take k) n) x := by
 unfold zcX; rw [zad h, List.foldl_append]; rfl
theorem zuQ (m : List MendS) (n : Int) : ∀ l : List LineS, (zcX l m n).length ≤ l.length + m.length := by
 induction m with
 | nil => intro l; exact Nat.le_refl _
 | cons x r ih =>
   intro l
   have h1 := ih (zc9 n l x)
   have h2 : (zc9 n l x).length ≤ l.length + 1 := by
    unfold zc9; split
    ·exact zpk _ _ _ _ _
    ·omega
   show (zcX (zc9 n l x) r n).length ≤ _
   rw [List.length_cons]; omega
theorem zrH (m : List MendS) (n : Int) : ∀ {b : Nat} (l : List LineS), (∀ x ∈ l, x.Stats.length ≤ b) → ∀ x ∈ zcX l m n, x.Stats.length ≤ b + m.length := by
 induction m with
 | nil => intro b l h; exact h
 | cons x r ih =>
   intro b l h y hy
   have h2 : ∀ z ∈ zc9 n l x, z.Stats.length ≤ b + 1 := fun z hz => by
    unfold zc9 at hz; split at hz
    ·exact zmW _ _ _ _ _ h z hz
    ·have := h z hz; omega
   have h1 := ih (zc9 n l x) h2 y hy
   rw [List.length_cons]; omega
theorem zvO {n : Int} {L : List LineS} {G : GrS} {x : MendS} (hL : RfOk (lnA L)) (hG : GSOk G) (hd : ∀ p, (alk p (lnA L)).isSome = true ↔ (alk p G).isSome = true) (hv : ∀ p s, gv (lnA L) p s = gv G p s) :
 RfOk (lnA (zc9 n L x)) ∧ (∀ p, (alk p (lnA (zc9 n L x))).isSome = true ↔ (alk p (zbq n G x)).isSome = true) ∧ ∀ p s, gv (lnA (zc9 n L x)) p s = gv (zbq n G x) p s := by
 unfold zc9
 by_cases h : x.At ≤ n
 ·rw [if_pos h, zp9]
  refine ⟨hL.put _ _ _, fun p => ?_, fun p s => ?_⟩
  ·rw [zvz, zcr]
   by_cases hp : p = (x.Player, x.Week)
   ·rw [if_pos hp]; simp; exact .inr ⟨h, hp⟩
   ·rw [if_neg hp, hd p]
    constructor
    ·exact .inl
    ·rintro (q | ⟨_, q⟩)
     ·exact q
     ·exact absurd q hp
  ·rw [zvI]
   unfold gv
   rw [zcr]
   by_cases hp : p = (x.Player, x.Week)
   ·rw [if_pos hp]
    show sv (zde _ _ _) s = _
    rw [((hL.get (x.Player, x.Week)).put x.Stat x.Count).2 s]
    by_cases hs : s = x.Stat
    ·rw [if_pos hs, if_pos ⟨h, hp, hs⟩]
    ·rw [if_neg hs, if_neg (fun e => hs e.2.2), hp]
     exact hv _ s
   ·rw [if_neg hp, if_neg (fun e => hp e.2.1)]
    exact hv p s
 ·rw [if_neg h]
  have e : zbq n G x = G := by unfold zbq; rw [if_pos (by omega)]
  rw [e]
  exact ⟨hL, hd, hv⟩
theorem zxX (m : List MendS) (n : Int) : ∀ {L : List LineS} {G : GrS}, RfOk (lnA L) → GSOk G → (∀ p, (alk p (lnA L)).isSome = true ↔ (alk p G).isSome = true) → (∀ p s, gv (lnA L) p s = gv G p s) →
 RfOk (lnA (zcX L m n)) ∧ (∀ p, (alk p (lnA (zcX L m n))).isSome = true ↔ (alk p (zed G m n)).isSome = true) ∧ ∀ p s, gv (lnA (zcX L m n)) p s = gv (zed G m n) p s := by
 induction m with
 | nil => intro L G h1 _ h3 h4; exact ⟨h1, h3, h4⟩
 | cons x r ih =>
   intro L G h1 h2 h3 h4
   obtain ⟨i1, i2, i3⟩ := zvO (n := n) (x := x) h1 h2 h3 h4
   exact ih i1 h2.step i2 i3
theorem zqT {l : List LineS} (h : zbm l = 0) {x : LineS} (hx : x ∈ l) : RfSt x.Stats := by
 have h1 := zi1 h hx
 have h2 := (zko (zdD.1 ((zdm h).2.1 x hx)).2.2).2.2
 refine ⟨h1, zn0 h1.nd (h2.imp fun {a b} hab => ?_)⟩
 have := zbT.flip a b trivial trivial
 have := zbT.flip b a trivial trivial
 omega
theorem zui {l : List LineS} {m : List MendS} {n : Int} (h : zbm l = 0) : RfOk (lnA (zcX l m n)) ∧ zaV zcS (zcX l m n) = mdL l m n := by
 have hn := zjm (zdm h).2.2
 have e := zlz hn
 have hL : RfOk (lnA l) := ⟨by rw [← e]; exact zic l, fun q hq => by
  obtain ⟨y, hy, rfl⟩ := List.mem_map.1 hq
  exact zqT h hy⟩
 obtain ⟨h1, h2, h3⟩ := zxX m n (L := l) (G := zck l) hL (zlR h) (fun p => by rw [e]) (fun p s => by rw [e])
 refine ⟨h1, ?_⟩
 have h4 : (lnA (zcX l m n)).map zcy = zcX l m n := by
  unfold lnA
  rw [List.map_map]
  conv => rhs; rw [← List.map_id (zcX l m n)]
  refine List.map_congr_left fun y hy => ?_
  have h5 := (h1.st _ (List.mem_map.2 ⟨y, hy, rfl⟩)).so
  show (⟨y.Player, y.Week, zaV za9 y.Stats⟩ : LineS) = y
  rw [show zaV za9 y.Stats = y.Stats from h5]
 have h6 := zwT h1.gs ((zlR h).go (m := m) (n := n)) h2 h3
 rw [h4] at h6
 exact h6
theorem zsP {l l' : List LineS} {m : List MendS} {n : Int} (h : zbm l = 0) (hp : l'.Perm (zcX l m n)) (hw : l'.Pairwise fun a b => ¬ zcS b a < 0) : l' = mdL l m n := by
 obtain ⟨h1, h2⟩ := zui (m := m) (n := n) h
 rw [← h2]
 refine zcd zey (fun x y hx hy e => ?_) hp hw
 have hnd : ((zcX l m n).map plL).Nodup := by
  have := h1.nd
  unfold ANodup lnA at this
  rw [List.map_map] at this
  exact this
 obtain ⟨e1, e2⟩ := zhV.1 e
 obtain ⟨i, hi⟩ := List.getElem?_of_mem hx
 obtain ⟨j, hj⟩ := List.getElem?_of_mem hy
 have := zjo hnd (a := plL x) (i := i) (j := j) (by rw [List.getElem?_map, hi]; rfl) (by rw [List.getElem?_map, hj]; exact congrArg some (Prod.ext e1.symm e2.symm))
 subst this
 rw [hi] at hj
 exact Option.some.inj hj
end
section
/-- The header of an owned slice bears its length. -/
theorem zv2 [Tracks] {P : Program} {n : Nat} {e : Env} {M : List MObj} {c : Code} {Q : Exit → Env → List MObj → Prop} {i : Nat} {v : Value} {sz : Nat} {es : List HVal} (hm : M[i]? = some (.arr v sz es))
 (h : ∀ a cap, v = .slice a es.length cap → HWp P n c e M Q) : HWp P n c e M Q :=
 zfu hm (fun h0 he => h none 0 (by rw [h0, he]; rfl)) (fun b off cap hv _ => h _ cap hv)
theorem zsF (p : Str) (w : Int) : Weak (.agg [.str p, .int .i64 w, .raw (.slice none 0 0)]) (zaK ⟨p, w, []⟩) :=
 zuc rfl fun j h h' x y => by
  match j, x, y with
  | 0, x, y => simp at x y; subst x y; exact Weak.refl _
  | 1, x, y => simp at x y; subst x y; exact Weak.refl _
  | 2, x, y => simp at x y; subst x y; exact zal 2
theorem zwb {l : List LineS} {p : Str} {w : Int} {s : Str} {n : Int} (h : zaP (zf3 p w) l 0 < 0) : (l ++ [(⟨p, w, []⟩ : LineS)]).set l.length ⟨p, w, zde [] s n⟩ = zeV p w s n l := by
 have h1 : l.any (zf3 p w) = false := by rw [← zdp _ l 0 (by omega)]; simp; omega
 rw [zqi h1, List.set_append_right _ _ (Nat.le_refl _)]; simp
theorem zv9 {l : List LineS} {p : Str} {w : Int} {s : Str} {n : Int} (h : ¬ zaP (zf3 p w) l 0 < 0) :
 ∃ (i : Nat) (st : List StatS), zaP (zf3 p w) l 0 = (i : Int) ∧ i < l.length ∧ l[i]? = some ⟨p, w, st⟩ ∧ l.set i ⟨p, w, zde st s n⟩ = zeV p w s n l := by
 obtain ⟨i, h1, h2, ⟨x, h3, h4⟩, h5⟩ := zgS (zf3 p w) l 0 (by omega) (by omega)
 rw [Int.zero_add] at h1
 have h6 := zkP.1 h4
 have e1 : p = x.Player := congrArg Prod.fst h6
 have e2 : w = x.Week := congrArg Prod.snd h6
 refine ⟨i, x.Stats, h1, h2, ?_, (zq6 h3 h4 h5).symm⟩
 rw [h3, e1, e2]
theorem zoa {κ α : Type} [DecidableEq κ] (s : κ) (v v' : α) : ∀ G : List (κ × α), zY s v' (zY s v G) = zY s v' G
 | [] => by simp [zY]
 | p :: r => by
   have ih := zoa s v v' r
   by_cases h : s = p.1
   ·simp [zY, h]
   ·simp [zY, h, ih]
theorem znM {κ α : Type} [DecidableEq κ] {s : κ} {v : α} : ∀ {G : List (κ × α)}, alk s G = some v → zY s v G = G
 | [], h => by simp [alk] at h
 | p :: r, h => by
   by_cases e : s = p.1
   ·simp only [alk, if_pos e] at h
    have := Option.some.inj h
    subst this
    unfold zY
    rw [if_pos e, e]
   ·simp only [alk, if_neg e] at h
    have ih := znM h
    simp only [zY, if_neg e, ih]
def rowI (L : List (Str × Int)) (l : List StatS) : List (Str × Int) := l.foldl (fun L s => zY s.Name ((alk s.Name L).getD 0 + s.Count) L) L
theorem GrOk.row {S : List Str} {p : Str} {b : Nat} : ∀ (l : List StatS) {c : List (Of2 × Int)} {G : GrM Str} {L : List (Str × Int)}, GrOk S c G → alk p G = some (b, L) → GrOk S (zu2 p c l) (zY p (b, rowI L l) G)
 | [], c, G, L, h, hq => by
   show GrOk S c (zY p (b, L) G)
   rw [znM hq]; exact h
 | s :: r, c, G, L, h, hq => by
   have hL := h.get hq
   have h1 := h.put hq s.Name ((alk s.Name L).getD 0 + s.Count)
   have e : zY (p, s.Name) ((alk s.Name L).getD 0 + s.Count) c = zmj p c s := by unfold zmj; rw [hL, zhG]
   rw [e] at h1
   have h2 := GrOk.row r h1 (L := zY s.Name ((alk s.Name L).getD 0 + s.Count) L) (by rw [zcr, if_pos rfl])
   rw [zoa] at h2
   exact h2
theorem zq5 {x : LineS} {z : StatS} {r : List StatS} {C : CnS} {p : Str} {w : Int} {s : Str} (h1 : x.Player = p) (h2 : x.Week = w) (h3 : z.Name = s) : alk (p, w, s) (flR x (z :: r) ++ C) = some z.Count := by
 subst h1 h2 h3; simp [flR, alk]
theorem zuO {x : LineS} {z : StatS} {r : List StatS} {C : CnS} {p : Str} {w : Int} {s : Str} (h : ¬ ((x.Player = p ∧ x.Week = w) ∧ z.Name = s)) : alk (p, w, s) (flR x (z :: r) ++ C) = alk (p, w, s) (flR x r ++ C) := by
 have h2 : ¬ (p, w, s) = (x.Player, x.Week, z.Name) := fun e => by
  injection e with e1 e2
  injection e2 with e2 e3
  exact h ⟨⟨e1.symm, e2.symm⟩, e3.symm⟩
 show alk (p, w, s) (((x.Player, x.Week, z.Name), z.Count) :: (flR x r ++ C)) = _
 unfold alk
 rw [if_neg h2]
 cases flR x r ++ C <;> rfl
theorem zuI {l : List LineS} {k : Nat} {x : LineS} (h : l[k]? = some x) : flA (l.take (k + 1)) = flA (l.take k) ++ flR x x.Stats := by
 rw [zad h, zq1]
 show _ ++ (flR x x.Stats ++ []) = _
 rw [List.append_nil]
theorem zpK {x : LineS} {l : List StatS} {k : Nat} {s : StatS} (h : l[k]? = some s) : flR x (l.take (k + 1)) = flR x (l.take k) ++ [((x.Player, x.Week, s.Name), s.Count)] := by
 unfold flR; rw [zad h, List.map_append]; rfl
theorem zpr {b : Nat} {l : List LineS} (h : ∀ x ∈ l, x.Stats.length ≤ b) : (flA l).length ≤ b * l.length := by
 induction l with
 | nil => exact Nat.zero_le _
 | cons x r ih =>
   have h1 := ih fun y hy => h y (List.mem_cons_of_mem _ hy)
   have h2 := h x List.mem_cons_self
   rw [zly, List.length_append, List.length_cons]
   have h3 : (flR x x.Stats).length = x.Stats.length := by unfold flR; rw [List.length_map]
   rw [Nat.mul_add, Nat.mul_one]; omega
end
end Go.HL
namespace Go.Proofs.YtjecenjmphpmfaaGreatDoor
set_option maxRecDepth 100000
set_option linter.unusedVariables false
set_option linter.unusedSimpArgs false
section
open Go.HL
/-- slices.Grow[[]benchwarmer/api.Line,benchwarmer/api.Line] -/
theorem zqM [Tracks] {n : Nat} (hn : n ≤ 1000000) : Con Tryz.prog 169 [.raw (.slice none 0 0), .int .i64 (n : Int)] [] (fun x M' => ∃ u, x = .raw u ∧ M' = [.arr u 3 []]) := by
 refine Con.of_body Tryz.func169 rfl Tryz.ntmps169 rfl rfl ?_
 refine za ?_
 refine das rfl ?_
 refine dn ?_
 refine zf ?_
 refine za ?_
 refine dmv rfl ?_
 refine dq (zW rfl rfl) ?_
 refine dn ?_
 refine zi rfl (fun h1 => ?_) (fun h1 => ?_)
 ·exfalso
  try simp at h1
  omega
 ·try simp at h1
  refine zl ?_
  refine ze ?_
  refine zf ?_
  refine za ?_
  refine dmv rfl ?_
  refine dmv rfl ?_
  refine dq (zmC zbl rfl) ?_
  refine dmv rfl ?_
  refine dq (zh8 zbl rfl) ?_
  refine dq (zbd rfl rfl (by omega) (by omega)) ?_
  refine dq (zbd rfl rfl (by omega) (by omega)) ?_
  refine das rfl ?_
  refine dn ?_
  refine za ?_
  refine dmv rfl ?_
  refine dq (zaf rfl rfl) ?_
  refine dn ?_
  refine zi rfl (fun h2 => ?_) (fun h3 => ?_)
  ·try simp at h2
   refine zB ?_
   refine dmv rfl ?_
   refine dmv rfl ?_
   refine dq (zmC zbl rfl) ?_
   refine dq (ztv zbl zag rfl rfl) ?_
   refine dmv rfl ?_
   refine de rfl (zqt (n := n) zbl zag ty3 rfl rfl rfl rfl (by omega) (by omega) (by omega) fun b nc cells hnc hnm hcs => ?_)
   refine dmv rfl ?_
   refine dq (zh8 zbl rfl) ?_
   refine dq (zi3 (h := 0) zbl zag rfl ⟨_, _, rfl, rfl⟩ (by omega)) ?_
   refine das rfl ?_
   refine dn ?_
   refine ze ?_
   refine za ?_
   refine dmv rfl ?_
   refine das rfl ?_
   refine dn ?_
   refine zk ?_
   first
   | exact zat (Ghost.objarr hcs hnm) rfl ⟨_, rfl, rfl⟩
   | exact zat (Ghost.arr_nil 3) rfl ⟨_, rfl, rfl⟩
  ·try simp at h3
   refine zl ?_
   refine ze ?_
   refine za ?_
   refine dmv rfl ?_
   refine das rfl ?_
   refine dn ?_
   refine zk ?_
   first
   | exact zat (Ghost.objarr hcs hnm) rfl ⟨_, rfl, rfl⟩
   | exact zat (Ghost.arr_nil 3) rfl ⟨_, rfl, rfl⟩

/-- slices.Concat[[]benchwarmer/api.Line,benchwarmer/api.Line] -/
theorem zoI [Tracks] {LL : List (List LineS)} (hl : LL.length ≤ 1000) (hs : LL.flatten.length ≤ 100000) : zlW Tryz.prog 116 [.slice 1 (LL.map fun l => HVal.slice 3 (l.map zaK))] 3 (LL.flatten.map zaK) := by
 refine Con.of_body Tryz.func116 rfl Tryz.ntmps116 rfl rfl ?_
 refine za ?_
 refine das rfl ?_
 refine dn ?_
 refine za ?_
 refine das rfl ?_
 refine dn ?_
 refine zf ?_
 refine za ?_
 refine dmv rfl ?_
 refine dq (zL (f := fun l : List LineS => HVal.slice 3 (l.map zaK)) (l := LL) zmL rfl) ?_
 refine dmv rfl ?_
 refine dn ?_
 refine zn ?_
 refine zak [3, 5, 11, 12, 13, 14, 15, 16, 17, 18, 19, 20, 21, 22] (fun (i : Nat) => [(11, .int .i64 i), (3, .int .i64 ((LL.take i).flatten.length : Int))]) (fun (i : Nat) => []) (fun (i : Nat) => i ≤ LL.length ∧ (True)) (fun (i : Nat) => LL.length - i) (0) ?_ ?_ ?_ ?_
 ·exact ⟨Nat.zero_le _, trivial⟩
 ·exact ⟨rfl, rfl, trivial⟩
 ·exact List.Perm.refl _
 ·intro i hinv
  obtain ⟨hi, -⟩ := hinv
  refine za ?_
  refine dq (zW rfl rfl) ?_
  refine dn ?_
  refine zf ?_
  refine zi rfl (fun h1 => ?_) (fun h2 => ?_)
  ·try simp at h1
   obtain ⟨x, hx⟩ : ∃ x, LL[i]? = some x := ⟨_, List.getElem?_eq_getElem h1⟩
   have hdx := zX hx
   refine zl ?_
   refine ze ?_
   refine zf ?_
   refine zn ?_
   refine za ?_
   refine dq (zP (f := fun l : List LineS => HVal.slice 3 (l.map zaK)) (l := LL) (j := i) (a := x) zmL zbl rfl rfl rfl hx) ?_
   refine dq (zc zbl rfl rfl rfl) ?_
   refine das rfl ?_
   refine dn ?_
   refine za ?_
   refine dmv rfl ?_
   refine dmv rfl ?_
   refine dq (zL zbl rfl) ?_
   have hfl := zjQ LL (i + 1)
   have hfs := zf0 hx
   refine dq (zC rfl rfl (by omega) (by omega)) ?_
   refine das rfl ?_
   refine dn ?_
   refine za ?_
   refine dmv rfl ?_
   refine dq (zW rfl rfl) ?_
   refine dn ?_
   refine zi rfl (fun h3 => ?_) (fun h3 => ?_)
   ·exfalso
    try simp at h3
    omega
   ·try simp at h3
    refine zl ?_
    refine zG ?_
    refine ze ?_
    refine zB ?_
    refine dq (zC rfl rfl (by omega) (by omega)) ?_
    refine dmv rfl ?_
    refine dn ?_
    exact ⟨i + 1, ⟨by omega, trivial⟩, by dsimp only; omega, ⟨rfl, zbp (by rw [zf0 hx]; simp), trivial⟩, (by repeat (first | exact zp | refine zt rfl ?_ | refine zq rfl rfl ?_)), List.Perm.refl _⟩
  ·try simp at h2
   have hni : LL.length ≤ i := by omega
   obtain rfl : i = LL.length := by omega
   refine zU ?_
   refine z6 ?_
   refine zas ?_
   refine zJ ?_
   refine ze ?_
   rw [List.take_length]
   refine za ?_
   refine dmv rfl ?_
   refine de rfl (za0 (M1 := []) (R := []) zxs rfl (WeakL.refl _) (List.Perm.refl _) (zqM (n := LL.flatten.length) (by omega)) ?_)
   rintro _ _ ⟨u24, rfl, rfl⟩
   refine das rfl ?_
   refine dn ?_
   refine zf ?_
   refine za ?_
   refine dmv rfl ?_
   refine dq (zL (f := fun l : List LineS => HVal.slice 3 (l.map zaK)) (l := LL) zmL rfl) ?_
   refine dmv rfl ?_
   refine dn ?_
   refine zn ?_
   refine zaI [6, 8, 27, 28, 29, 30, 31, 32, 33, 34] (fun (j : Nat) (u : Value) => [(27, .int .i64 j), (6, .raw u)]) (fun (j : Nat) (u : Value) => [.arr u 3 ((LL.take j).flatten.map zaK)]) (fun (j : Nat) (u : Value) => j ≤ LL.length ∧ (True)) (fun (j : Nat) (u : Value) => LL.length - j) (0) (u24) ?_ ?_ ?_ ?_
   ·exact ⟨Nat.zero_le _, trivial⟩
   ·exact ⟨rfl, rfl, trivial⟩
   ·exact List.Perm.refl _
   ·intro j u hinv
    obtain ⟨hj, -⟩ := hinv
    refine za ?_
    refine dq (zW rfl rfl) ?_
    refine dn ?_
    refine zf ?_
    refine zi rfl (fun h4 => ?_) (fun h5 => ?_)
    ·try simp at h4
     obtain ⟨y, hy⟩ : ∃ y, LL[j]? = some y := ⟨_, List.getElem?_eq_getElem h4⟩
     have hdy := zX hy
     refine zl ?_
     refine ze ?_
     refine zf ?_
     refine zn ?_
     refine za ?_
     refine dq (zP (f := fun l : List LineS => HVal.slice 3 (l.map zaK)) (l := LL) (j := j) (a := y) zmL zbl rfl rfl rfl hy) ?_
     refine dq (zc zbl rfl rfl rfl) ?_
     refine das rfl ?_
     refine dn ?_
     refine zB ?_
     refine dmv rfl ?_
     refine dmv rfl ?_
     refine de rfl (zan (i := 0) zbl zag rfl rfl rfl rfl rfl (by simp [za5, zh]) (by have h1 := zjQ LL (j + 1); have h2 := zf0 hy; simp only [List.length_map]; omega) fun v33 => ?_)
     refine das rfl ?_
     refine dn ?_
     refine zG ?_
     refine ze ?_
     refine zB ?_
     refine dq (zC rfl rfl (by omega) (by omega)) ?_
     refine dmv rfl ?_
     refine dn ?_
     exact ⟨j + 1, v33, ⟨by omega, trivial⟩, by dsimp only; omega, ⟨rfl, rfl, trivial⟩, (by repeat (first | exact zp | refine zt rfl ?_ | refine zq rfl rfl ?_)), zS (by dsimp only; rw [zoU hy, List.map_append]; rfl)⟩
    ·try simp at h5
     have hnj : LL.length ≤ j := by omega
     obtain rfl : j = LL.length := by omega
     refine zU ?_
     refine z6 ?_
     refine zaR ?_
     refine zJ ?_
     refine ze ?_
     refine za ?_
     refine dmv rfl ?_
     refine das rfl ?_
     refine dn ?_
     refine zk ?_
     refine zgN rfl ?_
     rw [List.take_length]

/-- slices.IndexFunc[[]benchwarmer/api.Line,benchwarmer/api.Line] -/
theorem zcC [Tracks] {l : List LineS} {fid : FuncId} {caps : List HVal} {p : LineS → Bool} (hca : Callable Tryz.prog fid) (hp : ∀ x, ConP Tryz.prog fid ([zaK x] ++ caps) (.bool (p x))) (hl : l.length ≤ 1000000) : ConP Tryz.prog 231 [.slice 3 (l.map zaK), .fn (.func fid) [] caps] (.int .i64 (zaP p l 0)) := by
 refine Con.of_body Tryz.func231 rfl Tryz.ntmps231 rfl rfl ?_
 refine za ?_
 refine das rfl ?_
 refine dn ?_
 refine zf ?_
 refine za ?_
 refine dmv rfl ?_
 refine dq (zL zbl rfl) ?_
 refine dmv rfl ?_
 refine dn ?_
 refine zn ?_
 refine zak [4, 5, 8, 9, 10, 11, 12, 13, 14, 15, 16, 17, 18] (fun (k : Nat) => [(8, .int .i64 k)]) (fun (k : Nat) => []) (fun (k : Nat) => k ≤ l.length ∧ (zaP p l 0 = zaP p (l.drop k) k)) (fun (k : Nat) => l.length - k) (0) ?_ ?_ ?_ ?_
 ·exact ⟨Nat.zero_le _, rfl⟩
 ·exact ⟨rfl, trivial⟩
 ·exact List.Perm.refl _
 ·intro k hinv
  obtain ⟨hk, hg⟩ := hinv
  refine za ?_
  refine dq (zW rfl rfl) ?_
  refine dn ?_
  refine zf ?_
  refine zi rfl (fun h1 => ?_) (fun h2 => ?_)
  ·try simp at h1
   obtain ⟨x, hx⟩ : ∃ x, l[k]? = some x := ⟨_, List.getElem?_eq_getElem h1⟩
   have hdx := zX hx
   rw [hdx] at hg
   refine zl ?_
   refine ze ?_
   refine zf ?_
   refine zn ?_
   refine za ?_
   refine dmv rfl ?_
   refine das rfl ?_
   refine dn ?_
   refine za ?_
   refine dmv rfl ?_
   refine dmv rfl ?_
   refine dmv rfl ?_
   refine dq (zP zbl zag rfl rfl rfl (by first | assumption | simp_all)) ?_
   refine dq (zN zag rfl rfl rfl rfl) ?_
   refine dq (zb4 hca rfl rfl (WeakL.refl _) (hp _)) ?_
   refine dn ?_
   refine zi rfl (fun h3 => ?_) (fun h4 => ?_)
   ·try simp at h3
    refine za ?_
    refine dmv rfl ?_
    refine das rfl ?_
    refine dn ?_
    refine zk ?_
    refine zF rfl ?_
    show HVal.int .i64 _ = _
    first | (rw [hg]; rfl) | (rw [hg]; simp_all [zaP])
   ·try simp at h4
    refine zl ?_
    refine zG ?_
    refine ze ?_
    refine zB ?_
    refine dq (zC rfl rfl (by omega) (by omega)) ?_
    refine dmv rfl ?_
    refine dn ?_
    refine ⟨k + 1, ?_, ?_, ⟨rfl, trivial⟩, (by repeat (first | exact zp | refine zt rfl ?_ | refine zq rfl rfl ?_)), List.Perm.refl _⟩
    ·refine ⟨by omega, ?_⟩
     rw [hg, zaP, if_neg (by simp_all)]; rfl
    ·dsimp only; omega
  ·try simp at h2
   have hnk : l.length ≤ k := by omega
   obtain rfl : k = l.length := by omega
   rw [zap (Nat.le_refl _)] at hg
   refine zU ?_
   refine z6 ?_
   refine zas ?_
   refine zJ ?_
   refine ze ?_
   refine za ?_
   refine das rfl ?_
   refine dn ?_
   refine zk ?_
   refine zF rfl ?_
   show HVal.int .i64 _ = _
   first | (rw [hg]; rfl) | (rw [hg]; simp_all [zaP])

/-- slices.ContainsFunc[[]benchwarmer/api.Line,benchwarmer/api.Line] -/
theorem zd7 [Tracks] {l : List LineS} {fid : FuncId} {caps : List HVal} {p : LineS → Bool} (hca : Callable Tryz.prog fid) (hp : ∀ x, ConP Tryz.prog fid ([zaK x] ++ caps) (.bool (p x))) (hl : l.length ≤ 1000000) : ConP Tryz.prog 167 [.slice 3 (l.map zaK), .fn (.func fid) [] caps] (.bool (l.any p)) := by
 refine Con.of_body Tryz.func167 rfl Tryz.ntmps167 rfl rfl ?_
 refine za ?_
 refine das rfl ?_
 refine dn ?_
 refine za ?_
 refine dmv rfl ?_
 refine dmv rfl ?_
 refine dq (zj zu4 rfl (WeakL.refl _) (zcC hca hp hl)) ?_
 refine dq (zbW rfl rfl) ?_
 refine das rfl ?_
 refine dn ?_
 refine zk ?_
 refine zF rfl ?_
 congr 1; exact zdp p l 0 (by omega)

/-- slices.Clone[[]benchwarmer/api.Line,benchwarmer/api.Line] -/
theorem ze9 [Tracks] {l : List LineS} (hl : l.length ≤ 1000000) : zlW Tryz.prog 165 [.slice 3 (l.map zaK)] 3 (l.map zaK) := by
 refine Con.of_body Tryz.func165 rfl Tryz.ntmps165 rfl rfl ?_
 refine za ?_
 refine das rfl ?_
 refine dn ?_
 refine zf ?_
 refine za ?_
 refine dmv rfl ?_
 refine de rfl (zhO zbl rfl rfl fun b4 hb4 => ?_)
 refine dn ?_
 refine zi rfl (fun h1 => ?_) (fun h2 => ?_)
 ·try simp at h1
  refine za ?_
  refine das rfl ?_
  refine dn ?_
  refine zk ?_
  first | exact zgN rfl rfl | exact zat (Ghost.arr_nil 3) rfl ⟨_, rfl, by simp_all⟩
 ·try simp at h2
  refine zl ?_
  refine ze ?_
  refine za ?_
  refine de rfl (ziv zbl zag fun v5 => ?_)
  refine dmv rfl ?_
  refine de rfl (zan (i := 0) zbl zag rfl rfl rfl rfl rfl (by simp [za5, zh]) (by first | omega | (simp; omega)) fun v7 => ?_)
  refine das rfl ?_
  refine dn ?_
  refine zk ?_
  first | exact zgN rfl rfl | exact zat (Ghost.arr_nil 3) rfl ⟨_, rfl, by simp_all⟩

/-- benchwarmer/benchref1.put$1 -/
theorem zk0 [Tracks] {x : LineS} {p : Str} {w : Int}  : ConP Tryz.prog 232 [zaK x, .vptr [.str p] 0, .vptr [.int .i64 w] 0] (.bool (zf3 p w x)) := by
 refine Con.of_body Tryz.func232 rfl Tryz.ntmps232 rfl rfl ?_
 refine za ?_
 refine dq (zao rfl rfl) ?_
 refine das rfl ?_
 refine dn ?_
 refine za ?_
 refine dq (zb zag rfl ty9 (by decide) rfl) ?_
 refine dq (zc ty9 rfl rfl rfl) ?_
 refine dq (zc ty9 rfl rfl rfl) ?_
 refine dq (zaY rfl rfl) ?_
 refine dmv rfl ?_
 refine dg rfl rfl (fun hc => ⟨_, OpenTo.refl _, zb zag rfl ty3 (by decide) rfl⟩) ?_
 refine dg rfl rfl (fun hc => ⟨_, OpenTo.upd (t := 10) rfl (by first | exact hc | simp_all) (OpenTo.refl _), zc ty3 rfl rfl rfl⟩) ?_
 refine dg rfl rfl (fun hc => ⟨_, OpenTo.refl _, zc ty3 rfl rfl rfl⟩) ?_
 refine dg rfl rfl (fun hc => ⟨_, OpenTo.upd (t := 12) rfl (by first | exact hc | simp_all) (OpenTo.upd (t := 11) rfl (by first | exact hc | simp_all) (OpenTo.refl _)), zaJ rfl rfl⟩) ?_
 refine dq (zv rfl (.inr ⟨_, rfl, fun h => by simp_all⟩) (.inl rfl)) ?_
 refine das rfl ?_
 refine dn ?_
 refine zk ?_
 refine zF rfl ?_
 show HVal.bool _ = _
 unfold zf3
 cases x.Player == p <;> simp_all

set_option maxHeartbeats 1000000 in
/-- benchwarmer/benchref1.put -/
theorem zmK [Tracks] {v : Value} {l : List LineS} {p s : Str} {w n : Int} (hl : l.length ≤ 1000) (hs : ∀ x ∈ l, x.Stats.length ≤ 1000) : Con Tryz.prog 166 [.raw v, .str p, .int .i64 w, .str s, .int .i64 n] [.arr v 3 (l.map zaK)] (fun x M' => ∃ u, x = .raw u ∧ M' = [.arr u 3 ((zeV p w s n l).map zaK)]) := by
 refine Con.of_body Tryz.func166 rfl Tryz.ntmps166 rfl rfl ?_
 refine za ?_
 refine dq (zao rfl rfl) ?_
 refine dq (zao rfl rfl) ?_
 refine das rfl ?_
 refine dn ?_
 refine zv2 (i := 0) rfl (fun va vc hv => ?_)
 rw [List.length_map] at hv
 subst hv
 refine za ?_
 refine dmv rfl ?_
 refine dq (zcF rfl rfl) ?_
 refine de rfl (zgn (hs' := [.slice 3 (l.map zaK), .fn (.func 232) [] [.vptr [.str p] 0, .vptr [.int .i64 w] 0]]) zu4 rfl ⟨.arr (i := 0) rfl, .weak (Weak.refl _), trivial⟩ (zcC (l := l) (p := zf3 p w) zxh (fun _ => zk0) (by omega)) rfl ?_)
 refine das rfl ?_
 refine dn ?_
 refine zeb [0, 11, 18, 19, 20, 21, 22, 23, 24, 25, 26, 27] (fun (q : Value × List LineS × Nat) => [(0, .raw q.1), (11, .int .i64 (q.2.2 : Int))]) (fun (q : Value × List LineS × Nat) => [.arr q.1 3 (q.2.1.map zaK)]) (fun (q : Value × List LineS × Nat) => ∃ st : List StatS, q.2.1[q.2.2]? = some ⟨p, w, st⟩ ∧ st.length ≤ 1000 ∧ q.2.1.set q.2.2 ⟨p, w, zde st s n⟩ = zeV p w s n l ∧ q.2.1.length ≤ 1001) ?_ ?_
 ·skip
  refine za ?_
  refine dmv rfl ?_
  refine dq (zW rfl rfl) ?_
  refine dn ?_
  refine zi rfl (fun h1 => ?_) (fun h2 => ?_)
  ·try simp at h1
   refine zB ?_
   refine dmv rfl ?_
   refine dq (zc ty9 rfl rfl rfl) ?_
   refine dq (zc ty3 rfl rfl rfl) ?_
   refine dq (zt0 (zsF p w) (zaw (cs := [_, _, _]) zag zpt rfl)) ?_
   refine dq (zw (hs := [_]) zbl zag rfl rfl (by decide) (by decide) rfl) ?_
   refine de rfl (zan (i := 0) zbl zag rfl rfl rfl rfl rfl (by simp [za5, zh]) (by simp only [List.length_map, List.length_cons, List.length_nil]; omega) fun v25 => ?_)
   refine dmv rfl ?_
   refine dq (zh8 zbl rfl) ?_
   refine das rfl ?_
   refine das rfl ?_
   refine dn ?_
   exact ⟨(v25, l ++ [⟨p, w, []⟩], l.length), ⟨[], by simp, by simp, zwb (by simpa using h1), by simp; omega⟩, ⟨rfl, zbp (by dsimp only), trivial⟩, (by repeat (first | exact zp | refine zt rfl ?_ | refine zq rfl rfl ?_)), zS (by simp)⟩
  ·try simp at h2
   refine zl ?_
   obtain ⟨i0, st0, hi0, hi1, hi2, hi3⟩ := zv9 (s := s) (n := n) (l := l) (p := p) (w := w) (by simpa using h2)
   exact ⟨(_, l, i0), ⟨st0, hi2, hs _ (List.mem_of_getElem? hi2), hi3, by dsimp only; omega⟩, ⟨rfl, zbp hi0, trivial⟩, (by repeat (first | exact zp | refine zt rfl ?_ | refine zq rfl rfl ?_)), List.Perm.refl _⟩
 ·intro q hq
  obtain ⟨v1, l1, k⟩ := q
  dsimp only at hq ⊢
  obtain ⟨st, hk, hst, zrD, hl1⟩ := hq
  have hkl := zK hk
  refine za ?_
  refine de rfl (za1 fun m28 => ?_)
  refine das rfl ?_
  refine dn ?_
  refine zf ?_
  refine zfu (i := 1) rfl (fun h0 he => ?_) (fun b off cap hv hcap => ?_)
  ·exfalso; have := congrArg List.length he; simp at this; subst this; simp at hkl
  rw [List.length_map] at hv hcap
  subst hv
  refine za ?_
  refine dmv rfl ?_
  refine dmv rfl ?_
  refine dq (zbL (j := k) zbl zag rfl rfl rfl (by omega)) ?_
  refine dq ((by first | exact zb zag rfl zax (by decide) rfl | exact zg zag rfl zax (by decide) rfl)) ?_
  refine de rfl (zbf (i := 1) (j := k) 2 zax rfl (by omega) rfl hk rfl rfl ?_)
  refine dq (zL (f := zaD) (l := st) zax rfl) ?_
  refine dmv rfl ?_
  refine dn ?_
  refine zn ?_
  refine zak [14, 35, 36, 37, 38, 39, 40, 41, 42, 43, 44] (fun (j : Nat) => [(35, .int .i64 j)]) (fun (j : Nat) => [.map m28 (sk (em (HVal.int .i64) (stP (st.take j)))), .arr (.slice (some ⟨b, off, none⟩) l1.length cap) 3 (l1.map zaK)]) (fun (j : Nat) => j ≤ st.length ∧ (True)) (fun (j : Nat) => st.length - j) (0) ?_ ?_ ?_ ?_
  ·exact ⟨Nat.zero_le _, trivial⟩
  ·exact ⟨rfl, trivial⟩
  ·exact zS rfl
  ·intro j hinv
   obtain ⟨hj, -⟩ := hinv
   refine za ?_
   refine dq (zW rfl rfl) ?_
   refine dn ?_
   refine zf ?_
   refine zi rfl (fun h3 => ?_) (fun h4 => ?_)
   ·try simp at h3
    obtain ⟨z, hz⟩ : ∃ z, st[j]? = some z := ⟨_, List.getElem?_eq_getElem h3⟩
    have hdz := zX hz
    refine zl ?_
    refine ze ?_
    refine zf ?_
    refine zn ?_
    refine za ?_
    refine dq (zP (f := zaD) (l := st) (j := j) (a := z) zax zam rfl rfl rfl hz) ?_
    refine dq (zN zam rfl rfl rfl rfl) ?_
    refine de rfl (z8 zam rfl fun b14 => ?_)
    refine de0 (zae zam rfl rfl rfl rfl rfl ?_)
    refine dn ?_
    refine zH (Ghost.fc0 14 rfl) ?_
    refine zB ?_
    refine dmv rfl ?_
    refine dq ((by first | exact zb zam rfl ty9 (by decide) rfl | exact zg zam rfl ty9 (by decide) rfl)) ?_
    refine dq (zc ty9 rfl rfl rfl) ?_
    refine dq ((by first | exact zb zam rfl ty3 (by decide) rfl | exact zg zam rfl ty3 (by decide) rfl)) ?_
    refine dq (zc ty3 rfl rfl rfl) ?_
    refine de0 (zbu (i := 0) (f := (HVal.int .i64)) (s := z.Name) (v := z.Count) zbM ty9 rfl rfl rfl rfl ?_)
    refine dn ?_
    refine zG ?_
    refine ze ?_
    refine zB ?_
    refine dq (zC rfl rfl (by omega) (by omega)) ?_
    refine dmv rfl ?_
    refine dn ?_
    exact ⟨j + 1, ⟨by omega, trivial⟩, by dsimp only; omega, ⟨rfl, trivial⟩, (by repeat (first | exact zp | refine zt rfl ?_ | refine zq rfl rfl ?_)), zS (by dsimp only; rw [zuz hz]; rfl)⟩
   ·try simp at h4
    have hnj : st.length ≤ j := by omega
    obtain rfl : j = st.length := by omega
    rw [List.take_length]
    refine zU ?_
    refine z6 ?_
    refine zas ?_
    refine zJ ?_
    refine ze ?_
    refine za ?_
    refine dmv rfl ?_
    refine dmv rfl ?_
    refine dmv rfl ?_
    refine de0 (zbu (i := 0) (f := (HVal.int .i64)) (s := s) (v := n) zbM ty9 rfl rfl rfl rfl ?_)
    refine dn ?_
    refine za ?_
    refine dmv rfl ?_
    refine dmv rfl ?_
    refine dmv rfl ?_
    refine de rfl (za0 (M1 := [.map m28 (sk (em (HVal.int .i64) (zY s n (stP st))))]) (R := [.arr (.slice (some ⟨b, off, none⟩) l1.length cap) 3 (l1.map zaK)]) zvl rfl (WeakL.refl _) (List.Perm.refl _) (zgL (c := zY s n (stP st)) (zow st).put (Nat.le_trans (zeK _ _ _) (by have := zrw st; omega))) ?_)
    rintro _ _ ⟨rfl, rfl⟩
    refine dq (zbL (j := k) zbl zag rfl rfl rfl (by omega)) ?_
    refine dq ((by first | exact zb zag rfl zax (by decide) rfl | exact zg zag rfl zax (by decide) rfl)) ?_
    refine de0 (zaU (i := 1) (j := k) (f := 2) (y := zaK ⟨p, w, st⟩) (y' := zaK ⟨p, w, zde st s n⟩) zax rfl (by omega) rfl rfl (zcq hk) rfl rfl (by simp [zh]) rfl ?_)
    refine dn ?_
    refine za ?_
    refine dmv rfl ?_
    refine das rfl ?_
    refine dn ?_
    refine zk ?_
    exact zat Ghost.drop rfl ⟨_, rfl, by rw [← zrD, List.map_set]; rfl⟩

/-- benchwarmer/benchref1.MendedOf$1 -/
theorem zil [Tracks] {x : LineS}  : ConP Tryz.prog 168 [zaK x] (.bool (decide (40 < x.Stats.length))) := by
 refine Con.of_body Tryz.func168 rfl Tryz.ntmps168 rfl rfl ?_
 refine za ?_
 refine dq (zao rfl rfl) ?_
 refine das rfl ?_
 refine dn ?_
 refine za ?_
 refine dq (zb zag rfl zax (by decide) rfl) ?_
 refine dq (zc zax rfl rfl rfl) ?_
 refine dq (zL zax rfl) ?_
 refine dq (zaf rfl rfl) ?_
 refine das rfl ?_
 refine dn ?_
 refine zk ?_
 refine zF rfl ?_
 show HVal.bool _ = _
 refine congrArg _ (decide_eq_decide.2 ?_)
 omega

end
section
open Go.HL
/-- benchwarmer/benchref1.CountIn -/
theorem zfT [Tracks] {l : List LineS} {p s : Str} {w : Int} (hl : l.length ≤ 1000000) (hs : ∀ x ∈ l, x.Stats.length ≤ 1000000) : ConP Tryz.prog 117 [zcm l, .str p, .int .i64 w, .str s] (.int .i64 (zc4 l (p, w, s))) := by
 refine Con.of_body Tryz.func117 rfl Tryz.ntmps117 rfl rfl ?_
 refine za ?_
 refine das rfl ?_
 refine dn ?_
 refine zf ?_
 refine za ?_
 refine dmv rfl ?_
 refine dq (zL zbl rfl) ?_
 refine dmv rfl ?_
 refine dn ?_
 refine zn ?_
 refine zak [8, 10, 12, 15, 16, 17, 18, 19, 20, 21, 22, 23, 24, 25, 26, 27, 28, 29, 30, 31, 32, 33, 34, 35, 36, 37, 38, 39, 40, 41, 42, 43, 44, 45] (fun (k : Nat) => [(15, .int .i64 k)]) (fun (k : Nat) => []) (fun (k : Nat) => k ≤ l.length ∧ (alk (p, w, s) (flA l) = alk (p, w, s) (flA (l.drop k)))) (fun (k : Nat) => l.length - k) (0) ?_ ?_ ?_ ?_
 ·exact ⟨Nat.zero_le _, rfl⟩
 ·exact ⟨rfl, trivial⟩
 ·exact List.Perm.refl _
 ·intro k hinv
  obtain ⟨hk, hg⟩ := hinv
  refine za ?_
  refine dq (zW rfl rfl) ?_
  refine dn ?_
  refine zf ?_
  refine zi rfl (fun h1 => ?_) (fun h2 => ?_)
  ·try simp at h1
   obtain ⟨x, hx⟩ : ∃ x, l[k]? = some x := ⟨_, List.getElem?_eq_getElem h1⟩
   have hdx := zX hx
   rw [hdx] at hg
   have hxl := hs x (List.mem_of_getElem? hx)
   refine zl ?_
   refine ze ?_
   refine zf ?_
   refine zn ?_
   refine za ?_
   refine dq (zP zbl zag rfl rfl rfl (by first | assumption | simp_all)) ?_
   refine dq (zN zag rfl rfl rfl rfl) ?_
   refine de rfl (z8 zag rfl fun b10 => ?_)
   refine de0 (zae zag rfl rfl rfl rfl rfl ?_)
   refine dn ?_
   refine zH (Ghost.fc0 10 rfl) ?_
   refine za ?_
   refine dq (zb zag rfl zax (by decide) rfl) ?_
   refine dq (zc zax rfl rfl rfl) ?_
   refine dq (zL zax rfl) ?_
   refine dmv rfl ?_
   refine dn ?_
   refine zn ?_
   refine zak [8, 12, 22, 23, 24, 25, 26, 27, 28, 29, 30, 31, 32, 33, 34, 35, 36, 37, 38, 39, 40, 41, 42, 43, 44] (fun (j : Nat) => [(22, .int .i64 j)]) (fun (j : Nat) => []) (fun (j : Nat) => j ≤ x.Stats.length ∧ (alk (p, w, s) (flA l) = alk (p, w, s) (flR x (x.Stats.drop j) ++ flA (l.drop (k + 1))))) (fun (j : Nat) => x.Stats.length - j) (0) ?_ ?_ ?_ ?_
   ·exact ⟨Nat.zero_le _, hg⟩
   ·exact ⟨rfl, trivial⟩
   ·exact List.Perm.refl _
   ·intro j hinv
    obtain ⟨hj, hgs⟩ := hinv
    refine za ?_
    refine dq (zW rfl rfl) ?_
    refine dn ?_
    refine zf ?_
    refine zi rfl (fun h3 => ?_) (fun h4 => ?_)
    ·try simp at h3
     obtain ⟨z, hz⟩ : ∃ z, x.Stats[j]? = some z := ⟨_, List.getElem?_eq_getElem h3⟩
     have hdz := zX hz
     rw [hdz] at hgs
     refine zl ?_
     refine ze ?_
     refine zf ?_
     refine zn ?_
     refine za ?_
     refine dq (zP zax zam rfl rfl rfl (by first | assumption | simp_all)) ?_
     refine dq (zN zam rfl rfl rfl rfl) ?_
     refine de rfl (z8 zam rfl fun b12 => ?_)
     refine de0 (zae zam rfl rfl rfl rfl rfl ?_)
     refine dn ?_
     refine zH (Ghost.fc0 12 rfl) ?_
     refine za ?_
     refine dq (zb zag rfl ty9 (by decide) rfl) ?_
     refine dq (zc ty9 rfl rfl rfl) ?_
     refine dmv rfl ?_
     refine dq (zaY rfl rfl) ?_
     refine dmv rfl ?_
     refine dg rfl rfl (fun hc => ⟨_, OpenTo.refl _, zb zag rfl ty3 (by decide) rfl⟩) ?_
     refine dg rfl rfl (fun hc => ⟨_, OpenTo.upd (t := 31) rfl (by first | exact hc | simp_all) (OpenTo.refl _), zc ty3 rfl rfl rfl⟩) ?_
     refine dg rfl rfl (fun hc => ⟨_, OpenTo.refl _, zd rfl⟩) ?_
     refine dg rfl rfl (fun hc => ⟨_, OpenTo.upd (t := 33) rfl (by first | exact hc | simp_all) (OpenTo.upd (t := 32) rfl (by first | exact hc | simp_all) (OpenTo.refl _)), zaJ rfl rfl⟩) ?_
     refine dq (zv rfl (.inr ⟨_, rfl, fun h => by simp_all⟩) (.inl rfl)) ?_
     refine dmv rfl ?_
     refine dg rfl rfl (fun hc => ⟨_, OpenTo.refl _, zb zam rfl ty9 (by decide) rfl⟩) ?_
     refine dg rfl rfl (fun hc => ⟨_, OpenTo.upd (t := 37) rfl (by first | exact hc | simp_all) (OpenTo.refl _), zc ty9 rfl rfl rfl⟩) ?_
     refine dg rfl rfl (fun hc => ⟨_, OpenTo.refl _, zd rfl⟩) ?_
     refine dg rfl rfl (fun hc => ⟨_, OpenTo.upd (t := 39) rfl (by first | exact hc | simp_all) (OpenTo.upd (t := 38) rfl (by first | exact hc | simp_all) (OpenTo.refl _)), zaY rfl rfl⟩) ?_
     refine dq (zv rfl (.inr ⟨_, rfl, fun h => by simp_all⟩) (.inl rfl)) ?_
     refine dn ?_
     refine zi rfl (fun h5 => ?_) (fun h6 => ?_)
     ·try simp at h5
      refine za ?_
      refine dq (zb zam rfl ty3 (by decide) rfl) ?_
      refine dq (zc ty3 rfl rfl rfl) ?_
      refine das rfl ?_
      refine dn ?_
      refine zk ?_
      refine zF rfl ?_
      show HVal.int .i64 _ = _
      first
      | (refine congrArg _ ?_
         rw [zc4, hgs, zq5]
         ·rfl
         all_goals simp_all
         done)
      | (rw [zc4, hg]; rfl)
     ·try simp at h6
      refine zl ?_
      refine zG ?_
      refine ze ?_
      refine zB ?_
      refine dq (zC rfl rfl (by omega) (by omega)) ?_
      refine dmv rfl ?_
      refine dn ?_
      refine ⟨j + 1, ?_, ?_, ⟨rfl, trivial⟩, (by repeat (first | exact zp | refine zt rfl ?_ | refine zq rfl rfl ?_)), List.Perm.refl _⟩
      ·refine ⟨by omega, ?_⟩
       rw [hgs]
       exact zuO (by simp_all)
      ·dsimp only; omega
    ·try simp at h4
     have hnj : x.Stats.length ≤ j := by omega
     obtain rfl : j = x.Stats.length := by omega
     rw [zap (Nat.le_refl _)] at hgs
     refine zU ?_
     refine z6 ?_
     refine zas ?_
     refine zJ ?_
     refine zG ?_
     refine ze ?_
     refine zB ?_
     refine dq (zC rfl rfl (by omega) (by omega)) ?_
     refine dmv rfl ?_
     refine dn ?_
     refine ⟨k + 1, ?_, ?_, ⟨rfl, trivial⟩, (by repeat (first | exact zp | refine zt rfl ?_ | refine zq rfl rfl ?_)), List.Perm.refl _⟩
     ·refine ⟨by omega, ?_⟩
      exact hgs
     ·dsimp only; omega
  ·try simp at h2
   have hnk : l.length ≤ k := by omega
   obtain rfl : k = l.length := by omega
   rw [zap (Nat.le_refl _)] at hg
   refine zU ?_
   refine z6 ?_
   refine zas ?_
   refine zJ ?_
   refine ze ?_
   refine za ?_
   refine das rfl ?_
   refine dn ?_
   refine zk ?_
   refine zF rfl ?_
   show HVal.int .i64 _ = _
   first
   | (refine congrArg _ ?_
      rw [zc4, hgs, zq5]
      ·rfl
      all_goals simp_all
      done)
   | (rw [zc4, hg]; rfl)

/-- benchwarmer/benchref1.DifferOf$1 -/
theorem zio [Tracks] {a b : TurnedS}  : ConP Tryz.prog 119 [zaH a, zaH b] (.int .i64 (zgF a b)) := by
 refine Con.of_body Tryz.func119 rfl Tryz.ntmps119 rfl rfl ?_
 refine za ?_
 refine dq (zao rfl rfl) ?_
 refine dq (zao rfl rfl) ?_
 refine das rfl ?_
 refine dn ?_
 refine zaM (fun _ => True) [] mixed ?_
 refine ahp 0 rfl rfl (by kernel_rfl) (by kernel_rfl) (zb zbE rfl ty9 (by decide) rfl) ?_
 refine ahp 1 rfl rfl (by kernel_rfl) (by kernel_rfl) (zc ty9 rfl rfl rfl) ?_
 refine ahp 2 rfl rfl (by kernel_rfl) (by kernel_rfl) (zb zbE rfl ty9 (by decide) rfl) ?_
 refine ahp 3 rfl rfl (by kernel_rfl) (by kernel_rfl) (zc ty9 rfl rfl rfl) ?_
 refine ahp 4 rfl rfl (by kernel_rfl) (by kernel_rfl) (zj zfC rfl (WeakL.refl _) zaE) ?_
 refine ahp 5 rfl rfl (by kernel_rfl) (by kernel_rfl) (zb zbE rfl ty3 (by decide) rfl) ?_
 refine ahp 6 rfl rfl (by kernel_rfl) (by kernel_rfl) (zc ty3 rfl rfl rfl) ?_
 refine ahp 7 rfl rfl (by kernel_rfl) (by kernel_rfl) (zb zbE rfl ty3 (by decide) rfl) ?_
 refine ahp 8 rfl rfl (by kernel_rfl) (by kernel_rfl) (zc ty3 rfl rfl rfl) ?_
 refine ahp 9 rfl rfl (by kernel_rfl) (by kernel_rfl) (zj ziq rfl (WeakL.refl _) zbe) ?_
 refine ahp 10 rfl rfl (by kernel_rfl) (by kernel_rfl) (zb zbE rfl ty9 (by decide) rfl) ?_
 refine ahp 11 rfl rfl (by kernel_rfl) (by kernel_rfl) (zc ty9 rfl rfl rfl) ?_
 refine ahp 12 rfl rfl (by kernel_rfl) (by kernel_rfl) (zb zbE rfl ty9 (by decide) rfl) ?_
 refine ahp 13 rfl rfl (by kernel_rfl) (by kernel_rfl) (zc ty9 rfl rfl rfl) ?_
 refine ahp 14 rfl rfl (by kernel_rfl) (by kernel_rfl) (zj zfC rfl (WeakL.refl _) zaE) ?_
 refine ahp 15 rfl rfl (by kernel_rfl) (by kernel_rfl) (zw (hs := [_, _, _]) zaq ty3 rfl rfl (by decide) (by decide) rfl) ?_
 refine ahp 16 rfl rfl (by kernel_rfl) (by kernel_rfl) (zj zj0 rfl (WeakL.refl _) (zcz (l := [_, _, _]) (by simp))) ?_
 refine ahp 17 rfl rfl (by kernel_rfl) (by kernel_rfl) (zaA rfl) ?_
 refine ahz (by kernel_rfl) ?_
 refine zk ?_
 refine zF rfl ?_
 rfl

/-- slices.Index[[]benchwarmer/api.Turned,benchwarmer/api.Turned] -/
theorem zev [Tracks] {l : List TurnedS} {y : TurnedS} (hl : l.length ≤ 1000000) : ConP Tryz.prog 170 [zcN l, zaH y] (.int .i64 (zaP (fun z => zdt zaH y z) l 0)) := by
 refine Con.of_body Tryz.func170 rfl Tryz.ntmps170 rfl rfl ?_
 refine za ?_
 refine dq (zao rfl rfl) ?_
 refine das rfl ?_
 refine dn ?_
 refine zf ?_
 refine za ?_
 refine dmv rfl ?_
 refine dq (zL zhh rfl) ?_
 refine dmv rfl ?_
 refine dn ?_
 refine zn ?_
 refine zak [4, 5, 8, 9, 10, 11, 12, 13, 14, 15, 16, 17, 18] (fun (k : Nat) => [(8, .int .i64 k)]) (fun (k : Nat) => []) (fun (k : Nat) => k ≤ l.length ∧ (zaP (fun z => zdt zaH y z) l 0 = zaP (fun z => zdt zaH y z) (l.drop k) k)) (fun (k : Nat) => l.length - k) (0) ?_ ?_ ?_ ?_
 ·exact ⟨Nat.zero_le _, rfl⟩
 ·exact ⟨rfl, trivial⟩
 ·exact List.Perm.refl _
 ·intro k hinv
  obtain ⟨hk, hg⟩ := hinv
  refine za ?_
  refine dq (zW rfl rfl) ?_
  refine dn ?_
  refine zf ?_
  refine zi rfl (fun h1 => ?_) (fun h2 => ?_)
  ·try simp at h1
   obtain ⟨x, hx⟩ : ∃ x, l[k]? = some x := ⟨_, List.getElem?_eq_getElem h1⟩
   have hdx := zX hx
   rw [hdx] at hg
   refine zl ?_
   refine ze ?_
   refine zf ?_
   refine zn ?_
   refine za ?_
   refine dmv rfl ?_
   refine das rfl ?_
   refine dn ?_
   refine zaM (fun _ => True) [] mixed ?_
   refine ahp 0 rfl rfl (by kernel_rfl) (by kernel_rfl) (zN zbE rfl rfl rfl rfl) ?_
   refine ahp 1 rfl rfl (by kernel_rfl) (by kernel_rfl) (zd rfl) ?_
   refine ahp 2 rfl rfl (by kernel_rfl) (by kernel_rfl) (zd rfl) ?_
   refine ahp 3 rfl rfl (by kernel_rfl) (by kernel_rfl) (zP zhh zbE rfl rfl rfl (by first | assumption | simp_all)) ?_
   refine ahp 4 rfl rfl (by kernel_rfl) (by kernel_rfl) (zN zbE rfl rfl rfl rfl) ?_
   refine ahp 5 rfl rfl (by kernel_rfl) (by kernel_rfl) (zt7 zbE eq56 rfl rfl ⟨rfl, ⟨_, _, _, _, ty9, rfl⟩, ⟨rfl, ⟨_, _, _, _, ty3, rfl⟩, ⟨rfl, ⟨_, _, _, _, ty9, rfl⟩, ⟨rfl, ⟨_, _, _, _, ty3, rfl⟩, ⟨rfl, ⟨_, _, _, _, ty3, rfl⟩, trivial⟩⟩⟩⟩⟩) ?_
   refine ahz (by kernel_rfl) ?_
   refine zi rfl (fun h3 => ?_) (fun h4 => ?_)
   ·try simp at h3
    refine za ?_
    refine dmv rfl ?_
    refine das rfl ?_
    refine dn ?_
    refine zk ?_
    refine zF rfl ?_
    show HVal.int .i64 _ = _
    first | (rw [hg]; rfl) | (rw [hg, zaP, if_pos (show zdt zaH y x = true from h3)])
   ·try simp at h4
    refine zl ?_
    refine zG ?_
    refine ze ?_
    refine zB ?_
    refine dq (zC rfl rfl (by omega) (by omega)) ?_
    refine dmv rfl ?_
    refine dn ?_
    refine ⟨k + 1, ?_, ?_, ⟨rfl, trivial⟩, (by repeat (first | exact zp | refine zt rfl ?_ | refine zq rfl rfl ?_)), List.Perm.refl _⟩
    ·refine ⟨by omega, ?_⟩
     rw [hg, zaP, if_neg (by rw [show zdt zaH y x = false from h4]; simp)]; rfl
    ·dsimp only; omega
  ·try simp at h2
   have hnk : l.length ≤ k := by omega
   obtain rfl : k = l.length := by omega
   rw [zap (Nat.le_refl _)] at hg
   refine zU ?_
   refine z6 ?_
   refine zas ?_
   refine zJ ?_
   refine ze ?_
   refine za ?_
   refine das rfl ?_
   refine dn ?_
   refine zk ?_
   refine zF rfl ?_
   show HVal.int .i64 _ = _
   first | (rw [hg]; rfl) | (rw [hg, zaP, if_pos (show zdt zaH y x = true from h3)])

/-- slices.Contains[[]benchwarmer/api.Turned,benchwarmer/api.Turned] -/
theorem zd4 [Tracks] {l : List TurnedS} {y : TurnedS} (hl : l.length ≤ 1000000) : ConP Tryz.prog 118 [zcN l, zaH y] (.bool (decide (y ∈ l))) := by
 refine Con.of_body Tryz.func118 rfl Tryz.ntmps118 rfl rfl ?_
 refine za ?_
 refine dq (zao rfl rfl) ?_
 refine das rfl ?_
 refine dn ?_
 refine za ?_
 refine dmv rfl ?_
 refine dq (zN zbE rfl rfl rfl rfl) ?_
 refine dq (zj zxP rfl (WeakL.refl _) (zev (by first | assumption | omega | (simp; omega) | simp_all))) ?_
 refine dq (zbW rfl rfl) ?_
 refine das rfl ?_
 refine dn ?_
 refine zk ?_
 refine zF rfl ?_
 show HVal.bool _ = _
 rw [← zsk, ← zdp _ l 0 (by omega)]

end
end Go.Proofs.YtjecenjmphpmfaaGreatDoor
namespace Go.HL
section
theorem zia : ∀ (l m : List UInt8) (acc : Nat), Lib.decFrom acc (l ++ m) = (Lib.decFrom acc l).bind fun a => Lib.decFrom a m
 | [], m, acc => rfl
 | b :: l, m, acc => by
   simp only [List.cons_append, Lib.decFrom]
   cases Lib.digitVal b with
   | none => rfl
   | some d => exact zia l m _
theorem zqp : ∀ d, d < 10 → Lib.digitVal (UInt8.ofNat (48 + d)) = some d ∧ dig (UInt8.ofNat (48 + d)) = true ∧ zeP.contains (UInt8.ofNat (48 + d)) = true := by decide
theorem zwV : ∀ u : Nat, Lib.decFrom 0 (Lib.decDigits u) = some u := fun u => by
 induction u using Nat.strongRecOn with
 | ind u ih =>
   rw [Lib.decDigits]
   by_cases h : u < 10
   ·rw [dif_pos h]
    simp only [Lib.decFrom, (zqp u h).1]; simp
   ·rw [dif_neg h, zia, ih (u / 10) (by omega)]
    simp only [Option.bind_some, Lib.decFrom, (zqp (u % 10) (by omega)).1]
    congr 1; omega
theorem zrN : ∀ (u : Nat) (c : UInt8), c ∈ Lib.decDigits u → ∃ d, d < 10 ∧ c = UInt8.ofNat (48 + d) := fun u => by
 induction u using Nat.strongRecOn with
 | ind u ih =>
   intro c hc
   rw [Lib.decDigits] at hc
   by_cases h : u < 10
   ·rw [dif_pos h] at hc
    exact ⟨u, h, by simpa using hc⟩
   ·rw [dif_neg h] at hc
    rcases List.mem_append.1 hc with hc | hc
    ·exact ih (u / 10) (by omega) c hc
    ·exact ⟨u % 10, by omega, by simpa using hc⟩
theorem zon (u : Nat) : Lib.decDigits u ≠ [] := by
 rw [Lib.decDigits]; split <;> simp
theorem zqN (u : Nat) : ∃ d r, d < 10 ∧ Lib.decDigits u = UInt8.ofNat (48 + d) :: r := by
 cases h : Lib.decDigits u with
 | nil => exact absurd h (zon u)
 | cons c r =>
   obtain ⟨d, hd, e⟩ := zrN u c (by rw [h]; exact List.mem_cons_self)
   exact ⟨d, r, hd, by rw [e]⟩
theorem zse : ∀ d, d < 10 → (UInt8.ofNat (48 + d) == 45) = false ∧ (UInt8.ofNat (48 + d) == 43) = false ∧ UInt8.ofNat (48 + d) ≠ 45 := by decide
theorem zjn : ∀ (k u : Nat), u < 10 ^ (k + 1) → Lib.nDigits u ≤ k + 1
 | 0, u, h => by rw [Lib.nDigits_small (by simpa using h)]; omega
 | k + 1, u, h => by
   by_cases h1 : u < 10
   ·rw [Lib.nDigits_small h1]; omega
   ·rw [Lib.nDigits_big h1]
    have := zjn k (u / 10) (by rw [Nat.pow_succ] at h; omega)
    omega
theorem znR {p : UInt8 → Bool} : ∀ {s : Str}, (∀ c ∈ s, p c = true) → s.dropWhile p = []
 | [], _ => rfl
 | c :: s, h => by
   rw [List.dropWhile_cons, if_pos (h c List.mem_cons_self)]
   exact znR fun x hx => h x (List.mem_cons_of_mem _ hx)
theorem zmn (u : Nat) : zZ (Lib.decDigits u) = Lib.decDigits u := by
 obtain ⟨d, r, hd, e⟩ := zqN u
 rw [e]
 unfold zZ
 split
 ·rename_i heq
  exact absurd (List.cons.inj heq).1 (zse d hd).2.2
 ·rfl
theorem zov {p : UInt8 → Bool} : ∀ {s : Str}, s.dropWhile p = [] → ∀ c ∈ s, p c = true
 | [], _, c, hc => by cases hc
 | x :: s, h, c, hc => by
   rw [List.dropWhile_cons] at h
   split at h
   ·rcases List.mem_cons.1 hc with rfl | hc
    ·assumption
    ·exact zov h c hc
   ·cases h
theorem zn9 {p : UInt8 → Bool} : ∀ {s : Str} (c : UInt8), c ∈ s → p c = true ∨ c ∈ s.dropWhile p
 | x :: s, c, hc => by
   rw [List.dropWhile_cons]
   split
   ·rename_i hx
    rcases List.mem_cons.1 hc with rfl | hc
    ·exact .inl hx
    ·exact zn9 c hc
   ·exact .inr hc
theorem zsE {s : Str} (h : zhm s = []) : ∀ c ∈ s, zeP.contains c = true := fun c hc => by
 unfold zhm at h
 have h1 := zov h
 rcases zn9 (p := (zeP.contains ·)) (s := s.reverse) c (List.mem_reverse.2 hc) with h2 | h2
 ·exact h2
 ·exact h1 c (by unfold zdQ; exact List.mem_reverse.2 h2)
theorem zsQ : ∀ c : UInt8, zeP.contains c = true → ∃ d, Lib.digitVal c = some d := fun c h => by
 have : c.toNat < 256 := c.toNat_lt
 simp only [zeP, List.contains_cons, List.contains_nil, Bool.or_false, Bool.or_eq_true, beq_iff_eq] at h
 rcases h with rfl | rfl | rfl | rfl | rfl | rfl | rfl | rfl | rfl | rfl <;> exact ⟨_, rfl⟩
theorem zj4 : ∀ (l : List UInt8) (acc : Nat), (∀ c ∈ l, zeP.contains c = true) → ∃ n, Lib.decFrom acc l = some n
 | [], acc, _ => ⟨acc, rfl⟩
 | c :: l, acc, h => by
   obtain ⟨d, hd⟩ := zsQ c (h c List.mem_cons_self)
   obtain ⟨n, hn⟩ := zj4 l (acc * 10 + d) fun x hx => h x (List.mem_cons_of_mem _ hx)
   exact ⟨n, by simp only [Lib.decFrom, hd, hn]⟩
end
section
theorem zni {s : Str} {m : Int} (h : (zZ s = [] ∨ m < ((zZ s).length : Int)) ∨ ((((zZ s).head?).getD 0).toNat : Int) = 48 ∧ ((1 : Int) < ((zZ s).length : Int) ∨ (zZ s).length < s.length)) : zcE s m = false := by
 have : zsv s m = true := decide_eq_true h
 simp [zcE, this]
theorem zwo {s : Str} {m : Int} (h : (¬ zZ s = [] ∧ ((zZ s).length : Int) ≤ m) ∧ (((((zZ s).head?).getD 0).toNat : Int) = 48 → ((zZ s).length : Int) ≤ 1 ∧ s.length ≤ (zZ s).length)) : zsv s m = false := by
 refine decide_eq_false ?_
 rintro ((a | a) | ⟨a, b⟩)
 ·exact h.1.1 a
 ·omega
 ·have := h.2 a; omega
set_option maxRecDepth 100000 in
theorem zkF : ∀ c : UInt8, dig c = zeP.contains c := fun c => by
 have : ∀ n, n < 256 → dig (UInt8.ofNat n) = zeP.contains (UInt8.ofNat n) := by decide
 have h := this c.toNat c.toNat_lt
 simpa using h
theorem zke : ∀ c : UInt8, dig c = true → ∃ d, d < 10 ∧ Lib.digitVal c = some d ∧ c = UInt8.ofNat (48 + d) := fun c h => by
 simp only [dig, Bool.and_eq_true, decide_eq_true_eq] at h
 refine ⟨c.toNat - 48, by omega, by unfold Lib.digitVal; rw [if_pos h], ?_⟩
 rw [show 48 + (c.toNat - 48) = c.toNat by omega]; simp
theorem zjF {u : Nat} (h : 10 ≤ u) : Lib.decDigits u = Lib.decDigits (u / 10) ++ [UInt8.ofNat (48 + u % 10)] := by
 rw [Lib.decDigits, dif_neg (by omega)]
theorem zfv {u : Nat} (h : u < 10) : Lib.decDigits u = [UInt8.ofNat (48 + u)] := by
 rw [Lib.decDigits, dif_pos h]
/-- Digits without a nought ahead are the numeral of what they spell. -/
theorem zos : ∀ (n : Nat) (t : Str), t.length = n + 1 → (∀ c ∈ t, dig c = true) → (t.length = 1 ∨ (t.head?).getD 0 ≠ 48) → ∃ v, Lib.decFrom 0 t = some v ∧ Lib.decDigits v = t ∧ ((t.head?).getD 0 ≠ 48 → 1 ≤ v)
 | 0, t, hl, hd, _ => by
   match t, hl with
   | [c], _ =>
     obtain ⟨d, hd1, hd2, hd3⟩ := zke c (hd c (by simp))
     refine ⟨d, by simp [Lib.decFrom, hd2], by rw [zfv hd1, hd3], fun h => ?_⟩
     rcases Nat.eq_zero_or_pos d with h0 | h0
     ·subst h0; exact absurd (by simp [hd3]) h
     ·exact h0
 | n + 1, t, hl, hd, hc => by
   obtain ⟨t', c, rfl⟩ : ∃ t' c, t = t' ++ [c] := by
    rcases List.eq_nil_or_concat t with h | ⟨t', c, h⟩
    ·subst h; simp at hl
    ·exact ⟨t', c, by simpa using h⟩
   simp only [List.length_append, List.length_cons, List.length_nil] at hl hc
   have hne : t' ≠ [] := by rintro rfl; simp at hl
   have hhd : ((t' ++ [c]).head?).getD 0 = (t'.head?).getD 0 := by
    cases t' with
    | nil => exact absurd rfl hne
    | cons a r => rfl
   rw [hhd] at hc ⊢
   have hc' : (t'.head?).getD 0 ≠ 48 := by
    rcases hc with h | h
    ·omega
    ·exact h
   obtain ⟨v, h1, h2, h3⟩ := zos n t' (by omega) (fun x hx => hd x (List.mem_append_left _ hx)) (.inr hc')
   have hv := h3 hc'
   obtain ⟨d, hd1, hd2, hd3⟩ := zke c (hd c (by simp))
   refine ⟨v * 10 + d, ?_, ?_, fun _ => by omega⟩
   ·rw [zia, h1]; simp [Lib.decFrom, hd2]
   ·rw [zjF (by omega), show (v * 10 + d) / 10 = v by omega, show (v * 10 + d) % 10 = d by omega, h2, ← hd3]
theorem zyg {t : Str} (h0 : t ≠ []) (hd : ∀ c ∈ t, dig c = true) (hc : t.length = 1 ∨ (t.head?).getD 0 ≠ 48) : ∃ v, Lib.decFrom 0 t = some v ∧ Lib.decDigits v = t ∧ ((t.head?).getD 0 ≠ 48 → 1 ≤ v) := by
 obtain ⟨n, hn⟩ : ∃ n, t.length = n + 1 := ⟨t.length - 1, by have := List.length_pos_iff.2 h0; omega⟩
 exact zos n t hn hd hc
theorem ztU : ∀ u : Nat, ((Lib.decDigits u).head?).getD 0 = 48 → u = 0 := fun u => by
 induction u using Nat.strongRecOn with
 | ind u ih =>
   intro h
   by_cases hu : u < 10
   ·rw [zfv hu] at h
    have : ∀ d, d < 10 → (UInt8.ofNat (48 + d)) = 48 → d = 0 := by decide
    exact this u hu (by simpa using h)
   ·rw [zjF (by omega)] at h
    have h2 : ((Lib.decDigits (u / 10)).head?).getD 0 = 48 := by
     cases hq : Lib.decDigits (u / 10) with
     | nil => exact absurd hq (zon _)
     | cons a r => rw [hq] at h; simpa using h
    have := ih (u / 10) (by omega) h2
    omega
theorem zpL (t : Str) : (((t.head?).getD 0).toNat : Int) = 48 ↔ (t.head?).getD 0 = 48 := by
 constructor
 ·intro h
  have h' : ((t.head?).getD 0).toNat = 48 := by omega
  exact UInt8.toNat_inj.1 (h'.trans rfl)
 ·intro h; rw [h]; rfl
theorem zfV (s : Str) : (∃ r, s = 45 :: r ∧ zZ s = r) ∨ ((∀ r, s ≠ 45 :: r) ∧ zZ s = s) := by
 cases s with
 | nil => exact .inr ⟨fun r h => (by cases h), rfl⟩
 | cons b r =>
   by_cases hb : b = 45
   ·subst hb; exact .inl ⟨r, rfl, rfl⟩
   ·refine .inr ⟨fun r' h => hb (List.cons.inj h).1, ?_⟩
    unfold zZ; split
    ·rename_i heq; exact absurd (List.cons.inj heq).1 hb
    ·rfl
theorem zqX : dig 45 = false ∧ dig 43 = false := by decide
theorem zp7 {s : Str} {v : Nat} (h0 : s ≠ []) (hd : ∀ c ∈ s, dig c = true) (hv : Lib.decFrom 0 s = some v) : Lib.atoi s = some (v : Int) := by
 cases s with
 | nil => exact absurd rfl h0
 | cons b r =>
   have hb := hd b List.mem_cons_self
   have e1 : (b == 45) = false := by rw [beq_eq_false_iff_ne]; rintro rfl; rw [zqX.1] at hb; cases hb
   have e2 : (b == 43) = false := by rw [beq_eq_false_iff_ne]; rintro rfl; rw [zqX.2] at hb; cases hb
   simp [Lib.atoi, e1, e2, Lib.decNat, hv]
theorem zmP {r : Str} {v : Nat} (h0 : r ≠ []) (hv : Lib.decFrom 0 r = some v) : Lib.atoi (45 :: r) = some (-(v : Int)) := by
 have : r.isEmpty = false := by cases r with
  | nil => exact absurd rfl h0
  | cons _ _ => rfl
 simp [Lib.atoi, Lib.decNat, hv, this]
/-- What is taken for a number strictly is its own numeral. -/
theorem zmv {s : Str} {m : Int} (h : zcE s m = true) : (zZ s ≠ [] ∧ ((zZ s).length : Int) ≤ m ∧ ∀ c ∈ zZ s, dig c = true) ∧ (Lib.atoi s).isSome = true ∧ Lib.itoa (zdr s) = s := by
 unfold zcE at h
 rw [Bool.and_eq_true, Bool.not_eq_true'] at h
 obtain ⟨h1, h2⟩ := h
 have hd : ∀ c ∈ zZ s, dig c = true := List.all_eq_true.1 h2
 have h3 := of_decide_eq_false h1
 simp only [not_or, not_and] at h3
 obtain ⟨⟨h4, h5⟩, h6⟩ := h3
 rw [zpL] at h6
 have hc : (zZ s).length = 1 ∨ ((zZ s).head?).getD 0 ≠ 48 := by
  by_cases e : ((zZ s).head?).getD 0 = 48
  ·have := h6 e
   have hp := List.length_pos_iff.2 h4
   left; omega
  ·exact .inr e
 obtain ⟨v, v1, v2, v3⟩ := zyg h4 hd hc
 refine ⟨⟨h4, by omega, hd⟩, ?_⟩
 rcases zfV s with ⟨r, rfl, hr⟩ | ⟨_, hr⟩
 ·rw [hr] at h4 h6 v1 v2 v3
  have ha := zmP h4 v1
  have hne : (r.head?).getD 0 ≠ 48 := fun e => by have := h6 e; simp at this
  refine ⟨by rw [ha]; rfl, ?_⟩
  unfold zdr
  rw [ha]
  show Lib.itoa (-(v : Int)) = _
  rw [Lib.itoa_neg v (v3 hne), v2]
 ·rw [hr] at h4 hd v1 v2
  have ha := zp7 h4 hd v1
  refine ⟨by rw [ha]; rfl, ?_⟩
  unfold zdr
  rw [ha]
  show Lib.itoa (v : Int) = _
  rw [Lib.itoa_nonneg, v2]
theorem ztS {s : Str} {m : Int} (h1 : zZ s ≠ []) (h2 : ((zZ s).length : Int) ≤ m) (h3 : ∀ c ∈ zZ s, dig c = true) : zfb s m = false := by
 unfold zfb
 have hp := List.length_pos_iff.2 h1
 rw [Bool.or_eq_false_iff]
 constructor
 ·simp [out]; omega
 ·have h : ∀ c ∈ zZ s, zeP.contains c = true := fun c hc => by rw [← zkF]; exact h3 c hc
  unfold zhm zdQ
  rw [znR (s := (zZ s).reverse) fun c hc => h c (List.mem_reverse.1 hc)]
  rfl
theorem zq0 {s : Str} {m : Int} (h : zfb s m = false) : zZ s ≠ [] ∧ ((zZ s).length : Int) ≤ m ∧ ∀ c ∈ zZ s, dig c = true := by
 unfold zfb at h
 rw [Bool.or_eq_false_iff] at h
 obtain ⟨h1, h2⟩ := h
 have h1 := zdw h1
 have h3 := zsE (by simpa using h2)
 refine ⟨fun e => by rw [e] at h1; simp at h1, h1.2, fun c hc => by rw [zkF]; exact h3 c hc⟩
/-- Both ways to read a number say the same. -/
theorem zrd (s : Str) (m : Int) : zcE s m = zfK s m ∧ (zcE s m = true → zh3 s m = zdr s ∧ zT s m = zdr s) := by
 cases hn : zcE s m with
 | true =>
   obtain ⟨⟨a1, a2, a3⟩, _, a4⟩ := zmv hn
   have hc := ztS (m := m) a1 a2 a3
   exact ⟨by simp [zfK, hc, a4], fun _ => ⟨by simp [zh3, hc], by simp [zT, hn]⟩⟩
 | false =>
   refine ⟨?_, fun h => by cases h⟩
   cases hc : zfb s m with
   | true => simp [zfK, hc]
   | false =>
     obtain ⟨a1, a2, a3⟩ := zq0 hc
     have hall : (zZ s).all dig = true := List.all_eq_true.2 a3
     have hC : zsv s m = true := by
      unfold zcE at hn
      rw [hall, Bool.and_true, Bool.not_eq_false'] at hn
      exact hn
     have h48 := of_decide_eq_true hC
     rw [zpL] at h48
     have h48' : ((zZ s).head?).getD 0 = 48 ∧ ((1 : Int) < ((zZ s).length : Int) ∨ (zZ s).length < s.length) := by
      rcases h48 with (h | h) | h
      ·exact absurd h a1
      ·omega
      ·exact h
     have : Lib.itoa (zdr s) ≠ s := by
      intro e
      rcases Int.lt_or_le (zdr s) 0 with hneg | hpos
      ·obtain ⟨u, hu⟩ : ∃ u : Nat, zdr s = -(u : Int) := ⟨(zdr s).natAbs, by omega⟩
       rw [hu, Lib.itoa_neg u (by omega)] at e
       have hcut : zZ s = Lib.decDigits u := by rw [← e]; rfl
       rw [hcut] at h48'
       have := ztU u h48'.1
       omega
      ·obtain ⟨u, hu⟩ : ∃ u : Nat, zdr s = (u : Int) := ⟨(zdr s).toNat, by omega⟩
       rw [hu, Lib.itoa_nonneg] at e
       have hcut : zZ s = Lib.decDigits u := by rw [← e]; exact zmn u
       rw [hcut, ← e] at h48'
       have := ztU u h48'.1
       subst this
       have hl : (Lib.decDigits 0).length = 1 := by rw [zfv (by omega)]; rfl
       omega
     simp [zfK, this]
/-- What is taken for a number is read, and is not great. -/
theorem zpd {s : Str} {m : Int} (hm : m ≤ 17) (h : zfb s m = false) : (Lib.atoi s).isSome = true ∧ s.length ≤ 18 ∧ -1000000000000000000 < zdr s ∧ zdr s < 1000000000000000000 := by
 obtain ⟨a1, a2, a3⟩ := zq0 h
 have a4 : ∀ c ∈ zZ s, zeP.contains c = true := fun c hc => by rw [← zkF]; exact a3 c hc
 obtain ⟨n, hn⟩ := zj4 (zZ s) 0 a4
 have hl : s.length ≤ 18 := by
  have : s.length ≤ (zZ s).length + 1 := by
   unfold zZ; split <;> simp
  omega
 have hs : ∃ z, Lib.atoi s = some z := by
  rcases zfV s with ⟨r, rfl, hr⟩ | ⟨_, hr⟩
  ·rw [hr] at a1 hn; exact ⟨_, zmP a1 hn⟩
  ·rw [hr] at a1 a3 hn; exact ⟨_, zp7 a1 a3 hn⟩
 obtain ⟨z, hz⟩ := hs
 refine ⟨by rw [hz]; rfl, hl, ?_⟩
 have := Lib.atoi_bound hz hl
 unfold zdr; rw [hz]; exact this
theorem zsM {s : Str} {m : Int} (h : zcE s m = true) : zfb s m = false := by
 obtain ⟨⟨a1, a2, a3⟩, _, _⟩ := zmv h
 exact ztS a1 a2 a3
end
section
open Go
/-- The pieces of a string between the places where a byte stands. -/
def spl (c : UInt8) : Str → List Str
 | [] => [[]]
 | b :: l => if b = c then [] :: spl c l else match spl c l with
   | [] => [[b]]
   | x :: r => (b :: x) :: r
theorem ziE (c : UInt8) (s : Str) : spl c s ≠ [] := by
 cases s with
 | nil => simp [spl]
 | cons b l =>
   simp only [spl]
   split
   ·simp
   ·split <;> simp
theorem zfY {c : UInt8} (s : Str) : ∃ x r, spl c s = x :: r := by
 cases h : spl c s with
 | nil => exact absurd h (ziE c s)
 | cons x r => exact ⟨x, r, rfl⟩
theorem ziQ (c : UInt8) (l : Str) : spl c (c :: l) = [] :: spl c l := by simp [spl]
theorem zc0 {b c : UInt8} (h : b ≠ c) {l x : Str} {r : List Str} (hl : spl c l = x :: r) : spl c (b :: l) = (b :: x) :: r := by
 simp only [spl, h, if_false, hl]
theorem zeM (c : UInt8) : ∀ s : Str, (spl c s).length = s.count c + 1
 | [] => rfl
 | b :: l => by
   have ih := zeM c l
   by_cases h : b = c
   ·subst h; rw [ziQ, List.count_cons_self]; simp [ih]
   ·obtain ⟨x, r, hx⟩ := zfY (c := c) l
    rw [zc0 h hx, List.count_cons_of_ne h, ← ih, hx]; simp
theorem ztj {s : Str} {c : UInt8} (h : 0 < s.count c) : ∃ i : Nat, Lib.index s [c] = i := by
 rcases Int.lt_or_le (Lib.index s [c]) 0 with h' | h'
 ·have h1 : Lib.index s [c] = -1 := by have := Lib.index_ge s [c]; omega
  have := Lib.count_miss h1
  rw [Lib.count_one] at this
  omega
 ·exact ⟨_, (Int.toNat_of_nonneg h').symm⟩
theorem zmA (c : UInt8) (l : Str) : Lib.index (c :: l) [c] = 0 := by simp [Lib.index]
theorem zmB {b c : UInt8} (h : b ≠ c) (l : Str) {i : Nat} (hi : Lib.index l [c] = i) : Lib.index (b :: l) [c] = ((i + 1 : Nat) : Int) := by
 have h1 : ([c] : Str).isPrefixOf (b :: l) = false := by simp [List.isPrefixOf, Ne.symm h]
 unfold Lib.index
 rw [h1, hi]
 have h2 : ((i : Int) == -1) = false := by simp
 rw [h2]; simp
theorem zmD (c : UInt8) : ∀ s : Str, Lib.splitK [c] 0 (s.count c) s = spl c s
 | [] => rfl
 | b :: l => by
   have ih := zmD c l
   by_cases h : b = c
   ·subst h
    rw [ziQ, List.count_cons_self, ← ih]
    simp only [Lib.splitK, zmA]
    simp
   ·rw [List.count_cons_of_ne h]
    cases hk : l.count c with
    | zero =>
      rw [hk] at ih
      have h1 : spl c l = [l] := ih.symm
      rw [zc0 h h1]; rfl
    | succ k =>
      obtain ⟨i, hi⟩ := ztj (s := l) (c := c) (by omega)
      have h0 := zmB h l hi
      rw [hk] at ih
      have e1 : Lib.splitK [c] 0 (k + 1) l = l.take i :: Lib.splitK [c] 0 k (l.drop (i + 1)) := by
       simp only [Lib.splitK, hi]
       have h2 : ((i : Int) == -1) = false := by simp
       rw [h2]; simp
      have e2 : Lib.splitK [c] 0 (k + 1) (b :: l) = (b :: l.take i) :: Lib.splitK [c] 0 k (l.drop (i + 1)) := by
       simp only [Lib.splitK, h0]
       have h2 : (((i + 1 : Nat) : Int) == -1) = false := by simp; omega
       rw [h2]; simp
      rw [e1] at ih
      rw [e2, zc0 h ih.symm]
theorem zs8 (s : Str) (c : UInt8) : (Lib.splitB ⟨#[c]⟩ 0 (Lib.countB ⟨s.toArray⟩ ⟨#[c]⟩) ⟨s.toArray⟩).map (·.data.toList) = spl c s := by
 rw [Lib.splitB_data]
 have : Lib.countB ⟨s.toArray⟩ ⟨#[c]⟩ = s.count c := Lib.count_one c s
 rw [this]
 exact zmD c s
/-- Cut at a byte. -/
def za3 (c : UInt8) : Str → Str × Str × Bool
 | [] => ([], [], false)
 | b :: l => if b = c then ([], l, true) else (b :: (za3 c l).1, (za3 c l).2.1, (za3 c l).2.2)
theorem zp0 (c : UInt8) : ∀ s : Str, Lib.cut s [c] = za3 c s
 | [] => by simp [Lib.cut, za3, Lib.index]
 | b :: l => by
   have ih := zp0 c l
   by_cases h : b = c
   ·subst h; simp [Lib.cut, za3, zmA]
   ·simp only [za3, h, if_false, ← ih]
    rcases Int.lt_or_le (Lib.index l [c]) 0 with h' | h'
    ·have h1 : Lib.index l [c] = -1 := by have := Lib.index_ge l [c]; omega
     have h2 : ([c] : Str).isPrefixOf (b :: l) = false := by simp [List.isPrefixOf, Ne.symm h]
     have h3 : Lib.index (b :: l) [c] = -1 := by unfold Lib.index; rw [h2, h1]; rfl
     simp only [Lib.cut, h1, h3]
     rfl
    ·obtain ⟨i, hi⟩ : ∃ i : Nat, Lib.index l [c] = i := ⟨_, (Int.toNat_of_nonneg h').symm⟩
     have h3 := zmB h l hi
     simp only [Lib.cut, hi, h3]
     rw [if_pos (by omega), if_pos (by omega)]
     simp
theorem zmb (c : UInt8) : ∀ s : Str, (za3 c s).2.2 = true → spl c s = (za3 c s).1 :: spl c (za3 c s).2.1
 | [], h => by simp [za3] at h
 | b :: l, h => by
   by_cases hb : b = c
   ·subst hb; simp [spl, za3]
   ·simp only [za3, hb, if_false] at h ⊢
    exact zc0 hb (zmb c l h)
theorem zrl (c : UInt8) : ∀ s : Str, (za3 c s).2.2 = false → spl c s = [s]
 | [], _ => rfl
 | b :: l, h => by
   by_cases hb : b = c
   ·subst hb; simp [za3] at h
   ·simp only [za3, hb, if_false] at h
    exact zc0 hb (zrl c l h)
theorem zpU (c : UInt8) : ∀ s : Str, (za3 c s).1.length ≤ s.length ∧ (za3 c s).2.1.length ≤ s.length ∧ ((za3 c s).2.2 = true → (za3 c s).2.1.length < s.length)
 | [] => by simp [za3]
 | b :: l => by
   have ih := zpU c l
   by_cases hb : b = c
   ·subst hb; simp [za3]
   ·simp only [za3, hb, if_false, List.length_cons]
    exact ⟨by omega, by omega, fun h => by have := ih.2.2 h; omega⟩
theorem zgg (c : UInt8) : ∀ (s : Str), ∀ x ∈ spl c s, x.length ≤ s.length
 | [], x, hx => by simp [spl] at hx; subst hx; simp
 | b :: l, x, hx => by
   have ih := zgg c l
   by_cases hb : b = c
   ·subst hb
    rw [ziQ] at hx
    rcases List.mem_cons.1 hx with rfl | hx
    ·simp
    ·have := ih x hx; simp only [List.length_cons]; omega
   ·obtain ⟨y, r, hy⟩ := zfY (c := c) l
    rw [zc0 hb hy] at hx
    rcases List.mem_cons.1 hx with rfl | hx
    ·have := ih y (by rw [hy]; simp); simp only [List.length_cons]; omega
    ·have := ih x (by rw [hy]; simp [hx]); simp only [List.length_cons]; omega
/-- Pieces with the byte between. -/
def jn (c : UInt8) : List Str → Str
 | [] => []
 | [x] => x
 | x :: r => x ++ c :: jn c r
theorem zwn {c : UInt8} {x : Str} {r : List Str} (h : r ≠ []) : jn c (x :: r) = x ++ c :: jn c r := by
 cases r with
 | nil => exact absurd rfl h
 | cons y r => rfl
theorem znj (c : UInt8) : ∀ l : List Str, Lib.join l [c] = jn c l
 | [] => rfl
 | [x] => Lib.join_one x [c]
 | x :: y :: r => by
   rw [zwn (by simp), ← znj c (y :: r), Lib.join_cons, Lib.join_cons]
   simp [Lib.joinTail]
end
section
def zcn (line : Str) (many : Int) : Bool := decide (((spl 32 line).length : Int) = many) && (spl 32 line).all (fun w => !w.isEmpty)
def zeE (line : Str) (many : Int) : List Str := if zcn line many then spl 32 line else []
theorem zlY {line : Str} {many : Int} (h : ((spl 32 line).length : Int) ≠ many) : zcn line many = false := by simp [zcn, h]
theorem zmc {line : Str} {many : Int} (h : (spl 32 line).all (fun w => !w.isEmpty) = false) : zcn line many = false := by simp [zcn, h]
theorem zma {line : Str} {many : Int} (h0 : ((spl 32 line).length : Int) = many) (h : (spl 32 line).all (fun w => !w.isEmpty) = true) : zcn line many = true := by simp [zcn, h0, h]
theorem zlL {x : Str} {r : List Str} (h : x = []) : (x :: r).all (fun w => !w.isEmpty) = false := by subst h; rfl
def zbJ (text : Str) : List Str := if text = [] then [] else spl 10 (Lib.trimSuffix text [10])
def zeg (text : Str) : Bool := if text = [] then true else Lib.hasSuffix text [10]
/-- The lines that a line feed ends. -/
def lns (text : Str) : List Str := (spl 10 text).dropLast
def goL (ok : Str → Bool) : Nat → List Str → Int × Bool
 | _, [] => (0, true)
 | k, [s] => if s = [] then (0, true) else ((k : Int), false)
 | k, s :: t :: r => if ok s then goL ok (k + 1) (t :: r) else ((k : Int), false)
def zei (ok : Str → Bool) (ends : Bool) (n : Nat) : Nat → List Str → Int × Bool
 | _, [] => (0, true)
 | k, s :: r => if (!ends && decide ((k : Int) = (n : Int) - 1)) || !(ok s) then ((k : Int), false) else zei ok ends n (k + 1) r
theorem zr1 (ok : Str → Bool) (ends : Bool) (n k : Nat) (s : Str) (r : List Str) : zei ok ends n k (s :: r) = if (!ends && decide ((k : Int) = (n : Int) - 1)) || !(ok s) then ((k : Int), false) else zei ok ends n (k + 1) r := rfl
theorem zd6 {t : Str} : Lib.hasSuffix t [10] = true ↔ ∃ body, t = body ++ [10] := by
 unfold Lib.hasSuffix
 rw [List.isSuffixOf_iff_suffix]
 constructor
 ·rintro ⟨b, h⟩; exact ⟨b, h.symm⟩
 ·rintro ⟨b, h⟩; exact ⟨b, h.symm⟩
theorem znq (body : Str) : Lib.trimSuffix (body ++ [10]) [10] = body := by
 have : Lib.hasSuffix (body ++ [10]) [10] = true := zd6.2 ⟨_, rfl⟩
 unfold Lib.trimSuffix
 rw [if_pos this]
 simp
theorem zoB {t : Str} (h : Lib.hasSuffix t [10] = false) : Lib.trimSuffix t [10] = t := by
 unfold Lib.trimSuffix
 rw [if_neg (by simp [h])]
theorem zlx (c : UInt8) : ∀ b : Str, spl c (b ++ [c]) = spl c b ++ [[]]
 | [] => by simp [spl]
 | x :: b => by
   by_cases h : x = c
   ·subst h; rw [List.cons_append, ziQ, ziQ, zlx x b]; rfl
   ·obtain ⟨y, r, hy⟩ := zfY (c := c) b
    have h2 := zlx c b
    rw [hy] at h2
    rw [List.cons_append, zc0 h hy, zc0 h (x := y) (r := r ++ [[]]) (by rw [h2]; rfl)]
    rfl
theorem zqh (c : UInt8) : ∀ b : Str, (∀ t, b ≠ t ++ [c]) → b ≠ [] → (spl c b).getLast (ziE c b) ≠ []
 | [], _, h => absurd rfl h
 | x :: b, h, _ => by
   by_cases hb : b = []
   ·subst hb
    have : x ≠ c := fun e => h [] (by simp [e])
    have h2 : spl c [x] = [[x]] := zc0 this rfl
    simp [h2]
   ·have ih := zqh c b (fun t e => h (x :: t) (by rw [e]; rfl)) hb
    by_cases hx : x = c
    ·subst hx
     have h2 := ziQ x b
     simp only [h2]
     rw [List.getLast_cons (ziE x b)]; exact ih
    ·obtain ⟨y, r, hy⟩ := zfY (c := c) b
     have h2 := zc0 hx hy
     simp only [h2]
     cases r with
     | nil => simp
     | cons z r =>
       simp only [hy] at ih
       rw [List.getLast_cons (by simp)] at ih ⊢
       exact ih
theorem zj6 {text : Str} (h0 : text ≠ []) (h : zeg text = true) : zeg text = Lib.hasSuffix text [10] ∧ spl 10 text = zbJ text ++ [[]] ∧ lns text = zbJ text := by
 have e : zeg text = Lib.hasSuffix text [10] := by unfold zeg; rw [if_neg h0]
 obtain ⟨body, rfl⟩ := zd6.1 (e ▸ h)
 have h1 : zbJ (body ++ [10]) = spl 10 body := by unfold zbJ; rw [if_neg h0, znq]
 have h2 := zlx 10 body
 refine ⟨e, by rw [h2, h1], ?_⟩
 unfold lns; rw [h2, h1]; simp
theorem zkw {text : Str} (h : zeg text = false) : text ≠ [] ∧ zbJ text = spl 10 text ∧ (zbJ text).getLast? ≠ some [] := by
 have h0 : text ≠ [] := by rintro rfl; simp [zeg] at h
 have e : Lib.hasSuffix text [10] = false := by unfold zeg at h; rw [if_neg h0] at h; exact h
 have h1 : zbJ text = spl 10 text := by unfold zbJ; rw [if_neg h0, zoB e]
 refine ⟨h0, h1, ?_⟩
 rw [h1, List.getLast?_eq_some_getLast (ziE 10 text)]
 have := zqh 10 text (fun t et => by rw [zd6.2 ⟨t, et⟩] at e; cases e) h0
 intro hh; exact this (Option.some.inj hh)
theorem zmy (ok : Str → Bool) (n : Nat) : ∀ (l : List Str) (k : Nat), zei ok true n k l = goL ok k (l ++ [[]])
 | [], k => by simp [zei, goL]
 | s :: r, k => by
   have ih := zmy ok n r (k + 1)
   obtain ⟨t, q, hq⟩ : ∃ t q, r ++ [[]] = t :: q := by
    cases r with
    | nil => exact ⟨[], [], rfl⟩
    | cons a b => exact ⟨a, b ++ [[]], rfl⟩
   rw [List.cons_append, hq]
   rw [hq] at ih
   simp only [zei, goL, Bool.not_true, Bool.false_and, Bool.false_or, ih]
   cases ok s <;> simp
theorem zmq (ok : Str → Bool) (n : Nat) : ∀ (l : List Str) (k : Nat), l ≠ [] → n = k + l.length → l.getLast? ≠ some [] → zei ok false n k l = goL ok k l
 | [], k, h, _, _ => absurd rfl h
 | [s], k, _, hn, hl => by
   have : s ≠ [] := fun e => hl (by simp [e])
   simp only [List.length_cons, List.length_nil] at hn
   have h2 : decide ((k : Int) = (n : Int) - 1) = true := decide_eq_true (by omega)
   simp [zei, goL, this, h2]
 | s :: t :: r, k, _, hn, hl => by
   simp only [List.length_cons] at hn
   have ih := zmq ok n (t :: r) (k + 1) (by simp) (by simp only [List.length_cons]; omega) (by simpa using hl)
   have h2 : decide ((k : Int) = (n : Int) - 1) = false := decide_eq_false (by omega)
   rw [zei, goL, h2, ih]
   cases ok s <;> simp
theorem zn6 (ok : Str → Bool) (text : Str) : zei ok (zeg text) (zbJ text).length 0 (zbJ text) = goL ok 0 (spl 10 text) := by
 by_cases h0 : text = []
 ·subst h0; simp [zbJ, zei, goL, spl]
 ·cases he : zeg text with
  | true =>
    obtain ⟨_, h1, _⟩ := zj6 h0 he
    rw [h1]; exact zmy ok _ _ _
  | false =>
    obtain ⟨_, h1, h2⟩ := zkw he
    rw [zmq ok _ _ _ (by rw [h1]; exact ziE 10 text) (by omega) h2, h1]
/-- All lines were taken: the text ends with a line feed. -/
theorem zmi {ok : Str → Bool} {text : Str} (h : (goL ok 0 (spl 10 text)).2 = true) : lns text = zbJ text := by
 by_cases h0 : text = []
 ·subst h0; rfl
 ·cases he : zeg text with
  | true => exact (zj6 h0 he).2.2
  | false =>
    exfalso
    rw [← zn6] at h
    obtain ⟨_, h1, h2⟩ := zkw he
    rw [he] at h
    have key : ∀ (l : List Str) (k : Nat), l ≠ [] → (zbJ text).length = k + l.length → (zei ok false (zbJ text).length k l).2 = false := by
     intro l
     induction l with
     | nil => intro k h; exact absurd rfl h
     | cons s r ih =>
       intro k _ hn
       simp only [List.length_cons] at hn
       simp only [zei]
       by_cases hr : r = []
       ·subst hr
        simp only [List.length_nil] at hn
        have : decide ((k : Int) = ((zbJ text).length : Int) - 1) = true := decide_eq_true (by omega)
        rw [this]; rfl
       ·split
        ·rfl
        ·exact ih (k + 1) hr (by omega)
    rw [key _ 0 (by rw [h1]; exact ziE 10 text) (by omega)] at h
    cases h
theorem zny (text : Str) : (Lib.trimSuffix text [10]).length ≤ text.length := by unfold Lib.trimSuffix; split <;> simp
theorem ztO (text : Str) : (zbJ text).length ≤ text.length := by
 by_cases h0 : text = []
 ·subst h0; simp [zbJ]
 ·cases he : zeg text with
  | true =>
    obtain ⟨e, h1, _⟩ := zj6 h0 he
    obtain ⟨body, hb⟩ := zd6.1 (e ▸ he)
    have h2 := zeM 10 text
    rw [h1] at h2
    have h3 := List.count_le_length (a := (10 : UInt8)) (l := text)
    simp at h2; omega
  | false =>
    obtain ⟨_, h1, _⟩ := zkw he
    have e : Lib.hasSuffix text [10] = false := by unfold zeg at he; rw [if_neg h0] at he; exact he
    rw [h1, zeM]
    have h4 : text.count 10 ≤ text.length := List.count_le_length
    rcases Nat.lt_or_ge (text.count 10) text.length with h | h
    ·omega
    ·exfalso
     have hall : ∀ c ∈ text, c = 10 := fun c hc => (List.count_eq_length.1 (by omega : text.count 10 = text.length) c hc).symm
     rcases List.eq_nil_or_concat text with h5 | ⟨t', c, h5⟩
     ·exact h0 h5
     ·have : c = 10 := hall c (by rw [h5]; simp)
      subst this
      have h6 : text = t' ++ [10] := by rw [h5]; simp
      rw [zd6.2 ⟨t', h6⟩] at e; cases e
theorem zua {text : Str} : ∀ x ∈ zbJ text, x.length ≤ text.length := fun x hx => by
 unfold zbJ at hx
 split at hx
 ·cases hx
 ·exact Nat.le_trans (zgg 10 _ x hx) (zny text)
/-- The step of the reference. -/
theorem zrk {ok : Str → Bool} {k : Nat} {t : Str} (h0 : t ≠ []) (hc : (za3 10 t).2.2 = true) : goL ok k (spl 10 t) = if ok (za3 10 t).1 then goL ok (k + 1) (spl 10 (za3 10 t).2.1) else ((k : Int), false) := by
 rw [zmb 10 t hc]
 obtain ⟨x, r, hx⟩ := zfY (c := 10) (za3 10 t).2.1
 rw [hx]; rfl
theorem zwN {ok : Str → Bool} {k : Nat} {t : Str} (h0 : t ≠ []) (hc : (za3 10 t).2.2 = false) : goL ok k (spl 10 t) = ((k : Int), false) := by
 rw [zrl 10 t hc]; simp [goL, h0]
theorem zva {ok : Str → Bool} {k : Nat} {t : Str} (h0 : t ≠ []) (h : (za3 10 t).2.2 = true → ok (za3 10 t).1 = false) : goL ok k (spl 10 t) = ((k : Int), false) := by
 cases hc : (za3 10 t).2.2 with
 | true => rw [zrk h0 hc, h hc]; rfl
 | false => exact zwN h0 hc
theorem zwr {t : Str} (hc : (za3 10 t).2.2 = true) : lns t = (za3 10 t).1 :: lns (za3 10 t).2.1 := by
 unfold lns
 rw [zmb 10 t hc]
 obtain ⟨x, r, hx⟩ := zfY (c := 10) (za3 10 t).2.1
 rw [hx]; rfl
end
section
def zdz (w : List Str) (m : Int) : Bool := w.all (zfK · m)
def ziZ (w : List Str) (m : Int) : List Int := if zdz w m then w.map (zh3 · m) else []
theorem zrE (s : Str) (w : List Str) (m : Int) : zdz (s :: w) m = (zfK s m && zdz w m) := rfl
end
section
theorem zjv {s : Str} (h : key s = true) : s.length ≤ 40 := by
 unfold key zgO at h
 simp only [Bool.and_eq_true, decide_eq_true_eq] at h
 exact h.1.1.1.2
theorem zfP {n : Int} (h0 : 0 ≤ n) (h : n < 10000000000000) : (Lib.itoa n).length ≤ 13 := by
 obtain ⟨u, rfl⟩ : ∃ u : Nat, n = (u : Int) := ⟨n.toNat, by omega⟩
 rw [Lib.itoa_nonneg, Lib.decDigits_length]; exact zjn 12 u (by omega)
theorem zql (line : Str) : zcn line ((line.count 32 : Nat) + 1 : Int) = (spl 32 line).all (fun w => !w.isEmpty) := by
 unfold zcn; rw [zeM]; simp
theorem contains_nil (l : List Str) : l.contains [] = !(l.all fun w => !w.isEmpty) := by
 induction l with
 | nil => rfl
 | cons x r ih =>
   rw [List.contains_cons, ih, List.all_cons]
   cases x <;> simp
end
section

end
section
theorem zsj (n : Int) : (∃ u : Nat, n = (u : Int) ∧ Lib.itoa n = Lib.decDigits u ∧ zZ (Lib.itoa n) = Lib.decDigits u) ∨ (∃ u : Nat, 1 ≤ u ∧ n = -(u : Int) ∧ Lib.itoa n = 45 :: Lib.decDigits u ∧ zZ (Lib.itoa n) = Lib.decDigits u) := by
 rcases Int.lt_or_le n 0 with h | h
 ·obtain ⟨u, rfl⟩ : ∃ u : Nat, n = -(u : Int) := ⟨n.natAbs, by omega⟩
  have e := Lib.itoa_neg u (by omega)
  exact .inr ⟨u, by omega, rfl, e, by rw [e]; rfl⟩
 ·obtain ⟨u, rfl⟩ : ∃ u : Nat, n = (u : Int) := ⟨n.toNat, by omega⟩
  have e := Lib.itoa_nonneg u
  exact .inl ⟨u, rfl, e, by rw [e]; exact zmn u⟩
theorem zur (n : Int) : zZ (Lib.itoa n) = Lib.decDigits n.natAbs := by
 rcases zsj n with ⟨u, rfl, _, h⟩ | ⟨u, _, rfl, _, h⟩
 ·rw [h]; congr 1
 ·rw [h]; congr 1; omega
theorem zuC (n : Int) : (Lib.itoa n).length ≤ (Lib.decDigits n.natAbs).length + 1 := by
 have h := zur n
 rcases zfV (Lib.itoa n) with ⟨r, e1, e2⟩ | ⟨_, e2⟩
 ·rw [e2] at h; rw [e1, h]; simp
 ·rw [e2] at h; rw [h]; omega
end
section
theorem zd3 [Tracks] {rs : List ResultVar} {e e' : Env} {M M' : List MObj} {h h' : HVal} {Q : HVal → List MObj → Prop} (hg : Ghost e M e' M') (hr : zhu e' rs = some h) (hw : Weak h h') (hh : Q h' M') : zjj rs Q .ret e M :=
 ⟨e', M', hg, h, h', hr, hw, hh⟩
theorem zkT [Tracks] {line : Str} {many : Int} (h : zcn line many = false) : Weak (.tup [.raw (.slice none 0 0), .bool false]) (.tup [eSs (zeE line many), .bool (zcn line many)]) := by
 rw [zeE, h]; exact zah (zal 1) (Weak.refl _)
theorem eqW {line : Str} {many : Int} (h : zcn line many = true) : HVal.tup [eSs (spl 32 line), .bool true] = .tup [eSs (zeE line many), .bool (zcn line many)] := by
 rw [zeE, h]; rfl
theorem ztT [Tracks] {text : Str} (h : text = []) : Weak (.tup [.raw (.slice none 0 0), .bool true]) (.tup [eSs (zbJ text), .bool (zeg text)]) := by
 subst h; exact zah (zal 1) (Weak.refl _)
theorem eqLn {text : Str} (h : text ≠ []) : HVal.tup [eSs (spl 10 (Lib.trimSuffix text [10])), .bool (Lib.hasSuffix text [10])] = .tup [eSs (zbJ text), .bool (zeg text)] := by
 rw [zbJ, zeg, if_neg h, if_neg h]
theorem zvk [Tracks] {w : List Str} {m : Int} (h : zdz w m = false) : Weak (.tup [.raw (.slice none 0 0), .bool false]) (.tup [.slice 1 ((ziZ w m).map (.int .i64)), .bool (zdz w m)]) := by
 rw [ziZ, h]; exact zah (zal 1) (Weak.refl _)
theorem eqI {w : List Str} {m : Int} (h : zdz w m = true) : HVal.tup [.slice 1 ((w.map (zh3 · m)).map (.int .i64)), .bool true] = .tup [.slice 1 ((ziZ w m).map (.int .i64)), .bool (zdz w m)] := by
 rw [ziZ, h]; rfl
theorem zrz {x : Str} {w w' : List Str} {m : Int} (hg : zdz w m = (zfK x m && zdz w' m)) (h : zfK x m = false) : zdz w m = false := by rw [hg, h]; rfl
end
section
theorem zwi (text : Str) : (lns text).length ≤ text.length := by
 unfold lns; rw [List.length_dropLast, zeM]; simp only [Nat.add_sub_cancel]; exact List.count_le_length
end
section
section
variable {α : Type} (rB : Str → Bool) (rP : Str → α) (F : List α → Int) (W : α → List Str) (enc : α → HVal) (sz : Nat)
def txB (text : Str) : Bool := (goL rB 0 (spl 10 text)).2
def txL (text : Str) : List α := (lns text).map rP
def txE (text : Str) : Int := if (200000 : Int) < (text.length : Int) then 2 else if txB rB text then F (txL rP text) else 9
def txI (text : Str) : Int := if (200000 : Int) < (text.length : Int) then 0 else if txB rB text then 0 else (goL rB 0 (spl 10 text)).1
def txP (text : Str) : List α := if txE rB rP F text = 0 then txL rP text else []
def zuE (x : α) : Str := jn 32 (W x) ++ [10]
def txT (l : List α) : Str := (l.map (zuE W)).flatten
theorem zpu (l : List α) (x : α) : txT W (l ++ [x]) = txT W l ++ zuE W x := by simp [txT]
def ze5 (l : List α) : Int := if F l ≠ 0 then F l else if (200000 : Int) < ((txT W l).length : Int) then 2 else 0
def zgl (l : List α) : Str := if ze5 F W l = 0 then txT W l else []
theorem zrm {l : List α} (h : F l ≠ 0) : ze5 F W l = F l := by unfold ze5; rw [if_pos h]
theorem zvS {l : List α} (h : F l = 0) (h2 : (200000 : Int) < ((txT W l).length : Int)) : ze5 F W l = 2 := by unfold ze5; rw [if_neg (by simp [h]), if_pos h2]
theorem zrg {l : List α} (h : F l = 0) (h2 : ((txT W l).length : Int) ≤ 200000) : ze5 F W l = 0 := by unfold ze5; rw [if_neg (by simp [h]), if_neg (by omega)]
theorem zp3 {l : List α} (h : F l ≠ 0) : HVal.tup [.str [], .int .i64 (F l)] = .tup [.str (zgl F W l), .int .i64 (ze5 F W l)] := by
 have e := zrm F W h
 unfold zgl; rw [e, if_neg h]
theorem zp4 {l : List α} (h : F l = 0) (h2 : (200000 : Int) < ((txT W l).length : Int)) : HVal.tup [.str [], .int .i64 2] = .tup [.str (zgl F W l), .int .i64 (ze5 F W l)] := by
 have e := zvS F W h h2
 unfold zgl; rw [e]; rfl
theorem zp8 {l : List α} (h : F l = 0) (h2 : ((txT W l).length : Int) ≤ 200000) : HVal.tup [.str (txT W l), .int .i64 0] = .tup [.str (zgl F W l), .int .i64 (ze5 F W l)] := by
 have e := zrg F W h h2
 unfold zgl; rw [e, if_pos rfl]
theorem zeT {text : Str} (h : (200000 : Int) < (text.length : Int)) : txE rB rP F text = 2 ∧ txI rB text = 0 := by
 unfold txE txI; rw [if_pos h, if_pos h]; exact ⟨rfl, rfl⟩
theorem zeU {text : Str} (h : (text.length : Int) ≤ 200000) (h2 : (goL rB 0 (spl 10 text)).2 = false) : txE rB rP F text = 9 ∧ txI rB text = (goL rB 0 (spl 10 text)).1 := by
 have h' : ¬ (200000 : Int) < (text.length : Int) := by omega
 unfold txE txI txB; simp only [h', if_false, h2]; exact ⟨rfl, rfl⟩
theorem zbY {text : Str} (h : (text.length : Int) ≤ 200000) (h2 : (goL rB 0 (spl 10 text)).2 = true) : txE rB rP F text = F (txL rP text) ∧ txI rB text = 0 := by
 have h' : ¬ (200000 : Int) < (text.length : Int) := by omega
 unfold txE txI txB; simp only [h', if_false, h2]; exact ⟨rfl, rfl⟩
theorem zno (text : Str) : (txL rP text).length ≤ text.length := by
 unfold txL; rw [List.length_map]; exact zwi text
theorem zws (text : Str) : (txP rB rP F text).length ≤ text.length := by
 unfold txP; split
 ·exact zno rP text
 ·simp
def STx (bo : Nat) (q : Value × List α) : List MObj := [.cells bo [.raw q.1], .arr q.1 sz (q.2.map enc)]
theorem zbB [Tracks] {text : Str} {i e : Int} (h1 : txE rB rP F text = e) (he : e ≠ 0) (h2 : txI rB text = i) : Weak (.tup [.raw (.slice none 0 0), .int .i64 i, .int .i64 e]) (.tup [.slice sz ((txP rB rP F text).map enc), .int .i64 (txI rB text), .int .i64 (txE rB rP F text)]) := by
 have : txP rB rP F text = [] := by unfold txP; rw [if_neg (by rw [h1]; exact he)]
 rw [this, h1, h2]; exact ztk (zal sz) (Weak.refl _) (Weak.refl _)
theorem zkq {text : Str} (h1 : txE rB rP F text = 0) (h2 : txI rB text = 0) : HVal.tup [.slice sz ((txL rP text).map enc), .int .i64 0, .int .i64 0] = .tup [.slice sz ((txP rB rP F text).map enc), .int .i64 (txI rB text), .int .i64 (txE rB rP F text)] := by
 have : txP rB rP F text = txL rP text := by unfold txP; rw [if_pos h1]
 rw [this, h1, h2]
end
end
section
def zbb (p : Play) : List Str := [p.Source, Lib.itoa p.No, Lib.itoa p.At, Lib.itoa p.Week, p.Match, p.Player, p.Stat, Lib.itoa p.Count] ++ (if 0 < p.Undo then [Lib.itoa p.Undo] else [])
theorem zid {p : Play} (h : playFault p = 0) : key p.Source = true ∧ (1 ≤ p.No ∧ p.No ≤ 3000) ∧ (0 ≤ p.At ∧ p.At ≤ 345686399999) ∧ (1 ≤ p.Week ∧ p.Week ≤ 60) ∧ (key p.Match = true ∧ key p.Player = true ∧ key p.Stat = true) ∧ (-100000 ≤ p.Count ∧ p.Count ≤ 100000) ∧ (0 ≤ p.Undo ∧ p.Undo ≤ 2999) := by
 obtain ⟨h1, h2, h3, h4, h5, h6, h7⟩ := zcG h
 have a3 := zdw (by simpa [zba] using h3 : out p.At 0 345686399999 = false)
 have a4 := zdw (by simpa [zb3] using h4 : out p.Week 1 60 = false)
 exact ⟨h1, h2, a3, a4, h5, h6, h7.1, by omega⟩
theorem zkZ {l : List Play} (h : zz l = 0) : l.length ≤ 3000 ∧ ∀ x ∈ l, playFault x = 0 := ⟨(zft h).1, zjl l 0 (zft h).2⟩
theorem ztb {n : Int} (h : -100000 ≤ n ∧ n ≤ 100000) : (Lib.itoa n).length ≤ 7 := by
 have a := zuC n
 have b : (Lib.decDigits n.natAbs).length ≤ 6 := by rw [Lib.decDigits_length]; exact zjn 5 _ (by omega)
 omega
theorem zj1 {p : Play} (h : playFault p = 0) : (jn 32 (zbb p)).length ≤ 230 := by
 obtain ⟨h1, h2, h3, h4, ⟨h5, h6, h7⟩, h8, h9⟩ := zid h
 have a1 := zjv h1
 have a2 := zfP (n := p.No) (by omega) (by omega)
 have a3 := zfP (n := p.At) (by omega) (by omega)
 have a4 := zfP (n := p.Week) (by omega) (by omega)
 have a5 := zjv h5
 have a6 := zjv h6
 have a7 := zjv h7
 have a8 := ztb h8
 have a9 := zfP (n := p.Undo) (by omega) (by omega)
 unfold zbb
 split <;> simp only [jn, List.cons_append, List.nil_append, List.length_append, List.length_cons, List.length_nil, List.append_nil] <;> omega
theorem zmU (p : Play) : (zbb p).length ≤ 9 := by unfold zbb; split <;> simp
theorem zgE {l : List Play} : (∀ x ∈ l, playFault x = 0) → (txT zbb l).length ≤ 231 * l.length := by
 induction l with
 | nil => intro _; simp [txT]
 | cons p r ih =>
   intro h
   have h1 := zj1 (h p (by simp))
   have h2 := ih fun q hq => h q (by simp [hq])
   simp only [txT, zuE, List.map_cons, List.flatten_cons, List.length_append, List.length_cons, List.length_nil] at h2 ⊢
   omega
/-- A line as a play, and whether it is one. -/
def plC (line : Str) : Bool := (spl 32 line).all (fun w => !w.isEmpty) && !(out ((spl 32 line).length : Int) 8 9)
def plN (line : Str) : List Str := ((spl 32 line).take 4).drop 1
def plD (line : Str) : List Str := (spl 32 line).drop 7
def plB (line : Str) : Bool := plC line && (plN line).all (zcE · 15) && (plD line).all (zcE · 15) && (!((((spl 32 line).length : Nat) : Int) == 9) || decide (0 < zT ((spl 32 line).getD 8 []) 15))
def plP (line : Str) : Play := ⟨(spl 32 line).getD 0 [], zT ((spl 32 line).getD 1 []) 15, zT ((spl 32 line).getD 2 []) 15, zT ((spl 32 line).getD 3 []) 15, (spl 32 line).getD 4 [], (spl 32 line).getD 5 [], (spl 32 line).getD 6 [], zT ((spl 32 line).getD 7 []) 15, if (((spl 32 line).length : Nat) : Int) = 9 then zT ((spl 32 line).getD 8 []) 15 else 0⟩
end
section
theorem zki : ∀ l : List Play, zbG zR l l = true
 | [] => rfl
 | a :: r => by simp [zbG, zdt, zki r, zh, zbX, eqH]
/-! laid together -/
end
end Go.HL
