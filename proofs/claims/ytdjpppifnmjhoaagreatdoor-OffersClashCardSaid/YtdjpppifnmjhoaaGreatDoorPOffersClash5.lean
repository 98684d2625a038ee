/- The statement is proved: the card of the law, out of its function's contract; no conditions. -/
import Derived.Test.YtdjpppifnmjhoaaGreatDoorPOffersClash4
import Derived.Ground.Names2Prog
import Derived.Handed
import Derived.LaidMore
import Derived.Lay
import Derived.OpenShut
import Derived.ProofKit
import Derived.SevenTiedAt
import Derived.Shelf.Slices.CompactS
import Derived.Shelf.Slices.Delete
import Derived.Shelf.Sort.Plain
import Derived.Shelf.Strconv.Atoi
import Derived.Shelf.Strconv.Itoa3
import Derived.Shelf.Strings.Count
import Derived.Shelf.Strings.Cut
import Derived.Shelf.Strings.Prefix
import Derived.Shelf.Strings.Split
import Derived.Shelf.Strings.SplitShaped
import Derived.Stop.Joined
import Derived.Test.YtdjpppifnmjhoaaGreatDoorCards
import Derived.Test.YtdjpppifnmjhoaaGreatDoorProg
import Derived.Test.YtdjpppifnmjhoaaGreatDoorTie
set_option linter.unusedVariables false
set_option linter.unusedSimpArgs false
section
namespace Go.HL
structure GdN (n k : Nat) (ds : List DealS) : Prop where
 len : ds.length ≤ k
 all : ∀ x ∈ ds, x.Id.length ≤ n ∧ x.Gives.length ≤ k ∧ ∀ g ∈ x.Gives, g.Player.length ≤ n
theorem GdN.step {n k : Nat} {ds : List DealS} {s : Str} (h : GdN n k ds) (hs : s.length ≤ n) : GdN n (k + 1) (stepD ds s) := by
 obtain ⟨h1, h2⟩ := h
 have h2' : ∀ x ∈ ds, x.Id.length ≤ n ∧ x.Gives.length ≤ k + 1 ∧ ∀ g ∈ x.Gives, g.Player.length ≤ n := fun x hx => ⟨(h2 x hx).1, by have := (h2 x hx).2.1; omega, (h2 x hx).2.2⟩
 unfold stepD
 split
 ·refine ⟨by simp; omega, fun x hx => ?_⟩
  rcases List.mem_append.1 hx with hx | hx
  ·exact h2' x hx
  ·rw [List.mem_singleton.1 hx]
   exact ⟨Nat.le_trans (spl_getD_len 1) hs, Nat.zero_le _, fun g hg => by cases hg⟩
 split
 ·unfold addLast
  refine ⟨by simp; omega, fun x hx => ?_⟩
  rcases List.mem_or_eq_of_mem_set hx with hx | hx
  ·exact h2' x hx
  ·subst hx
   have hy : (ds.getD (ds.length - 1) deal0).Id.length ≤ n ∧ (ds.getD (ds.length - 1) deal0).Gives.length ≤ k ∧ ∀ g ∈ (ds.getD (ds.length - 1) deal0).Gives, g.Player.length ≤ n := by
    rw [List.getD_eq_getElem?_getD]
    cases hq : ds[ds.length - 1]? with
    | none => exact ⟨Nat.zero_le _, Nat.zero_le _, fun g hg => by cases hg⟩
    | some y => exact h2 y (List.mem_of_getElem? hq)
   refine ⟨hy.1, by show ((_ : List GiveS) ++ [_]).length ≤ _; rw [List.length_append]; have := hy.2.1; simp only [List.length_cons, List.length_nil]; omega, fun g hg => ?_⟩
   rcases List.mem_append.1 hg with hg | hg
   ·exact hy.2.2 g hg
   ·rw [List.mem_singleton.1 hg]; exact Nat.le_trans (spl_getD_len 1) hs
 ·exact ⟨by omega, h2'⟩
theorem rd_gd {n : Nat} : ∀ (ls : List Str) (ds : List DealS) (k : Nat), (∀ s ∈ ls, s.length ≤ n) → GdN n k ds → GdN n (k + ls.length) (ls.foldl stepD ds)
 | [], _, _, _, h => h
 | s :: r, ds, k, hs, h => by
   have := rd_gd r _ (k + 1) (fun x hx => hs x (by simp [hx])) (h.step (hs s (by simp)))
   rw [List.foldl_cons, List.length_cons, show k + (r.length + 1) = k + 1 + r.length by omega]
   exact this
theorem dv_gd (text : Str) : GdN text.length text.length (dvL text) := by
 have h := rd_gd (n := text.length) (lns text) [] 0 (fun s hs => lns_mem hs) ⟨Nat.le_refl _, fun x hx => by cases hx⟩
 have hl := lns_len text
 obtain ⟨h1, h2⟩ := h
 exact ⟨by unfold dvL rdD; omega, fun x hx => ⟨(h2 x hx).1, by have := (h2 x hx).2.1; omega, (h2 x hx).2.2⟩⟩
theorem step_gl {ds : List DealS} {s : Str} {k : Nat} (h1 : ds.length ≤ k) (h2 : ∀ x ∈ ds, x.Gives.length ≤ k) : (stepD ds s).length ≤ ds.length + 1 ∧ ∀ x ∈ stepD ds s, x.Gives.length ≤ k + 1 := by
 unfold stepD
 split
 ·refine ⟨by simp, fun x hx => ?_⟩
  rcases List.mem_append.1 hx with hx | hx
  ·exact Nat.le_succ_of_le (h2 x hx)
  ·rw [List.mem_singleton.1 hx]; exact Nat.zero_le _
 split
 ·unfold addLast
  refine ⟨by simp, fun x hx => ?_⟩
  rcases List.mem_or_eq_of_mem_set hx with hx | hx
  ·exact Nat.le_succ_of_le (h2 x hx)
  ·subst hx
   have hy : (ds.getD (ds.length - 1) deal0).Gives.length ≤ k := by
    rw [List.getD_eq_getElem?_getD]
    cases hq : ds[ds.length - 1]? with
    | none => exact Nat.zero_le _
    | some y => exact h2 y (List.mem_of_getElem? hq)
   show ((_ : List GiveS) ++ [_]).length ≤ _
   rw [List.length_append]; simp only [List.length_cons, List.length_nil]; omega
 ·exact ⟨by omega, fun x hx => Nat.le_succ_of_le (h2 x hx)⟩
/-! the state of a reader -/
def SDl (bo : Nat) (q : Value × List DlV) : List MObj := .cells bo [.raw q.1] :: .arr q.1 5 (q.2.map rDl) :: q.2.map sDl
def InvD (text : Str) (done : List Str) (st : Value × List DlV) : Prop := st.2.map (·.1) = rdD done ∧ (done ≠ [] → odB (dvH text) = true ∧ st.2 ≠ []) ∧ st.2.length ≤ done.length ∧ ∀ p ∈ st.2, p.1.Gives.length ≤ done.length
/-- Whether a line is taken, by whether offers are there. -/
def okS (ds : List DlV) (s : Str) : Bool := odB s || (gvB s && !ds.isEmpty)
theorem okS_t {text s : Str} {done : List Str} {st : Value × List DlV} (hq : (spl 10 text)[done.length]? = some s) (h : InvD text done st) : okS st.2 s = okT (dvH text) s := by
 obtain ⟨h1, h2, h3, _⟩ := h
 unfold okS okT
 by_cases hd : done = []
 ·have h0 : st.2 = [] := by
   have : st.2.length ≤ 0 := by rw [hd] at h3; simpa using h3
   exact List.length_eq_zero_iff.1 (by omega)
  have hs : dvH text = s := by
   unfold dvH
   rw [hd] at hq
   cases hl : spl 10 text with
   | nil => rw [hl] at hq; cases hq
   | cons a b => rw [hl] at hq; simpa using hq
  rw [h0, hs]
  cases odB s <;> simp
 ·obtain ⟨a1, a2⟩ := h2 hd
  have : st.2.isEmpty = false := by
   cases hq2 : st.2 with
   | nil => exact absurd hq2 a2
   | cons _ _ => rfl
  rw [a1, this]; rfl
theorem InvD.next {text s : Str} {done : List Str} {st st' : Value × List DlV} (hq : (spl 10 text)[done.length]? = some s) (h : InvD text done st) (hok : okS st.2 s = true) (h1 : st'.2.map (·.1) = stepD (st.2.map (·.1)) s) : InvD text (done ++ [s]) st' := by
 have hT := okS_t hq h
 obtain ⟨a1, a2, a3, a4⟩ := h
 have hlen : (stepD (st.2.map (·.1)) s).length ≤ st.2.length + 1 ∧ 0 < (stepD (st.2.map (·.1)) s).length ∧ ∀ x ∈ stepD (st.2.map (·.1)) s, x.Gives.length ≤ done.length + 1 := by
  have h5 := step_gl (k := done.length) (ds := st.2.map (·.1)) (s := s) (by simpa using a3) (fun x hx => by obtain ⟨p, hp, rfl⟩ := List.mem_map.1 hx; exact a4 p hp)
  refine ⟨by simpa using h5.1, ?_, h5.2⟩
  ·unfold okS at hok
   unfold stepD
   cases ho : odB s with
   | true => simp
   | false =>
     rw [ho, Bool.false_or, Bool.and_eq_true] at hok
     rw [if_neg (by simp), if_pos hok.1]
     unfold addLast
     rw [List.length_set, List.length_map]
     cases hq2 : st.2 with
     | nil => rw [hq2] at hok; simp at hok
     | cons _ _ => simp
 have hl' : st'.2.length = (stepD (st.2.map (·.1)) s).length := by rw [← h1, List.length_map]
 refine ⟨by rw [h1, a1, rdD_snoc], fun _ => ⟨?_, fun e => ?_⟩, ?_, fun p hp => ?_⟩
 ·by_cases hd : done = []
  ·rw [hT] at hok
   unfold okT at hok
   have hs : dvH text = s := by
    unfold dvH
    rw [hd] at hq
    cases hl : spl 10 text with
    | nil => rw [hl] at hq; cases hq
    | cons a b => rw [hl] at hq; simpa using hq
   rw [hs] at hok ⊢
   cases ho : odB s with
   | true => rfl
   | false => rw [ho] at hok; simp at hok
  ·exact (a2 hd).1
 ·rw [e] at hl'; simp at hl'; omega
 ·rw [List.length_append, List.length_cons, List.length_nil]; omega
 ·rw [List.length_append, List.length_cons, List.length_nil]
  exact hlen.2.2 p.1 (by rw [← h1]; exact List.mem_map_of_mem hp)
theorem inv0 (text : Str) : InvD text [] (.slice none 0 0, []) := ⟨rfl, fun h => absurd rfl h, Nat.le_refl _, fun p hp => by cases hp⟩
/-! what is added -/
theorem step_of {ds : List DlV} {line : Str} (h : odB line = true) : (ds ++ [(odP line, Value.slice none 0 0)]).map (·.1) = stepD (ds.map (·.1)) line := by
 unfold stepD; rw [if_pos h]; simp
theorem step_gv {ds : List DlV} {line : Str} {x : DealS} {xv v : Value} (h : gvB line = true) (hx : ds[ds.length - 1]? = some (x, xv)) : (ds.set (ds.length - 1) (addG x (gvP line), v)).map (·.1) = stepD (ds.map (·.1)) line := by
 have ho : odB line = false := by
  cases hq : odB line with
  | false => rfl
  | true => rw [of_gv hq] at h; cases h
 unfold stepD
 rw [ho, if_neg (by simp), if_pos h]
 unfold addLast
 rw [List.map_set, List.length_map, List.getD_eq_getElem?_getD, List.getElem?_map, hx]; rfl
/-! what a text of offers is read as, in words of results -/
theorem dv_1 {m : MarketS} {text : Str} (h : marketE m ≠ 0) : dvE m text = marketE m ∧ dvI m text = 0 := by
 unfold dvE dvI; rw [if_pos h, if_pos h]; exact ⟨rfl, rfl⟩
theorem dv_2 {m : MarketS} {text : Str} (h0 : marketE m = 0) (h : (200000 : Int) < (text.length : Int)) : dvE m text = 2 ∧ dvI m text = 0 := by
 have e : ¬ marketE m ≠ 0 := by simp [h0]
 exact ⟨by unfold dvE; rw [if_neg e, if_pos h], by unfold dvI; rw [if_neg e, if_pos h]⟩
theorem dv_3 {m : MarketS} {text : Str} (h0 : marketE m = 0) (h : (text.length : Int) ≤ 200000) (h2 : (goL (okT (dvH text)) 0 (spl 10 text)).2 = false) : dvE m text = 9 ∧ dvI m text = (goL (okT (dvH text)) 0 (spl 10 text)).1 := by
 have h' : ¬ (200000 : Int) < (text.length : Int) := by omega
 have e : ¬ marketE m ≠ 0 := by simp [h0]
 have h3 : ¬ (dvG text).2 = true := by unfold dvG; rw [h2]; simp
 exact ⟨by unfold dvE; rw [if_neg e, if_neg h', if_neg h3], by unfold dvI; rw [if_neg e, if_neg h', if_neg h3]; rfl⟩
theorem dv_4 {m : MarketS} {text : Str} (h0 : marketE m = 0) (h : (text.length : Int) ≤ 200000) (h2 : (goL (okT (dvH text)) 0 (spl 10 text)).2 = true) : dvE m text = dealsE m (dvL text) ∧ dvI m text = 0 := by
 have h' : ¬ (200000 : Int) < (text.length : Int) := by omega
 have e : ¬ marketE m ≠ 0 := by simp [h0]
 have h3 : (dvG text).2 = true := h2
 exact ⟨by unfold dvE; rw [if_neg e, if_neg h', if_pos h3], by unfold dvI; rw [if_neg e, if_neg h', if_pos h3]⟩
theorem weakDv [Tracks] {m : MarketS} {text : Str} {i e : Int} (h1 : dvE m text = e) (he : e ≠ 0) (h2 : dvI m text = i) : Weak (.tup [.raw (.slice none 0 0), .int .i64 i, .int .i64 e]) (.tup [eDeals (dvP m text), .int .i64 (dvI m text), .int .i64 (dvE m text)]) := by
 have : dvP m text = [] := by unfold dvP; rw [if_neg (by rw [h1]; exact he)]
 rw [this, h1, h2]; exact weak_tup3 (weak_nil 5) (Weak.refl _) (Weak.refl _)
theorem eqDv {m : MarketS} {text : Str} (h1 : dvE m text = 0) (h2 : dvI m text = 0) : HVal.tup [eDeals (dvL text), .int .i64 0, .int .i64 0] = .tup [eDeals (dvP m text), .int .i64 (dvI m text), .int .i64 (dvE m text)] := by
 have : dvP m text = dvL text := by unfold dvP; rw [if_pos h1]
 rw [this, h1, h2]
theorem dvP_sub (m : MarketS) (text : Str) : dvP m text = dvL text ∨ dvP m text = [] := by unfold dvP; split <;> simp
/-! how long what is written is -/
theorem deal_gv {x : DealS} (h : DealK x) : ∀ g ∈ x.Gives, (jn 32 (givW g)).length ≤ 130 := by
 intro g hg
 obtain ⟨h1, h2, h3⟩ := h.gv g hg
 have a1 := keyS_len h1
 have a2 := keyS_len h2
 have a3 := keyS_len h3
 simp [givW, jn, givS]; omega
theorem itoa15 {n : Int} (h : 0 ≤ n ∧ n ≤ 345686400000) : (Lib.itoa n).length ≤ 16 := by
 have a3 := itoa_len n
 have a4 : (Lib.decDigits n.natAbs).length ≤ 15 := by rw [Lib.decDigits_length]; exact nDigits_le 14 _ (by omega)
 omega
theorem deal_of {x : DealS} (h : DealK x) : (jn 32 (offW x)).length ≤ 130 := by
 have a1 := keyS_len h.id
 have a2 := keyS_len h.by'
 have a3 := itoa15 h.fr
 have a4 := itoa15 h.to
 simp [offW, jn, offerS]; omega
theorem lnT_len {n : Nat} : ∀ {l : List Str}, (∀ s ∈ l, s.length ≤ n) → (lnT l).length ≤ (n + 1) * l.length
 | [], _ => by simp [lnT]
 | s :: r, h => by
   have ih := lnT_len (n := n) (l := r) fun x hx => h x (by simp [hx])
   have hs := h s (by simp)
   have e : lnT (s :: r) = s ++ [10] ++ lnT r := by simp [lnT]
   rw [e]
   simp only [List.length_append, List.length_cons, List.length_nil, Nat.mul_add, Nat.mul_one] at ih ⊢
   omega
theorem gvT_len {x : DealS} (h : DealK x) (j : Nat) : (lnT (((x.Gives.take j).map givW).map (jn 32))).length ≤ 131 * j := by
 have h1 := lnT_len (n := 130) (l := ((x.Gives.take j).map givW).map (jn 32)) fun s hs => by
  rw [List.map_map] at hs
  obtain ⟨g, hg, rfl⟩ := List.mem_map.1 hs
  exact deal_gv h g (List.mem_of_mem_take hg)
 simp only [List.length_map, List.length_take] at h1
 have : min j x.Gives.length ≤ j := Nat.min_le_left _ _
 have h2 : 131 * min j x.Gives.length ≤ 131 * j := Nat.mul_le_mul_left _ this
 omega
theorem dlT_len : ∀ {l : List DealS}, (∀ x ∈ l, DealK x) → (dlT l).length ≤ 5371 * l.length
 | [], _ => by simp [dlT, dlL, lnT]
 | x :: r, h => by
   have hx := h x (by simp)
   have ih := dlT_len (l := r) fun y hy => h y (by simp [hy])
   have e : dlT (x :: r) = dlT [x] ++ dlT r := by
    unfold dlT; rw [← lnT_app, ← dlL_app]; rfl
   have e1 : dlT [x] = jn 32 (offW x) ++ [10] ++ lnT ((x.Gives.map givW).map (jn 32)) := by
    have := dlT_snoc [] x
    simpa [dlT, dlL, lnT] using this
   have a1 := deal_of hx
   have a2 := gvT_len hx x.Gives.length
   rw [List.take_length] at a2
   have a3 := hx.len
   rw [e, e1]
   simp only [List.length_append, List.length_cons, List.length_nil, Nat.mul_add, Nat.mul_one] at ih ⊢
   omega
/-- The same, for the few offers that are drawn. -/
theorem dlT_few {l : List DealS} (h : ∀ x ∈ l, DealK x ∧ x.Gives.length ≤ 3) (hl : l.length ≤ 5) : (dlT l).length ≤ 5000 := by
 have : ∀ l : List DealS, (∀ x ∈ l, DealK x ∧ x.Gives.length ≤ 3) → (dlT l).length ≤ 600 * l.length := by
  intro l
  induction l with
  | nil => intro _; simp [dlT, dlL, lnT]
  | cons x r ih =>
    intro h
    obtain ⟨hx, hx3⟩ := h x (by simp)
    have ih := ih fun y hy => h y (by simp [hy])
    have e : dlT (x :: r) = dlT [x] ++ dlT r := by
     unfold dlT; rw [← lnT_app, ← dlL_app]; rfl
    have e1 : dlT [x] = jn 32 (offW x) ++ [10] ++ lnT ((x.Gives.map givW).map (jn 32)) := by
     have := dlT_snoc [] x
     simpa [dlT, dlL, lnT] using this
    have a1 := deal_of hx
    have a2 := gvT_len hx x.Gives.length
    rw [List.take_length] at a2
    rw [e, e1]
    simp only [List.length_append, List.length_cons, List.length_nil, Nat.mul_add, Nat.mul_one] at ih ⊢
    omega
 have := this l h
 omega
/-! what is written, in words of results -/
theorem dl_1 {m : MarketS} {l : List DealS} (h : dealsE m l ≠ 0) : HVal.tup [.str [], .int .i64 (dealsE m l)] = .tup [.str (dlS m l), .int .i64 (dlE m l)] := by
 have e : dlE m l = dealsE m l := by unfold dlE; rw [if_pos h]
 unfold dlS; rw [e, if_neg h]
theorem dl_2 {m : MarketS} {l : List DealS} (h : dealsE m l = 0) (h2 : (200000 : Int) < ((dlT l).length : Int)) : HVal.tup [.str [], .int .i64 2] = .tup [.str (dlS m l), .int .i64 (dlE m l)] := by
 have e : dlE m l = 2 := by unfold dlE; rw [if_neg (by simp [h]), if_pos h2]
 unfold dlS; rw [e]; rfl
theorem dl_3 {m : MarketS} {l : List DealS} (h : dealsE m l = 0) (h2 : ((dlT l).length : Int) ≤ 200000) : HVal.tup [.str (dlT l), .int .i64 0] = .tup [.str (dlS m l), .int .i64 (dlE m l)] := by
 have e : dlE m l = 0 := by unfold dlE; rw [if_neg (by simp [h]), if_neg (by omega)]
 unfold dlS; rw [e, if_pos rfl]
/-! words of a line -/
theorem wo_t {line : Str} (h : wordsB line ((line.count 32 : Nat) + 1 : Int) = true) : wordsL line ((line.count 32 : Nat) + 1 : Int) = spl 32 line ∧ wordsO line = true := by
 refine ⟨by unfold wordsL; rw [if_pos h], ?_⟩
 unfold wordsO; rw [← wordsB_n]; exact h
theorem wo_f {line : Str} (h : wordsB line ((line.count 32 : Nat) + 1 : Int) = false) : odB line = false ∧ gvB line = false := by
 have : wordsO line = false := by unfold wordsO; rw [← wordsB_n]; exact h
 unfold odB gvB; rw [this]; exact ⟨rfl, rfl⟩
theorem wr_t {line : Str} (h : ¬ [] ∈ spl 32 line) : wordsO line = true := by
 unfold wordsO
 cases hc : (spl 32 line).contains [] with
 | false => rw [contains_nil, Bool.not_eq_false'] at hc; exact hc
 | true => exact absurd (List.contains_iff_mem.1 hc) h
theorem wr_f {line : Str} (h : [] ∈ spl 32 line) : odB line = false ∧ gvB line = false := by
 have hc : (spl 32 line).contains [] = true := List.contains_iff_mem.2 h
 rw [contains_nil, Bool.not_eq_true'] at hc
 have : wordsO line = false := hc
 unfold odB gvB; rw [this]; exact ⟨rfl, rfl⟩
def dlN (line : Str) : List Str := (spl 32 line).drop 3
theorem dlN_len {line : Str} (h : (spl 32 line).length = 5) : (dlN line).length = 2 := by unfold dlN; simp; omega
theorem dlN_mem {line : Str} : ∀ s ∈ dlN line, s.length ≤ line.length := fun s hs => spl_mem_len 32 line s (List.mem_of_mem_drop hs)
theorem od_is {line : Str} (hw : wordsO line = true) (h0 : (spl 32 line).getD 0 [] = offerS) (h5 : (spl 32 line).length = 5) : odB line = numsB (dlN line) 15 := by
 unfold odB
 rw [hw, h0, h5]; rfl
theorem od_no {line : Str} (h : ¬ ((spl 32 line).getD 0 [] = offerS ∧ (spl 32 line).length = 5)) : odB line = false := by
 unfold odB
 cases hq : (spl 32 line).getD 0 [] == offerS with
 | false => simp
 | true =>
   have h5 : ¬ (spl 32 line).length = 5 := fun e => h ⟨by simpa using hq, e⟩
   rw [show ((((spl 32 line).length : Nat) : Int) == 5) = false by rw [beq_eq_false_iff_ne]; omega]; simp
theorem gv_is {line : Str} (hw : wordsO line = true) (h0 : (spl 32 line).getD 0 [] = givS) (h4 : (spl 32 line).length = 4) : gvB line = true := by
 unfold gvB
 rw [hw, h0, h4]; rfl
theorem gv_no {line : Str} (h : ¬ ((spl 32 line).getD 0 [] = givS ∧ (spl 32 line).length = 4)) : gvB line = false := by
 unfold gvB
 cases hq : (spl 32 line).getD 0 [] == givS with
 | false => simp
 | true =>
   have h5 : ¬ (spl 32 line).length = 4 := fun e => h ⟨by simpa using hq, e⟩
   rw [show ((((spl 32 line).length : Nat) : Int) == 4) = false by rw [beq_eq_false_iff_ne]; omega]; simp
theorem dlN_get {line : Str} (h5 : (spl 32 line).length = 5) : ((dlN line).map (numR · 15))[0]? = some (numR ((spl 32 line).getD 3 []) 15) ∧ ((dlN line).map (numR · 15))[1]? = some (numR ((spl 32 line).getD 4 []) 15) := by
 unfold dlN
 rw [List.getElem?_map, List.getElem?_map, List.getElem?_drop, List.getElem?_drop, getD_some (d := []) (show 3 + 0 < (spl 32 line).length by omega), getD_some (d := []) (show 3 + 1 < (spl 32 line).length by omega)]
 exact ⟨rfl, rfl⟩
end Go.HL
end
section
namespace Go.HL
theorem Ghost.snoc3 [Tracks] {e : Env} {a b : MObj} {T : List MObj} : Ghost e (a :: b :: T) e (a :: b :: (T ++ [.arr (.slice none 0 0) 3 []])) :=
 (Ghost.arr_nil 3).trans (Ghost.perm ((List.perm_append_comm (l₁ := [MObj.arr (.slice none 0 0) 3 []]) (l₂ := a :: b :: T)).trans (perm_eq rfl)))
theorem okS_f {ds : List DlV} {s : Str} (h1 : odB s = false) (h2 : gvB s = false) : okS ds s = false := by unfold okS; rw [h1, h2]; rfl
theorem okS_o {ds : List DlV} {s : Str} (h : odB s = true) : okS ds s = true := by unfold okS; rw [h]; rfl
theorem okS_g {ds : List DlV} {s : Str} (h : gvB s = true) (h0 : 0 < ds.length) : okS ds s = true := by
 unfold okS
 rw [h]
 cases ds with
 | nil => simp at h0
 | cons _ _ => simp
theorem okS_n5 {ds : List DlV} {s : Str} (h : odB s = false) (h5 : (spl 32 s).length = 5) : okS ds s = false := by
 refine okS_f h (gv_no fun q => ?_)
 have := q.2
 omega
theorem okS_0 {ds : List DlV} {s : Str} (h : odB s = false) (hg : ¬ (((spl 32 s).getD 0 [] = givS ∧ (spl 32 s).length = 4) ∧ 0 < ds.length)) : okS ds s = false := by
 by_cases hd : 0 < ds.length
 ·exact okS_f h (gv_no fun q => hg ⟨q, hd⟩)
 ·have : ds = [] := List.length_eq_zero_iff.1 (by omega)
  subst this
  unfold okS; rw [h]; simp
end Go.HL
end
section
namespace Go.Proofs.YtdjpppifnmjhoaaGreatDoor
open Go.HL
set_option maxRecDepth 100000
set_option linter.unusedVariables false
set_option linter.unusedSimpArgs false
/-- benchwarmer/base.Numbers -/
theorem c_base_Numbers [Tracks] {w : List Str} {m : Int} (hw : w.length ≤ 1000000) (hs : ∀ s ∈ w, s.length ≤ 1000000) (hm : m ≤ 17) : ConP Tryz.prog 56 [eSs w, .int .i64 m] (.tup [.slice 1 ((numsL w m).map (.int .i64)), .bool (numsB w m)]) := by
 refine Con.of_body Tryz.func56 rfl Tryz.ntmps56 rfl rfl ?_
 refine hw_reg ?_
 refine dp rfl (pop_assign rfl) ?_
 refine dp rfl (pop_assign rfl) ?_
 refine dn ?_
 refine hw_reg ?_
 refine dp rfl (pop_assign rfl) ?_
 refine dn ?_
 refine hw_ghost (Ghost.arr_nil 1) ?_
 refine hw_seq ?_
 refine hw_reg ?_
 refine dp rfl (pop_move rfl) ?_
 refine dp rfl (pop_lenm ty26 rfl) ?_
 refine dp rfl (pop_move rfl) ?_
 refine dn ?_
 refine hw_block ?_
 refine hw_loopw2 [4, 5, 6, 8, 9, 10, 13, 14, 15, 16, 17, 18, 19, 20, 21, 22, 23, 24, 25, 26, 27, 28, 29] (fun (k : Nat) (u : Value) => [(13, .int .i64 k), (6, .raw u)]) (fun (k : Nat) (u : Value) => [.arr u 1 (((w.take k).map (numR · m)).map (.int .i64))]) (fun (k : Nat) (u : Value) => k ≤ w.length ∧ (numsB w m = numsB (w.drop k) m ∧ (w.take k).all (numB · m) = true)) (fun (k : Nat) (u : Value) => w.length - k) (0) (.slice none 0 0) ?_ ?_ ?_ ?_
 ·exact ⟨Nat.zero_le _, rfl, rfl⟩
 ·exact ⟨rfl, rfl, trivial⟩
 ·exact perm_eq (by simp)
 ·intro k u hinv
  obtain ⟨hk, ⟨hg, hq⟩⟩ := hinv
  refine hw_reg ?_
  refine dp rfl (pop_lss rfl rfl) ?_
  refine dn ?_
  refine hw_seq ?_
  refine hw_cond rfl (fun h1 => ?_) (fun h2 => ?_)
  ·try simp at h1
   obtain ⟨x, hx⟩ : ∃ x, w[k]? = some x := ⟨_, List.getElem?_eq_getElem h1⟩
   have hdx := drop_cons hx
   rw [hdx, numsB_cons] at hg
   refine hw_skip ?_
   refine seqQ_n ?_
   refine hw_seq ?_
   refine hw_block ?_
   refine hw_reg ?_
   refine dp rfl (pop_idx ty26 ty9 rfl rfl rfl (by first | assumption | simp_all)) ?_
   refine dp rfl (pop_load ty9 rfl rfl rfl) ?_
   refine dp rfl (pop_assign rfl) ?_
   refine dn ?_
   refine hw_reg ?_
   refine dp rfl (pop_move rfl) ?_
   refine dp rfl (pop_move rfl) ?_
   refine dp rfl (pop_call ca102 rfl (WeakL.refl _) (c_base_Number_g (hs x (List.mem_of_getElem? hx)) hm)) ?_
   refine dp rfl (pop_move rfl) ?_
   refine dp rfl (pop_extract rfl rfl) ?_
   refine dp rfl (pop_extract rfl rfl) ?_
   refine dp rfl (pop_assign rfl) ?_
   refine dp rfl (pop_assign rfl) ?_
   refine dn ?_
   refine hw_seq ?_
   refine hw_reg ?_
   refine dp rfl (pop_move rfl) ?_
   refine dp rfl (pop_not rfl) ?_
   refine dn ?_
   refine hw_cond rfl (fun h3 => ?_) (fun h4 => ?_)
   ·try simp at h3
    refine hw_reg ?_
    refine dp rfl (pop_assign rfl) ?_
    refine dp rfl (pop_assign rfl) ?_
    refine dn ?_
    refine hw_ret ?_
    first
    | exact ret_gw Ghost.drop rfl (weakNs (numsB_f hg h3)) ⟨rfl, rfl⟩
    | exact ret_g (Ghost.fa 4 (i := 0) rfl rfl) rfl ⟨eqNs hg, rfl⟩
   ·try simp at h4
    refine hw_skip ?_
    refine seqQ_n ?_
    refine hw_reg1 ?_
    refine dp rfl (pop_move rfl) ?_
    refine dp rfl (pop_move rfl) ?_
    refine dp rfl (pop_buildSlice (hs := [_]) ty22 ty3 rfl rfl (by decide) (by decide) rfl) ?_
    refine de rfl (eop_append (i := 0) ty22 ty3 rfl rfl rfl rfl rfl (by simp [flat, hcells]) (by simp; omega) fun v28 => ?_)
    refine dp rfl (pop_assign rfl) ?_
    refine dn ?_
    refine blockQ_n ?_
    refine seqQ_n ?_
    refine hw_reg1 ?_
    refine dp rfl (pop_add64 rfl rfl (by omega) (by omega)) ?_
    refine dp rfl (pop_move rfl) ?_
    refine dn ?_
    exact ⟨k + 1, v28, ⟨by omega, by rw [hg, h4]; rfl, by rw [take_snoc' hx, List.all_append, hq]; simp [h4]⟩, by dsimp only; omega, ⟨rfl, rfl, trivial⟩, (by repeat (first | exact keeps_refl | refine keeps_upd rfl ?_ | refine keeps_loop rfl rfl ?_)), perm_eq (by dsimp only; rw [take_snoc' hx]; simp)⟩
  ·try simp at h2
   have hnk : w.length ≤ k := by omega
   obtain rfl : k = w.length := by omega
   rw [drop_all (Nat.le_refl _)] at hg
   rw [List.take_length]
   rw [List.take_length] at hq
   refine hw_exit ?_
   refine seqQ_x ?_
   refine loopQ2_x ?_
   refine blockQ_eq ?_
   refine seqQ_n ?_
   refine hw_reg ?_
   refine dp rfl (pop_move rfl) ?_
   refine dp rfl (pop_assign rfl) ?_
   refine dp rfl (pop_assign rfl) ?_
   refine dn ?_
   refine hw_ret ?_
   first
   | exact ret_gw Ghost.drop rfl (weakNs (numsB_f hg h3)) ⟨rfl, rfl⟩
   | exact ret_g (Ghost.fa 4 (i := 0) rfl rfl) rfl ⟨eqNs hg, rfl⟩

set_option maxHeartbeats 4000000 in
/-- benchwarmer/trade.Read$1 -/
theorem c_trade_Read_1 [Tracks] {line : Str} {bo : Nat} {v : Value} {ds : List DlV}  (hl : line.length ≤ 1000000) (hps : ds.length ≤ 1000000) (hgs : ∀ p ∈ ds, p.1.Gives.length ≤ 1000000) : Con Tryz.prog 53 [.str line, pAt bo] (.cells bo [.raw v] :: .arr v 5 (ds.map rDl) :: ds.map sDl) (fun x M' => ∃ st', x = .bool (okS ds line) ∧ M' = SDl bo st' ∧ (okS ds line = true → st'.2.map (·.1) = stepD (ds.map (·.1)) line)) := by
 have hct : line.count 32 ≤ line.length := List.count_le_length
 have hsl := spl_len 32 line
 refine Con.of_body Tryz.func53 rfl Tryz.ntmps53 rfl rfl ?_
 refine hw_reg ?_
 refine dp rfl (pop_assign rfl) ?_
 refine dn ?_
 refine hw_reg ?_
 refine dp rfl (pop_move rfl) ?_
 refine dp rfl (pop_move rfl) ?_
 refine dp rfl (pop_call ca55 rfl (WeakL.refl _) (c_strings_Count (s := line) (c := 32))) ?_
 refine dp rfl (pop_add64 rfl rfl (by omega) (by omega)) ?_
 refine dp rfl (pop_call ca54 rfl (WeakL.refl _) (c_base_Words (many := ((line.count 32 : Nat) + 1 : Int)) hl)) ?_
 refine dp rfl (pop_move rfl) ?_
 refine dp rfl (pop_extract rfl rfl) ?_
 refine dp rfl (pop_extract rfl rfl) ?_
 refine dp rfl (pop_assign rfl) ?_
 refine dp rfl (pop_assign rfl) ?_
 refine dn ?_
 refine hw_seq ?_
 refine hw_block ?_
 refine hw_reg ?_
 refine dp rfl (pop_move rfl) ?_
 refine dp rfl (pop_not rfl) ?_
 refine dp rfl (pop_assign rfl) ?_
 refine dn ?_
 refine hw_cond rfl (fun h1 => ?_) (fun h2 => ?_)
 ·try simp at h1
  refine hw_reg ?_
  refine dp rfl (pop_assign rfl) ?_
  refine dn ?_
  refine hw_ret ?_
  first
  | exact ret_q rfl ⟨(v, ds), by rw [okS_f (wo_f h1).1 (wo_f h1).2]; rfl, rfl, fun h => by rw [okS_f (wo_f h1).1 (wo_f h1).2] at h; cases h⟩
  | exact ret_g Ghost.snoc3 rfl ⟨(v53, ds ++ [(odP line, .slice none 0 0)]), by rw [okS_o (hod.trans (by simpa using h5))]; simpa using h5, by simp [SDl, odP, setL, hcells, ofVal, ofVal1], fun _ => step_of (hod.trans (by simpa using h5))⟩
  | exact ret_q rfl ⟨(v, ds), by rw [okS_n5 (hod.trans (by simpa using h6)) hq5]; simpa using h6, rfl, fun h => by rw [okS_n5 (hod.trans (by simpa using h6)) hq5] at h; cases h⟩
  | exact ret_q rfl ⟨(.slice (some ⟨ob, off, none⟩) (ds.map rDl).length cap, ds.set (ds.length - 1) (addG x1 (gvP line), v91)), by rw [okS_g hgv ho0]; rfl, by simp [SDl, sDl, addG, gvP, List.map_set], fun _ => step_gv hgv hx⟩
  | (have hno : okS ds line = false := okS_0 hod (fun hh => by
      have q1 := hh.1.1
      have q2 := hh.1.2
      have q3 := hh.2
      simp [givS] at q1
      simp_all)
     exact ret_q rfl ⟨(v, ds), by rw [hno]; rfl, rfl, fun h => by rw [hno] at h; cases h⟩)
 ·try simp at h2
  obtain ⟨hw1, hw2⟩ := wo_t h2
  simp only [hw1]
  refine hw_reg ?_
  refine dp rfl (pop_move rfl) ?_
  refine dp rfl (pop_idx (j := 0) (a := (spl 32 line).getD 0 []) ty26 ty9 rfl rfl (by omega) (getD_some (by omega))) ?_
  refine dp rfl (pop_load ty9 rfl rfl rfl) ?_
  refine dp rfl (pop_eqls rfl rfl) ?_
  refine dp rfl (pop_move rfl) ?_
  refine dg rfl rfl (fun hc => ⟨_, OpenTo.refl _, pop_move rfl⟩) ?_
  refine dg rfl rfl (fun hc => ⟨_, OpenTo.upd (t := 26) rfl (by first | exact hc | simp_all) (OpenTo.refl _), pop_lenm ty26 rfl⟩) ?_
  refine dg rfl rfl (fun hc => ⟨_, OpenTo.upd (t := 27) rfl (by first | exact hc | simp_all) (OpenTo.refl _), pop_eql rfl rfl⟩) ?_
  refine dp rfl (pop_picko rfl (.inr ⟨_, rfl, fun h => by simp_all⟩) (.inl rfl)) ?_
  refine dp rfl (pop_assign rfl) ?_
  refine dn ?_
  refine hw_cond rfl (fun h3 => ?_) (fun h4 => ?_)
  ·try simp at h3
   have hW : (spl 32 line).getD 0 [] = offerS := by simpa [offerS] using h3.1
   have hq5 : (spl 32 line).length = 5 := by have := h3.2; omega
   have hod := od_is hw2 hW hq5
   obtain ⟨hn1, hn2⟩ := dlN_get hq5
   have hnl := dlN_len hq5
   refine hw_reg ?_
   refine dp rfl (pop_move rfl) ?_
   refine dp rfl (pop_eq (pop_slicem (l := 3) (h := (spl 32 line).length) ty26 ty9 rfl ⟨_, _, rfl, rfl⟩ rfl (by omega) (Nat.le_refl _)) (by rw [List.take_length])) ?_
   refine dp rfl (pop_call ca56 rfl (WeakL.refl _) (c_base_Numbers (w := dlN line) (by omega) (fun s hs => Nat.le_trans (dlN_mem s hs) hl) (by omega))) ?_
   refine dp rfl (pop_move rfl) ?_
   refine dp rfl (pop_extract rfl rfl) ?_
   refine dp rfl (pop_extract rfl rfl) ?_
   refine dp rfl (pop_assign rfl) ?_
   refine dp rfl (pop_assign rfl) ?_
   refine dn ?_
   refine hw_seq ?_
   refine hw_reg ?_
   refine dp rfl (pop_move rfl) ?_
   refine dn ?_
   refine hw_cond rfl (fun h5 => ?_) (fun h6 => ?_)
   ·try simp at h5
    have hnum : numsL (dlN line) 15 = (dlN line).map (numR · 15) := numsL_t (by simpa using h5)
    simp only [hnum]
    refine hw_draw1 (fun M => ∃ i : Nat, M[i]? = some (.cells bo [.raw v])) [0] mixed ?_
    refine ahl 0 rfl rfl (by kernel_rfl) (by kernel_rfl) (by simp) ⟨0, rfl⟩ (fun M hM => by obtain ⟨i, hi⟩ := hM; exact eop_load (i := i) ty30 rfl hi (.inl ⟨rfl, rfl⟩) ⟨rfl, rfl⟩) ?_
    refine ahp 1 rfl rfl (by kernel_rfl) (by kernel_rfl) (pop_move rfl) ?_
    refine ahp 2 rfl rfl (by kernel_rfl) (by kernel_rfl) (pop_idx (j := 1) (a := (spl 32 line).getD 1 []) ty26 ty9 rfl rfl (by omega) (getD_some (by omega))) ?_
    refine ahp 3 rfl rfl (by kernel_rfl) (by kernel_rfl) (pop_load ty9 rfl rfl rfl) ?_
    refine ahp 4 rfl rfl (by kernel_rfl) (by kernel_rfl) (pop_move rfl) ?_
    refine ahp 5 rfl rfl (by kernel_rfl) (by kernel_rfl) (pop_idx (j := 2) (a := (spl 32 line).getD 2 []) ty26 ty9 rfl rfl (by omega) (getD_some (by omega))) ?_
    refine ahp 6 rfl rfl (by kernel_rfl) (by kernel_rfl) (pop_load ty9 rfl rfl rfl) ?_
    refine ahp 7 rfl rfl (by kernel_rfl) (by kernel_rfl) (pop_move rfl) ?_
    refine ahp 8 rfl rfl (by kernel_rfl) (by kernel_rfl) (pop_idx (j := 0) (a := numR ((spl 32 line).getD 3 []) 15) ty22 ty3 rfl rfl rfl hn1) ?_
    refine ahp 9 rfl rfl (by kernel_rfl) (by kernel_rfl) (pop_load ty3 rfl rfl rfl) ?_
    refine ahp 10 rfl rfl (by kernel_rfl) (by kernel_rfl) (pop_move rfl) ?_
    refine ahp 11 rfl rfl (by kernel_rfl) (by kernel_rfl) (pop_idx (j := 1) (a := numR ((spl 32 line).getD 4 []) 15) ty22 ty3 rfl rfl rfl hn2) ?_
    refine ahp 12 rfl rfl (by kernel_rfl) (by kernel_rfl) (pop_load ty3 rfl rfl rfl) ?_
    refine ahp 13 rfl rfl (by kernel_rfl) (by kernel_rfl) (pop_build (cs := [_, _]) ty44 pl44 rfl) ?_
    refine ahp 14 rfl rfl (by kernel_rfl) (by kernel_rfl) (pop_build (cs := [_, _, _, _, _]) ty47 pl47 rfl) ?_
    refine ahp 15 rfl rfl (by kernel_rfl) (by kernel_rfl) (pop_buildSlice (hs := [_]) ty30 ty47 rfl rfl (by decide) (by decide) rfl) ?_
    refine ahe 16 rfl (by kernel_rfl) ?_
    refine hop_e rfl (eop_append (i := 1) ty30 ty47 rfl rfl rfl rfl rfl (by simp [flat, hcells, ofVal, ofVal1]) (by simp; omega) fun v53 => ?_)
    refine ⟨fun _ => .inl ⟨0, rfl⟩, ?_⟩
    refine ahe 17 rfl (by kernel_rfl) ?_
    refine hop_e0 (eop_store (i := 0) ty30 rfl rfl rfl rfl rfl (by simp) ?_)
    refine ⟨fun _ => .inr (by simp [Before, Region.binds]), ?_⟩
    refine ahz (by kernel_rfl) ?_
    refine seqQ_n ?_
    refine hw_reg ?_
    refine dp rfl (pop_move rfl) ?_
    refine dp rfl (pop_assign rfl) ?_
    refine dn ?_
    refine hw_ret ?_
    first
    | exact ret_q rfl ⟨(v, ds), by rw [okS_f (wo_f h1).1 (wo_f h1).2]; rfl, rfl, fun h => by rw [okS_f (wo_f h1).1 (wo_f h1).2] at h; cases h⟩
    | exact ret_g Ghost.snoc3 rfl ⟨(v53, ds ++ [(odP line, .slice none 0 0)]), by rw [okS_o (hod.trans (by simpa using h5))]; simpa using h5, by simp [SDl, odP, setL, hcells, ofVal, ofVal1], fun _ => step_of (hod.trans (by simpa using h5))⟩
    | exact ret_q rfl ⟨(v, ds), by rw [okS_n5 (hod.trans (by simpa using h6)) hq5]; simpa using h6, rfl, fun h => by rw [okS_n5 (hod.trans (by simpa using h6)) hq5] at h; cases h⟩
    | exact ret_q rfl ⟨(.slice (some ⟨ob, off, none⟩) (ds.map rDl).length cap, ds.set (ds.length - 1) (addG x1 (gvP line), v91)), by rw [okS_g hgv ho0]; rfl, by simp [SDl, sDl, addG, gvP, List.map_set], fun _ => step_gv hgv hx⟩
    | (have hno : okS ds line = false := okS_0 hod (fun hh => by
        have q1 := hh.1.1
        have q2 := hh.1.2
        have q3 := hh.2
        simp [givS] at q1
        simp_all)
       exact ret_q rfl ⟨(v, ds), by rw [hno]; rfl, rfl, fun h => by rw [hno] at h; cases h⟩)
   ·try simp at h6
    refine hw_skip ?_
    refine seqQ_n ?_
    refine hw_reg ?_
    refine dp rfl (pop_move rfl) ?_
    refine dp rfl (pop_assign rfl) ?_
    refine dn ?_
    refine hw_ret ?_
    first
    | exact ret_q rfl ⟨(v, ds), by rw [okS_f (wo_f h1).1 (wo_f h1).2]; rfl, rfl, fun h => by rw [okS_f (wo_f h1).1 (wo_f h1).2] at h; cases h⟩
    | exact ret_g Ghost.snoc3 rfl ⟨(v53, ds ++ [(odP line, .slice none 0 0)]), by rw [okS_o (hod.trans (by simpa using h5))]; simpa using h5, by simp [SDl, odP, setL, hcells, ofVal, ofVal1], fun _ => step_of (hod.trans (by simpa using h5))⟩
    | exact ret_q rfl ⟨(v, ds), by rw [okS_n5 (hod.trans (by simpa using h6)) hq5]; simpa using h6, rfl, fun h => by rw [okS_n5 (hod.trans (by simpa using h6)) hq5] at h; cases h⟩
    | exact ret_q rfl ⟨(.slice (some ⟨ob, off, none⟩) (ds.map rDl).length cap, ds.set (ds.length - 1) (addG x1 (gvP line), v91)), by rw [okS_g hgv ho0]; rfl, by simp [SDl, sDl, addG, gvP, List.map_set], fun _ => step_gv hgv hx⟩
    | (have hno : okS ds line = false := okS_0 hod (fun hh => by
        have q1 := hh.1.1
        have q2 := hh.1.2
        have q3 := hh.2
        simp [givS] at q1
        simp_all)
       exact ret_q rfl ⟨(v, ds), by rw [hno]; rfl, rfl, fun h => by rw [hno] at h; cases h⟩)
  ·try simp at h4
   have hod : odB line = false := od_no fun hh => by
    have q1 := hh.1
    have q2 := hh.2
    simp [offerS] at q1
    simp_all
   refine hw_reg ?_
   refine dp rfl (pop_move rfl) ?_
   refine dp rfl (pop_idx (j := 0) (a := (spl 32 line).getD 0 []) ty26 ty9 rfl rfl (by omega) (getD_some (by omega))) ?_
   refine dp rfl (pop_load ty9 rfl rfl rfl) ?_
   refine dp rfl (pop_eqls rfl rfl) ?_
   refine dp rfl (pop_move rfl) ?_
   refine dg rfl rfl (fun hc => ⟨_, OpenTo.refl _, pop_move rfl⟩) ?_
   refine dg rfl rfl (fun hc => ⟨_, OpenTo.upd (t := 61) rfl (by first | exact hc | simp_all) (OpenTo.refl _), pop_lenm ty26 rfl⟩) ?_
   refine dg rfl rfl (fun hc => ⟨_, OpenTo.upd (t := 62) rfl (by first | exact hc | simp_all) (OpenTo.refl _), pop_eql rfl rfl⟩) ?_
   refine dp rfl (pop_picko rfl (.inr ⟨_, rfl, fun h => by simp_all⟩) (.inl rfl)) ?_
   refine dp rfl (pop_move rfl) ?_
   refine dgl rfl rfl (fun hc => ⟨_, OpenTo.refl _, eop_load (i := 0) ty30 rfl rfl (.inl ⟨rfl, rfl⟩) ⟨rfl, rfl⟩⟩) ?_
   refine dgl rfl rfl (fun hc => ⟨_, OpenTo.upd (t := 66) rfl (by first | exact hc | simp_all) (OpenTo.refl _), eop_lenm (i := 1) (es := ds) ty30 rfl rfl ⟨rfl, rfl⟩⟩) ?_
   refine dg rfl rfl (fun hc => ⟨_, OpenTo.upd (t := 67) rfl (by first | exact hc | simp_all) (OpenTo.refl _), pop_gtr rfl rfl⟩) ?_
   refine dp rfl (pop_picko rfl (.inr ⟨_, rfl, fun h => by simp_all⟩) (.inl rfl)) ?_
   refine dp rfl (pop_assign rfl) ?_
   refine dn ?_
   refine hw_cond rfl (fun h7 => ?_) (fun h8 => ?_)
   ·try simp at h7
    have hW : (spl 32 line).getD 0 [] = givS := by simpa [givS] using h7.1.1
    have hq4 : (spl 32 line).length = 4 := by have := h7.1.2; omega
    have hgv := gv_is hw2 hW hq4
    have ho0 : 0 < ds.length := by have := h7.2; omega
    refine hw_arrc (i := 1) rfl (fun h0 he => ?_) (fun ob off cap hv hcap => ?_)
    ·exfalso; have := congrArg List.length he; simp at this; subst this; simp at ho0
    subst hv
    obtain ⟨⟨x1, xv⟩, hx⟩ : ∃ x, ds[ds.length - 1]? = some x := ⟨_, List.getElem?_eq_getElem (by omega)⟩
    have hgx := hgs _ (List.mem_of_getElem? hx)
    dsimp only at hgx
    refine hw_reg ?_
    refine de rfl (eop_load (i := 0) ty30 rfl rfl (.inl ⟨rfl, rfl⟩) ?_)
    refine de rfl (eop_load (i := 0) ty30 rfl rfl (.inl ⟨rfl, rfl⟩) ?_)
    refine de rfl (eop_lenm (i := 1) (es := ds) ty30 rfl rfl ?_)
    refine dp rfl (pop_sub64 rfl rfl (by omega) (by omega)) ?_
    refine dp rfl (pop_idxraw (j := ds.length - 1) ty30 ty47 rfl rfl (by omega) (by simp; omega)) ?_
    refine dp rfl (pop_assign rfl) ?_
    refine dn ?_
    refine hw_draw (fun M => ∃ i : Nat, M[i]? = some (.arr (.slice (some ⟨ob, off, none⟩) (ds.map rDl).length cap) 5 (ds.map rDl))) [4] mixed ?_
    refine ahp 0 rfl rfl (by kernel_rfl) (by kernel_rfl) (pop_move rfl) ?_
    refine ahp 1 rfl rfl (by kernel_rfl) (by kernel_rfl) (pop_move rfl) ?_
    refine ahp 2 rfl rfl (by kernel_rfl) (by kernel_rfl) ((by first | exact pop_nilCheck rfl | exact pop_nilCheck_raw rfl)) ?_
    refine ahp 3 rfl rfl (by kernel_rfl) (by kernel_rfl) ((by first | exact pop_fieldAddr ty47 rfl ty45 (by decide) rfl | exact pop_fieldAddr_raw ty47 rfl ty45 (by decide) rfl)) ?_
    refine ahl 4 rfl rfl (by kernel_rfl) (by kernel_rfl) (by simp) ⟨1, rfl⟩ (fun M hM => by obtain ⟨i, hi⟩ := hM; exact eop_load_el (i := i) (j := ds.length - 1) (y := (x1, xv)) 4 ty45 rfl (by omega) hi hx rfl rfl ⟨rfl, rfl⟩) ?_
    refine ahp 5 rfl rfl (by kernel_rfl) (by kernel_rfl) (pop_move rfl) ?_
    refine ahp 6 rfl rfl (by kernel_rfl) (by kernel_rfl) (pop_idx (j := 1) (a := (spl 32 line).getD 1 []) ty26 ty9 rfl rfl (by omega) (getD_some (by omega))) ?_
    refine ahp 7 rfl rfl (by kernel_rfl) (by kernel_rfl) (pop_load ty9 rfl rfl rfl) ?_
    refine ahp 8 rfl rfl (by kernel_rfl) (by kernel_rfl) (pop_move rfl) ?_
    refine ahp 9 rfl rfl (by kernel_rfl) (by kernel_rfl) (pop_idx (j := 2) (a := (spl 32 line).getD 2 []) ty26 ty9 rfl rfl (by omega) (getD_some (by omega))) ?_
    refine ahp 10 rfl rfl (by kernel_rfl) (by kernel_rfl) (pop_load ty9 rfl rfl rfl) ?_
    refine ahp 11 rfl rfl (by kernel_rfl) (by kernel_rfl) (pop_move rfl) ?_
    refine ahp 12 rfl rfl (by kernel_rfl) (by kernel_rfl) (pop_idx (j := 3) (a := (spl 32 line).getD 3 []) ty26 ty9 rfl rfl (by omega) (getD_some (by omega))) ?_
    refine ahp 13 rfl rfl (by kernel_rfl) (by kernel_rfl) (pop_load ty9 rfl rfl rfl) ?_
    refine ahp 14 rfl rfl (by kernel_rfl) (by kernel_rfl) (pop_build (cs := [_, _, _]) ty69 pl69 rfl) ?_
    refine ahp 15 rfl rfl (by kernel_rfl) (by kernel_rfl) (pop_buildSlice (hs := [_]) ty45 ty69 rfl rfl (by decide) (by decide) rfl) ?_
    refine ahe 16 rfl (by kernel_rfl) ?_
    refine hop_e rfl (eop_append (i := ds.length - 1 + 2) (v := xv) (es := x1.Gives.map eGive) ty45 ty69 rfl rfl rfl rfl (show (ds.map sDl)[ds.length - 1]? = some (.arr xv 3 (x1.Gives.map eGive)) from by rw [List.getElem?_map, hx]; rfl) (by simp [flat, hcells]) (by simp; omega) fun v91 => ?_)
    refine ⟨fun _ => .inl ⟨1, rfl⟩, ?_⟩
    refine ahp 17 rfl rfl (by kernel_rfl) (by kernel_rfl) ((by first | exact pop_nilCheck rfl | exact pop_nilCheck_raw rfl)) ?_
    refine ahp 18 rfl rfl (by kernel_rfl) (by kernel_rfl) ((by first | exact pop_fieldAddr ty47 rfl ty45 (by decide) rfl | exact pop_fieldAddr_raw ty47 rfl ty45 (by decide) rfl)) ?_
    refine ahe 19 rfl (by kernel_rfl) ?_
    refine hop_e0 (eop_store_arr (i := 1) (j := ds.length - 1) (f := 4) (y := rDl (x1, xv)) (y' := rDl (addG x1 (gvP line), v91)) ty45 rfl (by omega) rfl rfl (map_get hx) rfl rfl (by simp [hcells]) rfl ?_)
    refine ⟨fun _ => .inr (by simp [Before, Region.binds]), ?_⟩
    refine ahz (by kernel_rfl) ?_
    refine hw_reg ?_
    refine dp rfl (pop_assign rfl) ?_
    refine dn ?_
    refine hw_ret ?_
    first
    | exact ret_q rfl ⟨(v, ds), by rw [okS_f (wo_f h1).1 (wo_f h1).2]; rfl, rfl, fun h => by rw [okS_f (wo_f h1).1 (wo_f h1).2] at h; cases h⟩
    | exact ret_g Ghost.snoc3 rfl ⟨(v53, ds ++ [(odP line, .slice none 0 0)]), by rw [okS_o (hod.trans (by simpa using h5))]; simpa using h5, by simp [SDl, odP, setL, hcells, ofVal, ofVal1], fun _ => step_of (hod.trans (by simpa using h5))⟩
    | exact ret_q rfl ⟨(v, ds), by rw [okS_n5 (hod.trans (by simpa using h6)) hq5]; simpa using h6, rfl, fun h => by rw [okS_n5 (hod.trans (by simpa using h6)) hq5] at h; cases h⟩
    | exact ret_q rfl ⟨(.slice (some ⟨ob, off, none⟩) (ds.map rDl).length cap, ds.set (ds.length - 1) (addG x1 (gvP line), v91)), by rw [okS_g hgv ho0]; rfl, by simp [SDl, sDl, addG, gvP, List.map_set], fun _ => step_gv hgv hx⟩
    | (have hno : okS ds line = false := okS_0 hod (fun hh => by
        have q1 := hh.1.1
        have q2 := hh.1.2
        have q3 := hh.2
        simp [givS] at q1
        simp_all)
       exact ret_q rfl ⟨(v, ds), by rw [hno]; rfl, rfl, fun h => by rw [hno] at h; cases h⟩)
   ·try simp at h8
    refine hw_skip ?_
    refine blockQ_n ?_
    refine seqQ_n ?_
    refine hw_reg ?_
    refine dp rfl (pop_assign rfl) ?_
    refine dn ?_
    refine hw_ret ?_
    first
    | exact ret_q rfl ⟨(v, ds), by rw [okS_f (wo_f h1).1 (wo_f h1).2]; rfl, rfl, fun h => by rw [okS_f (wo_f h1).1 (wo_f h1).2] at h; cases h⟩
    | exact ret_g Ghost.snoc3 rfl ⟨(v53, ds ++ [(odP line, .slice none 0 0)]), by rw [okS_o (hod.trans (by simpa using h5))]; simpa using h5, by simp [SDl, odP, setL, hcells, ofVal, ofVal1], fun _ => step_of (hod.trans (by simpa using h5))⟩
    | exact ret_q rfl ⟨(v, ds), by rw [okS_n5 (hod.trans (by simpa using h6)) hq5]; simpa using h6, rfl, fun h => by rw [okS_n5 (hod.trans (by simpa using h6)) hq5] at h; cases h⟩
    | exact ret_q rfl ⟨(.slice (some ⟨ob, off, none⟩) (ds.map rDl).length cap, ds.set (ds.length - 1) (addG x1 (gvP line), v91)), by rw [okS_g hgv ho0]; rfl, by simp [SDl, sDl, addG, gvP, List.map_set], fun _ => step_gv hgv hx⟩
    | (have hno : okS ds line = false := okS_0 hod (fun hh => by
        have q1 := hh.1.1
        have q2 := hh.1.2
        have q3 := hh.2
        simp [givS] at q1
        simp_all)
       exact ret_q rfl ⟨(v, ds), by rw [hno]; rfl, rfl, fun h => by rw [hno] at h; cases h⟩)

set_option maxHeartbeats 4000000 in
/-- benchwarmer/benchref1.OffersRead$1 -/
theorem c_benchref1_OffersRead_1 [Tracks] {line : Str} {bo : Nat} {v : Value} {ds : List DlV}  (hl : line.length ≤ 1000000) (hps : ds.length ≤ 1000000) (hgs : ∀ p ∈ ds, p.1.Gives.length ≤ 1000000) : Con Tryz.prog 71 [.str line, pAt bo] (.cells bo [.raw v] :: .arr v 5 (ds.map rDl) :: ds.map sDl) (fun x M' => ∃ st', x = .bool (okS ds line) ∧ M' = SDl bo st' ∧ (okS ds line = true → st'.2.map (·.1) = stepD (ds.map (·.1)) line)) := by
 have hct : line.count 32 ≤ line.length := List.count_le_length
 have hsl := spl_len 32 line
 refine Con.of_body Tryz.func71 rfl Tryz.ntmps71 rfl rfl ?_
 refine hw_reg ?_
 refine dp rfl (pop_assign rfl) ?_
 refine dn ?_
 refine hw_reg ?_
 refine dp rfl (pop_move rfl) ?_
 refine dp rfl (pop_call ca72 rfl (WeakL.refl _) (c_strings_Split (c := 32) (by omega))) ?_
 refine dp rfl (pop_assign rfl) ?_
 refine dn ?_
 refine hw_seq ?_
 refine hw_block ?_
 refine hw_reg ?_
 refine dp rfl (pop_move rfl) ?_
 refine dp rfl (pop_call ca45 rfl (WeakL.refl _) (c_slices_Contains_string_string (l := spl 32 line) (by omega))) ?_
 refine dp rfl (pop_assign rfl) ?_
 refine dn ?_
 refine hw_cond rfl (fun h1 => ?_) (fun h2 => ?_)
 ·try simp at h1
  refine hw_reg ?_
  refine dp rfl (pop_assign rfl) ?_
  refine dn ?_
  refine hw_ret ?_
  first
  | exact ret_q rfl ⟨(v, ds), by rw [okS_f (wr_f h1).1 (wr_f h1).2]; rfl, rfl, fun h => by rw [okS_f (wr_f h1).1 (wr_f h1).2] at h; cases h⟩
  | exact ret_g Ghost.snoc3 rfl ⟨(v46, ds ++ [(odP line, .slice none 0 0)]), by rw [okS_o (hod.trans (by rw [← (ints_nums (dlN line) 15).1]; simpa using h5))]; simpa using h5, by simp [SDl, odP, setL, hcells, ofVal, ofVal1], fun _ => step_of (hod.trans (by rw [← (ints_nums (dlN line) 15).1]; simpa using h5))⟩
  | exact ret_q rfl ⟨(v, ds), by rw [okS_n5 (hod.trans (by rw [← (ints_nums (dlN line) 15).1]; simpa using h6)) hq5]; simpa using h6, rfl, fun h => by rw [okS_n5 (hod.trans (by rw [← (ints_nums (dlN line) 15).1]; simpa using h6)) hq5] at h; cases h⟩
  | exact ret_q rfl ⟨(.slice (some ⟨ob, off, none⟩) (ds.map rDl).length cap, ds.set (ds.length - 1) (addG x1 (gvP line), v84)), by rw [okS_g hgv ho0]; rfl, by simp [SDl, sDl, addG, gvP, List.map_set], fun _ => step_gv hgv hx⟩
  | (have hno : okS ds line = false := okS_0 hod (fun hh => by
      have q1 := hh.1.1
      have q2 := hh.1.2
      have q3 := hh.2
      simp [givS] at q1
      simp_all)
     exact ret_q rfl ⟨(v, ds), by rw [hno]; rfl, rfl, fun h => by rw [hno] at h; cases h⟩)
 ·try simp at h2
  have hw2 := wr_t h2
  refine hw_reg ?_
  refine dp rfl (pop_move rfl) ?_
  refine dp rfl (pop_idx (j := 0) (a := (spl 32 line).getD 0 []) ty26 ty9 rfl rfl (by omega) (getD_some (by omega))) ?_
  refine dp rfl (pop_load ty9 rfl rfl rfl) ?_
  refine dp rfl (pop_eqls rfl rfl) ?_
  refine dp rfl (pop_move rfl) ?_
  refine dg rfl rfl (fun hc => ⟨_, OpenTo.refl _, pop_move rfl⟩) ?_
  refine dg rfl rfl (fun hc => ⟨_, OpenTo.upd (t := 19) rfl (by first | exact hc | simp_all) (OpenTo.refl _), pop_lenm ty26 rfl⟩) ?_
  refine dg rfl rfl (fun hc => ⟨_, OpenTo.upd (t := 20) rfl (by first | exact hc | simp_all) (OpenTo.refl _), pop_eql rfl rfl⟩) ?_
  refine dp rfl (pop_picko rfl (.inr ⟨_, rfl, fun h => by simp_all⟩) (.inl rfl)) ?_
  refine dp rfl (pop_assign rfl) ?_
  refine dn ?_
  refine hw_cond rfl (fun h3 => ?_) (fun h4 => ?_)
  ·try simp at h3
   have hW : (spl 32 line).getD 0 [] = offerS := by simpa [offerS] using h3.1
   have hq5 : (spl 32 line).length = 5 := by have := h3.2; omega
   have hod := od_is hw2 hW hq5
   obtain ⟨hn1, hn2⟩ := dlN_get hq5
   have hnl := dlN_len hq5
   refine hw_reg ?_
   refine dp rfl (pop_move rfl) ?_
   refine dp rfl (pop_eq (pop_slicem (l := 3) (h := (spl 32 line).length) ty26 ty9 rfl ⟨_, _, rfl, rfl⟩ rfl (by omega) (Nat.le_refl _)) (by rw [List.take_length])) ?_
   refine dp rfl (pop_call ca73 rfl (WeakL.refl _) (c_benchref1_Ints (w := dlN line) (by omega) (fun s hs => Nat.le_trans (dlN_mem s hs) hl) (by omega))) ?_
   refine dp rfl (pop_move rfl) ?_
   refine dp rfl (pop_extract rfl rfl) ?_
   refine dp rfl (pop_extract rfl rfl) ?_
   refine dp rfl (pop_assign rfl) ?_
   refine dp rfl (pop_assign rfl) ?_
   refine dn ?_
   refine hw_seq ?_
   refine hw_reg ?_
   refine dp rfl (pop_move rfl) ?_
   refine dn ?_
   refine hw_cond rfl (fun h5 => ?_) (fun h6 => ?_)
   ·try simp at h5
    have hnum : intsL (dlN line) 15 = (dlN line).map (numR · 15) := ((ints_nums _ _).2).trans (numsL_t (by simpa [(ints_nums (dlN line) 15).1] using h5))
    simp only [hnum]
    refine hw_draw1 (fun M => ∃ i : Nat, M[i]? = some (.cells bo [.raw v])) [0] mixed ?_
    refine ahl 0 rfl rfl (by kernel_rfl) (by kernel_rfl) (by simp) ⟨0, rfl⟩ (fun M hM => by obtain ⟨i, hi⟩ := hM; exact eop_load (i := i) ty30 rfl hi (.inl ⟨rfl, rfl⟩) ⟨rfl, rfl⟩) ?_
    refine ahp 1 rfl rfl (by kernel_rfl) (by kernel_rfl) (pop_move rfl) ?_
    refine ahp 2 rfl rfl (by kernel_rfl) (by kernel_rfl) (pop_idx (j := 1) (a := (spl 32 line).getD 1 []) ty26 ty9 rfl rfl (by omega) (getD_some (by omega))) ?_
    refine ahp 3 rfl rfl (by kernel_rfl) (by kernel_rfl) (pop_load ty9 rfl rfl rfl) ?_
    refine ahp 4 rfl rfl (by kernel_rfl) (by kernel_rfl) (pop_move rfl) ?_
    refine ahp 5 rfl rfl (by kernel_rfl) (by kernel_rfl) (pop_idx (j := 2) (a := (spl 32 line).getD 2 []) ty26 ty9 rfl rfl (by omega) (getD_some (by omega))) ?_
    refine ahp 6 rfl rfl (by kernel_rfl) (by kernel_rfl) (pop_load ty9 rfl rfl rfl) ?_
    refine ahp 7 rfl rfl (by kernel_rfl) (by kernel_rfl) (pop_move rfl) ?_
    refine ahp 8 rfl rfl (by kernel_rfl) (by kernel_rfl) (pop_idx (j := 0) (a := numR ((spl 32 line).getD 3 []) 15) ty22 ty3 rfl rfl rfl hn1) ?_
    refine ahp 9 rfl rfl (by kernel_rfl) (by kernel_rfl) (pop_load ty3 rfl rfl rfl) ?_
    refine ahp 10 rfl rfl (by kernel_rfl) (by kernel_rfl) (pop_move rfl) ?_
    refine ahp 11 rfl rfl (by kernel_rfl) (by kernel_rfl) (pop_idx (j := 1) (a := numR ((spl 32 line).getD 4 []) 15) ty22 ty3 rfl rfl rfl hn2) ?_
    refine ahp 12 rfl rfl (by kernel_rfl) (by kernel_rfl) (pop_load ty3 rfl rfl rfl) ?_
    refine ahp 13 rfl rfl (by kernel_rfl) (by kernel_rfl) (pop_build (cs := [_, _]) ty44 pl44 rfl) ?_
    refine ahp 14 rfl rfl (by kernel_rfl) (by kernel_rfl) (pop_build (cs := [_, _, _, _, _]) ty47 pl47 rfl) ?_
    refine ahp 15 rfl rfl (by kernel_rfl) (by kernel_rfl) (pop_buildSlice (hs := [_]) ty30 ty47 rfl rfl (by decide) (by decide) rfl) ?_
    refine ahe 16 rfl (by kernel_rfl) ?_
    refine hop_e rfl (eop_append (i := 1) ty30 ty47 rfl rfl rfl rfl rfl (by simp [flat, hcells, ofVal, ofVal1]) (by simp; omega) fun v46 => ?_)
    refine ⟨fun _ => .inl ⟨0, rfl⟩, ?_⟩
    refine ahe 17 rfl (by kernel_rfl) ?_
    refine hop_e0 (eop_store (i := 0) ty30 rfl rfl rfl rfl rfl (by simp) ?_)
    refine ⟨fun _ => .inr (by simp [Before, Region.binds]), ?_⟩
    refine ahz (by kernel_rfl) ?_
    refine seqQ_n ?_
    refine hw_reg ?_
    refine dp rfl (pop_move rfl) ?_
    refine dp rfl (pop_assign rfl) ?_
    refine dn ?_
    refine hw_ret ?_
    first
    | exact ret_q rfl ⟨(v, ds), by rw [okS_f (wr_f h1).1 (wr_f h1).2]; rfl, rfl, fun h => by rw [okS_f (wr_f h1).1 (wr_f h1).2] at h; cases h⟩
    | exact ret_g Ghost.snoc3 rfl ⟨(v46, ds ++ [(odP line, .slice none 0 0)]), by rw [okS_o (hod.trans (by rw [← (ints_nums (dlN line) 15).1]; simpa using h5))]; simpa using h5, by simp [SDl, odP, setL, hcells, ofVal, ofVal1], fun _ => step_of (hod.trans (by rw [← (ints_nums (dlN line) 15).1]; simpa using h5))⟩
    | exact ret_q rfl ⟨(v, ds), by rw [okS_n5 (hod.trans (by rw [← (ints_nums (dlN line) 15).1]; simpa using h6)) hq5]; simpa using h6, rfl, fun h => by rw [okS_n5 (hod.trans (by rw [← (ints_nums (dlN line) 15).1]; simpa using h6)) hq5] at h; cases h⟩
    | exact ret_q rfl ⟨(.slice (some ⟨ob, off, none⟩) (ds.map rDl).length cap, ds.set (ds.length - 1) (addG x1 (gvP line), v84)), by rw [okS_g hgv ho0]; rfl, by simp [SDl, sDl, addG, gvP, List.map_set], fun _ => step_gv hgv hx⟩
    | (have hno : okS ds line = false := okS_0 hod (fun hh => by
        have q1 := hh.1.1
        have q2 := hh.1.2
        have q3 := hh.2
        simp [givS] at q1
        simp_all)
       exact ret_q rfl ⟨(v, ds), by rw [hno]; rfl, rfl, fun h => by rw [hno] at h; cases h⟩)
   ·try simp at h6
    refine hw_skip ?_
    refine seqQ_n ?_
    refine hw_reg ?_
    refine dp rfl (pop_move rfl) ?_
    refine dp rfl (pop_assign rfl) ?_
    refine dn ?_
    refine hw_ret ?_
    first
    | exact ret_q rfl ⟨(v, ds), by rw [okS_f (wr_f h1).1 (wr_f h1).2]; rfl, rfl, fun h => by rw [okS_f (wr_f h1).1 (wr_f h1).2] at h; cases h⟩
    | exact ret_g Ghost.snoc3 rfl ⟨(v46, ds ++ [(odP line, .slice none 0 0)]), by rw [okS_o (hod.trans (by rw [← (ints_nums (dlN line) 15).1]; simpa using h5))]; simpa using h5, by simp [SDl, odP, setL, hcells, ofVal, ofVal1], fun _ => step_of (hod.trans (by rw [← (ints_nums (dlN line) 15).1]; simpa using h5))⟩
    | exact ret_q rfl ⟨(v, ds), by rw [okS_n5 (hod.trans (by rw [← (ints_nums (dlN line) 15).1]; simpa using h6)) hq5]; simpa using h6, rfl, fun h => by rw [okS_n5 (hod.trans (by rw [← (ints_nums (dlN line) 15).1]; simpa using h6)) hq5] at h; cases h⟩
    | exact ret_q rfl ⟨(.slice (some ⟨ob, off, none⟩) (ds.map rDl).length cap, ds.set (ds.length - 1) (addG x1 (gvP line), v84)), by rw [okS_g hgv ho0]; rfl, by simp [SDl, sDl, addG, gvP, List.map_set], fun _ => step_gv hgv hx⟩
    | (have hno : okS ds line = false := okS_0 hod (fun hh => by
        have q1 := hh.1.1
        have q2 := hh.1.2
        have q3 := hh.2
        simp [givS] at q1
        simp_all)
       exact ret_q rfl ⟨(v, ds), by rw [hno]; rfl, rfl, fun h => by rw [hno] at h; cases h⟩)
  ·try simp at h4
   have hod : odB line = false := od_no fun hh => by
    have q1 := hh.1
    have q2 := hh.2
    simp [offerS] at q1
    simp_all
   refine hw_reg ?_
   refine dp rfl (pop_move rfl) ?_
   refine dp rfl (pop_idx (j := 0) (a := (spl 32 line).getD 0 []) ty26 ty9 rfl rfl (by omega) (getD_some (by omega))) ?_
   refine dp rfl (pop_load ty9 rfl rfl rfl) ?_
   refine dp rfl (pop_eqls rfl rfl) ?_
   refine dp rfl (pop_move rfl) ?_
   refine dg rfl rfl (fun hc => ⟨_, OpenTo.refl _, pop_move rfl⟩) ?_
   refine dg rfl rfl (fun hc => ⟨_, OpenTo.upd (t := 54) rfl (by first | exact hc | simp_all) (OpenTo.refl _), pop_lenm ty26 rfl⟩) ?_
   refine dg rfl rfl (fun hc => ⟨_, OpenTo.upd (t := 55) rfl (by first | exact hc | simp_all) (OpenTo.refl _), pop_eql rfl rfl⟩) ?_
   refine dp rfl (pop_picko rfl (.inr ⟨_, rfl, fun h => by simp_all⟩) (.inl rfl)) ?_
   refine dp rfl (pop_move rfl) ?_
   refine dgl rfl rfl (fun hc => ⟨_, OpenTo.refl _, eop_load (i := 0) ty30 rfl rfl (.inl ⟨rfl, rfl⟩) ⟨rfl, rfl⟩⟩) ?_
   refine dgl rfl rfl (fun hc => ⟨_, OpenTo.upd (t := 59) rfl (by first | exact hc | simp_all) (OpenTo.refl _), eop_lenm (i := 1) (es := ds) ty30 rfl rfl ⟨rfl, rfl⟩⟩) ?_
   refine dg rfl rfl (fun hc => ⟨_, OpenTo.upd (t := 60) rfl (by first | exact hc | simp_all) (OpenTo.refl _), pop_gtr rfl rfl⟩) ?_
   refine dp rfl (pop_picko rfl (.inr ⟨_, rfl, fun h => by simp_all⟩) (.inl rfl)) ?_
   refine dp rfl (pop_assign rfl) ?_
   refine dn ?_
   refine hw_cond rfl (fun h7 => ?_) (fun h8 => ?_)
   ·try simp at h7
    have hW : (spl 32 line).getD 0 [] = givS := by simpa [givS] using h7.1.1
    have hq4 : (spl 32 line).length = 4 := by have := h7.1.2; omega
    have hgv := gv_is hw2 hW hq4
    have ho0 : 0 < ds.length := by have := h7.2; omega
    refine hw_arrc (i := 1) rfl (fun h0 he => ?_) (fun ob off cap hv hcap => ?_)
    ·exfalso; have := congrArg List.length he; simp at this; subst this; simp at ho0
    subst hv
    obtain ⟨⟨x1, xv⟩, hx⟩ : ∃ x, ds[ds.length - 1]? = some x := ⟨_, List.getElem?_eq_getElem (by omega)⟩
    have hgx := hgs _ (List.mem_of_getElem? hx)
    dsimp only at hgx
    refine hw_reg ?_
    refine de rfl (eop_load (i := 0) ty30 rfl rfl (.inl ⟨rfl, rfl⟩) ?_)
    refine de rfl (eop_load (i := 0) ty30 rfl rfl (.inl ⟨rfl, rfl⟩) ?_)
    refine de rfl (eop_lenm (i := 1) (es := ds) ty30 rfl rfl ?_)
    refine dp rfl (pop_sub64 rfl rfl (by omega) (by omega)) ?_
    refine dp rfl (pop_idxraw (j := ds.length - 1) ty30 ty47 rfl rfl (by omega) (by simp; omega)) ?_
    refine dp rfl (pop_assign rfl) ?_
    refine dn ?_
    refine hw_draw (fun M => ∃ i : Nat, M[i]? = some (.arr (.slice (some ⟨ob, off, none⟩) (ds.map rDl).length cap) 5 (ds.map rDl))) [4] mixed ?_
    refine ahp 0 rfl rfl (by kernel_rfl) (by kernel_rfl) (pop_move rfl) ?_
    refine ahp 1 rfl rfl (by kernel_rfl) (by kernel_rfl) (pop_move rfl) ?_
    refine ahp 2 rfl rfl (by kernel_rfl) (by kernel_rfl) ((by first | exact pop_nilCheck rfl | exact pop_nilCheck_raw rfl)) ?_
    refine ahp 3 rfl rfl (by kernel_rfl) (by kernel_rfl) ((by first | exact pop_fieldAddr ty47 rfl ty45 (by decide) rfl | exact pop_fieldAddr_raw ty47 rfl ty45 (by decide) rfl)) ?_
    refine ahl 4 rfl rfl (by kernel_rfl) (by kernel_rfl) (by simp) ⟨1, rfl⟩ (fun M hM => by obtain ⟨i, hi⟩ := hM; exact eop_load_el (i := i) (j := ds.length - 1) (y := (x1, xv)) 4 ty45 rfl (by omega) hi hx rfl rfl ⟨rfl, rfl⟩) ?_
    refine ahp 5 rfl rfl (by kernel_rfl) (by kernel_rfl) (pop_move rfl) ?_
    refine ahp 6 rfl rfl (by kernel_rfl) (by kernel_rfl) (pop_idx (j := 1) (a := (spl 32 line).getD 1 []) ty26 ty9 rfl rfl (by omega) (getD_some (by omega))) ?_
    refine ahp 7 rfl rfl (by kernel_rfl) (by kernel_rfl) (pop_load ty9 rfl rfl rfl) ?_
    refine ahp 8 rfl rfl (by kernel_rfl) (by kernel_rfl) (pop_move rfl) ?_
    refine ahp 9 rfl rfl (by kernel_rfl) (by kernel_rfl) (pop_idx (j := 2) (a := (spl 32 line).getD 2 []) ty26 ty9 rfl rfl (by omega) (getD_some (by omega))) ?_
    refine ahp 10 rfl rfl (by kernel_rfl) (by kernel_rfl) (pop_load ty9 rfl rfl rfl) ?_
    refine ahp 11 rfl rfl (by kernel_rfl) (by kernel_rfl) (pop_move rfl) ?_
    refine ahp 12 rfl rfl (by kernel_rfl) (by kernel_rfl) (pop_idx (j := 3) (a := (spl 32 line).getD 3 []) ty26 ty9 rfl rfl (by omega) (getD_some (by omega))) ?_
    refine ahp 13 rfl rfl (by kernel_rfl) (by kernel_rfl) (pop_load ty9 rfl rfl rfl) ?_
    refine ahp 14 rfl rfl (by kernel_rfl) (by kernel_rfl) (pop_build (cs := [_, _, _]) ty69 pl69 rfl) ?_
    refine ahp 15 rfl rfl (by kernel_rfl) (by kernel_rfl) (pop_buildSlice (hs := [_]) ty45 ty69 rfl rfl (by decide) (by decide) rfl) ?_
    refine ahe 16 rfl (by kernel_rfl) ?_
    refine hop_e rfl (eop_append (i := ds.length - 1 + 2) (v := xv) (es := x1.Gives.map eGive) ty45 ty69 rfl rfl rfl rfl (show (ds.map sDl)[ds.length - 1]? = some (.arr xv 3 (x1.Gives.map eGive)) from by rw [List.getElem?_map, hx]; rfl) (by simp [flat, hcells]) (by simp; omega) fun v84 => ?_)
    refine ⟨fun _ => .inl ⟨1, rfl⟩, ?_⟩
    refine ahp 17 rfl rfl (by kernel_rfl) (by kernel_rfl) ((by first | exact pop_nilCheck rfl | exact pop_nilCheck_raw rfl)) ?_
    refine ahp 18 rfl rfl (by kernel_rfl) (by kernel_rfl) ((by first | exact pop_fieldAddr ty47 rfl ty45 (by decide) rfl | exact pop_fieldAddr_raw ty47 rfl ty45 (by decide) rfl)) ?_
    refine ahe 19 rfl (by kernel_rfl) ?_
    refine hop_e0 (eop_store_arr (i := 1) (j := ds.length - 1) (f := 4) (y := rDl (x1, xv)) (y' := rDl (addG x1 (gvP line), v84)) ty45 rfl (by omega) rfl rfl (map_get hx) rfl rfl (by simp [hcells]) rfl ?_)
    refine ⟨fun _ => .inr (by simp [Before, Region.binds]), ?_⟩
    refine ahz (by kernel_rfl) ?_
    refine hw_reg ?_
    refine dp rfl (pop_assign rfl) ?_
    refine dn ?_
    refine hw_ret ?_
    first
    | exact ret_q rfl ⟨(v, ds), by rw [okS_f (wr_f h1).1 (wr_f h1).2]; rfl, rfl, fun h => by rw [okS_f (wr_f h1).1 (wr_f h1).2] at h; cases h⟩
    | exact ret_g Ghost.snoc3 rfl ⟨(v46, ds ++ [(odP line, .slice none 0 0)]), by rw [okS_o (hod.trans (by rw [← (ints_nums (dlN line) 15).1]; simpa using h5))]; simpa using h5, by simp [SDl, odP, setL, hcells, ofVal, ofVal1], fun _ => step_of (hod.trans (by rw [← (ints_nums (dlN line) 15).1]; simpa using h5))⟩
    | exact ret_q rfl ⟨(v, ds), by rw [okS_n5 (hod.trans (by rw [← (ints_nums (dlN line) 15).1]; simpa using h6)) hq5]; simpa using h6, rfl, fun h => by rw [okS_n5 (hod.trans (by rw [← (ints_nums (dlN line) 15).1]; simpa using h6)) hq5] at h; cases h⟩
    | exact ret_q rfl ⟨(.slice (some ⟨ob, off, none⟩) (ds.map rDl).length cap, ds.set (ds.length - 1) (addG x1 (gvP line), v84)), by rw [okS_g hgv ho0]; rfl, by simp [SDl, sDl, addG, gvP, List.map_set], fun _ => step_gv hgv hx⟩
    | (have hno : okS ds line = false := okS_0 hod (fun hh => by
        have q1 := hh.1.1
        have q2 := hh.1.2
        have q3 := hh.2
        simp [givS] at q1
        simp_all)
       exact ret_q rfl ⟨(v, ds), by rw [hno]; rfl, rfl, fun h => by rw [hno] at h; cases h⟩)
   ·try simp at h8
    refine hw_skip ?_
    refine blockQ_n ?_
    refine seqQ_n ?_
    refine hw_reg ?_
    refine dp rfl (pop_assign rfl) ?_
    refine dn ?_
    refine hw_ret ?_
    first
    | exact ret_q rfl ⟨(v, ds), by rw [okS_f (wr_f h1).1 (wr_f h1).2]; rfl, rfl, fun h => by rw [okS_f (wr_f h1).1 (wr_f h1).2] at h; cases h⟩
    | exact ret_g Ghost.snoc3 rfl ⟨(v46, ds ++ [(odP line, .slice none 0 0)]), by rw [okS_o (hod.trans (by rw [← (ints_nums (dlN line) 15).1]; simpa using h5))]; simpa using h5, by simp [SDl, odP, setL, hcells, ofVal, ofVal1], fun _ => step_of (hod.trans (by rw [← (ints_nums (dlN line) 15).1]; simpa using h5))⟩
    | exact ret_q rfl ⟨(v, ds), by rw [okS_n5 (hod.trans (by rw [← (ints_nums (dlN line) 15).1]; simpa using h6)) hq5]; simpa using h6, rfl, fun h => by rw [okS_n5 (hod.trans (by rw [← (ints_nums (dlN line) 15).1]; simpa using h6)) hq5] at h; cases h⟩
    | exact ret_q rfl ⟨(.slice (some ⟨ob, off, none⟩) (ds.map rDl).length cap, ds.set (ds.length - 1) (addG x1 (gvP line), v84)), by rw [okS_g hgv ho0]; rfl, by simp [SDl, sDl, addG, gvP, List.map_set], fun _ => step_gv hgv hx⟩
    | (have hno : okS ds line = false := okS_0 hod (fun hh => by
        have q1 := hh.1.1
        have q2 := hh.1.2
        have q3 := hh.2
        simp [givS] at q1
        simp_all)
       exact ret_q rfl ⟨(v, ds), by rw [hno]; rfl, rfl, fun h => by rw [hno] at h; cases h⟩)

theorem h_tRead1 [Tracks] {bo : Nat} {text : Str} : ∀ (done : List Str) (s : Str) (st : Value × List DlV), done.length ≤ 1000000 → s.length ≤ 1000000 → (spl 10 text)[done.length]? = some s → InvD text done st → Con Tryz.prog 53 ([.str s] ++ [pAt bo]) (SDl bo st) fun x M' => ∃ st', x = .bool (okT (dvH text) s) ∧ M' = SDl bo st' ∧ (okT (dvH text) s = true → InvD text (done ++ [s]) st') :=
 fun done s st h1 h2 hq hi => (c_trade_Read_1 (v := st.1) (ds := st.2) h2 (Nat.le_trans hi.2.2.1 h1) (fun p hp => Nat.le_trans (hi.2.2.2 p hp) h1)).mono fun x M' ⟨st', hx, hM, hp⟩ => ⟨st', by rw [hx, okS_t hq hi], hM, fun h => hi.next hq (by rw [okS_t hq hi]; exact h) (hp (by rw [okS_t hq hi]; exact h))⟩

theorem h_tRead2 [Tracks] {bo : Nat} {text : Str} : ∀ (done : List Str) (s : Str) (st : Value × List DlV), done.length ≤ 1000000 → s.length ≤ 1000000 → (spl 10 text)[done.length]? = some s → InvD text done st → Con Tryz.prog 71 ([.str s] ++ [pAt bo]) (SDl bo st) fun x M' => ∃ st', x = .bool (okT (dvH text) s) ∧ M' = SDl bo st' ∧ (okT (dvH text) s = true → InvD text (done ++ [s]) st') :=
 fun done s st h1 h2 hq hi => (c_benchref1_OffersRead_1 (v := st.1) (ds := st.2) h2 (Nat.le_trans hi.2.2.1 h1) (fun p hp => Nat.le_trans (hi.2.2.2 p hp) h1)).mono fun x M' ⟨st', hx, hM, hp⟩ => ⟨st', by rw [hx, okS_t hq hi], hM, fun h => hi.next hq (by rw [okS_t hq hi]; exact h) (hp (by rw [okS_t hq hi]; exact h))⟩

/-- benchwarmer/trade.Read -/
theorem c_trade_Read [Tracks] {m : MarketS} {text : Str} (ht : m.Teams.length ≤ 1000000) (ht2 : text.length ≤ 1000000) : ConP Tryz.prog 12 [eMarket m, .str text] (.tup [eDeals (dvP m text), .int .i64 (dvI m text), .int .i64 (dvE m text)]) := by
 obtain ⟨hgl, hga⟩ := dv_gd text
 refine Con.of_body Tryz.func12 rfl Tryz.ntmps12 rfl rfl ?_
 refine hw_reg ?_
 refine dp rfl (pop_box rfl rfl) ?_
 refine dp rfl (pop_assign rfl) ?_
 refine dp rfl (pop_assign rfl) ?_
 refine dp rfl (pop_assign rfl) ?_
 refine dn ?_
 refine hw_seq ?_
 refine hw_reg ?_
 refine dp rfl (pop_loadw ty28 rfl rfl rfl rfl) ?_
 refine dp rfl (pop_call ca51 rfl (WeakL.refl _) (c_trade_CheckMarket (by first | assumption | omega | (simp; omega) | simp_all))) ?_
 refine dp rfl (pop_assign rfl) ?_
 refine dn ?_
 refine hw_reg ?_
 refine dp rfl (pop_move rfl) ?_
 refine dp rfl (pop_neq rfl rfl) ?_
 refine dn ?_
 refine hw_cond rfl (fun h1 => ?_) (fun h2 => ?_)
 ·try simp at h1
  refine hw_reg ?_
  refine dp rfl (pop_move rfl) ?_
  refine dp rfl (pop_assign rfl) ?_
  refine dp rfl (pop_assign rfl) ?_
  refine dp rfl (pop_assign rfl) ?_
  refine dn ?_
  refine hw_ret ?_
  have hR : dealsE m (dvL text) = dealsE m (dvL text) := rfl
  first
  | exact ret_w rfl (weakDv (dv_1 h1).1 h1 (dv_1 h1).2)
  | exact ret_w rfl (weakDv (dv_2 h2 (by omega)).1 (by decide) (dv_2 h2 (by omega)).2)
  | exact ret_gw Ghost.clear rfl (weakDv (dv_3 h2 (by omega) h5).1 (by decide) (dv_3 h2 (by omega) h5).2) ⟨rfl, rfl⟩
  | exact ret_w rfl (weakDv ((dv_4 h2 (by omega) h6).1.trans hR) h7 (dv_4 h2 (by omega) h6).2)
  | exact ret_p rfl (eqDv ((dv_4 h2 (by omega) h6).1.trans (hR.trans h8)) (dv_4 h2 (by omega) h6).2)
 ·try simp at h2
  refine hw_skip ?_
  refine seqQ_n ?_
  refine hw_seq ?_
  refine hw_reg ?_
  refine dp rfl (pop_move rfl) ?_
  refine dp rfl (pop_lens ty9 rfl) ?_
  refine dp rfl (pop_gtr rfl rfl) ?_
  refine dn ?_
  refine hw_cond rfl (fun h3 => ?_) (fun h4 => ?_)
  ·try simp at h3
   refine hw_reg ?_
   refine dp rfl (pop_assign rfl) ?_
   refine dp rfl (pop_assign rfl) ?_
   refine dp rfl (pop_assign rfl) ?_
   refine dn ?_
   refine hw_ret ?_
   have hR : dealsE m (dvL text) = dealsE m (dvL text) := rfl
   first
   | exact ret_w rfl (weakDv (dv_1 h1).1 h1 (dv_1 h1).2)
   | exact ret_w rfl (weakDv (dv_2 h2 (by omega)).1 (by decide) (dv_2 h2 (by omega)).2)
   | exact ret_gw Ghost.clear rfl (weakDv (dv_3 h2 (by omega) h5).1 (by decide) (dv_3 h2 (by omega) h5).2) ⟨rfl, rfl⟩
   | exact ret_w rfl (weakDv ((dv_4 h2 (by omega) h6).1.trans hR) h7 (dv_4 h2 (by omega) h6).2)
   | exact ret_p rfl (eqDv ((dv_4 h2 (by omega) h6).1.trans (hR.trans h8)) (dv_4 h2 (by omega) h6).2)
  ·try simp at h4
   refine hw_skip ?_
   refine seqQ_n ?_
   refine hw_reg ?_
   refine de rfl (eop_alloc ty30 rfl fun b8 => ?_)
   refine dn ?_
   refine hw_ghost (Ghost.arr_nil 5) ?_
   refine hw_reg ?_
   refine dp rfl (pop_move rfl) ?_
   refine dp rfl (pop_makeFunc rfl rfl) ?_
   refine de rfl (eop_callf (M1 := SDl b8 (.slice none 0 0, [])) (R := []) ca52 rfl (WeakL.refl _) (List.Perm.swap _ _ _) (c_base_Each_p (S := SDl b8) (Inv := InvD text) (ok := okT (dvH text)) (caps := [pAt b8]) (st0 := (.slice none 0 0, [])) ca53 h_tRead1 (inv0 text) ht2) ?_)
   rintro _ _ ⟨st2, rfl, rfl, hst2⟩
   refine dp rfl (pop_move rfl) ?_
   refine dp rfl (pop_extract rfl rfl) ?_
   refine dp rfl (pop_extract rfl rfl) ?_
   refine dp rfl (pop_assign rfl) ?_
   refine dp rfl (pop_assign rfl) ?_
   refine dn ?_
   refine hw_seq ?_
   refine hw_reg ?_
   refine dp rfl (pop_move rfl) ?_
   refine dp rfl (pop_not rfl) ?_
   refine dn ?_
   refine hw_cond rfl (fun h5 => ?_) (fun h6 => ?_)
   ·try simp at h5
    refine hw_reg ?_
    refine dp rfl (pop_move rfl) ?_
    refine dp rfl (pop_assign rfl) ?_
    refine dp rfl (pop_assign rfl) ?_
    refine dp rfl (pop_assign rfl) ?_
    refine dn ?_
    refine hw_ret ?_
    have hR : dealsE m (dvL text) = dealsE m (dvL text) := rfl
    first
    | exact ret_w rfl (weakDv (dv_1 h1).1 h1 (dv_1 h1).2)
    | exact ret_w rfl (weakDv (dv_2 h2 (by omega)).1 (by decide) (dv_2 h2 (by omega)).2)
    | exact ret_gw Ghost.clear rfl (weakDv (dv_3 h2 (by omega) h5).1 (by decide) (dv_3 h2 (by omega) h5).2) ⟨rfl, rfl⟩
    | exact ret_w rfl (weakDv ((dv_4 h2 (by omega) h6).1.trans hR) h7 (dv_4 h2 (by omega) h6).2)
    | exact ret_p rfl (eqDv ((dv_4 h2 (by omega) h6).1.trans (hR.trans h8)) (dv_4 h2 (by omega) h6).2)
   ·try simp at h6
    refine hw_skip ?_
    refine seqQ_n ?_
    refine hw_seq ?_
    obtain ⟨v2, ds2⟩ := st2
    have hi1 := (hst2 h6).1
    dsimp only at hi1
    refine hw_ghost (Ghost.of_eq (M' := [.cells b8 [.raw v2]] ++ .arr v2 5 (([] : List DealS).map eDeal ++ ds2.map fun p : DlV => HVal.agg [.str p.1.Id, .str p.1.By, .int .i64 p.1.From, .int .i64 p.1.To, .raw p.2]) :: ds2.map fun p : DlV => MObj.arr p.2 3 ((DealS.Gives p.1).map eGive)) (by rw [List.append_nil]; rfl)) ?_
    refine hw_ghost (Ghost.fz_each (A := [.cells b8 [.raw v2]]) (enc := eDeal) (raw := fun y v => HVal.agg [.str y.Id, .str y.By, .int .i64 y.From, .int .i64 y.To, .raw v]) (cs := fun y v => [HVal.str y.Id, .str y.By, .int .i64 y.From, .int .i64 y.To, .raw v]) (st := DealS.Gives) (eb := eGive) (j := 4) (fun _ _ => rfl) (fun _ _ => rfl) (fun _ _ => rfl) ds2 []) ?_
    refine hw_ghost (Ghost.of_eq (M' := [.cells b8 [.raw v2], .arr v2 5 ((dvL text).map eDeal)]) (by rw [List.nil_append, hi1]; rfl)) ?_
    refine hw_ghost (Ghost.fcell (i := 1) (k := 0) (j := 0) rfl rfl rfl) ?_
    refine hw_ghost (Ghost.of_eq (M' := [.cells b8 [eDeals (dvL text)]]) rfl) ?_
    refine hw_ghost (Ghost.fc 8 (i := 0) rfl rfl) ?_
    refine hw_reg ?_
    refine dp rfl (pop_loadw ty28 rfl rfl rfl rfl) ?_
    refine dp rfl (pop_load ty30 rfl rfl rfl) ?_
    refine dp rfl (pop_call ca47 rfl (WeakL.refl _) (c_trade_CheckOffers (m := m) (l := dvL text) ht (by omega) (fun x hx => by have := (hga x hx).2.1; omega))) ?_
    refine dp rfl (pop_assign rfl) ?_
    refine dn ?_
    refine hw_reg ?_
    refine dp rfl (pop_move rfl) ?_
    refine dp rfl (pop_neq rfl rfl) ?_
    refine dn ?_
    refine hw_cond rfl (fun h7 => ?_) (fun h8 => ?_)
    ·try simp at h7
     refine hw_reg ?_
     refine dp rfl (pop_move rfl) ?_
     refine dp rfl (pop_assign rfl) ?_
     refine dp rfl (pop_assign rfl) ?_
     refine dp rfl (pop_assign rfl) ?_
     refine dn ?_
     refine hw_ret ?_
     have hR : dealsE m (dvL text) = dealsE m (dvL text) := rfl
     first
     | exact ret_w rfl (weakDv (dv_1 h1).1 h1 (dv_1 h1).2)
     | exact ret_w rfl (weakDv (dv_2 h2 (by omega)).1 (by decide) (dv_2 h2 (by omega)).2)
     | exact ret_gw Ghost.clear rfl (weakDv (dv_3 h2 (by omega) h5).1 (by decide) (dv_3 h2 (by omega) h5).2) ⟨rfl, rfl⟩
     | exact ret_w rfl (weakDv ((dv_4 h2 (by omega) h6).1.trans hR) h7 (dv_4 h2 (by omega) h6).2)
     | exact ret_p rfl (eqDv ((dv_4 h2 (by omega) h6).1.trans (hR.trans h8)) (dv_4 h2 (by omega) h6).2)
    ·try simp at h8
     refine hw_skip ?_
     refine seqQ_n ?_
     refine hw_reg ?_
     refine dp rfl (pop_load ty30 rfl rfl rfl) ?_
     refine dp rfl (pop_assign rfl) ?_
     refine dp rfl (pop_assign rfl) ?_
     refine dp rfl (pop_assign rfl) ?_
     refine dn ?_
     refine hw_ret ?_
     have hR : dealsE m (dvL text) = dealsE m (dvL text) := rfl
     first
     | exact ret_w rfl (weakDv (dv_1 h1).1 h1 (dv_1 h1).2)
     | exact ret_w rfl (weakDv (dv_2 h2 (by omega)).1 (by decide) (dv_2 h2 (by omega)).2)
     | exact ret_gw Ghost.clear rfl (weakDv (dv_3 h2 (by omega) h5).1 (by decide) (dv_3 h2 (by omega) h5).2) ⟨rfl, rfl⟩
     | exact ret_w rfl (weakDv ((dv_4 h2 (by omega) h6).1.trans hR) h7 (dv_4 h2 (by omega) h6).2)
     | exact ret_p rfl (eqDv ((dv_4 h2 (by omega) h6).1.trans (hR.trans h8)) (dv_4 h2 (by omega) h6).2)

/-- benchwarmer/benchref1.OffersRead -/
theorem c_benchref1_OffersRead [Tracks] {m : MarketS} {text : Str} (ht : m.Teams.length ≤ 1000000) (ht2 : text.length ≤ 1000000) (hz : marketE m = 0) : ConP Tryz.prog 22 [eMarket m, .str text] (.tup [eDeals (dvP m text), .int .i64 (dvI m text), .int .i64 (dvE m text)]) := by
 obtain ⟨hgl, hga⟩ := dv_gd text
 refine Con.of_body Tryz.func22 rfl Tryz.ntmps22 rfl rfl ?_
 refine hw_reg ?_
 refine dp rfl (pop_box rfl rfl) ?_
 refine dp rfl (pop_assign rfl) ?_
 refine dp rfl (pop_assign rfl) ?_
 refine dp rfl (pop_assign rfl) ?_
 refine dn ?_
 refine hw_seq ?_
 refine hw_reg ?_
 refine dp rfl (pop_move rfl) ?_
 refine dp rfl (pop_lens ty9 rfl) ?_
 refine dp rfl (pop_gtr rfl rfl) ?_
 refine dn ?_
 refine hw_cond rfl (fun h1 => ?_) (fun h2 => ?_)
 ·try simp at h1
  refine hw_reg ?_
  refine dp rfl (pop_assign rfl) ?_
  refine dp rfl (pop_assign rfl) ?_
  refine dp rfl (pop_assign rfl) ?_
  refine dn ?_
  refine hw_ret ?_
  have hR := (chk_ok hz [] (dvL text) [] []).2.1.symm
  first
  | exact ret_w rfl (weakDv (dv_2 hz (by omega)).1 (by decide) (dv_2 hz (by omega)).2)
  | exact ret_gw Ghost.clear rfl (weakDv (dv_3 hz (by omega) h3).1 (by decide) (dv_3 hz (by omega) h3).2) ⟨rfl, rfl⟩
  | exact ret_w rfl (weakDv ((dv_4 hz (by omega) h4).1.trans hR) h5 (dv_4 hz (by omega) h4).2)
  | exact ret_p rfl (eqDv ((dv_4 hz (by omega) h4).1.trans (hR.trans h6)) (dv_4 hz (by omega) h4).2)
 ·try simp at h2
  refine hw_skip ?_
  refine seqQ_n ?_
  refine hw_reg ?_
  refine de rfl (eop_alloc ty30 rfl fun b7 => ?_)
  refine dn ?_
  refine hw_ghost (Ghost.arr_nil 5) ?_
  refine hw_reg ?_
  refine dp rfl (pop_move rfl) ?_
  refine dp rfl (pop_makeFunc rfl rfl) ?_
  refine de rfl (eop_callf (M1 := SDl b7 (.slice none 0 0, [])) (R := []) ca70 rfl (WeakL.refl _) (List.Perm.swap _ _ _) (c_benchref1_Lines_p (S := SDl b7) (Inv := InvD text) (ok := okT (dvH text)) (caps := [pAt b7]) (st0 := (.slice none 0 0, [])) ca71 h_tRead2 (inv0 text) ht2) ?_)
  rintro _ _ ⟨st2, rfl, rfl, hst2⟩
  refine dp rfl (pop_move rfl) ?_
  refine dp rfl (pop_extract rfl rfl) ?_
  refine dp rfl (pop_extract rfl rfl) ?_
  refine dp rfl (pop_assign rfl) ?_
  refine dp rfl (pop_assign rfl) ?_
  refine dn ?_
  refine hw_seq ?_
  refine hw_reg ?_
  refine dp rfl (pop_move rfl) ?_
  refine dp rfl (pop_not rfl) ?_
  refine dn ?_
  refine hw_cond rfl (fun h3 => ?_) (fun h4 => ?_)
  ·try simp at h3
   refine hw_reg ?_
   refine dp rfl (pop_move rfl) ?_
   refine dp rfl (pop_assign rfl) ?_
   refine dp rfl (pop_assign rfl) ?_
   refine dp rfl (pop_assign rfl) ?_
   refine dn ?_
   refine hw_ret ?_
   have hR := (chk_ok hz [] (dvL text) [] []).2.1.symm
   first
   | exact ret_w rfl (weakDv (dv_2 hz (by omega)).1 (by decide) (dv_2 hz (by omega)).2)
   | exact ret_gw Ghost.clear rfl (weakDv (dv_3 hz (by omega) h3).1 (by decide) (dv_3 hz (by omega) h3).2) ⟨rfl, rfl⟩
   | exact ret_w rfl (weakDv ((dv_4 hz (by omega) h4).1.trans hR) h5 (dv_4 hz (by omega) h4).2)
   | exact ret_p rfl (eqDv ((dv_4 hz (by omega) h4).1.trans (hR.trans h6)) (dv_4 hz (by omega) h4).2)
  ·try simp at h4
   refine hw_skip ?_
   refine seqQ_n ?_
   refine hw_seq ?_
   obtain ⟨v2, ds2⟩ := st2
   have hi1 := (hst2 h4).1
   dsimp only at hi1
   refine hw_ghost (Ghost.of_eq (M' := [.cells b7 [.raw v2]] ++ .arr v2 5 (([] : List DealS).map eDeal ++ ds2.map fun p : DlV => HVal.agg [.str p.1.Id, .str p.1.By, .int .i64 p.1.From, .int .i64 p.1.To, .raw p.2]) :: ds2.map fun p : DlV => MObj.arr p.2 3 ((DealS.Gives p.1).map eGive)) (by rw [List.append_nil]; rfl)) ?_
   refine hw_ghost (Ghost.fz_each (A := [.cells b7 [.raw v2]]) (enc := eDeal) (raw := fun y v => HVal.agg [.str y.Id, .str y.By, .int .i64 y.From, .int .i64 y.To, .raw v]) (cs := fun y v => [HVal.str y.Id, .str y.By, .int .i64 y.From, .int .i64 y.To, .raw v]) (st := DealS.Gives) (eb := eGive) (j := 4) (fun _ _ => rfl) (fun _ _ => rfl) (fun _ _ => rfl) ds2 []) ?_
   refine hw_ghost (Ghost.of_eq (M' := [.cells b7 [.raw v2], .arr v2 5 ((dvL text).map eDeal)]) (by rw [List.nil_append, hi1]; rfl)) ?_
   refine hw_ghost (Ghost.fcell (i := 1) (k := 0) (j := 0) rfl rfl rfl) ?_
   refine hw_ghost (Ghost.of_eq (M' := [.cells b7 [eDeals (dvL text)]]) rfl) ?_
   refine hw_ghost (Ghost.fc 7 (i := 0) rfl rfl) ?_
   refine hw_reg ?_
   refine dp rfl (pop_loadw ty28 rfl rfl rfl rfl) ?_
   refine dp rfl (pop_load ty30 rfl rfl rfl) ?_
   refine dp rfl (pop_call ca10 rfl (WeakL.refl _) (c_benchref1_OffersFault (m := m) (l := dvL text) ht (by omega) (fun x hx => ⟨by have := (hga x hx).1; omega, by have := (hga x hx).2.1; omega, fun g hg => by have := (hga x hx).2.2 g hg; omega⟩))) ?_
   refine dp rfl (pop_assign rfl) ?_
   refine dn ?_
   refine hw_reg ?_
   refine dp rfl (pop_move rfl) ?_
   refine dp rfl (pop_neq rfl rfl) ?_
   refine dn ?_
   refine hw_cond rfl (fun h5 => ?_) (fun h6 => ?_)
   ·try simp at h5
    refine hw_reg ?_
    refine dp rfl (pop_move rfl) ?_
    refine dp rfl (pop_assign rfl) ?_
    refine dp rfl (pop_assign rfl) ?_
    refine dp rfl (pop_assign rfl) ?_
    refine dn ?_
    refine hw_ret ?_
    have hR := (chk_ok hz [] (dvL text) [] []).2.1.symm
    first
    | exact ret_w rfl (weakDv (dv_2 hz (by omega)).1 (by decide) (dv_2 hz (by omega)).2)
    | exact ret_gw Ghost.clear rfl (weakDv (dv_3 hz (by omega) h3).1 (by decide) (dv_3 hz (by omega) h3).2) ⟨rfl, rfl⟩
    | exact ret_w rfl (weakDv ((dv_4 hz (by omega) h4).1.trans hR) h5 (dv_4 hz (by omega) h4).2)
    | exact ret_p rfl (eqDv ((dv_4 hz (by omega) h4).1.trans (hR.trans h6)) (dv_4 hz (by omega) h4).2)
   ·try simp at h6
    refine hw_skip ?_
    refine seqQ_n ?_
    refine hw_reg ?_
    refine dp rfl (pop_load ty30 rfl rfl rfl) ?_
    refine dp rfl (pop_assign rfl) ?_
    refine dp rfl (pop_assign rfl) ?_
    refine dp rfl (pop_assign rfl) ?_
    refine dn ?_
    refine hw_ret ?_
    have hR := (chk_ok hz [] (dvL text) [] []).2.1.symm
    first
    | exact ret_w rfl (weakDv (dv_2 hz (by omega)).1 (by decide) (dv_2 hz (by omega)).2)
    | exact ret_gw Ghost.clear rfl (weakDv (dv_3 hz (by omega) h3).1 (by decide) (dv_3 hz (by omega) h3).2) ⟨rfl, rfl⟩
    | exact ret_w rfl (weakDv ((dv_4 hz (by omega) h4).1.trans hR) h5 (dv_4 hz (by omega) h4).2)
    | exact ret_p rfl (eqDv ((dv_4 hz (by omega) h4).1.trans (hR.trans h6)) (dv_4 hz (by omega) h4).2)

/-- benchwarmer/trade.Text -/
theorem c_trade_Text [Tracks] {m : MarketS} {l : List DealS} (ht : m.Teams.length ≤ 1000000) (hl : l.length ≤ 1000000) (hx0 : ∀ x ∈ l, x.Gives.length ≤ 1000000) : ConP Tryz.prog 11 [eMarket m, eDeals l] (.tup [.str (dlS m l), .int .i64 (dlE m l)]) := by
 refine Con.of_body Tryz.func11 rfl Tryz.ntmps11 rfl rfl ?_
 refine hw_reg ?_
 refine dp rfl (pop_box rfl rfl) ?_
 refine dp rfl (pop_assign rfl) ?_
 refine dp rfl (pop_assign rfl) ?_
 refine dn ?_
 refine hw_seq ?_
 refine hw_reg ?_
 refine dp rfl (pop_loadw ty28 rfl rfl rfl rfl) ?_
 refine dp rfl (pop_move rfl) ?_
 refine dp rfl (pop_call ca47 rfl (WeakL.refl _) (c_trade_CheckOffers (m := m) (l := l) ht hl hx0)) ?_
 refine dp rfl (pop_assign rfl) ?_
 refine dn ?_
 refine hw_reg ?_
 refine dp rfl (pop_move rfl) ?_
 refine dp rfl (pop_neq rfl rfl) ?_
 refine dn ?_
 refine hw_cond rfl (fun h1 => ?_) (fun h2 => ?_)
 ·try simp at h1
  refine hw_reg ?_
  refine dp rfl (pop_move rfl) ?_
  refine dp rfl (pop_assign rfl) ?_
  refine dp rfl (pop_assign rfl) ?_
  refine dn ?_
  refine hw_ret ?_
  first
  | exact ret_p rfl (dl_1 (by simpa using h1))
  | (refine ret_g Ghost.clear rfl ⟨dl_2 hz ?_, rfl⟩; omega)
  | (refine ret_p rfl (dl_3 hz ?_); omega)
 ·try simp at h2
  refine hw_skip ?_
  refine seqQ_n ?_
  have hz : dealsE m l = 0 := by simpa using h2
  obtain ⟨hl5, hkk⟩ := deals_k hz
  refine hw_reg ?_
  refine de rfl (eop_allocB 5 ty110 rfl fun b7 => ?_)
  refine dn ?_
  refine hw_seq ?_
  refine hw_reg ?_
  refine dp rfl (pop_move rfl) ?_
  refine dp rfl (pop_lenm ty30 rfl) ?_
  refine dp rfl (pop_move rfl) ?_
  refine dn ?_
  refine hw_block ?_
  refine hw_loopw2 [9, 11, 20, 21, 22, 23, 24, 25, 26, 27, 28, 29, 30, 31, 32, 33, 34, 35, 36, 37, 38, 39, 40, 41, 42, 43, 44, 45, 46, 47, 48, 49, 50, 51, 52, 53, 54, 55, 56, 57, 58, 59, 60, 61, 62, 63, 64, 65, 66] (fun (k : Nat) (v : Value) => [(20, .int .i64 k)]) (fun (k : Nat) (v : Value) => [.bld b7 110 5 v v (dlT (l.take k))]) (fun (k : Nat) (v : Value) => k ≤ l.length ∧ (True)) (fun (k : Nat) (v : Value) => l.length - k) (0) (.slice none 0 0) ?_ ?_ ?_ ?_
  ·exact ⟨Nat.zero_le _, trivial⟩
  ·exact ⟨rfl, trivial⟩
  ·exact perm_eq (by simp [dlT, dlL, lnT])
  ·intro k v hinv
   obtain ⟨hk, -⟩ := hinv
   refine hw_reg ?_
   refine dp rfl (pop_lss rfl rfl) ?_
   refine dn ?_
   refine hw_seq ?_
   refine hw_cond rfl (fun h3 => ?_) (fun h4 => ?_)
   ·try simp at h3
    obtain ⟨x, hx⟩ : ∃ x, l[k]? = some x := ⟨_, List.getElem?_eq_getElem h3⟩
    have hdx := drop_cons hx
    obtain ⟨hf1, hf2⟩ := (hkk x (List.mem_of_getElem? hx)).fr
    obtain ⟨hf3, hf4⟩ := (hkk x (List.mem_of_getElem? hx)).to
    have hkx := hkk x (List.mem_of_getElem? hx)
    have a1 := keyS_len hkx.id
    have a2 := keyS_len hkx.by'
    have a3 := itoa15 hkx.fr
    have a4 := itoa15 hkx.to
    have hxg := hkx.len
    have hof := deal_of hkx
    have hTk := dlT_len (l := l.take k) (fun p hp => hkk p (List.mem_of_mem_take hp))
    have hT2 : (l.take k).length ≤ 500 := by rw [List.length_take]; omega
    refine hw_skip ?_
    refine seqQ_n ?_
    refine hw_seq ?_
    refine hw_block ?_
    refine hw_reg ?_
    refine dp rfl (pop_idx ty30 ty47 rfl rfl rfl (by first | assumption | simp_all)) ?_
    refine dp rfl (pop_loadw ty47 rfl rfl rfl rfl) ?_
    refine de rfl (eop_alloc ty47 rfl fun b9 => ?_)
    refine de0 (eop_storew ty47 rfl rfl rfl rfl rfl ?_)
    refine dn ?_
    refine hw_ghost (Ghost.fc0 9 rfl) ?_
    refine hw_draw (fun _ => True) [] mixed ?_
    refine ahp 0 rfl rfl (by kernel_rfl) (by kernel_rfl) (pop_fieldAddr ty47 rfl ty9 (by decide) rfl) ?_
    refine ahp 1 rfl rfl (by kernel_rfl) (by kernel_rfl) (pop_load ty9 rfl rfl rfl) ?_
    refine ahp 2 rfl rfl (by kernel_rfl) (by kernel_rfl) (pop_adds rfl rfl (by simp; omega)) ?_
    refine ahp 3 rfl rfl (by kernel_rfl) (by kernel_rfl) (pop_adds rfl rfl (by simp; omega)) ?_
    refine ahp 4 rfl rfl (by kernel_rfl) (by kernel_rfl) (pop_fieldAddr ty47 rfl ty9 (by decide) rfl) ?_
    refine ahp 5 rfl rfl (by kernel_rfl) (by kernel_rfl) (pop_load ty9 rfl rfl rfl) ?_
    refine ahp 6 rfl rfl (by kernel_rfl) (by kernel_rfl) (pop_adds rfl rfl (by simp; omega)) ?_
    refine ahp 7 rfl rfl (by kernel_rfl) (by kernel_rfl) (pop_adds rfl rfl (by simp; omega)) ?_
    refine ahp 8 rfl rfl (by kernel_rfl) (by kernel_rfl) (pop_fieldAddr ty47 rfl ty44 (by decide) rfl) ?_
    refine ahp 9 rfl rfl (by kernel_rfl) (by kernel_rfl) (pop_fieldAddr ty44 rfl ty3 (by decide) rfl) ?_
    refine ahp 10 rfl rfl (by kernel_rfl) (by kernel_rfl) (pop_load ty3 rfl rfl rfl) ?_
    refine ahp 11 rfl rfl (by kernel_rfl) (by kernel_rfl) (pop_call ca29 rfl (WeakL.refl _) (c_Itoa (by omega) (by omega))) ?_
    refine ahp 12 rfl rfl (by kernel_rfl) (by kernel_rfl) (pop_adds rfl rfl (by simp; omega)) ?_
    refine ahp 13 rfl rfl (by kernel_rfl) (by kernel_rfl) (pop_adds rfl rfl (by simp; omega)) ?_
    refine ahp 14 rfl rfl (by kernel_rfl) (by kernel_rfl) (pop_fieldAddr ty47 rfl ty44 (by decide) rfl) ?_
    refine ahp 15 rfl rfl (by kernel_rfl) (by kernel_rfl) (pop_fieldAddr ty44 rfl ty3 (by decide) rfl) ?_
    refine ahp 16 rfl rfl (by kernel_rfl) (by kernel_rfl) (pop_load ty3 rfl rfl rfl) ?_
    refine ahp 17 rfl rfl (by kernel_rfl) (by kernel_rfl) (pop_call ca29 rfl (WeakL.refl _) (c_Itoa (by omega) (by omega))) ?_
    refine ahp 18 rfl rfl (by kernel_rfl) (by kernel_rfl) (pop_adds rfl rfl (by simp; omega)) ?_
    refine ahp 19 rfl rfl (by kernel_rfl) (by kernel_rfl) (pop_adds rfl rfl (by simp; omega)) ?_
    refine ahe 20 rfl (by kernel_rfl) ?_
    refine hop_e rfl (eop_callx (i := 0) ca48 rfl (WeakL.refl _) rfl (c_strings_Builder_WriteString (by simp; omega)) ?_)
    rintro _ _ ⟨v44, rfl, rfl⟩
    refine ⟨fun _ => .inl trivial, ?_⟩
    refine ahz (by kernel_rfl) ?_
    refine hw_reg ?_
    refine dp rfl (pop_fieldAddr ty47 rfl ty45 (by decide) rfl) ?_
    refine dp rfl (pop_load ty45 rfl rfl rfl) ?_
    refine dp rfl (pop_lenm ty45 rfl) ?_
    refine dp rfl (pop_move rfl) ?_
    refine dn ?_
    refine hw_block ?_
    refine hw_loopw2 [11, 48, 49, 50, 51, 52, 53, 54, 55, 56, 57, 58, 59, 60, 61, 62, 63, 64, 65] (fun (j : Nat) (u : Value) => [(48, .int .i64 j)]) (fun (j : Nat) (u : Value) => [.bld b7 110 5 u u (dlT (l.take k) ++ (jn 32 (offW x) ++ [10]) ++ lnT (((x.Gives.take j).map givW).map (jn 32)))]) (fun (j : Nat) (u : Value) => j ≤ x.Gives.length ∧ (True)) (fun (j : Nat) (u : Value) => x.Gives.length - j) (0) (v44) ?_ ?_ ?_ ?_
    ·exact ⟨Nat.zero_le _, trivial⟩
    ·exact ⟨rfl, trivial⟩
    ·exact perm_eq (by congr 1; simp [offW, jn, offerS, lnT])
    ·intro j u hinv
     obtain ⟨hj, -⟩ := hinv
     refine hw_reg ?_
     refine dp rfl (pop_lss rfl rfl) ?_
     refine dn ?_
     refine hw_seq ?_
     refine hw_cond rfl (fun h5 => ?_) (fun h6 => ?_)
     ·try simp at h5
      obtain ⟨g, hg⟩ : ∃ g, x.Gives[j]? = some g := ⟨_, List.getElem?_eq_getElem h5⟩
      have hdg := drop_cons hg
      obtain ⟨hg1, hg2, hg3⟩ := hkx.gv g (List.mem_of_getElem? hg)
      have b1 := keyS_len hg1
      have b2 := keyS_len hg2
      have b3 := keyS_len hg3
      have hgT := gvT_len hkx j
      refine hw_skip ?_
      refine seqQ_n ?_
      refine hw_seq ?_
      refine hw_block ?_
      refine hw_reg ?_
      refine dp rfl (pop_idx ty45 ty69 rfl rfl rfl (by first | assumption | simp_all)) ?_
      refine dp rfl (pop_loadw ty69 rfl rfl rfl rfl) ?_
      refine de rfl (eop_alloc ty69 rfl fun b11 => ?_)
      refine de0 (eop_storew ty69 rfl rfl rfl rfl rfl ?_)
      refine dn ?_
      refine hw_ghost (Ghost.fc0 11 rfl) ?_
      refine hw_reg1 ?_
      refine dp rfl (pop_fieldAddr ty69 rfl ty9 (by decide) rfl) ?_
      refine dp rfl (pop_load ty9 rfl rfl rfl) ?_
      refine dp rfl (pop_adds rfl rfl (by simp; omega)) ?_
      refine dp rfl (pop_adds rfl rfl (by simp; omega)) ?_
      refine dp rfl (pop_fieldAddr ty69 rfl ty9 (by decide) rfl) ?_
      refine dp rfl (pop_load ty9 rfl rfl rfl) ?_
      refine dp rfl (pop_adds rfl rfl (by simp; omega)) ?_
      refine dp rfl (pop_adds rfl rfl (by simp; omega)) ?_
      refine dp rfl (pop_fieldAddr ty69 rfl ty9 (by decide) rfl) ?_
      refine dp rfl (pop_load ty9 rfl rfl rfl) ?_
      refine dp rfl (pop_adds rfl rfl (by simp; omega)) ?_
      refine dp rfl (pop_adds rfl rfl (by simp; omega)) ?_
      refine de rfl (eop_callx (i := 0) ca48 rfl (WeakL.refl _) rfl (c_strings_Builder_WriteString (by simp only [List.length_append, List.length_cons, List.length_nil]; omega)) ?_)
      rintro _ _ ⟨v64, rfl, rfl⟩
      refine dn ?_
      refine blockQ_n ?_
      refine seqQ_n ?_
      refine hw_reg1 ?_
      refine dp rfl (pop_add64 rfl rfl (by omega) (by omega)) ?_
      refine dp rfl (pop_move rfl) ?_
      refine dn ?_
      exact ⟨j + 1, v64, ⟨by omega, trivial⟩, by dsimp only; omega, ⟨rfl, trivial⟩, (by repeat (first | exact keeps_refl | refine keeps_upd rfl ?_ | refine keeps_loop rfl rfl ?_)), perm_eq (by dsimp only; congr 1; rw [take_snoc' hg]; simp [lnT, givW, jn, givS])⟩
     ·try simp at h6
      have hnj : x.Gives.length ≤ j := by omega
      obtain rfl : j = x.Gives.length := by omega
      refine hw_exit ?_
      refine seqQ_x ?_
      refine loopQ2_x ?_
      refine blockQ_eq ?_
      refine blockQ_n ?_
      refine seqQ_n ?_
      refine hw_reg1 ?_
      refine dp rfl (pop_add64 rfl rfl (by omega) (by omega)) ?_
      refine dp rfl (pop_move rfl) ?_
      refine dn ?_
      exact ⟨k + 1, u, ⟨by omega, trivial⟩, by dsimp only; omega, ⟨rfl, trivial⟩, (by repeat (first | exact keeps_refl | refine keeps_upd rfl ?_ | refine keeps_loop rfl rfl ?_)), perm_eq (by dsimp only; congr 1; rw [take_snoc' hx, dlT_snoc, List.take_length]; simp)⟩
   ·try simp at h4
    have hnk : l.length ≤ k := by omega
    obtain rfl : k = l.length := by omega
    rw [List.take_length]
    refine hw_exit ?_
    refine seqQ_x ?_
    refine loopQ2_x ?_
    refine blockQ_eq ?_
    refine seqQ_n ?_
    refine hw_seq ?_
    refine hw_reg ?_
    refine de rfl (eop_callx (i := 0) ca49 rfl (WeakL.refl _) rfl c_strings_Builder_Len ?_)
    rintro _ _ ⟨rfl, rfl⟩
    refine dp rfl (pop_gtr rfl rfl) ?_
    refine dn ?_
    refine hw_cond rfl (fun h7 => ?_) (fun h8 => ?_)
    ·try simp at h7
     refine hw_reg ?_
     refine dp rfl (pop_assign rfl) ?_
     refine dp rfl (pop_assign rfl) ?_
     refine dn ?_
     refine hw_ret ?_
     first
     | exact ret_p rfl (dl_1 (by simpa using h1))
     | (refine ret_g Ghost.clear rfl ⟨dl_2 hz ?_, rfl⟩; omega)
     | (refine ret_p rfl (dl_3 hz ?_); omega)
    ·try simp at h8
     refine hw_skip ?_
     refine seqQ_n ?_
     refine hw_reg ?_
     refine de rfl (eop_callx (i := 0) ca50 rfl (WeakL.refl _) rfl c_strings_Builder_String ?_)
     rintro _ _ ⟨rfl, rfl⟩
     refine dp rfl (pop_assign rfl) ?_
     refine dp rfl (pop_assign rfl) ?_
     refine dn ?_
     refine hw_ret ?_
     first
     | exact ret_p rfl (dl_1 (by simpa using h1))
     | (refine ret_g Ghost.clear rfl ⟨dl_2 hz ?_, rfl⟩; omega)
     | (refine ret_p rfl (dl_3 hz ?_); omega)

/-- benchwarmer/benchref1.OfferLines -/
theorem c_benchref1_OfferLines [Tracks] {l : List DealS} (hl : l.length ≤ 500) (hkk : ∀ x ∈ l, DealK x) : ConP Tryz.prog 20 [eDeals l] (.str (dlT l)) := by
 refine Con.of_body Tryz.func20 rfl Tryz.ntmps20 rfl rfl ?_
 refine hw_reg ?_
 refine dp rfl (pop_assign rfl) ?_
 refine dn ?_
 refine hw_reg ?_
 refine dp rfl (pop_assign rfl) ?_
 refine dn ?_
 refine hw_seq ?_
 refine hw_reg ?_
 refine dp rfl (pop_move rfl) ?_
 refine dp rfl (pop_lenm ty30 rfl) ?_
 refine dp rfl (pop_move rfl) ?_
 refine dn ?_
 refine hw_block ?_
 refine hw_loopw [3, 5, 7, 10, 11, 12, 13, 14, 15, 16, 17, 18, 19, 20, 21, 22, 23, 24, 25, 26, 27, 28, 29, 30, 31, 32, 33, 34, 35, 36, 37, 38, 39, 40, 41, 42, 43, 44, 45, 46, 47, 48, 49, 50, 51, 52, 53, 54, 55, 56, 57, 58] (fun (k : Nat) => [(10, .int .i64 k), (3, .str (dlT (l.take k)))]) (fun (k : Nat) => []) (fun (k : Nat) => k ≤ l.length ∧ (True)) (fun (k : Nat) => l.length - k) (0) ?_ ?_ ?_ ?_
 ·exact ⟨Nat.zero_le _, trivial⟩
 ·exact ⟨rfl, rfl, trivial⟩
 ·exact List.Perm.refl _
 ·intro k hinv
  obtain ⟨hk, -⟩ := hinv
  refine hw_reg ?_
  refine dp rfl (pop_lss rfl rfl) ?_
  refine dn ?_
  refine hw_seq ?_
  refine hw_cond rfl (fun h1 => ?_) (fun h2 => ?_)
  ·try simp at h1
   obtain ⟨x, hx⟩ : ∃ x, l[k]? = some x := ⟨_, List.getElem?_eq_getElem h1⟩
   have hdx := drop_cons hx
   obtain ⟨hf1, hf2⟩ := (hkk x (List.mem_of_getElem? hx)).fr
   obtain ⟨hf3, hf4⟩ := (hkk x (List.mem_of_getElem? hx)).to
   have hkx := hkk x (List.mem_of_getElem? hx)
   have a1 := keyS_len hkx.id
   have a2 := keyS_len hkx.by'
   have a3 := itoa15 hkx.fr
   have a4 := itoa15 hkx.to
   have hxg := hkx.len
   have hof := deal_of hkx
   have hTk := dlT_len (l := l.take k) (fun p hp => hkk p (List.mem_of_mem_take hp))
   have hT2 : (l.take k).length ≤ 500 := by rw [List.length_take]; omega
   refine hw_skip ?_
   refine seqQ_n ?_
   refine hw_seq ?_
   refine hw_block ?_
   refine hw_reg ?_
   refine dp rfl (pop_idx ty30 ty47 rfl rfl rfl (by first | assumption | simp_all)) ?_
   refine dp rfl (pop_loadw ty47 rfl rfl rfl rfl) ?_
   refine de rfl (eop_alloc ty47 rfl fun b5 => ?_)
   refine de0 (eop_storew ty47 rfl rfl rfl rfl rfl ?_)
   refine dn ?_
   refine hw_ghost (Ghost.fc0 5 rfl) ?_
   refine hw_draw (fun _ => True) [] mixed ?_
   refine ahp 0 rfl rfl (by kernel_rfl) (by kernel_rfl) (pop_move rfl) ?_
   refine ahp 1 rfl rfl (by kernel_rfl) (by kernel_rfl) (pop_fieldAddr ty47 rfl ty9 (by decide) rfl) ?_
   refine ahp 2 rfl rfl (by kernel_rfl) (by kernel_rfl) (pop_load ty9 rfl rfl rfl) ?_
   refine ahp 3 rfl rfl (by kernel_rfl) (by kernel_rfl) (pop_adds rfl rfl (by simp; omega)) ?_
   refine ahp 4 rfl rfl (by kernel_rfl) (by kernel_rfl) (pop_adds rfl rfl (by simp; omega)) ?_
   refine ahp 5 rfl rfl (by kernel_rfl) (by kernel_rfl) (pop_fieldAddr ty47 rfl ty9 (by decide) rfl) ?_
   refine ahp 6 rfl rfl (by kernel_rfl) (by kernel_rfl) (pop_load ty9 rfl rfl rfl) ?_
   refine ahp 7 rfl rfl (by kernel_rfl) (by kernel_rfl) (pop_adds rfl rfl (by simp; omega)) ?_
   refine ahp 8 rfl rfl (by kernel_rfl) (by kernel_rfl) (pop_adds rfl rfl (by simp; omega)) ?_
   refine ahp 9 rfl rfl (by kernel_rfl) (by kernel_rfl) (pop_fieldAddr ty47 rfl ty44 (by decide) rfl) ?_
   refine ahp 10 rfl rfl (by kernel_rfl) (by kernel_rfl) (pop_fieldAddr ty44 rfl ty3 (by decide) rfl) ?_
   refine ahp 11 rfl rfl (by kernel_rfl) (by kernel_rfl) (pop_load ty3 rfl rfl rfl) ?_
   refine ahp 12 rfl rfl (by kernel_rfl) (by kernel_rfl) (pop_call ca29 rfl (WeakL.refl _) (c_Itoa (by omega) (by omega))) ?_
   refine ahp 13 rfl rfl (by kernel_rfl) (by kernel_rfl) (pop_adds rfl rfl (by simp; omega)) ?_
   refine ahp 14 rfl rfl (by kernel_rfl) (by kernel_rfl) (pop_adds rfl rfl (by simp; omega)) ?_
   refine ahp 15 rfl rfl (by kernel_rfl) (by kernel_rfl) (pop_fieldAddr ty47 rfl ty44 (by decide) rfl) ?_
   refine ahp 16 rfl rfl (by kernel_rfl) (by kernel_rfl) (pop_fieldAddr ty44 rfl ty3 (by decide) rfl) ?_
   refine ahp 17 rfl rfl (by kernel_rfl) (by kernel_rfl) (pop_load ty3 rfl rfl rfl) ?_
   refine ahp 18 rfl rfl (by kernel_rfl) (by kernel_rfl) (pop_call ca29 rfl (WeakL.refl _) (c_Itoa (by omega) (by omega))) ?_
   refine ahp 19 rfl rfl (by kernel_rfl) (by kernel_rfl) (pop_adds rfl rfl (by simp; omega)) ?_
   refine ahp 20 rfl rfl (by kernel_rfl) (by kernel_rfl) (pop_adds rfl rfl (by simp; omega)) ?_
   refine ahp 21 rfl rfl (by kernel_rfl) (by kernel_rfl) (pop_adds rfl rfl (by simp; omega)) ?_
   refine ahp 22 rfl rfl (by kernel_rfl) (by kernel_rfl) (pop_assign rfl) ?_
   refine ahz (by kernel_rfl) ?_
   refine hw_reg ?_
   refine dp rfl (pop_fieldAddr ty47 rfl ty45 (by decide) rfl) ?_
   refine dp rfl (pop_load ty45 rfl rfl rfl) ?_
   refine dp rfl (pop_lenm ty45 rfl) ?_
   refine dp rfl (pop_move rfl) ?_
   refine dn ?_
   refine hw_block ?_
   refine hw_loopw [3, 7, 39, 40, 41, 42, 43, 44, 45, 46, 47, 48, 49, 50, 51, 52, 53, 54, 55, 56, 57] (fun (j : Nat) => [(39, .int .i64 j), (3, .str (dlT (l.take k) ++ (jn 32 (offW x) ++ [10]) ++ lnT (((x.Gives.take j).map givW).map (jn 32))))]) (fun (j : Nat) => []) (fun (j : Nat) => j ≤ x.Gives.length ∧ (True)) (fun (j : Nat) => x.Gives.length - j) (0) ?_ ?_ ?_ ?_
   ·exact ⟨Nat.zero_le _, trivial⟩
   ·exact ⟨rfl, congrArg (fun q => some (HVal.str q)) (by simp [offW, jn, offerS, lnT]), trivial⟩
   ·exact List.Perm.refl _
   ·intro j hinv
    obtain ⟨hj, -⟩ := hinv
    refine hw_reg ?_
    refine dp rfl (pop_lss rfl rfl) ?_
    refine dn ?_
    refine hw_seq ?_
    refine hw_cond rfl (fun h3 => ?_) (fun h4 => ?_)
    ·try simp at h3
     obtain ⟨g, hg⟩ : ∃ g, x.Gives[j]? = some g := ⟨_, List.getElem?_eq_getElem h3⟩
     have hdg := drop_cons hg
     obtain ⟨hg1, hg2, hg3⟩ := hkx.gv g (List.mem_of_getElem? hg)
     have b1 := keyS_len hg1
     have b2 := keyS_len hg2
     have b3 := keyS_len hg3
     have hgT := gvT_len hkx j
     refine hw_skip ?_
     refine seqQ_n ?_
     refine hw_seq ?_
     refine hw_block ?_
     refine hw_reg ?_
     refine dp rfl (pop_idx ty45 ty69 rfl rfl rfl (by first | assumption | simp_all)) ?_
     refine dp rfl (pop_loadw ty69 rfl rfl rfl rfl) ?_
     refine de rfl (eop_alloc ty69 rfl fun b7 => ?_)
     refine de0 (eop_storew ty69 rfl rfl rfl rfl rfl ?_)
     refine dn ?_
     refine hw_ghost (Ghost.fc0 7 rfl) ?_
     refine hw_reg1 ?_
     refine dp rfl (pop_move rfl) ?_
     refine dp rfl (pop_fieldAddr ty69 rfl ty9 (by decide) rfl) ?_
     refine dp rfl (pop_load ty9 rfl rfl rfl) ?_
     refine dp rfl (pop_adds rfl rfl (by simp; omega)) ?_
     refine dp rfl (pop_adds rfl rfl (by simp; omega)) ?_
     refine dp rfl (pop_fieldAddr ty69 rfl ty9 (by decide) rfl) ?_
     refine dp rfl (pop_load ty9 rfl rfl rfl) ?_
     refine dp rfl (pop_adds rfl rfl (by simp; omega)) ?_
     refine dp rfl (pop_adds rfl rfl (by simp; omega)) ?_
     refine dp rfl (pop_fieldAddr ty69 rfl ty9 (by decide) rfl) ?_
     refine dp rfl (pop_load ty9 rfl rfl rfl) ?_
     refine dp rfl (pop_adds rfl rfl (by simp; omega)) ?_
     refine dp rfl (pop_adds rfl rfl (by simp; omega)) ?_
     refine dp rfl (pop_adds rfl rfl (by simp only [List.length_append, List.length_cons, List.length_nil]; omega)) ?_
     refine dp rfl (pop_assign rfl) ?_
     refine dn ?_
     refine blockQ_n ?_
     refine seqQ_n ?_
     refine hw_reg1 ?_
     refine dp rfl (pop_add64 rfl rfl (by omega) (by omega)) ?_
     refine dp rfl (pop_move rfl) ?_
     refine dn ?_
     exact ⟨j + 1, ⟨by omega, trivial⟩, by dsimp only; omega, ⟨rfl, congrArg (fun q => some (HVal.str q)) (by rw [take_snoc' hg]; simp [lnT, givW, jn, givS]), trivial⟩, (by repeat (first | exact keeps_refl | refine keeps_upd rfl ?_ | refine keeps_loop rfl rfl ?_)), List.Perm.refl _⟩
    ·try simp at h4
     have hnj : x.Gives.length ≤ j := by omega
     obtain rfl : j = x.Gives.length := by omega
     refine hw_exit ?_
     refine seqQ_x ?_
     refine loopQ_x ?_
     refine blockQ_eq ?_
     refine blockQ_n ?_
     refine seqQ_n ?_
     refine hw_reg1 ?_
     refine dp rfl (pop_add64 rfl rfl (by omega) (by omega)) ?_
     refine dp rfl (pop_move rfl) ?_
     refine dn ?_
     exact ⟨k + 1, ⟨by omega, trivial⟩, by dsimp only; omega, ⟨rfl, congrArg (fun q => some (HVal.str q)) (by rw [take_snoc' hx, dlT_snoc, List.take_length]; simp), trivial⟩, (by repeat (first | exact keeps_refl | refine keeps_upd rfl ?_ | refine keeps_loop rfl rfl ?_)), List.Perm.refl _⟩
  ·try simp at h2
   have hnk : l.length ≤ k := by omega
   obtain rfl : k = l.length := by omega
   rw [List.take_length]
   refine hw_exit ?_
   refine seqQ_x ?_
   refine loopQ_x ?_
   refine blockQ_eq ?_
   refine seqQ_n ?_
   refine hw_reg ?_
   refine dp rfl (pop_move rfl) ?_
   refine dp rfl (pop_assign rfl) ?_
   refine dn ?_
   refine hw_ret ?_
   refine ret_p rfl ?_
   rfl

/-- (*benchwarmer/benchmake.Stream).OfferString -/
theorem c_benchmake_Stream_OfferString [Tracks] {b : Nat} {l : List Int} {a : Nat} {m : MarketS}  (ha : a ≤ 600000) (hm : GoodM m) : Con Tryz.prog 15 [pAt b, eMarket m] [St b l a] (fun x M' => ∃ (t : Str) (a' : Nat), x = .str t ∧ t.length ≤ 200000 ∧ a' ≤ a + 1400 ∧ M' = [St b l a']) := by
 have hm5 := hm.len
 refine Con.of_body Tryz.func15 rfl Tryz.ntmps15 rfl rfl ?_
 refine hw_reg ?_
 refine dp rfl (pop_box rfl rfl) ?_
 refine dp rfl (pop_assign rfl) ?_
 refine dn ?_
 refine hw_reg ?_
 refine dp rfl (pop_assign rfl) ?_
 refine dn ?_
 refine hw_join [5, 6, 7, 8, 9, 10, 11, 12, 13, 14, 15, 16, 17, 18, 19, 20, 21] (fun (q : Str × Nat) => [(5, .str q.1)]) (fun (q : Str × Nat) => [St b l q.2]) (fun (q : Str × Nat) => q.1.length ≤ 5000 ∧ q.2 ≤ a + 1000) ?_ ?_
 ·skip
  refine hw_reg ?_
  refine dp rfl (pop_loadw ty28 rfl rfl rfl rfl) ?_
  refine dp rfl (pop_call ca8 rfl (WeakL.refl _) (c_benchref1_MarketFault (m := m) (by omega) (fun s hs => Nat.le_trans (hm.sh s hs) (by decide)))) ?_
  refine dp rfl (pop_eql rfl rfl) ?_
  refine dn ?_
  refine hw_cond rfl (fun h1 => ?_) (fun h2 => ?_)
  ·try simp at h1
   refine hw_draw (fun _ => True) [] mixed ?_
   refine ahp 0 rfl rfl (by kernel_rfl) (by kernel_rfl) (pop_move rfl) ?_
   refine ahp 1 rfl rfl (by kernel_rfl) (by kernel_rfl) (pop_loadw ty28 rfl rfl rfl rfl) ?_
   refine ahp 2 rfl rfl (by kernel_rfl) (by kernel_rfl) (pop_move rfl) ?_
   refine ahp 3 rfl rfl (by kernel_rfl) (by kernel_rfl) (pop_loadw ty28 rfl rfl rfl rfl) ?_
   refine ahe 4 rfl (by kernel_rfl) ?_
   first
   | refine hop_e rfl (eop_callx (i := 0) ca7 rfl (WeakL.refl _) rfl (c_benchmake_Stream_OwnerList (by first | assumption | omega | (simp; omega) | simp_all) (by first | assumption | omega | (simp; omega) | simp_all)) ?_)
   | refine hop_e rfl (eop_callx (i := 1) ca7 rfl (WeakL.refl _) rfl (c_benchmake_Stream_OwnerList (by first | assumption | omega | (simp; omega) | simp_all) (by first | assumption | omega | (simp; omega) | simp_all)) ?_)
   | refine hop_e rfl (eop_callx (i := 2) ca7 rfl (WeakL.refl _) rfl (c_benchmake_Stream_OwnerList (by first | assumption | omega | (simp; omega) | simp_all) (by first | assumption | omega | (simp; omega) | simp_all)) ?_)
   | refine hop_e rfl (eop_callx (i := 3) ca7 rfl (WeakL.refl _) rfl (c_benchmake_Stream_OwnerList (by first | assumption | omega | (simp; omega) | simp_all) (by first | assumption | omega | (simp; omega) | simp_all)) ?_)
   rintro _ _ ⟨o14, a14, rfl, ho14, ha14, rfl⟩
   refine ⟨fun _ => .inl trivial, ?_⟩
   refine ahe 5 rfl (by kernel_rfl) ?_
   first
   | refine hop_e rfl (eop_callx (i := 0) ca6 rfl (WeakL.refl _) rfl (c_benchmake_Stream_OfferList (by first | assumption | omega | (simp; omega) | simp_all) (by first | assumption | omega | (simp; omega) | simp_all) (by first | assumption | omega | (simp; omega) | simp_all)) ?_)
   | refine hop_e rfl (eop_callx (i := 1) ca6 rfl (WeakL.refl _) rfl (c_benchmake_Stream_OfferList (by first | assumption | omega | (simp; omega) | simp_all) (by first | assumption | omega | (simp; omega) | simp_all) (by first | assumption | omega | (simp; omega) | simp_all)) ?_)
   | refine hop_e rfl (eop_callx (i := 2) ca6 rfl (WeakL.refl _) rfl (c_benchmake_Stream_OfferList (by first | assumption | omega | (simp; omega) | simp_all) (by first | assumption | omega | (simp; omega) | simp_all) (by first | assumption | omega | (simp; omega) | simp_all)) ?_)
   | refine hop_e rfl (eop_callx (i := 3) ca6 rfl (WeakL.refl _) rfl (c_benchmake_Stream_OfferList (by first | assumption | omega | (simp; omega) | simp_all) (by first | assumption | omega | (simp; omega) | simp_all) (by first | assumption | omega | (simp; omega) | simp_all)) ?_)
   rintro _ _ ⟨x15, a15, rfl, hx15, hxo15, ha15, rfl⟩
   refine ⟨fun _ => .inl trivial, ?_⟩
   refine ahp 6 rfl rfl (by kernel_rfl) (by kernel_rfl) (pop_assign rfl) ?_
   refine ahz (by kernel_rfl) ?_
   refine hw_reg ?_
   refine dp rfl (pop_loadw ty28 rfl rfl rfl rfl) ?_
   refine dp rfl (pop_move rfl) ?_
   refine dp rfl (pop_call ca10 rfl (WeakL.refl _) (c_benchref1_OffersFault (m := m) (l := x15) (by omega) (by have := hx15.len; omega) (fun x hx => ⟨(hx15.all x hx).id, Nat.le_trans (hx15.all x hx).len (by decide), (hx15.all x hx).all⟩))) ?_
   refine dp rfl (pop_eql rfl rfl) ?_
   refine dn ?_
   refine hw_cond rfl (fun h3 => ?_) (fun h4 => ?_)
   ·try simp at h3
    have hz : marketE m = 0 := by simpa using h1
    have hkk := (deals_k (m := m) (l := x15) (by rw [← (chk_ok hz [] x15 [] []).2.1]; simpa using h3)).2
    have hft := dlT_few (fun x hx => ⟨hkk x hx, (hx15.all x hx).len⟩) hx15.len
    refine hw_reg1 ?_
    refine dp rfl (pop_move rfl) ?_
    refine dp rfl (pop_call ca20 rfl (WeakL.refl _) (c_benchref1_OfferLines (l := x15) (by have := hx15.len; omega) hkk)) ?_
    refine dp rfl (pop_assign rfl) ?_
    refine dn ?_
    exact ⟨(dlT x15, a15), ⟨by dsimp only; omega, by dsimp only; omega⟩, ⟨rfl, trivial⟩, (by repeat (first | exact keeps_refl | refine keeps_upd rfl ?_ | refine keeps_loop rfl rfl ?_)), perm_eq rfl⟩
   ·try simp at h4
    refine hw_skip ?_
    exact ⟨(_, a15), ⟨by simp, by dsimp only; omega⟩, ⟨rfl, trivial⟩, (by repeat (first | exact keeps_refl | refine keeps_upd rfl ?_ | refine keeps_loop rfl rfl ?_)), perm_eq rfl⟩
  ·try simp at h2
   refine hw_skip ?_
   exact ⟨(_, a), ⟨by simp, by dsimp only; omega⟩, ⟨rfl, trivial⟩, (by repeat (first | exact keeps_refl | refine keeps_upd rfl ?_ | refine keeps_loop rfl rfl ?_)), perm_eq rfl⟩
 ·intro q hq
  obtain ⟨t0, a1⟩ := q
  dsimp only at hq
  obtain ⟨hq1, hq2⟩ := hq
  refine hw_seq ?_
  refine hw_reg ?_
  refine dp rfl (pop_move rfl) ?_
  refine dp rfl (pop_buildSlice (hs := [_, _, _, _]) ty22 ty3 rfl rfl (by decide) (by decide) rfl) ?_
  first
  | refine de rfl (eop_callx (i := 0) ca24 rfl (WeakL.refl _) rfl (c_benchmake_Stream_Pick (L := [_, _, _, _]) (by first | assumption | omega | (simp; omega) | simp_all) (by first | assumption | omega | (simp; omega) | simp_all) (by first | assumption | omega | (simp; omega) | simp_all)) ?_)
  | refine de rfl (eop_callx (i := 1) ca24 rfl (WeakL.refl _) rfl (c_benchmake_Stream_Pick (L := [_, _, _, _]) (by first | assumption | omega | (simp; omega) | simp_all) (by first | assumption | omega | (simp; omega) | simp_all) (by first | assumption | omega | (simp; omega) | simp_all)) ?_)
  | refine de rfl (eop_callx (i := 2) ca24 rfl (WeakL.refl _) rfl (c_benchmake_Stream_Pick (L := [_, _, _, _]) (by first | assumption | omega | (simp; omega) | simp_all) (by first | assumption | omega | (simp; omega) | simp_all) (by first | assumption | omega | (simp; omega) | simp_all)) ?_)
  | refine de rfl (eop_callx (i := 3) ca24 rfl (WeakL.refl _) rfl (c_benchmake_Stream_Pick (L := [_, _, _, _]) (by first | assumption | omega | (simp; omega) | simp_all) (by first | assumption | omega | (simp; omega) | simp_all) (by first | assumption | omega | (simp; omega) | simp_all)) ?_)
  rintro _ _ ⟨y24, rfl, hy24, rfl⟩
  refine dp rfl (pop_move rfl) ?_
  refine dn ?_
  have hy2 : y24 ≤ 2 := by simp at hy24; omega
  refine hw_block ?_
  refine hw_loopw3 [5, 25, 26, 27, 28, 29, 30] (fun (k : Nat) (t : Str) (a2 : Nat) => [(25, .int .i64 (k : Int)), (5, .str t)]) (fun (k : Nat) (t : Str) (a2 : Nat) => [St b l a2]) (fun (k : Nat) (t : Str) (a2 : Nat) => k ≤ 2 ∧ t.length ≤ 5000 + 20 * k ∧ a2 ≤ a1 + 1 + 3 * k) (fun (k : Nat) (t : Str) (a2 : Nat) => 2 - k) (0) (t0) (a1 + 1) ?_ ?_ ?_ ?_
  ·exact ⟨by omega, by omega, by omega⟩
  ·exact ⟨rfl, rfl, trivial⟩
  ·exact perm_eq rfl
  ·intro k t a2 hinv
   obtain ⟨hk, hlt, hat⟩ := hinv
   refine hw_reg ?_
   refine dp rfl (pop_lss rfl rfl) ?_
   refine dn ?_
   refine hw_seq ?_
   refine hw_cond rfl (fun h5 => ?_) (fun h6 => ?_)
   ·try simp at h5
    refine hw_skip ?_
    refine seqQ_n ?_
    refine hw_seq ?_
    refine hw_block ?_
    refine hw_reg1 ?_
    refine dp rfl (pop_move rfl) ?_
    refine dp rfl (pop_move rfl) ?_
    first
    | refine de rfl (eop_callx (i := 0) ca58 rfl (WeakL.refl _) rfl (c_benchmake_Stream_Changed (by first | assumption | omega | (simp; omega) | simp_all) (by first | assumption | omega | (simp; omega) | simp_all) (by first | assumption | omega | (simp; omega) | simp_all)) ?_)
    | refine de rfl (eop_callx (i := 1) ca58 rfl (WeakL.refl _) rfl (c_benchmake_Stream_Changed (by first | assumption | omega | (simp; omega) | simp_all) (by first | assumption | omega | (simp; omega) | simp_all) (by first | assumption | omega | (simp; omega) | simp_all)) ?_)
    | refine de rfl (eop_callx (i := 2) ca58 rfl (WeakL.refl _) rfl (c_benchmake_Stream_Changed (by first | assumption | omega | (simp; omega) | simp_all) (by first | assumption | omega | (simp; omega) | simp_all) (by first | assumption | omega | (simp; omega) | simp_all)) ?_)
    | refine de rfl (eop_callx (i := 3) ca58 rfl (WeakL.refl _) rfl (c_benchmake_Stream_Changed (by first | assumption | omega | (simp; omega) | simp_all) (by first | assumption | omega | (simp; omega) | simp_all) (by first | assumption | omega | (simp; omega) | simp_all)) ?_)
    rintro _ _ ⟨s29, a29, rfl, hs29, ha29, rfl⟩
    refine dp rfl (pop_assign rfl) ?_
    refine dn ?_
    refine blockQ_n ?_
    refine seqQ_n ?_
    refine hw_reg1 ?_
    refine dp rfl (pop_add64 rfl rfl (by omega) (by omega)) ?_
    refine dp rfl (pop_move rfl) ?_
    refine dn ?_
    exact ⟨k + 1, s29, a29, ⟨by omega, by simp at hs29; omega, by omega⟩, by dsimp only; omega, ⟨rfl, rfl, trivial⟩, (by repeat (first | exact keeps_refl | refine keeps_upd rfl ?_ | refine keeps_loop rfl rfl ?_)), perm_eq rfl⟩
   ·try simp at h6
    refine hw_exit ?_
    refine seqQ_x ?_
    refine loopQ3_x ?_
    refine blockQ_eq ?_
    refine seqQ_n ?_
    refine hw_reg ?_
    refine dp rfl (pop_move rfl) ?_
    refine dp rfl (pop_assign rfl) ?_
    refine dn ?_
    refine hw_ret ?_
    exact ret_q rfl ⟨t, a2, rfl, by omega, by omega, rfl⟩
end Go.Proofs.YtdjpppifnmjhoaaGreatDoor
end
section
namespace Go.HL
theorem eqGives_refl : ∀ l : List GiveS, eqSts eGive l l = true
 | [] => rfl
 | a :: r => by simp [eqSts, eqSt, eqGives_refl r, hcells, eqHL, eqH]
theorem dl_ok {m : MarketS} {l : List DealS} (h : dealsE m l = 0) (h2 : (dlT l).length ≤ 200000) : dlE m l = 0 ∧ dlS m l = dlT l := by
 have e : dlE m l = 0 := by unfold dlE; rw [if_neg (by simp [h]), if_neg (by omega)]
 exact ⟨e, by unfold dlS; rw [if_pos e]⟩
def bothB (m : MarketS) (o : List OwnerS) (x y : DealS) : Bool := didB m o x.Gives && didB m (didV o x.Gives) y.Gives
def clB (m : MarketS) (o : List OwnerS) (x y : DealS) : Bool := !(bothB m o x y) && !(bothB m o y x)
def clP (m : MarketS) (o : List OwnerS) (x : DealS) (r : List DealS) : List PairS := (r.filter (clB m o x)).map fun y => ⟨x.Id, y.Id⟩
def clG (m : MarketS) (o : List OwnerS) : List DealS → List PairS
 | [] => []
 | x :: r => clP m o x r ++ clG m o r
def ableL (m : MarketS) (o : List OwnerS) (l : List DealS) : List DealS := l.filter fun x => didB m o x.Gives
/-- As the references tell it: each pair of all. -/
def rlP (m : MarketS) (o : List OwnerS) (x : DealS) (r : List DealS) : List PairS := (r.filter fun y => didB m o x.Gives && didB m o y.Gives && clB m o x y).map fun y => ⟨x.Id, y.Id⟩
def rlG (m : MarketS) (o : List OwnerS) : List DealS → List PairS
 | [] => []
 | x :: r => rlP m o x r ++ rlG m o r
theorem cl_same (m : MarketS) (o : List OwnerS) : ∀ l : List DealS, clG m o (ableL m o l) = rlG m o l
 | [] => rfl
 | x :: r => by
   have ih := cl_same m o r
   unfold ableL at ih ⊢
   rw [rlG, ← ih]
   cases hx : didB m o x.Gives with
   | true =>
     rw [List.filter_cons_of_pos (by rw [hx]), clG]
     congr 1
     unfold clP rlP
     rw [List.filter_filter, hx]
     congr 1
     refine List.filter_congr fun y _ => ?_
     cases didB m o y.Gives <;> simp
   | false =>
     rw [List.filter_cons_of_neg (by rw [hx]; simp)]
     unfold rlP
     rw [hx]
     simp
def clL (m : MarketS) (o : List OwnerS) (l : List DealS) : List PairS := if orI [ownersE m o, dealsE m l] ≠ 0 then [] else clG m o (ableL m o l)
theorem didF_players {o : List OwnerS} : ∀ (l : List GiveS) (p d : List OwnerS), p.map (·.Player) = o.map (·.Player) → didF p l = some d → d.map (·.Player) = o.map (·.Player)
 | [], p, d, hp, h => by rw [didF] at h; cases h; exact hp
 | g :: r, p, d, hp, h => by
   rw [didF] at h
   cases hs : stepO p g with
   | none => rw [hs] at h; cases h
   | some q =>
     rw [hs] at h
     refine didF_players r q d ?_ h
     unfold stepO at hs
     split at hs
     ·rename_i y hy
      split at hs
      ·cases hs; rw [set_player hy, hp]
      ·cases hs
     ·cases hs
theorem didV_players {m : MarketS} {o : List OwnerS} {x : DealS} (h : didB m o x.Gives = true) : (didV o x.Gives).map (·.Player) = o.map (·.Player) := by
 unfold didB at h
 cases hd : didF o x.Gives with
 | none => rw [hd] at h; cases h
 | some d => unfold didV; rw [hd]; exact didF_players x.Gives o d rfl hd
theorem ableL_take {m : MarketS} {o : List OwnerS} {l : List DealS} {k : Nat} {x : DealS} (h : l[k]? = some x) : ableL m o (l.take (k + 1)) = ableL m o (l.take k) ++ (if didB m o x.Gives then [x] else []) := by
 unfold ableL
 rw [take_snoc' h, List.filter_append]
 congr 1
 cases hd : didB m o x.Gives <;> simp [hd]
theorem clP_take {m : MarketS} {o : List OwnerS} {l : List DealS} {x y : DealS} {j : Nat} (h : l[j]? = some y) : clP m o x (l.take (j + 1)) = clP m o x (l.take j) ++ (if clB m o x y then [⟨x.Id, y.Id⟩] else []) := by
 unfold clP
 rw [take_snoc' h, List.filter_append, List.map_append]
 congr 1
 cases hd : clB m o x y <;> simp [hd]
theorem rlP_take {m : MarketS} {o : List OwnerS} {l : List DealS} {x y : DealS} {j : Nat} (h : l[j]? = some y) : rlP m o x (l.take (j + 1)) = rlP m o x (l.take j) ++ (if didB m o x.Gives && didB m o y.Gives && clB m o x y then [⟨x.Id, y.Id⟩] else []) := by
 unfold rlP
 rw [take_snoc' h, List.filter_append, List.map_append]
 congr 1
 cases hd : didB m o x.Gives && didB m o y.Gives && clB m o x y <;> simp [hd]
theorem ableL_len (m : MarketS) (o : List OwnerS) (l : List DealS) : (ableL m o l).length ≤ l.length := List.length_filter_le _ _
theorem clP_len (m : MarketS) (o : List OwnerS) (x : DealS) (r : List DealS) : (clP m o x r).length ≤ r.length := by
 unfold clP; rw [List.length_map]; exact List.length_filter_le _ _
theorem rlP_len (m : MarketS) (o : List OwnerS) (x : DealS) (r : List DealS) : (rlP m o x r).length ≤ r.length := by
 unfold rlP; rw [List.length_map]; exact List.length_filter_le _ _
theorem clG_drop {m : MarketS} {o : List OwnerS} {l : List DealS} {k : Nat} {x : DealS} (h : l[k]? = some x) : clG m o (l.drop k) = clP m o x (l.drop (k + 1)) ++ clG m o (l.drop (k + 1)) := by rw [drop_cons h]; rfl
theorem rlG_drop {m : MarketS} {o : List OwnerS} {l : List DealS} {k : Nat} {x : DealS} (h : l[k]? = some x) : rlG m o (l.drop k) = rlP m o x (l.drop (k + 1)) ++ rlG m o (l.drop (k + 1)) := by rw [drop_cons h]; rfl
end Go.HL
namespace Go.HL
def tradesE (m : MarketS) (o : List OwnerS) (l : List DealS) (a : List ReplyS) : Int := orI [ownersE m o, dealsE m l, repsE m a]
theorem trades_bad {m : MarketS} (h : marketE m ≠ 0) (o : List OwnerS) (l : List DealS) (a : List ReplyS) : tradesE m o l a = marketE m := by
 have h1 : ownersE m o = marketE m := by rw [ownersE, if_pos h]
 unfold tradesE
 rw [h1, orI_cons, if_pos h]
theorem trades_ok {m : MarketS} (h : marketE m = 0) (o : List OwnerS) (l : List DealS) (a : List ReplyS) : orI [ownersR m o, dealsR m l, repsR m a] = tradesE m o l a := by
 obtain ⟨h1, h2, h3, _⟩ := chk_ok h o l a a
 have h4 : ¬ marketE m ≠ 0 := by simp [h]
 unfold tradesE
 rw [h1, h2, show repsR m a = repsE m a by rw [repsE, if_neg h4]]
theorem didV_len1 {m : MarketS} {o : List OwnerS} {x : DealS} (h : didB m o x.Gives = true) : (didV o x.Gives).length = o.length := by
 have := congrArg List.length (didV_players h)
 simpa using this
theorem clL_ok {m : MarketS} {o : List OwnerS} {l : List DealS} (h : orI [ownersE m o, dealsE m l] = 0) : clL m o l = rlG m o l := by
 unfold clL; rw [if_neg (by simp [h]), cl_same]
theorem clL_bad {m : MarketS} {o : List OwnerS} {l : List DealS} (h : orI [ownersE m o, dealsE m l] ≠ 0) : clL m o l = [] := by
 unfold clL; rw [if_pos h]
theorem repsE_nil (m : MarketS) : repsE m [] = marketE m := by
 unfold repsE
 split
 ·rfl
 ·rename_i h
  have h0 : marketE m = 0 := by simpa using h
  rw [h0]; rfl
theorem trades_nil (m : MarketS) (o : List OwnerS) (l : List DealS) : tradesE m o l [] = orI [ownersE m o, dealsE m l] := by
 unfold tradesE
 rw [repsE_nil]
 by_cases h : marketE m = 0
 ·rw [h]
  by_cases h1 : ownersE m o = 0 <;> by_cases h2 : dealsE m l = 0 <;> simp [orI_cons, orI_one, h1, h2]
 ·have h1 : ownersE m o = marketE m := by rw [ownersE, if_pos h]
  rw [h1, orI_cons, if_pos h, orI2, if_pos h]
end Go.HL
namespace Go.HL
theorem rlG_len (m : MarketS) (o : List OwnerS) : ∀ l : List DealS, (rlG m o l).length ≤ l.length * l.length
 | [] => by simp [rlG]
 | x :: r => by
   have ih := rlG_len m o r
   have := rlP_len m o x r
   rw [rlG, List.length_append, List.length_cons]
   have e : (r.length + 1) * (r.length + 1) = r.length * r.length + 2 * r.length + 1 := by rw [Nat.add_mul, Nat.mul_add]; omega
   omega
theorem dvP_bd (m : MarketS) (text : Str) (h : text.length ≤ 200000) : (dvP m text).length ≤ 1000000 ∧ ∀ y ∈ dvP m text, y.Gives.length ≤ 1000000 := by
 obtain ⟨h1, h2⟩ := dv_gd text
 rcases dvP_sub m text with e | e
 ·rw [e]; exact ⟨by omega, fun y hy => by have := (h2 y hy).2.1; omega⟩
 ·rw [e]; exact ⟨by simp, fun y hy => by cases hy⟩
/-- What is written of the few that are drawn is never too long. -/
theorem dl_few {m : MarketS} {l : List DealS} (hd : GoodDl l) : dlE m l = dealsE m l ∧ dlS m l = if dealsE m l = 0 then dlT l else [] := by
 by_cases h : dealsE m l = 0
 ·have hk := (deals_k h).2
  have hf := dlT_few (fun x hx => ⟨hk x hx, (hd.all x hx).len⟩) hd.len
  obtain ⟨h1, h2⟩ := dl_ok h (by omega)
  rw [h1, h2, h]; exact ⟨rfl, rfl⟩
 ·have h1 : dlE m l = dealsE m l := by unfold dlE; rw [if_pos h]
  refine ⟨h1, ?_⟩
  unfold dlS
  simp only [h1, if_neg h]
end Go.HL
end
section
namespace Go.Proofs.YtdjpppifnmjhoaaGreatDoor
open Go.HL
set_option maxRecDepth 100000
set_option linter.unusedVariables false
set_option linter.unusedSimpArgs false
/-- benchwarmer/trade.Clash$1 -/
theorem c_trade_Clash_1 [Tracks] {m : MarketS} {o : List OwnerS} {x y : DealS} (ht : m.Teams.length ≤ 1000000) (h0o : 0 < o.length) (ho : o.length ≤ 1000000) (hs : SortedS (o.map (·.Player))) (hx : x.Gives.length ≤ 1000000) (hy : y.Gives.length ≤ 1000000) : ConP Tryz.prog 64 [eDeal x, eDeal y, .vptr (hcells (eMarket m)) 0, .vptr [eOwners o] 0] (.bool (bothB m o x y)) := by
 refine Con.of_body Tryz.func64 rfl Tryz.ntmps64 rfl rfl ?_
 refine hw_reg ?_
 refine dp rfl (pop_box rfl rfl) ?_
 refine dp rfl (pop_box rfl rfl) ?_
 refine dp rfl (pop_assign rfl) ?_
 refine dn ?_
 refine hw_reg ?_
 refine dp rfl (pop_load ty32 rfl rfl rfl) ?_
 refine dp rfl (pop_loadw ty47 rfl rfl rfl rfl) ?_
 refine dp rfl (pop_call ca65 rfl (WeakL.refl _) (c_trade_did (m := m) (o := o) (x := x) ht h0o ho hs hx)) ?_
 refine dp rfl (pop_move rfl) ?_
 refine dp rfl (pop_extract rfl rfl) ?_
 refine dp rfl (pop_extract rfl rfl) ?_
 refine dp rfl (pop_assign rfl) ?_
 refine dp rfl (pop_assign rfl) ?_
 refine dn ?_
 refine hw_seq ?_
 refine hw_reg ?_
 refine dp rfl (pop_move rfl) ?_
 refine dn ?_
 refine hw_cond rfl (fun h1 => ?_) (fun h2 => ?_)
 ·try simp at h1
  have hb : didB m o x.Gives = true := h1
  have hp := didV_players (m := m) (o := o) (x := x) hb
  have hpl := didV_len1 (m := m) (o := o) (x := x) hb
  refine hw_reg1 ?_
  refine dp rfl (pop_move rfl) ?_
  refine dp rfl (pop_loadw ty47 rfl rfl rfl rfl) ?_
  refine dp rfl (pop_call ca65 rfl (WeakL.refl _) (c_trade_did (m := m) (o := didV o x.Gives) (x := y) ht (by omega) (by omega) (by rw [hp]; exact hs) hy)) ?_
  refine dp rfl (pop_move rfl) ?_
  refine dp rfl (pop_extract rfl rfl) ?_
  refine dp rfl (pop_extract rfl rfl) ?_
  refine dp rfl (pop_assign rfl) ?_
  refine dn ?_
  refine seqQ_n ?_
  refine hw_reg ?_
  refine dp rfl (pop_move rfl) ?_
  refine dp rfl (pop_assign rfl) ?_
  refine dn ?_
  refine hw_ret ?_
  refine ret_p rfl ?_
  show HVal.bool _ = _
  unfold bothB
  simp_all
 ·try simp at h2
  refine hw_skip ?_
  refine seqQ_n ?_
  refine hw_reg ?_
  refine dp rfl (pop_move rfl) ?_
  refine dp rfl (pop_assign rfl) ?_
  refine dn ?_
  refine hw_ret ?_
  refine ret_p rfl ?_
  show HVal.bool _ = _
  unfold bothB
  simp_all

set_option maxHeartbeats 2000000 in
/-- benchwarmer/trade.Clash -/
theorem c_trade_Clash [Tracks] {m : MarketS} {o : List OwnerS} {l : List DealS} (ht : m.Teams.length ≤ 1000000) (h0o : l ≠ [] → 0 < o.length) (ho : o.length ≤ 1000000) (hl : l.length ≤ 1000000) (hx0 : ∀ x ∈ l, x.Gives.length ≤ 1000000) : ConP Tryz.prog 17 [eMarket m, eOwners o, eDeals l] (.tup [ePairs (clL m o l), .int .i64 (orI [ownersE m o, dealsE m l])]) := by
 refine Con.of_body Tryz.func17 rfl Tryz.ntmps17 rfl rfl ?_
 refine hw_reg ?_
 refine dp rfl (pop_box rfl rfl) ?_
 refine dp rfl (pop_box rfl rfl) ?_
 refine dp rfl (pop_assign rfl) ?_
 refine dp rfl (pop_assign rfl) ?_
 refine dn ?_
 refine hw_seq ?_
 refine hw_draw (fun _ => True) [] mixed ?_
 refine ahp 0 rfl rfl (by kernel_rfl) (by kernel_rfl) (pop_loadw ty28 rfl rfl rfl rfl) ?_
 refine ahp 1 rfl rfl (by kernel_rfl) (by kernel_rfl) (pop_load ty32 rfl rfl rfl) ?_
 refine ahp 2 rfl rfl (by kernel_rfl) (by kernel_rfl) (pop_call ca63 rfl (WeakL.refl _) (c_trade_CheckOwners (m := m) (o := o) ht ho)) ?_
 refine ahp 3 rfl rfl (by kernel_rfl) (by kernel_rfl) (pop_loadw ty28 rfl rfl rfl rfl) ?_
 refine ahp 4 rfl rfl (by kernel_rfl) (by kernel_rfl) (pop_move rfl) ?_
 refine ahp 5 rfl rfl (by kernel_rfl) (by kernel_rfl) (pop_call ca47 rfl (WeakL.refl _) (c_trade_CheckOffers (m := m) (l := l) ht hl hx0)) ?_
 refine ahp 6 rfl rfl (by kernel_rfl) (by kernel_rfl) (pop_buildSlice (hs := [_, _]) ty161 ty34 rfl rfl (by decide) (by decide) rfl) ?_
 refine ahp 7 rfl rfl (by kernel_rfl) (by kernel_rfl) (pop_call ca62 rfl (WeakL.refl _) (c_base_First (l := [_, _]) (by simp))) ?_
 refine ahp 8 rfl rfl (by kernel_rfl) (by kernel_rfl) (pop_assign rfl) ?_
 refine ahz (by kernel_rfl) ?_
 refine hw_reg ?_
 refine dp rfl (pop_move rfl) ?_
 refine dp rfl (pop_neq rfl rfl) ?_
 refine dn ?_
 refine hw_cond rfl (fun h1 => ?_) (fun h2 => ?_)
 ·try simp at h1
  refine hw_reg ?_
  refine dp rfl (pop_move rfl) ?_
  refine dp rfl (pop_assign rfl) ?_
  refine dp rfl (pop_assign rfl) ?_
  refine dn ?_
  refine hw_ret ?_
  first
  | exact ret_w rfl (weak_tup2 (by rw [clL, if_pos (by simpa using h1)]; exact weak_nil 2) (Weak.refl _))
  | (refine ret_g (Ghost.fa 6 (i := 0) rfl rfl) rfl ⟨?_, rfl⟩
     show HVal.tup _ = _
     rw [clL, if_neg (by simp [hz0]), hz0, ← hg]
     simp [clG]
     rfl)
 ·try simp at h2
  refine hw_skip ?_
  refine seqQ_n ?_
  have hz0 : orI [ownersE m o, dealsE m l] = 0 := by simpa using h2
  obtain ⟨hzo, hzd⟩ := or2_zero hz0
  have hso := own_sorted (ownersR_ok (ownersE_ok hzo).2).2.2.1
  have hl5 := (dealsR_ok (dealsE_ok hzd).2).1
  refine hw_reg ?_
  refine dp rfl (pop_makeFunc rfl rfl) ?_
  refine dp rfl (pop_assign rfl) ?_
  refine dn ?_
  refine hw_reg ?_
  refine dp rfl (pop_assign rfl) ?_
  refine dn ?_
  refine hw_ghost (Ghost.arr_nil 5) ?_
  refine hw_seq ?_
  refine hw_reg ?_
  refine dp rfl (pop_move rfl) ?_
  refine dp rfl (pop_lenm ty30 rfl) ?_
  refine dp rfl (pop_move rfl) ?_
  refine dn ?_
  refine hw_block ?_
  refine hw_loopw2 [10, 12, 13, 14, 34, 35, 36, 37, 38, 39, 40, 41, 42, 43, 44, 45, 46, 47, 48, 49] (fun (k : Nat) (u : Value) => [(34, .int .i64 k), (10, .raw u)]) (fun (k : Nat) (u : Value) => [.arr u 5 ((ableL m o (l.take k)).map eDeal)]) (fun (k : Nat) (u : Value) => k ≤ l.length ∧ (True)) (fun (k : Nat) (u : Value) => l.length - k) (0) (.slice none 0 0) ?_ ?_ ?_ ?_
  ·exact ⟨Nat.zero_le _, trivial⟩
  ·exact ⟨rfl, rfl, trivial⟩
  ·exact perm_eq (by simp [ableL])
  ·intro k u hinv
   obtain ⟨hk, -⟩ := hinv
   refine hw_reg ?_
   refine dp rfl (pop_lss rfl rfl) ?_
   refine dn ?_
   refine hw_seq ?_
   refine hw_cond rfl (fun h3 => ?_) (fun h4 => ?_)
   ·try simp at h3
    obtain ⟨x, hx⟩ : ∃ x, l[k]? = some x := ⟨_, List.getElem?_eq_getElem h3⟩
    have hdx := drop_cons hx
    have hxm := List.mem_of_getElem? hx
    refine hw_skip ?_
    refine seqQ_n ?_
    refine hw_seq ?_
    refine hw_block ?_
    refine hw_reg ?_
    refine dp rfl (pop_idx ty30 ty47 rfl rfl rfl (by first | assumption | simp_all)) ?_
    refine dp rfl (pop_loadw ty47 rfl rfl rfl rfl) ?_
    refine de rfl (eop_alloc ty47 rfl fun b12 => ?_)
    refine de0 (eop_storew ty47 rfl rfl rfl rfl rfl ?_)
    refine dn ?_
    refine hw_ghost (Ghost.fc0 12 rfl) ?_
    refine hw_reg ?_
    refine dp rfl (pop_load ty32 rfl rfl rfl) ?_
    refine dp rfl (pop_loadw ty47 rfl rfl rfl rfl) ?_
    refine dp rfl (pop_call ca65 rfl (WeakL.refl _) (c_trade_did (m := m) (o := o) (x := x) ht (h0o (List.ne_nil_of_mem hxm)) ho hso (hx0 x hxm))) ?_
    refine dp rfl (pop_move rfl) ?_
    refine dp rfl (pop_extract rfl rfl) ?_
    refine dp rfl (pop_extract rfl rfl) ?_
    refine dp rfl (pop_assign rfl) ?_
    refine dp rfl (pop_assign rfl) ?_
    refine dn ?_
    refine hw_reg ?_
    refine dp rfl (pop_move rfl) ?_
    refine dn ?_
    refine hw_cond rfl (fun h5 => ?_) (fun h6 => ?_)
    ·try simp at h5
     refine hw_reg1 ?_
     refine dp rfl (pop_move rfl) ?_
     refine dp rfl (pop_loadw ty47 rfl rfl rfl rfl) ?_
     refine dp rfl (pop_buildSlice (hs := [_]) ty30 ty47 rfl rfl (by decide) (by decide) rfl) ?_
     refine de rfl (eop_append (i := 0) ty30 ty47 rfl rfl rfl rfl rfl (by simp [flat, hcells]) (by have := ableL_len m o (l.take k); simp only [List.length_map, List.length_cons, List.length_nil, List.length_take] at *; omega) fun v48 => ?_)
     refine dp rfl (pop_assign rfl) ?_
     refine dn ?_
     refine blockQ_n ?_
     refine seqQ_n ?_
     refine hw_reg1 ?_
     refine dp rfl (pop_add64 rfl rfl (by omega) (by omega)) ?_
     refine dp rfl (pop_move rfl) ?_
     refine dn ?_
     exact ⟨k + 1, v48, ⟨by omega, trivial⟩, by dsimp only; omega, ⟨rfl, rfl, trivial⟩, (by repeat (first | exact keeps_refl | refine keeps_upd rfl ?_ | refine keeps_loop rfl rfl ?_)), perm_eq (by dsimp only; rw [ableL_take hx, if_pos (by assumption)]; simp)⟩
    ·try simp at h6
     refine hw_skip ?_
     refine blockQ_n ?_
     refine seqQ_n ?_
     refine hw_reg1 ?_
     refine dp rfl (pop_add64 rfl rfl (by omega) (by omega)) ?_
     refine dp rfl (pop_move rfl) ?_
     refine dn ?_
     exact ⟨k + 1, u, ⟨by omega, trivial⟩, by dsimp only; omega, ⟨rfl, rfl, trivial⟩, (by repeat (first | exact keeps_refl | refine keeps_upd rfl ?_ | refine keeps_loop rfl rfl ?_)), perm_eq (by dsimp only; rw [ableL_take hx, if_neg (by simp_all)]; simp)⟩
   ·try simp at h4
    have hnk : l.length ≤ k := by omega
    obtain rfl : k = l.length := by omega
    rw [List.take_length]
    refine hw_exit ?_
    refine seqQ_x ?_
    refine loopQ2_x ?_
    refine blockQ_eq ?_
    refine seqQ_n ?_
    refine hw_ghost (Ghost.fa 10 (i := 0) rfl rfl) ?_
    have hal := ableL_len m o l
    have ham : ∀ x ∈ ableL m o l, x ∈ l := fun x hx => (List.mem_filter.1 hx).1
    refine hw_reg ?_
    refine dp rfl (pop_assign rfl) ?_
    refine dn ?_
    refine hw_ghost (Ghost.arr_nil 2) ?_
    refine hw_seq ?_
    refine hw_reg ?_
    refine dp rfl (pop_move rfl) ?_
    refine dp rfl (pop_lenm (f := eDeal) (l := ableL m o l) ty30 rfl) ?_
    refine dp rfl (pop_move rfl) ?_
    refine dn ?_
    refine hw_block ?_
    refine hw_loopw3 [15, 16, 17, 19, 52, 53, 54, 55, 56, 57, 58, 59, 60, 61, 62, 63, 64, 65, 66, 67, 68, 69, 70, 71, 72, 73, 74, 75, 76, 77, 78, 79, 80, 81, 82, 83, 84, 85, 86, 87] (fun (k : Nat) (u : Value) (acc : List PairS) => [(52, .int .i64 k), (15, .raw u)]) (fun (k : Nat) (u : Value) (acc : List PairS) => [.arr u 2 (acc.map ePair)]) (fun (k : Nat) (u : Value) (acc : List PairS) => k ≤ (ableL m o l).length ∧ (acc ++ clG m o ((ableL m o l).drop k) = clG m o (ableL m o l) ∧ acc.length ≤ 500 * k)) (fun (k : Nat) (u : Value) (acc : List PairS) => (ableL m o l).length - k) (0) (.slice none 0 0) ([]) ?_ ?_ ?_ ?_
    ·exact ⟨Nat.zero_le _, rfl, Nat.le_refl _⟩
    ·exact ⟨rfl, rfl, trivial⟩
    ·exact perm_eq rfl
    ·intro k u acc hinv
     obtain ⟨hk, hg, hac⟩ := hinv
     refine hw_reg ?_
     refine dp rfl (pop_lss rfl rfl) ?_
     refine dn ?_
     refine hw_seq ?_
     refine hw_cond rfl (fun h7 => ?_) (fun h8 => ?_)
     ·try simp at h7
      obtain ⟨x, hx⟩ : ∃ x, (ableL m o l)[k]? = some x := ⟨_, List.getElem?_eq_getElem h7⟩
      have hdx := drop_cons hx
      have hxm := ham x (List.mem_of_getElem? hx)
      have h0 := h0o (List.ne_nil_of_mem hxm)
      have hDl : ((ableL m o l).drop (k + 1)).length ≤ 500 := by rw [List.length_drop]; omega
      refine hw_skip ?_
      refine seqQ_n ?_
      refine hw_seq ?_
      refine hw_block ?_
      refine hw_reg ?_
      refine dp rfl (pop_move rfl) ?_
      refine dp rfl (pop_idx ty30 ty47 rfl rfl rfl (by first | assumption | simp_all)) ?_
      refine dp rfl (pop_loadw ty47 rfl rfl rfl rfl) ?_
      refine de rfl (eop_alloc ty47 rfl fun b17 => ?_)
      refine dp rfl (pop_assign rfl) ?_
      refine de0 (eop_storew ty47 rfl rfl rfl rfl rfl ?_)
      refine dn ?_
      refine hw_ghost (Ghost.fc0 17 rfl) ?_
      refine hw_reg ?_
      refine dp rfl (pop_move rfl) ?_
      refine dp rfl (pop_move rfl) ?_
      refine dp rfl (pop_add64 rfl rfl (by omega) (by omega)) ?_
      refine dp rfl (pop_eq (pop_slicem (l := k + 1) (h := (ableL m o l).length) ty30 ty47 rfl ⟨_, _, rfl, rfl⟩ rfl (by omega) (Nat.le_refl _)) (by rw [List.take_length])) ?_
      refine dp rfl (pop_lenm ty30 rfl) ?_
      refine dp rfl (pop_move rfl) ?_
      refine dn ?_
      refine hw_block ?_
      refine hw_loopw2 [15, 19, 62, 63, 64, 65, 66, 67, 68, 69, 70, 71, 72, 73, 74, 75, 76, 77, 78, 79, 80, 81, 82, 83, 84, 85, 86] (fun (j : Nat) (u2 : Value) => [(62, .int .i64 j), (15, .raw u2)]) (fun (j : Nat) (u2 : Value) => [.arr u2 2 ((acc ++ clP m o x (((ableL m o l).drop (k + 1)).take j)).map ePair)]) (fun (j : Nat) (u2 : Value) => j ≤ ((ableL m o l).drop (k + 1)).length ∧ (True)) (fun (j : Nat) (u2 : Value) => ((ableL m o l).drop (k + 1)).length - j) (0) (u) ?_ ?_ ?_ ?_
      ·exact ⟨Nat.zero_le _, trivial⟩
      ·exact ⟨rfl, rfl, trivial⟩
      ·exact perm_eq (by simp [clP])
      ·intro j u2 hinv
       obtain ⟨hj, -⟩ := hinv
       refine hw_reg ?_
       refine dp rfl (pop_lss rfl rfl) ?_
       refine dn ?_
       refine hw_seq ?_
       refine hw_cond rfl (fun h9 => ?_) (fun h10 => ?_)
       ·try simp at h9
        obtain ⟨y, hy⟩ : ∃ y, ((ableL m o l).drop (k + 1))[j]? = some y := ⟨_, List.getElem?_eq_getElem (by rw [List.length_drop]; exact h9)⟩
        have hdy := drop_cons hy
        have hjD := lt_of_get hy
        have hym := ham y (List.mem_of_mem_drop (List.mem_of_getElem? hy))
        have hcp := clP_len m o x (((ableL m o l).drop (k + 1)).take j)
        rw [List.length_take] at hcp
        refine hw_skip ?_
        refine seqQ_n ?_
        refine hw_seq ?_
        refine hw_block ?_
        refine hw_reg ?_
        refine dp rfl (pop_idx ty30 ty47 rfl rfl rfl (by first | assumption | simp_all)) ?_
        refine dp rfl (pop_loadw ty47 rfl rfl rfl rfl) ?_
        refine de rfl (eop_alloc ty47 rfl fun b19 => ?_)
        refine de0 (eop_storew ty47 rfl rfl rfl rfl rfl ?_)
        refine dn ?_
        refine hw_ghost (Ghost.fc0 19 rfl) ?_
        refine hw_reg ?_
        refine dp rfl (pop_move rfl) ?_
        refine dp rfl (pop_loadw ty47 rfl rfl rfl rfl) ?_
        refine dp rfl (pop_loadw ty47 rfl rfl rfl rfl) ?_
        refine dp rfl (pop_callv ca64 rfl rfl (WeakL.refl _) (c_trade_Clash_1 (m := m) (o := o) (x := x) (y := y) ht h0 ho hso (hx0 x hxm) (hx0 y hym))) ?_
        refine dp rfl (pop_not rfl) ?_
        refine dp rfl (pop_move rfl) ?_
        refine dg rfl rfl (fun hc => ⟨_, OpenTo.refl _, pop_move rfl⟩) ?_
        refine dg rfl rfl (fun hc => ⟨_, OpenTo.refl _, pop_loadw ty47 rfl rfl rfl rfl⟩) ?_
        refine dg rfl rfl (fun hc => ⟨_, OpenTo.refl _, pop_loadw ty47 rfl rfl rfl rfl⟩) ?_
        refine dg rfl rfl (fun hc => ⟨_, OpenTo.upd (t := 74) rfl (by first | exact hc | simp_all) (OpenTo.upd (t := 73) rfl (by first | exact hc | simp_all) (OpenTo.upd (t := 72) rfl (by first | exact hc | simp_all) (OpenTo.refl _))), pop_callv ca64 rfl rfl (WeakL.refl _) (c_trade_Clash_1 (m := m) (o := o) (x := y) (y := x) ht h0 ho hso (hx0 y hym) (hx0 x hxm))⟩) ?_
        refine dg rfl rfl (fun hc => ⟨_, OpenTo.upd (t := 75) rfl (by first | exact hc | simp_all) (OpenTo.refl _), pop_not rfl⟩) ?_
        refine dp rfl (pop_picko rfl (.inr ⟨_, rfl, fun h => by simp_all⟩) (.inl rfl)) ?_
        refine dn ?_
        refine hw_cond rfl (fun h11 => ?_) (fun h12 => ?_)
        ·try simp at h11
         refine hw_reg1 ?_
         refine dp rfl (pop_move rfl) ?_
         refine dp rfl ((by first | exact pop_fieldAddr ty47 rfl ty9 (by decide) rfl | exact pop_fieldAddr_raw ty47 rfl ty9 (by decide) rfl)) ?_
         refine dp rfl (pop_load ty9 rfl rfl rfl) ?_
         refine dp rfl ((by first | exact pop_fieldAddr ty47 rfl ty9 (by decide) rfl | exact pop_fieldAddr_raw ty47 rfl ty9 (by decide) rfl)) ?_
         refine dp rfl (pop_load ty9 rfl rfl rfl) ?_
         refine dp rfl (pop_build (cs := [_, _]) ty57 pl57 rfl) ?_
         refine dp rfl (pop_buildSlice (hs := [_]) ty52 ty57 rfl rfl (by decide) (by decide) rfl) ?_
         refine de rfl (eop_append (i := 0) ty52 ty57 rfl rfl rfl rfl rfl (by simp [flat, hcells]) (by simp only [List.length_map, List.length_append, List.length_cons, List.length_nil, List.length_take] at *; omega) fun v85 => ?_)
         refine dp rfl (pop_assign rfl) ?_
         refine dn ?_
         refine blockQ_n ?_
         refine seqQ_n ?_
         refine hw_reg1 ?_
         refine dp rfl (pop_add64 rfl rfl (by omega) (by omega)) ?_
         refine dp rfl (pop_move rfl) ?_
         refine dn ?_
         exact ⟨j + 1, v85, ⟨by omega, trivial⟩, by dsimp only; omega, ⟨rfl, rfl, trivial⟩, (by repeat (first | exact keeps_refl | refine keeps_upd rfl ?_ | refine keeps_loop rfl rfl ?_)), perm_eq (by dsimp only; rw [clP_take hy, if_pos (by unfold clB; simp_all)]; simp)⟩
        ·try simp at h12
         refine hw_skip ?_
         refine blockQ_n ?_
         refine seqQ_n ?_
         refine hw_reg1 ?_
         refine dp rfl (pop_add64 rfl rfl (by omega) (by omega)) ?_
         refine dp rfl (pop_move rfl) ?_
         refine dn ?_
         exact ⟨j + 1, u2, ⟨by omega, trivial⟩, by dsimp only; omega, ⟨rfl, rfl, trivial⟩, (by repeat (first | exact keeps_refl | refine keeps_upd rfl ?_ | refine keeps_loop rfl rfl ?_)), perm_eq (by dsimp only; rw [clP_take hy, if_neg (by unfold clB; simp_all)]; simp)⟩
       ·try simp at h10
        have hnj : ((ableL m o l).drop (k + 1)).length ≤ j := by simpa using h10
        obtain rfl : j = ((ableL m o l).drop (k + 1)).length := by omega
        rw [List.take_length]
        refine hw_exit ?_
        refine seqQ_x ?_
        refine loopQ2_x ?_
        refine blockQ_eq ?_
        refine blockQ_n ?_
        refine seqQ_n ?_
        refine hw_reg1 ?_
        refine dp rfl (pop_add64 rfl rfl (by omega) (by omega)) ?_
        refine dp rfl (pop_move rfl) ?_
        refine dn ?_
        exact ⟨k + 1, u2, acc ++ clP m o x ((ableL m o l).drop (k + 1)), ⟨by omega, by rw [List.append_assoc, ← clG_drop hx]; exact hg, by have := clP_len m o x ((ableL m o l).drop (k + 1)); rw [List.length_append]; omega⟩, by dsimp only; omega, ⟨rfl, rfl, trivial⟩, (by repeat (first | exact keeps_refl | refine keeps_upd rfl ?_ | refine keeps_loop rfl rfl ?_)), perm_eq rfl⟩
     ·try simp at h8
      have hnk : (ableL m o l).length ≤ k := by omega
      obtain rfl : k = (ableL m o l).length := by omega
      rw [drop_all (Nat.le_refl _)] at hg
      refine hw_exit ?_
      refine seqQ_x ?_
      refine loopQ3_x ?_
      refine blockQ_eq ?_
      refine seqQ_n ?_
      refine hw_reg ?_
      refine dp rfl (pop_move rfl) ?_
      refine dp rfl (pop_assign rfl) ?_
      refine dp rfl (pop_assign rfl) ?_
      refine dn ?_
      refine hw_ret ?_
      first
      | exact ret_w rfl (weak_tup2 (by rw [clL, if_pos (by simpa using h1)]; exact weak_nil 2) (Weak.refl _))
      | (refine ret_g (Ghost.fa 6 (i := 0) rfl rfl) rfl ⟨?_, rfl⟩
         show HVal.tup _ = _
         rw [clL, if_neg (by simp [hz0]), hz0, ← hg]
         simp [clG]
         rfl)

/-- benchwarmer/benchref1.ClashOf$1 -/
theorem c_benchref1_ClashOf_1 [Tracks] {m : MarketS} {o : List OwnerS} {x y : DealS} (ht : m.Teams.length ≤ 1000000) (h0o : 0 < o.length) (ho : o.length ≤ 1000000) (hx : x.Gives.length ≤ 1000000) (hy : y.Gives.length ≤ 1000000) : ConP Tryz.prog 66 [eDeal x, eDeal y, .vptr (hcells (eMarket m)) 0, .vptr [eOwners o] 0] (.bool (bothB m o x y)) := by
 refine Con.of_body Tryz.func66 rfl Tryz.ntmps66 rfl rfl ?_
 refine hw_reg ?_
 refine dp rfl (pop_box rfl rfl) ?_
 refine dp rfl (pop_box rfl rfl) ?_
 refine dp rfl (pop_assign rfl) ?_
 refine dn ?_
 refine hw_reg ?_
 refine dp rfl (pop_loadw ty28 rfl rfl rfl rfl) ?_
 refine dp rfl (pop_load ty32 rfl rfl rfl) ?_
 refine dp rfl (pop_loadw ty47 rfl rfl rfl rfl) ?_
 refine dp rfl (pop_call ca67 rfl (WeakL.refl _) (c_benchref1_DidOf (m := m) (o := o) (x := x) ht h0o ho hx)) ?_
 refine dp rfl (pop_move rfl) ?_
 refine dp rfl (pop_extract rfl rfl) ?_
 refine dp rfl (pop_extract rfl rfl) ?_
 refine dp rfl (pop_assign rfl) ?_
 refine dp rfl (pop_assign rfl) ?_
 refine dn ?_
 refine hw_seq ?_
 refine hw_reg ?_
 refine dp rfl (pop_move rfl) ?_
 refine dp rfl (pop_not rfl) ?_
 refine dn ?_
 refine hw_cond rfl (fun h1 => ?_) (fun h2 => ?_)
 ·try simp at h1
  refine hw_reg ?_
  refine dp rfl (pop_assign rfl) ?_
  refine dn ?_
  refine hw_ret ?_
  refine ret_p rfl ?_
  show HVal.bool _ = _
  unfold bothB
  simp_all
 ·try simp at h2
  refine hw_skip ?_
  refine seqQ_n ?_
  have hb : didB m o x.Gives = true := by simpa using h2
  have hp := didV_players (m := m) (o := o) (x := x) hb
  have hpl := didV_len1 (m := m) (o := o) (x := x) hb
  simp only [didRL_yes hb]
  refine hw_reg ?_
  refine dp rfl (pop_loadw ty28 rfl rfl rfl rfl) ?_
  refine dp rfl (pop_move rfl) ?_
  refine dp rfl (pop_loadw ty47 rfl rfl rfl rfl) ?_
  refine dp rfl (pop_call ca67 rfl (WeakL.refl _) (c_benchref1_DidOf (m := m) (o := didV o x.Gives) (x := y) ht (by omega) (by omega) hy)) ?_
  refine dp rfl (pop_move rfl) ?_
  refine dp rfl (pop_extract rfl rfl) ?_
  refine dp rfl (pop_extract rfl rfl) ?_
  refine dp rfl (pop_assign rfl) ?_
  refine dn ?_
  refine hw_reg ?_
  refine dp rfl (pop_move rfl) ?_
  refine dp rfl (pop_assign rfl) ?_
  refine dn ?_
  refine hw_ret ?_
  refine ret_p rfl ?_
  show HVal.bool _ = _
  unfold bothB
  simp_all

set_option maxHeartbeats 2000000 in
/-- benchwarmer/benchref1.ClashOf -/
theorem c_benchref1_ClashOf [Tracks] {m : MarketS} {o : List OwnerS} {l : List DealS} (ht : m.Teams.length ≤ 1000000) (h0o : l ≠ [] → 0 < o.length) (ho : o.length ≤ 1000000) (hl : l.length ≤ 500) (hx0 : ∀ x ∈ l, x.Gives.length ≤ 1000000) : ConP Tryz.prog 19 [eMarket m, eOwners o, eDeals l] (ePairs (rlG m o l)) := by
 have ham : ∀ x ∈ l, x ∈ l := fun _ h => h
 refine Con.of_body Tryz.func19 rfl Tryz.ntmps19 rfl rfl ?_
 refine hw_reg ?_
 refine dp rfl (pop_box rfl rfl) ?_
 refine dp rfl (pop_box rfl rfl) ?_
 refine dp rfl (pop_assign rfl) ?_
 refine dn ?_
 refine hw_reg ?_
 refine dp rfl (pop_makeFunc rfl rfl) ?_
 refine dp rfl (pop_assign rfl) ?_
 refine dn ?_
 refine hw_reg ?_
 refine dp rfl (pop_assign rfl) ?_
 refine dn ?_
 refine hw_ghost (Ghost.arr_nil 2) ?_
 refine hw_seq ?_
 refine hw_reg ?_
 refine dp rfl (pop_move rfl) ?_
 refine dp rfl (pop_lenm ty30 rfl) ?_
 refine dp rfl (pop_move rfl) ?_
 refine dn ?_
 refine hw_block ?_
 refine hw_loopw3 (8 :: 9 :: 10 :: 12 :: 13 :: 14 :: 15 :: 16 :: 20 :: 21 :: 22 :: 23 :: 24 :: 25 :: 26 :: 27 :: 28 :: 29 :: 30 :: 31 :: 32 :: 33 :: 34 :: 35 :: 36 :: 37 :: 38 :: 39 :: 40 :: 41 :: 42 :: 43 :: 44 :: 45 :: 46 :: 47 :: 48 :: 49 :: 50 :: 51 :: 52 :: 53 :: 54 :: 55 :: 56 :: 57 :: 58 :: 59 :: 60 :: 61 :: 62 :: 63 :: 64 :: 65 :: 66 :: 67 :: 68 :: 69 :: 70 :: 71 :: 72 :: 73 :: 74 :: 75 :: []) (fun (k : Nat) (u : Value) (acc : List PairS) => [(20, .int .i64 k), (8, .raw u)]) (fun (k : Nat) (u : Value) (acc : List PairS) => [.arr u 2 (acc.map ePair)]) (fun (k : Nat) (u : Value) (acc : List PairS) => k ≤ l.length ∧ (acc ++ rlG m o (l.drop k) = rlG m o l ∧ acc.length ≤ 500 * k)) (fun (k : Nat) (u : Value) (acc : List PairS) => l.length - k) (0) (.slice none 0 0) ([]) ?_ ?_ ?_ ?_
 ·exact ⟨Nat.zero_le _, rfl, Nat.le_refl _⟩
 ·exact ⟨rfl, rfl, trivial⟩
 ·exact perm_eq rfl
 ·intro k u acc hinv
  obtain ⟨hk, hg, hac⟩ := hinv
  refine hw_reg ?_
  refine dp rfl (pop_lss rfl rfl) ?_
  refine dn ?_
  refine hw_seq ?_
  refine hw_cond rfl (fun h1 => ?_) (fun h2 => ?_)
  ·try simp at h1
   obtain ⟨x, hx⟩ : ∃ x, l[k]? = some x := ⟨_, List.getElem?_eq_getElem h1⟩
   have hdx := drop_cons hx
   have hxm := ham x (List.mem_of_getElem? hx)
   have h0 := h0o (List.ne_nil_of_mem hxm)
   have hDl : (l.drop (k + 1)).length ≤ 500 := by rw [List.length_drop]; omega
   refine hw_skip ?_
   refine seqQ_n ?_
   refine hw_seq ?_
   refine hw_block ?_
   refine hw_reg ?_
   refine dp rfl (pop_move rfl) ?_
   refine dp rfl (pop_idx ty30 ty47 rfl rfl rfl (by first | assumption | simp_all)) ?_
   refine dp rfl (pop_loadw ty47 rfl rfl rfl rfl) ?_
   refine de rfl (eop_alloc ty47 rfl fun b10 => ?_)
   refine dp rfl (pop_assign rfl) ?_
   refine de0 (eop_storew ty47 rfl rfl rfl rfl rfl ?_)
   refine dn ?_
   refine hw_ghost (Ghost.fc0 10 rfl) ?_
   refine hw_reg ?_
   refine dp rfl (pop_move rfl) ?_
   refine dp rfl (pop_move rfl) ?_
   refine dp rfl (pop_add64 rfl rfl (by omega) (by omega)) ?_
   refine dp rfl (pop_eq (pop_slicem (l := k + 1) (h := l.length) ty30 ty47 rfl ⟨_, _, rfl, rfl⟩ rfl (by omega) (Nat.le_refl _)) (by rw [List.take_length])) ?_
   refine dp rfl (pop_lenm ty30 rfl) ?_
   refine dp rfl (pop_move rfl) ?_
   refine dn ?_
   refine hw_block ?_
   refine hw_loopw2 [8, 12, 13, 14, 15, 16, 30, 31, 32, 33, 34, 35, 36, 37, 38, 39, 40, 41, 42, 43, 44, 45, 46, 47, 48, 49, 50, 51, 52, 53, 54, 55, 56, 57, 58, 59, 60, 61, 62, 63, 64, 65, 66, 67, 68, 69, 70, 71, 72, 73, 74] (fun (j : Nat) (u2 : Value) => [(30, .int .i64 j), (8, .raw u2)]) (fun (j : Nat) (u2 : Value) => [.arr u2 2 ((acc ++ rlP m o x ((l.drop (k + 1)).take j)).map ePair)]) (fun (j : Nat) (u2 : Value) => j ≤ (l.drop (k + 1)).length ∧ (True)) (fun (j : Nat) (u2 : Value) => (l.drop (k + 1)).length - j) (0) (u) ?_ ?_ ?_ ?_
   ·exact ⟨Nat.zero_le _, trivial⟩
   ·exact ⟨rfl, rfl, trivial⟩
   ·exact perm_eq (by simp [rlP])
   ·intro j u2 hinv
    obtain ⟨hj, -⟩ := hinv
    refine hw_reg ?_
    refine dp rfl (pop_lss rfl rfl) ?_
    refine dn ?_
    refine hw_seq ?_
    refine hw_cond rfl (fun h3 => ?_) (fun h4 => ?_)
    ·try simp at h3
     obtain ⟨y, hy⟩ : ∃ y, (l.drop (k + 1))[j]? = some y := ⟨_, List.getElem?_eq_getElem (by rw [List.length_drop]; exact h3)⟩
     have hdy := drop_cons hy
     have hjD := lt_of_get hy
     have hym := ham y (List.mem_of_mem_drop (List.mem_of_getElem? hy))
     have hcp := rlP_len m o x ((l.drop (k + 1)).take j)
     rw [List.length_take] at hcp
     refine hw_skip ?_
     refine seqQ_n ?_
     refine hw_seq ?_
     refine hw_block ?_
     refine hw_reg ?_
     refine dp rfl (pop_idx ty30 ty47 rfl rfl rfl (by first | assumption | simp_all)) ?_
     refine dp rfl (pop_loadw ty47 rfl rfl rfl rfl) ?_
     refine de rfl (eop_alloc ty47 rfl fun b12 => ?_)
     refine de0 (eop_storew ty47 rfl rfl rfl rfl rfl ?_)
     refine dn ?_
     refine hw_ghost (Ghost.fc0 12 rfl) ?_
     refine hw_reg ?_
     refine dp rfl (pop_loadw ty28 rfl rfl rfl rfl) ?_
     refine dp rfl (pop_load ty32 rfl rfl rfl) ?_
     refine dp rfl (pop_loadw ty47 rfl rfl rfl rfl) ?_
     refine dp rfl (pop_call ca67 rfl (WeakL.refl _) (c_benchref1_DidOf (m := m) (o := o) (x := x) ht h0 ho (hx0 x hxm))) ?_
     refine dp rfl (pop_move rfl) ?_
     refine dp rfl (pop_extract rfl rfl) ?_
     refine dp rfl (pop_extract rfl rfl) ?_
     refine dp rfl (pop_assign rfl) ?_
     refine dp rfl (pop_assign rfl) ?_
     refine dn ?_
     refine hw_reg ?_
     refine dp rfl (pop_loadw ty28 rfl rfl rfl rfl) ?_
     refine dp rfl (pop_load ty32 rfl rfl rfl) ?_
     refine dp rfl (pop_loadw ty47 rfl rfl rfl rfl) ?_
     refine dp rfl (pop_call ca67 rfl (WeakL.refl _) (c_benchref1_DidOf (m := m) (o := o) (x := y) ht h0 ho (hx0 y hym))) ?_
     refine dp rfl (pop_move rfl) ?_
     refine dp rfl (pop_extract rfl rfl) ?_
     refine dp rfl (pop_extract rfl rfl) ?_
     refine dp rfl (pop_assign rfl) ?_
     refine dp rfl (pop_assign rfl) ?_
     refine dn ?_
     refine hw_reg ?_
     refine dp rfl (pop_move rfl) ?_
     refine dp rfl (pop_move rfl) ?_
     refine dg rfl rfl (fun hc => ⟨_, OpenTo.refl _, pop_move rfl⟩) ?_
     refine dp rfl (pop_picko rfl (.inr ⟨_, rfl, fun h => by simp_all⟩) (.inl rfl)) ?_
     refine dp rfl (pop_move rfl) ?_
     refine dg rfl rfl (fun hc => ⟨_, OpenTo.refl _, pop_move rfl⟩) ?_
     refine dg rfl rfl (fun hc => ⟨_, OpenTo.refl _, pop_loadw ty47 rfl rfl rfl rfl⟩) ?_
     refine dg rfl rfl (fun hc => ⟨_, OpenTo.refl _, pop_loadw ty47 rfl rfl rfl rfl⟩) ?_
     refine dg rfl rfl (fun hc => ⟨_, OpenTo.upd (t := 55) rfl (by first | exact hc | simp_all) (OpenTo.upd (t := 54) rfl (by first | exact hc | simp_all) (OpenTo.upd (t := 53) rfl (by first | exact hc | simp_all) (OpenTo.refl _))), pop_callv ca66 rfl rfl (WeakL.refl _) (c_benchref1_ClashOf_1 (m := m) (o := o) (x := x) (y := y) ht h0 ho (hx0 x hxm) (hx0 y hym))⟩) ?_
     refine dg rfl rfl (fun hc => ⟨_, OpenTo.upd (t := 56) rfl (by first | exact hc | simp_all) (OpenTo.refl _), pop_not rfl⟩) ?_
     refine dp rfl (pop_picko rfl (.inr ⟨_, rfl, fun h => by simp_all⟩) (.inl rfl)) ?_
     refine dp rfl (pop_move rfl) ?_
     refine dg rfl rfl (fun hc => ⟨_, OpenTo.refl _, pop_move rfl⟩) ?_
     refine dg rfl rfl (fun hc => ⟨_, OpenTo.refl _, pop_loadw ty47 rfl rfl rfl rfl⟩) ?_
     refine dg rfl rfl (fun hc => ⟨_, OpenTo.refl _, pop_loadw ty47 rfl rfl rfl rfl⟩) ?_
     refine dg rfl rfl (fun hc => ⟨_, OpenTo.upd (t := 62) rfl (by first | exact hc | simp_all) (OpenTo.upd (t := 61) rfl (by first | exact hc | simp_all) (OpenTo.upd (t := 60) rfl (by first | exact hc | simp_all) (OpenTo.refl _))), pop_callv ca66 rfl rfl (WeakL.refl _) (c_benchref1_ClashOf_1 (m := m) (o := o) (x := y) (y := x) ht h0 ho (hx0 y hym) (hx0 x hxm))⟩) ?_
     refine dg rfl rfl (fun hc => ⟨_, OpenTo.upd (t := 63) rfl (by first | exact hc | simp_all) (OpenTo.refl _), pop_not rfl⟩) ?_
     refine dp rfl (pop_picko rfl (.inr ⟨_, rfl, fun h => by simp_all⟩) (.inl rfl)) ?_
     refine dn ?_
     refine hw_cond rfl (fun h5 => ?_) (fun h6 => ?_)
     ·try simp at h5
      refine hw_reg1 ?_
      refine dp rfl (pop_move rfl) ?_
      refine dp rfl ((by first | exact pop_fieldAddr ty47 rfl ty9 (by decide) rfl | exact pop_fieldAddr_raw ty47 rfl ty9 (by decide) rfl)) ?_
      refine dp rfl (pop_load ty9 rfl rfl rfl) ?_
      refine dp rfl ((by first | exact pop_fieldAddr ty47 rfl ty9 (by decide) rfl | exact pop_fieldAddr_raw ty47 rfl ty9 (by decide) rfl)) ?_
      refine dp rfl (pop_load ty9 rfl rfl rfl) ?_
      refine dp rfl (pop_build (cs := [_, _]) ty57 pl57 rfl) ?_
      refine dp rfl (pop_buildSlice (hs := [_]) ty52 ty57 rfl rfl (by decide) (by decide) rfl) ?_
      refine de rfl (eop_append (i := 0) ty52 ty57 rfl rfl rfl rfl rfl (by simp [flat, hcells]) (by simp only [List.length_map, List.length_append, List.length_cons, List.length_nil, List.length_take] at *; omega) fun v73 => ?_)
      refine dp rfl (pop_assign rfl) ?_
      refine dn ?_
      refine blockQ_n ?_
      refine seqQ_n ?_
      refine hw_reg1 ?_
      refine dp rfl (pop_add64 rfl rfl (by omega) (by omega)) ?_
      refine dp rfl (pop_move rfl) ?_
      refine dn ?_
      exact ⟨j + 1, v73, ⟨by omega, trivial⟩, by dsimp only; omega, ⟨rfl, rfl, trivial⟩, (by repeat (first | exact keeps_refl | refine keeps_upd rfl ?_ | refine keeps_loop rfl rfl ?_)), perm_eq (by dsimp only; rw [rlP_take hy, if_pos (by unfold clB; simp_all)]; simp)⟩
     ·try simp at h6
      refine hw_skip ?_
      refine blockQ_n ?_
      refine seqQ_n ?_
      refine hw_reg1 ?_
      refine dp rfl (pop_add64 rfl rfl (by omega) (by omega)) ?_
      refine dp rfl (pop_move rfl) ?_
      refine dn ?_
      exact ⟨j + 1, u2, ⟨by omega, trivial⟩, by dsimp only; omega, ⟨rfl, rfl, trivial⟩, (by repeat (first | exact keeps_refl | refine keeps_upd rfl ?_ | refine keeps_loop rfl rfl ?_)), perm_eq (by dsimp only; rw [rlP_take hy, if_neg (by unfold clB; simp_all)]; simp)⟩
    ·try simp at h4
     have hnj : (l.drop (k + 1)).length ≤ j := by simpa using h4
     obtain rfl : j = (l.drop (k + 1)).length := by omega
     rw [List.take_length]
     refine hw_exit ?_
     refine seqQ_x ?_
     refine loopQ2_x ?_
     refine blockQ_eq ?_
     refine blockQ_n ?_
     refine seqQ_n ?_
     refine hw_reg1 ?_
     refine dp rfl (pop_add64 rfl rfl (by omega) (by omega)) ?_
     refine dp rfl (pop_move rfl) ?_
     refine dn ?_
     exact ⟨k + 1, u2, acc ++ rlP m o x (l.drop (k + 1)), ⟨by omega, by rw [List.append_assoc, ← rlG_drop hx]; exact hg, by have := rlP_len m o x (l.drop (k + 1)); rw [List.length_append]; omega⟩, by dsimp only; omega, ⟨rfl, rfl, trivial⟩, (by repeat (first | exact keeps_refl | refine keeps_upd rfl ?_ | refine keeps_loop rfl rfl ?_)), perm_eq rfl⟩
  ·try simp at h2
   have hnk : l.length ≤ k := by omega
   obtain rfl : k = l.length := by omega
   rw [drop_all (Nat.le_refl _)] at hg
   refine hw_exit ?_
   refine seqQ_x ?_
   refine loopQ3_x ?_
   refine blockQ_eq ?_
   refine seqQ_n ?_
   refine hw_reg ?_
   refine dp rfl (pop_move rfl) ?_
   refine dp rfl (pop_assign rfl) ?_
   refine dn ?_
   refine hw_ret ?_
   refine ret_g (Ghost.fa 6 (i := 0) rfl rfl) rfl ⟨?_, rfl⟩
   show HVal.slice _ _ = _
   rw [← hg]
   simp [rlG]

/-- benchwarmer/benchref1.TradesFault -/
theorem c_benchref1_TradesFault [Tracks] {m : MarketS} {o : List OwnerS} {l : List DealS} {a : List ReplyS} (ht : m.Teams.length ≤ 1000000) (hms : ∀ s ∈ m.Teams, s.length ≤ 1000000) (ho : o.length ≤ 1000000) (hos : ∀ x ∈ o, x.Player.length ≤ 1000000) (hl : l.length ≤ 1000000) (hb : ∀ x ∈ l, x.Id.length ≤ 1000000 ∧ x.Gives.length ≤ 1000000 ∧ ∀ g ∈ x.Gives, g.Player.length ≤ 1000000) (ha : a.length ≤ 1000000) (has : ∀ x ∈ a, x.Offer.length ≤ 1000000) : ConP Tryz.prog 16 [eMarket m, eOwners o, eDeals l, eReplies a] (.int .i64 (tradesE m o l a)) := by
 refine Con.of_body Tryz.func16 rfl Tryz.ntmps16 rfl rfl ?_
 refine hw_reg ?_
 refine dp rfl (pop_box rfl rfl) ?_
 refine dp rfl (pop_assign rfl) ?_
 refine dn ?_
 refine hw_seq ?_
 refine hw_reg ?_
 refine dp rfl (pop_loadw ty28 rfl rfl rfl rfl) ?_
 refine dp rfl (pop_call ca8 rfl (WeakL.refl _) (c_benchref1_MarketFault (m := m) ht hms)) ?_
 refine dp rfl (pop_assign rfl) ?_
 refine dn ?_
 refine hw_reg ?_
 refine dp rfl (pop_move rfl) ?_
 refine dp rfl (pop_neq rfl rfl) ?_
 refine dn ?_
 refine hw_cond rfl (fun h1 => ?_) (fun h2 => ?_)
 ·try simp at h1
  refine hw_reg ?_
  refine dp rfl (pop_move rfl) ?_
  refine dp rfl (pop_assign rfl) ?_
  refine dn ?_
  refine hw_ret ?_
  refine ret_p rfl ?_
  show HVal.int .i64 _ = _
  first
  | (rw [trades_bad (by simpa using h1)]; done)
  | (rw [← trades_ok (by simpa using h2)]; done)
 ·try simp at h2
  refine hw_skip ?_
  refine seqQ_n ?_
  refine hw_draw (fun _ => True) [] mixed ?_
  refine ahp 0 rfl rfl (by kernel_rfl) (by kernel_rfl) (pop_loadw ty28 rfl rfl rfl rfl) ?_
  refine ahp 1 rfl rfl (by kernel_rfl) (by kernel_rfl) (pop_move rfl) ?_
  refine ahp 2 rfl rfl (by kernel_rfl) (by kernel_rfl) (pop_call ca60 rfl (WeakL.refl _) (c_benchref1_OwnersFault (m := m) (o := o) ht ho hos)) ?_
  refine ahp 3 rfl rfl (by kernel_rfl) (by kernel_rfl) (pop_loadw ty28 rfl rfl rfl rfl) ?_
  refine ahp 4 rfl rfl (by kernel_rfl) (by kernel_rfl) (pop_move rfl) ?_
  refine ahp 5 rfl rfl (by kernel_rfl) (by kernel_rfl) (pop_call ca10 rfl (WeakL.refl _) (c_benchref1_OffersFault (m := m) (l := l) ht hl hb)) ?_
  refine ahp 6 rfl rfl (by kernel_rfl) (by kernel_rfl) (pop_loadw ty28 rfl rfl rfl rfl) ?_
  refine ahp 7 rfl rfl (by kernel_rfl) (by kernel_rfl) (pop_move rfl) ?_
  refine ahp 8 rfl rfl (by kernel_rfl) (by kernel_rfl) (pop_call ca61 rfl (WeakL.refl _) (c_benchref1_AnswersFault (m := m) (l := a) ht ha has)) ?_
  refine ahp 9 rfl rfl (by kernel_rfl) (by kernel_rfl) (pop_buildSlice (hs := [_, _, _]) ty161 ty34 rfl rfl (by decide) (by decide) rfl) ?_
  refine ahp 10 rfl rfl (by kernel_rfl) (by kernel_rfl) (pop_call ca59 rfl (WeakL.refl _) (c_cmp_Or_api_Errno (l := [_, _, _]) (by simp))) ?_
  refine ahp 11 rfl rfl (by kernel_rfl) (by kernel_rfl) (pop_assign rfl) ?_
  refine ahz (by kernel_rfl) ?_
  refine hw_ret ?_
  refine ret_p rfl ?_
  show HVal.int .i64 _ = _
  first
  | (rw [trades_bad (by simpa using h1)]; done)
  | (rw [← trades_ok (by simpa using h2)]; done)
end Go.Proofs.YtdjpppifnmjhoaaGreatDoor
end
section
namespace Go.Proofs.YtdjpppifnmjhoaaGreatDoor
open Go.HL
set_option maxRecDepth 100000
set_option linter.unusedVariables false
set_option linter.unusedSimpArgs false
end Go.Proofs.YtdjpppifnmjhoaaGreatDoor
end
section
namespace Go.Proofs.YtdjpppifnmjhoaaGreatDoor
open Go.HL
set_option maxRecDepth 100000
set_option linter.unusedVariables false
set_option linter.unusedSimpArgs false

end Go.Proofs.YtdjpppifnmjhoaaGreatDoor
end
section
namespace Go.Proofs.YtdjpppifnmjhoaaGreatDoor
open Go.HL
set_option maxRecDepth 100000
set_option linter.unusedVariables false
set_option linter.unusedSimpArgs false
end Go.Proofs.YtdjpppifnmjhoaaGreatDoor
end
section
namespace Go.Proofs.YtdjpppifnmjhoaaGreatDoor
open Go.HL
set_option maxRecDepth 100000
set_option linter.unusedVariables false
set_option linter.unusedSimpArgs false
end Go.Proofs.YtdjpppifnmjhoaaGreatDoor
end
section
namespace Go.Proofs.YtdjpppifnmjhoaaGreatDoor
open Go.HL
set_option maxRecDepth 100000
set_option linter.unusedVariables false
set_option linter.unusedSimpArgs false

end Go.Proofs.YtdjpppifnmjhoaaGreatDoor
end
section
namespace Go.Proofs.YtdjpppifnmjhoaaGreatDoor
open Go.HL
set_option maxRecDepth 100000
set_option linter.unusedVariables false
set_option linter.unusedSimpArgs false
end Go.Proofs.YtdjpppifnmjhoaaGreatDoor
end
section
namespace Go.Proofs.YtdjpppifnmjhoaaGreatDoor
open Go.HL
set_option maxRecDepth 100000
set_option linter.unusedVariables false
set_option linter.unusedSimpArgs false

end Go.Proofs.YtdjpppifnmjhoaaGreatDoor
end
section
namespace Go.Proofs.YtdjpppifnmjhoaaGreatDoor
open Go.HL
set_option maxRecDepth 100000
set_option linter.unusedVariables false
set_option linter.unusedSimpArgs false

end Go.Proofs.YtdjpppifnmjhoaaGreatDoor
end
section
namespace Go.Proofs.YtdjpppifnmjhoaaGreatDoor
open Go.HL
set_option maxRecDepth 100000
set_option linter.unusedVariables false
set_option linter.unusedSimpArgs false

end Go.Proofs.YtdjpppifnmjhoaaGreatDoor
end
section
namespace Go.Proofs.YtdjpppifnmjhoaaGreatDoor
open Go.HL
set_option maxRecDepth 100000
set_option linter.unusedVariables false
set_option linter.unusedSimpArgs false

end Go.Proofs.YtdjpppifnmjhoaaGreatDoor
end
section
namespace Go.Proofs.YtdjpppifnmjhoaaGreatDoor
open Go.HL
set_option maxRecDepth 100000
set_option linter.unusedVariables false
set_option linter.unusedSimpArgs false
/-- slices.Equal[[]benchwarmer/api.Pair,benchwarmer/api.Pair] -/
theorem c_slices_Equal_api_Pair_api_Pair [Tracks] {l m : List PairS} (hl : l.length ≤ 1000000) : ConP Tryz.prog 18 [ePairs l, ePairs m] (.bool (eqSts ePair l m)) := by
 refine Con.of_body Tryz.func18 rfl Tryz.ntmps18 rfl rfl ?_
 refine hw_reg ?_
 refine dp rfl (pop_assign rfl) ?_
 refine dn ?_
 refine hw_seq ?_
 refine hw_reg ?_
 refine dp rfl (pop_move rfl) ?_
 refine dp rfl (pop_lenm ty52 rfl) ?_
 refine dp rfl (pop_move rfl) ?_
 refine dp rfl (pop_lenm ty52 rfl) ?_
 refine dp rfl (pop_neq rfl rfl) ?_
 refine dn ?_
 refine hw_cond rfl (fun h1 => ?_) (fun h2 => ?_)
 ·try simp at h1
  refine hw_reg ?_
  refine dp rfl (pop_assign rfl) ?_
  refine dn ?_
  refine hw_ret ?_
  refine ret_p rfl ?_
  show HVal.bool _ = _
  (congr 1; symm; exact eqSts_len (by omega))
 ·try simp at h2
  refine hw_skip ?_
  refine seqQ_n ?_
  refine hw_seq ?_
  refine hw_reg ?_
  refine dp rfl (pop_move rfl) ?_
  refine dp rfl (pop_lenm ty52 rfl) ?_
  refine dp rfl (pop_move rfl) ?_
  refine dn ?_
  refine hw_block ?_
  refine hw_loopw [4, 5, 13, 14, 15, 16, 17, 18, 19, 20, 21, 22, 23, 24, 25] (fun (k : Nat) => [(13, .int .i64 k)]) (fun (k : Nat) => []) (fun (k : Nat) => k ≤ l.length ∧ (l.length = m.length ∧ eqSts ePair l m = eqSts ePair (l.drop k) (m.drop k))) (fun (k : Nat) => l.length - k) (0) ?_ ?_ ?_ ?_
  ·refine ⟨Nat.zero_le _, ?_, rfl⟩
   omega
  ·exact ⟨rfl, trivial⟩
  ·exact List.Perm.refl _
  ·intro k hinv
   obtain ⟨hk, hg⟩ := hinv
   refine hw_reg ?_
   refine dp rfl (pop_lss rfl rfl) ?_
   refine dn ?_
   refine hw_seq ?_
   refine hw_cond rfl (fun h3 => ?_) (fun h4 => ?_)
   ·try simp at h3
    obtain ⟨x, hx⟩ : ∃ x, l[k]? = some x := ⟨_, List.getElem?_eq_getElem h3⟩
    have hdx := drop_cons hx
    obtain ⟨y, hy⟩ : ∃ y, m[k]? = some y := ⟨_, List.getElem?_eq_getElem (by omega)⟩
    rw [hdx, drop_cons hy] at hg
    refine hw_skip ?_
    refine seqQ_n ?_
    refine hw_seq ?_
    refine hw_block ?_
    refine hw_reg ?_
    refine dp rfl (pop_move rfl) ?_
    refine dp rfl (pop_assign rfl) ?_
    refine dn ?_
    refine hw_draw (fun _ => True) [] mixed ?_
    refine ahp 0 rfl rfl (by kernel_rfl) (by kernel_rfl) (pop_move rfl) ?_
    refine ahp 1 rfl rfl (by kernel_rfl) (by kernel_rfl) (pop_move rfl) ?_
    refine ahp 2 rfl rfl (by kernel_rfl) (by kernel_rfl) (pop_idx ty52 ty57 rfl rfl rfl (by assumption)) ?_
    refine ahp 3 rfl rfl (by kernel_rfl) (by kernel_rfl) (pop_loadw ty57 rfl rfl rfl rfl) ?_
    refine ahp 4 rfl rfl (by kernel_rfl) (by kernel_rfl) (pop_move rfl) ?_
    refine ahp 5 rfl rfl (by kernel_rfl) (by kernel_rfl) (pop_move rfl) ?_
    refine ahp 6 rfl rfl (by kernel_rfl) (by kernel_rfl) (pop_idx ty52 ty57 rfl rfl rfl (by assumption)) ?_
    refine ahp 7 rfl rfl (by kernel_rfl) (by kernel_rfl) (pop_loadw ty57 rfl rfl rfl rfl) ?_
    refine ahp 8 rfl rfl (by kernel_rfl) (by kernel_rfl) (pop_neqst ty57 eq57 rfl rfl ⟨rfl, ⟨_, _, _, _, ty9, rfl⟩, ⟨rfl, ⟨_, _, _, _, ty9, rfl⟩, trivial⟩⟩) ?_
    refine ahz (by kernel_rfl) ?_
    refine hw_cond rfl (fun h5 => ?_) (fun h6 => ?_)
    ·try simp at h5
     refine hw_reg ?_
     refine dp rfl (pop_assign rfl) ?_
     refine dn ?_
     refine hw_ret ?_
     refine ret_p rfl ?_
     show HVal.bool _ = _
     (rw [hg.2, eqSts, show eqSt ePair x y = false from h5]; rfl)
    ·try simp at h6
     refine hw_skip ?_
     refine blockQ_n ?_
     refine seqQ_n ?_
     refine hw_reg1 ?_
     refine dp rfl (pop_add64 rfl rfl (by omega) (by omega)) ?_
     refine dp rfl (pop_move rfl) ?_
     refine dn ?_
     refine ⟨k + 1, ?_, ?_, ⟨rfl, trivial⟩, (by repeat (first | exact keeps_refl | refine keeps_upd rfl ?_ | refine keeps_loop rfl rfl ?_)), List.Perm.refl _⟩
     ·refine ⟨by omega, hg.1, ?_⟩
      rw [hg.2, eqSts, show eqSt ePair x y = true from h6]; rfl
     ·dsimp only; omega
   ·try simp at h4
    have hnk : l.length ≤ k := by omega
    obtain rfl : k = l.length := by omega
    rw [drop_all (Nat.le_refl _)] at hg
    refine hw_exit ?_
    refine seqQ_x ?_
    refine loopQ_x ?_
    refine blockQ_eq ?_
    refine seqQ_n ?_
    refine hw_reg ?_
    refine dp rfl (pop_assign rfl) ?_
    refine dn ?_
    refine hw_ret ?_
    refine ret_p rfl ?_
    show HVal.bool _ = _
    (rw [hg.2, drop_all (Nat.le_of_eq hg.1.symm)]; rfl)
end Go.Proofs.YtdjpppifnmjhoaaGreatDoor
end
section
namespace Go.Proofs.YtdjpppifnmjhoaaGreatDoor
open Go.HL
set_option maxRecDepth 100000
set_option linter.unusedVariables false
set_option linter.unusedSimpArgs false
/-- slices.Equal[[]benchwarmer/api.Owner,benchwarmer/api.Owner] -/
theorem c_slices_Equal_api_Owner_api_Owner [Tracks] {l m : List OwnerS} (hl : l.length ≤ 1000000) : ConP Tryz.prog 69 [eOwners l, eOwners m] (.bool (eqSts eOwner l m)) := by
 refine Con.of_body Tryz.func69 rfl Tryz.ntmps69 rfl rfl ?_
 refine hw_reg ?_
 refine dp rfl (pop_assign rfl) ?_
 refine dn ?_
 refine hw_seq ?_
 refine hw_reg ?_
 refine dp rfl (pop_move rfl) ?_
 refine dp rfl (pop_lenm ty32 rfl) ?_
 refine dp rfl (pop_move rfl) ?_
 refine dp rfl (pop_lenm ty32 rfl) ?_
 refine dp rfl (pop_neq rfl rfl) ?_
 refine dn ?_
 refine hw_cond rfl (fun h1 => ?_) (fun h2 => ?_)
 ·try simp at h1
  refine hw_reg ?_
  refine dp rfl (pop_assign rfl) ?_
  refine dn ?_
  refine hw_ret ?_
  refine ret_p rfl ?_
  show HVal.bool _ = _
  first | (congr 1; symm; exact eqSts_len (by omega)) | (rw [hg.2, eqSts, show eqSt eOwner x y = false from h5]; rfl) | (rw [hg.2, drop_all (Nat.le_of_eq hg.1.symm)]; rfl)
 ·try simp at h2
  refine hw_skip ?_
  refine seqQ_n ?_
  refine hw_seq ?_
  refine hw_reg ?_
  refine dp rfl (pop_move rfl) ?_
  refine dp rfl (pop_lenm ty32 rfl) ?_
  refine dp rfl (pop_move rfl) ?_
  refine dn ?_
  refine hw_block ?_
  refine hw_loopw [4, 5, 13, 14, 15, 16, 17, 18, 19, 20, 21, 22, 23, 24, 25] (fun (k : Nat) => [(13, .int .i64 k)]) (fun (k : Nat) => []) (fun (k : Nat) => k ≤ l.length ∧ (l.length = m.length ∧ eqSts eOwner l m = eqSts eOwner (l.drop k) (m.drop k))) (fun (k : Nat) => l.length - k) (0) ?_ ?_ ?_ ?_
  ·refine ⟨Nat.zero_le _, ?_, rfl⟩
   omega
  ·exact ⟨rfl, trivial⟩
  ·exact List.Perm.refl _
  ·intro k hinv
   obtain ⟨hk, hg⟩ := hinv
   refine hw_reg ?_
   refine dp rfl (pop_lss rfl rfl) ?_
   refine dn ?_
   refine hw_seq ?_
   refine hw_cond rfl (fun h3 => ?_) (fun h4 => ?_)
   ·try simp at h3
    obtain ⟨x, hx⟩ : ∃ x, l[k]? = some x := ⟨_, List.getElem?_eq_getElem h3⟩
    have hdx := drop_cons hx
    obtain ⟨y, hy⟩ : ∃ y, m[k]? = some y := ⟨_, List.getElem?_eq_getElem (by omega)⟩
    rw [hdx, drop_cons hy] at hg
    refine hw_skip ?_
    refine seqQ_n ?_
    refine hw_seq ?_
    refine hw_block ?_
    refine hw_reg ?_
    refine dp rfl (pop_move rfl) ?_
    refine dp rfl (pop_assign rfl) ?_
    refine dn ?_
    refine hw_draw (fun _ => True) [] mixed ?_
    refine ahp 0 rfl rfl (by kernel_rfl) (by kernel_rfl) (pop_move rfl) ?_
    refine ahp 1 rfl rfl (by kernel_rfl) (by kernel_rfl) (pop_move rfl) ?_
    refine ahp 2 rfl rfl (by kernel_rfl) (by kernel_rfl) (pop_idx ty32 ty67 rfl rfl rfl (by first | assumption | simp_all)) ?_
    refine ahp 3 rfl rfl (by kernel_rfl) (by kernel_rfl) (pop_loadw ty67 rfl rfl rfl rfl) ?_
    refine ahp 4 rfl rfl (by kernel_rfl) (by kernel_rfl) (pop_move rfl) ?_
    refine ahp 5 rfl rfl (by kernel_rfl) (by kernel_rfl) (pop_move rfl) ?_
    refine ahp 6 rfl rfl (by kernel_rfl) (by kernel_rfl) (pop_idx ty32 ty67 rfl rfl rfl (by first | assumption | simp_all)) ?_
    refine ahp 7 rfl rfl (by kernel_rfl) (by kernel_rfl) (pop_loadw ty67 rfl rfl rfl rfl) ?_
    refine ahp 8 rfl rfl (by kernel_rfl) (by kernel_rfl) (pop_neqst ty67 eq67 rfl rfl ⟨rfl, ⟨_, _, _, _, ty9, rfl⟩, ⟨rfl, ⟨_, _, _, _, ty9, rfl⟩, trivial⟩⟩) ?_
    refine ahz (by kernel_rfl) ?_
    refine hw_cond rfl (fun h5 => ?_) (fun h6 => ?_)
    ·try simp at h5
     refine hw_reg ?_
     refine dp rfl (pop_assign rfl) ?_
     refine dn ?_
     refine hw_ret ?_
     refine ret_p rfl ?_
     show HVal.bool _ = _
     first | (congr 1; symm; exact eqSts_len (by omega)) | (rw [hg.2, eqSts, show eqSt eOwner x y = false from h5]; rfl) | (rw [hg.2, drop_all (Nat.le_of_eq hg.1.symm)]; rfl)
    ·try simp at h6
     refine hw_skip ?_
     refine blockQ_n ?_
     refine seqQ_n ?_
     refine hw_reg1 ?_
     refine dp rfl (pop_add64 rfl rfl (by omega) (by omega)) ?_
     refine dp rfl (pop_move rfl) ?_
     refine dn ?_
     refine ⟨k + 1, ?_, ?_, ⟨rfl, trivial⟩, (by repeat (first | exact keeps_refl | refine keeps_upd rfl ?_ | refine keeps_loop rfl rfl ?_)), List.Perm.refl _⟩
     ·refine ⟨by omega, hg.1, ?_⟩
      rw [hg.2, eqSts, show eqSt eOwner x y = true from h6]; rfl
     ·dsimp only; omega
   ·try simp at h4
    have hnk : l.length ≤ k := by omega
    obtain rfl : k = l.length := by omega
    rw [drop_all (Nat.le_refl _)] at hg
    refine hw_exit ?_
    refine seqQ_x ?_
    refine loopQ_x ?_
    refine blockQ_eq ?_
    refine seqQ_n ?_
    refine hw_reg ?_
    refine dp rfl (pop_assign rfl) ?_
    refine dn ?_
    refine hw_ret ?_
    refine ret_p rfl ?_
    show HVal.bool _ = _
    first | (congr 1; symm; exact eqSts_len (by omega)) | (rw [hg.2, eqSts, show eqSt eOwner x y = false from h5]; rfl) | (rw [hg.2, drop_all (Nat.le_of_eq hg.1.symm)]; rfl)

/-- slices.Equal[[]benchwarmer/api.Give,benchwarmer/api.Give] -/
theorem c_slices_Equal_api_Give_api_Give [Tracks] {l m : List GiveS} (hl : l.length ≤ 1000000) : ConP Tryz.prog 57 [eGives l, eGives m] (.bool (eqSts eGive l m)) := by
 refine Con.of_body Tryz.func57 rfl Tryz.ntmps57 rfl rfl ?_
 refine hw_reg ?_
 refine dp rfl (pop_assign rfl) ?_
 refine dn ?_
 refine hw_seq ?_
 refine hw_reg ?_
 refine dp rfl (pop_move rfl) ?_
 refine dp rfl (pop_lenm ty45 rfl) ?_
 refine dp rfl (pop_move rfl) ?_
 refine dp rfl (pop_lenm ty45 rfl) ?_
 refine dp rfl (pop_neq rfl rfl) ?_
 refine dn ?_
 refine hw_cond rfl (fun h1 => ?_) (fun h2 => ?_)
 ·try simp at h1
  refine hw_reg ?_
  refine dp rfl (pop_assign rfl) ?_
  refine dn ?_
  refine hw_ret ?_
  refine ret_p rfl ?_
  show HVal.bool _ = _
  first | (congr 1; symm; exact eqSts_len (by omega)) | (rw [hg.2, eqSts, show eqSt eGive x y = false from h5]; rfl) | (rw [hg.2, drop_all (Nat.le_of_eq hg.1.symm)]; rfl)
 ·try simp at h2
  refine hw_skip ?_
  refine seqQ_n ?_
  refine hw_seq ?_
  refine hw_reg ?_
  refine dp rfl (pop_move rfl) ?_
  refine dp rfl (pop_lenm ty45 rfl) ?_
  refine dp rfl (pop_move rfl) ?_
  refine dn ?_
  refine hw_block ?_
  refine hw_loopw [4, 5, 13, 14, 15, 16, 17, 18, 19, 20, 21, 22, 23, 24, 25] (fun (k : Nat) => [(13, .int .i64 k)]) (fun (k : Nat) => []) (fun (k : Nat) => k ≤ l.length ∧ (l.length = m.length ∧ eqSts eGive l m = eqSts eGive (l.drop k) (m.drop k))) (fun (k : Nat) => l.length - k) (0) ?_ ?_ ?_ ?_
  ·refine ⟨Nat.zero_le _, ?_, rfl⟩
   omega
  ·exact ⟨rfl, trivial⟩
  ·exact List.Perm.refl _
  ·intro k hinv
   obtain ⟨hk, hg⟩ := hinv
   refine hw_reg ?_
   refine dp rfl (pop_lss rfl rfl) ?_
   refine dn ?_
   refine hw_seq ?_
   refine hw_cond rfl (fun h3 => ?_) (fun h4 => ?_)
   ·try simp at h3
    obtain ⟨x, hx⟩ : ∃ x, l[k]? = some x := ⟨_, List.getElem?_eq_getElem h3⟩
    have hdx := drop_cons hx
    obtain ⟨y, hy⟩ : ∃ y, m[k]? = some y := ⟨_, List.getElem?_eq_getElem (by omega)⟩
    rw [hdx, drop_cons hy] at hg
    refine hw_skip ?_
    refine seqQ_n ?_
    refine hw_seq ?_
    refine hw_block ?_
    refine hw_reg ?_
    refine dp rfl (pop_move rfl) ?_
    refine dp rfl (pop_assign rfl) ?_
    refine dn ?_
    refine hw_draw (fun _ => True) [] mixed ?_
    refine ahp 0 rfl rfl (by kernel_rfl) (by kernel_rfl) (pop_move rfl) ?_
    refine ahp 1 rfl rfl (by kernel_rfl) (by kernel_rfl) (pop_move rfl) ?_
    refine ahp 2 rfl rfl (by kernel_rfl) (by kernel_rfl) (pop_idx ty45 ty69 rfl rfl rfl (by first | assumption | simp_all)) ?_
    refine ahp 3 rfl rfl (by kernel_rfl) (by kernel_rfl) (pop_loadw ty69 rfl rfl rfl rfl) ?_
    refine ahp 4 rfl rfl (by kernel_rfl) (by kernel_rfl) (pop_move rfl) ?_
    refine ahp 5 rfl rfl (by kernel_rfl) (by kernel_rfl) (pop_move rfl) ?_
    refine ahp 6 rfl rfl (by kernel_rfl) (by kernel_rfl) (pop_idx ty45 ty69 rfl rfl rfl (by first | assumption | simp_all)) ?_
    refine ahp 7 rfl rfl (by kernel_rfl) (by kernel_rfl) (pop_loadw ty69 rfl rfl rfl rfl) ?_
    refine ahp 8 rfl rfl (by kernel_rfl) (by kernel_rfl) (pop_neqst ty69 eq69 rfl rfl ⟨rfl, ⟨_, _, _, _, ty9, rfl⟩, ⟨rfl, ⟨_, _, _, _, ty9, rfl⟩, ⟨rfl, ⟨_, _, _, _, ty9, rfl⟩, trivial⟩⟩⟩) ?_
    refine ahz (by kernel_rfl) ?_
    refine hw_cond rfl (fun h5 => ?_) (fun h6 => ?_)
    ·try simp at h5
     refine hw_reg ?_
     refine dp rfl (pop_assign rfl) ?_
     refine dn ?_
     refine hw_ret ?_
     refine ret_p rfl ?_
     show HVal.bool _ = _
     first | (congr 1; symm; exact eqSts_len (by omega)) | (rw [hg.2, eqSts, show eqSt eGive x y = false from h5]; rfl) | (rw [hg.2, drop_all (Nat.le_of_eq hg.1.symm)]; rfl)
    ·try simp at h6
     refine hw_skip ?_
     refine blockQ_n ?_
     refine seqQ_n ?_
     refine hw_reg1 ?_
     refine dp rfl (pop_add64 rfl rfl (by omega) (by omega)) ?_
     refine dp rfl (pop_move rfl) ?_
     refine dn ?_
     refine ⟨k + 1, ?_, ?_, ⟨rfl, trivial⟩, (by repeat (first | exact keeps_refl | refine keeps_upd rfl ?_ | refine keeps_loop rfl rfl ?_)), List.Perm.refl _⟩
     ·refine ⟨by omega, hg.1, ?_⟩
      rw [hg.2, eqSts, show eqSt eGive x y = true from h6]; rfl
     ·dsimp only; omega
   ·try simp at h4
    have hnk : l.length ≤ k := by omega
    obtain rfl : k = l.length := by omega
    rw [drop_all (Nat.le_refl _)] at hg
    refine hw_exit ?_
    refine seqQ_x ?_
    refine loopQ_x ?_
    refine blockQ_eq ?_
    refine seqQ_n ?_
    refine hw_reg ?_
    refine dp rfl (pop_assign rfl) ?_
    refine dn ?_
    refine hw_ret ?_
    refine ret_p rfl ?_
    show HVal.bool _ = _
    first | (congr 1; symm; exact eqSts_len (by omega)) | (rw [hg.2, eqSts, show eqSt eGive x y = false from h5]; rfl) | (rw [hg.2, drop_all (Nat.le_of_eq hg.1.symm)]; rfl)

/-- benchwarmer/benchref1.SameOffer -/
theorem c_benchref1_SameOffer [Tracks] {x : DealS} (hs : x.Gives.length ≤ 1000000) : ConP Tryz.prog 14 [eDeal x, eDeal x] (.bool true) := by
 refine Con.of_body Tryz.func14 rfl Tryz.ntmps14 rfl rfl ?_
 refine hw_reg ?_
 refine dp rfl (pop_box rfl rfl) ?_
 refine dp rfl (pop_box rfl rfl) ?_
 refine dp rfl (pop_assign rfl) ?_
 refine dn ?_
 refine hw_reg ?_
 refine dp rfl (pop_fieldAddr ty47 rfl ty9 (by decide) rfl) ?_
 refine dp rfl (pop_load ty9 rfl rfl rfl) ?_
 refine dp rfl (pop_fieldAddr ty47 rfl ty9 (by decide) rfl) ?_
 refine dp rfl (pop_load ty9 rfl rfl rfl) ?_
 refine dp rfl (pop_eqls rfl rfl) ?_
 refine dp rfl (pop_move rfl) ?_
 refine dg rfl rfl (fun hc => ⟨_, OpenTo.refl _, pop_fieldAddr ty47 rfl ty9 (by decide) rfl⟩) ?_
 refine dg rfl rfl (fun hc => ⟨_, OpenTo.upd (t := 11) rfl (by first | exact hc | simp_all) (OpenTo.refl _), pop_load ty9 rfl rfl rfl⟩) ?_
 refine dg rfl rfl (fun hc => ⟨_, OpenTo.refl _, pop_fieldAddr ty47 rfl ty9 (by decide) rfl⟩) ?_
 refine dg rfl rfl (fun hc => ⟨_, OpenTo.upd (t := 13) rfl (by first | exact hc | simp_all) (OpenTo.refl _), pop_load ty9 rfl rfl rfl⟩) ?_
 refine dg rfl rfl (fun hc => ⟨_, OpenTo.upd (t := 14) rfl (by first | exact hc | simp_all) (OpenTo.upd (t := 12) rfl (by first | exact hc | simp_all) (OpenTo.refl _)), pop_eqls rfl rfl⟩) ?_
 refine dp rfl (pop_picko rfl (.inr ⟨_, rfl, fun h => by simp_all⟩) (.inl rfl)) ?_
 refine dp rfl (pop_move rfl) ?_
 refine dg rfl rfl (fun hc => ⟨_, OpenTo.refl _, pop_fieldAddr ty47 rfl ty44 (by decide) rfl⟩) ?_
 refine dg rfl rfl (fun hc => ⟨_, OpenTo.upd (t := 18) rfl (by first | exact hc | simp_all) (OpenTo.refl _), pop_eq (h' := .agg [.int .i64 x.From, .int .i64 x.To]) (pop_loada ty44 rfl rfl (Nat.le_of_ble_eq_true rfl)) rfl⟩) ?_
 refine dg rfl rfl (fun hc => ⟨_, OpenTo.refl _, pop_fieldAddr ty47 rfl ty44 (by decide) rfl⟩) ?_
 refine dg rfl rfl (fun hc => ⟨_, OpenTo.upd (t := 20) rfl (by first | exact hc | simp_all) (OpenTo.refl _), pop_eq (h' := .agg [.int .i64 x.From, .int .i64 x.To]) (pop_loada ty44 rfl rfl (Nat.le_of_ble_eq_true rfl)) rfl⟩) ?_
 refine dg rfl rfl (fun hc => ⟨_, OpenTo.upd (t := 21) rfl (by first | exact hc | simp_all) (OpenTo.upd (t := 19) rfl (by first | exact hc | simp_all) (OpenTo.refl _)), pop_eqst ty44 eq44 rfl rfl ⟨rfl, ⟨_, _, _, _, ty3, rfl⟩, ⟨rfl, ⟨_, _, _, _, ty3, rfl⟩, trivial⟩⟩⟩) ?_
 refine dp rfl (pop_picko rfl (.inr ⟨_, rfl, fun h => by simp_all⟩) (.inl rfl)) ?_
 refine dp rfl (pop_move rfl) ?_
 refine dg rfl rfl (fun hc => ⟨_, OpenTo.refl _, pop_fieldAddr ty47 rfl ty45 (by decide) rfl⟩) ?_
 refine dg rfl rfl (fun hc => ⟨_, OpenTo.upd (t := 25) rfl (by first | exact hc | simp_all) (OpenTo.refl _), pop_load ty45 rfl rfl rfl⟩) ?_
 refine dg rfl rfl (fun hc => ⟨_, OpenTo.refl _, pop_fieldAddr ty47 rfl ty45 (by decide) rfl⟩) ?_
 refine dg rfl rfl (fun hc => ⟨_, OpenTo.upd (t := 27) rfl (by first | exact hc | simp_all) (OpenTo.refl _), pop_load ty45 rfl rfl rfl⟩) ?_
 refine dg rfl rfl (fun hc => ⟨_, OpenTo.upd (t := 28) rfl (by first | exact hc | simp_all) (OpenTo.upd (t := 26) rfl (by first | exact hc | simp_all) (OpenTo.refl _)), pop_call ca57 rfl (WeakL.refl _) (c_slices_Equal_api_Give_api_Give (l := x.Gives) (m := x.Gives) hs)⟩) ?_
 refine dp rfl (pop_picko rfl (.inr ⟨_, rfl, fun h => by simp_all⟩) (.inl rfl)) ?_
 refine dp rfl (pop_assign rfl) ?_
 refine dn ?_
 refine hw_ret ?_
 refine ret_p rfl ?_
 show HVal.bool _ = _
 simp [eqGives_refl, eqHL, eqH]

/-- slices.EqualFunc[[]benchwarmer/api.Offer,[]benchwarmer/api.Offer,benchwarmer/api.Offer,benchwarmer/api.Offer] -/
theorem c_EqualFunc_Offer [Tracks] {l : List DealS} (hl : l.length ≤ 1000000) (hs : ∀ y ∈ l, y.Gives.length ≤ 1000000) : ConP Tryz.prog 13 [eDeals l, eDeals l, .fn (.func 14) [] []] (.bool true) := by
 refine Con.of_body Tryz.func13 rfl Tryz.ntmps13 rfl rfl ?_
 refine hw_reg ?_
 refine dp rfl (pop_assign rfl) ?_
 refine dn ?_
 refine hw_seq ?_
 refine hw_reg ?_
 refine dp rfl (pop_move rfl) ?_
 refine dp rfl (pop_lenm ty30 rfl) ?_
 refine dp rfl (pop_move rfl) ?_
 refine dp rfl (pop_lenm ty30 rfl) ?_
 refine dp rfl (pop_neq rfl rfl) ?_
 refine dn ?_
 refine hw_cond rfl (fun h1 => ?_) (fun h1 => ?_)
 ·exfalso
  try simp at h1
  done
 ·try simp at h1
  refine hw_skip ?_
  refine seqQ_n ?_
  refine hw_seq ?_
  refine hw_reg ?_
  refine dp rfl (pop_move rfl) ?_
  refine dp rfl (pop_lenm ty30 rfl) ?_
  refine dp rfl (pop_move rfl) ?_
  refine dn ?_
  refine hw_block ?_
  refine hw_loopw [6, 7, 8, 9, 17, 18, 19, 20, 21, 22, 23, 24, 25, 26, 27, 28, 29, 30, 31] (fun (k : Nat) => [(17, .int .i64 k)]) (fun (k : Nat) => []) (fun (k : Nat) => k ≤ l.length ∧ (True)) (fun (k : Nat) => l.length - k) (0) ?_ ?_ ?_ ?_
  ·exact ⟨Nat.zero_le _, trivial⟩
  ·exact ⟨rfl, trivial⟩
  ·exact List.Perm.refl _
  ·intro k hinv
   obtain ⟨hk, -⟩ := hinv
   refine hw_reg ?_
   refine dp rfl (pop_lss rfl rfl) ?_
   refine dn ?_
   refine hw_seq ?_
   refine hw_cond rfl (fun h2 => ?_) (fun h3 => ?_)
   ·try simp at h2
    obtain ⟨x, hx⟩ : ∃ x, l[k]? = some x := ⟨_, List.getElem?_eq_getElem h2⟩
    have hdx := drop_cons hx
    refine hw_skip ?_
    refine seqQ_n ?_
    refine hw_seq ?_
    refine hw_block ?_
    refine hw_reg ?_
    refine dp rfl (pop_move rfl) ?_
    refine dp rfl (pop_idx ty30 ty47 rfl rfl rfl (by first | assumption | simp_all)) ?_
    refine dp rfl (pop_loadw ty47 rfl rfl rfl rfl) ?_
    refine de rfl (eop_alloc ty47 rfl fun b8 => ?_)
    refine dp rfl (pop_assign rfl) ?_
    refine de0 (eop_storew ty47 rfl rfl rfl rfl rfl ?_)
    refine dn ?_
    refine hw_ghost (Ghost.fc0 8 rfl) ?_
    refine hw_reg ?_
    refine dp rfl (pop_move rfl) ?_
    refine dp rfl (pop_move rfl) ?_
    refine dp rfl (pop_idx (j := k) (a := x) ty30 ty47 rfl rfl rfl hx) ?_
    refine dp rfl (pop_loadw ty47 rfl rfl rfl rfl) ?_
    refine de rfl (eop_alloc ty47 rfl fun b9 => ?_)
    refine de0 (eop_storew ty47 rfl rfl rfl rfl rfl ?_)
    refine dn ?_
    refine hw_ghost (Ghost.fc0 9 rfl) ?_
    refine hw_reg ?_
    refine dp rfl (pop_move rfl) ?_
    refine dp rfl (pop_loadw ty47 rfl rfl rfl rfl) ?_
    refine dp rfl (pop_loadw ty47 rfl rfl rfl rfl) ?_
    refine dp rfl (pop_callv ca14 rfl rfl (WeakL.refl _) (c_benchref1_SameOffer (hs x (List.mem_of_getElem? hx)))) ?_
    refine dp rfl (pop_not rfl) ?_
    refine dn ?_
    refine hw_cond rfl (fun h4 => ?_) (fun h4 => ?_)
    ·exfalso
     try simp at h4
     done
    ·try simp at h4
     refine hw_skip ?_
     refine blockQ_n ?_
     refine seqQ_n ?_
     refine hw_reg1 ?_
     refine dp rfl (pop_add64 rfl rfl (by omega) (by omega)) ?_
     refine dp rfl (pop_move rfl) ?_
     refine dn ?_
     refine ⟨k + 1, ?_, ?_, ⟨rfl, trivial⟩, (by repeat (first | exact keeps_refl | refine keeps_upd rfl ?_ | refine keeps_loop rfl rfl ?_)), List.Perm.refl _⟩
     ·exact ⟨by omega, trivial⟩
     ·dsimp only; omega
   ·try simp at h3
    have hnk : l.length ≤ k := by omega
    obtain rfl : k = l.length := by omega
    refine hw_exit ?_
    refine seqQ_x ?_
    refine loopQ_x ?_
    refine blockQ_eq ?_
    refine seqQ_n ?_
    refine hw_reg ?_
    refine dp rfl (pop_assign rfl) ?_
    refine dn ?_
    refine hw_ret ?_
    refine ret_p rfl ?_
    rfl

/-- benchwarmer/benchlaw1.traded -/
theorem c_benchlaw1_traded [Tracks]   : ConP Tryz.prog 21 [] (.bool true) := by
 refine Con.of_body Tryz.func21 rfl Tryz.ntmps21 rfl rfl ?_
 refine hw_reg ?_
 refine dp rfl (pop_assign rfl) ?_
 refine dn ?_
 refine hw_reg ?_
 refine dp rfl (pop_buildSlice (hs := [_, _]) ty26 ty9 rfl rfl (by decide) (by decide) rfl) ?_
 refine dp rfl (pop_build (cs := [_, _, _, _, _, _]) ty28 pl28 rfl) ?_
 refine de rfl (eop_alloc ty28 rfl fun b1 => ?_)
 refine de0 (eop_storew ty28 rfl rfl rfl rfl rfl ?_)
 refine dn ?_
 refine hw_ghost (Ghost.fc0 1 rfl) ?_
 refine hw_reg ?_
 refine dp rfl (pop_loadw ty28 rfl rfl rfl rfl) ?_
 refine dp rfl (pop_build (cs := [_, _]) ty67 pl67 rfl) ?_
 refine dp rfl (pop_buildSlice (hs := [_]) ty32 ty67 rfl rfl (by decide) (by decide) rfl) ?_
 refine dp rfl (pop_build (cs := [_, _]) ty44 pl44 rfl) ?_
 refine dp rfl (pop_build (cs := [_, _, _]) ty69 pl69 rfl) ?_
 refine dp rfl (pop_buildSlice (hs := [_]) ty45 ty69 rfl rfl (by decide) (by decide) rfl) ?_
 refine dp rfl (pop_build (cs := [_, _, _, _, _]) ty47 pl47 rfl) ?_
 refine dp rfl (pop_call ca68 rfl (WeakL.refl _) (c_trade_Did (m := market1) (o := [⟨[112], [97]⟩]) (x := deal1) (by decide) (by decide) (by decide) (by decide))) ?_
 refine dp rfl (pop_move rfl) ?_
 refine dp rfl (pop_extract rfl rfl) ?_
 refine dp rfl (pop_extract rfl rfl) ?_
 refine dp rfl (pop_assign rfl) ?_
 refine dp rfl (pop_assign rfl) ?_
 refine dn ?_
 rw [did1_l, did1_e]
 refine hw_reg ?_
 refine dp rfl (pop_move rfl) ?_
 refine dp rfl (pop_eql rfl rfl) ?_
 refine dp rfl (pop_move rfl) ?_
 refine dg rfl rfl (fun hc => ⟨_, OpenTo.refl _, pop_move rfl⟩) ?_
 refine dg rfl rfl (fun hc => ⟨_, OpenTo.refl _, pop_build (cs := [_, _]) ty67 pl67 rfl⟩) ?_
 refine dg rfl rfl (fun hc => ⟨_, OpenTo.upd (t := 21) rfl (by first | exact hc | simp_all) (OpenTo.refl _), pop_buildSlice (hs := [_]) ty32 ty67 rfl rfl (by decide) (by decide) rfl⟩) ?_
 refine dg rfl rfl (fun hc => ⟨_, OpenTo.upd (t := 22) rfl (by first | exact hc | simp_all) (OpenTo.upd (t := 20) rfl (by first | exact hc | simp_all) (OpenTo.refl _)), pop_call ca69 rfl (WeakL.refl _) (c_slices_Equal_api_Owner_api_Owner (l := [⟨[112], [98]⟩]) (m := [⟨[112], [98]⟩]) (by decide))⟩) ?_
 refine dp rfl (pop_picko rfl (.inr ⟨_, rfl, fun h => by simp_all⟩) (.inl rfl)) ?_
 refine dp rfl (pop_assign rfl) ?_
 refine dn ?_
 refine hw_ret ?_
 refine ret_p rfl ?_
 rfl

set_option maxHeartbeats 4000000 in
/-- benchwarmer/benchlaw1.OffersClash -/
theorem c_benchlaw1_OffersClash [Tracks] {l : List Int}  : ConP Tryz.prog 4 [.slice 1 (l.map (.int .i64))] (.bool true) := by
 refine Con.of_body Tryz.func4 rfl Tryz.ntmps4 rfl rfl ?_
 refine hw_reg ?_
 refine dp rfl (pop_assign rfl) ?_
 refine dn ?_
 refine hw_reg ?_
 refine dp rfl (pop_move rfl) ?_
 refine dp rfl (pop_build (cs := [_, _]) ty25 pl25 rfl) ?_
 refine de rfl (eop_box rfl rfl fun b => ?_)
 refine dghost (M' := [St b l 0]) rfl ?_
 refine dp rfl (pop_assign rfl) ?_
 refine dn ?_
 refine hw_reg ?_
 refine dp rfl (pop_move rfl) ?_
 first
 | refine de rfl (eop_callx (i := 0) ca5 rfl (WeakL.refl _) rfl (c_benchmake_Stream_MarketOf (by first | assumption | omega | (simp; omega) | simp_all)) ?_)
 | refine de rfl (eop_callx (i := 1) ca5 rfl (WeakL.refl _) rfl (c_benchmake_Stream_MarketOf (by first | assumption | omega | (simp; omega) | simp_all)) ?_)
 | refine de rfl (eop_callx (i := 2) ca5 rfl (WeakL.refl _) rfl (c_benchmake_Stream_MarketOf (by first | assumption | omega | (simp; omega) | simp_all)) ?_)
 | refine de rfl (eop_callx (i := 3) ca5 rfl (WeakL.refl _) rfl (c_benchmake_Stream_MarketOf (by first | assumption | omega | (simp; omega) | simp_all)) ?_)
 rintro _ _ ⟨m24, a24, rfl, hm24, ha24, rfl⟩
 refine de rfl (eop_alloc ty28 rfl fun b4 => ?_)
 refine de0 (eop_storew ty28 rfl rfl rfl rfl rfl ?_)
 refine dn ?_
 refine hw_ghost (Ghost.fc0 4 rfl) ?_
 refine hw_reg ?_
 refine dp rfl (pop_move rfl) ?_
 refine dp rfl (pop_loadw ty28 rfl rfl rfl rfl) ?_
 first
 | refine de rfl (eop_callx (i := 0) ca7 rfl (WeakL.refl _) rfl (c_benchmake_Stream_OwnerList (by first | assumption | omega | (simp; omega) | simp_all) (by first | assumption | omega | (simp; omega) | simp_all)) ?_)
 | refine de rfl (eop_callx (i := 1) ca7 rfl (WeakL.refl _) rfl (c_benchmake_Stream_OwnerList (by first | assumption | omega | (simp; omega) | simp_all) (by first | assumption | omega | (simp; omega) | simp_all)) ?_)
 | refine de rfl (eop_callx (i := 2) ca7 rfl (WeakL.refl _) rfl (c_benchmake_Stream_OwnerList (by first | assumption | omega | (simp; omega) | simp_all) (by first | assumption | omega | (simp; omega) | simp_all)) ?_)
 | refine de rfl (eop_callx (i := 3) ca7 rfl (WeakL.refl _) rfl (c_benchmake_Stream_OwnerList (by first | assumption | omega | (simp; omega) | simp_all) (by first | assumption | omega | (simp; omega) | simp_all)) ?_)
 rintro _ _ ⟨o27, a27, rfl, ho27, ha27, rfl⟩
 refine dp rfl (pop_assign rfl) ?_
 refine dn ?_
 refine hw_reg ?_
 refine dp rfl (pop_move rfl) ?_
 refine dp rfl (pop_loadw ty28 rfl rfl rfl rfl) ?_
 refine dp rfl (pop_move rfl) ?_
 first
 | refine de rfl (eop_callx (i := 0) ca6 rfl (WeakL.refl _) rfl (c_benchmake_Stream_OfferList (by first | assumption | omega | (simp; omega) | simp_all) (by first | assumption | omega | (simp; omega) | simp_all) (by first | assumption | omega | (simp; omega) | simp_all)) ?_)
 | refine de rfl (eop_callx (i := 1) ca6 rfl (WeakL.refl _) rfl (c_benchmake_Stream_OfferList (by first | assumption | omega | (simp; omega) | simp_all) (by first | assumption | omega | (simp; omega) | simp_all) (by first | assumption | omega | (simp; omega) | simp_all)) ?_)
 | refine de rfl (eop_callx (i := 2) ca6 rfl (WeakL.refl _) rfl (c_benchmake_Stream_OfferList (by first | assumption | omega | (simp; omega) | simp_all) (by first | assumption | omega | (simp; omega) | simp_all) (by first | assumption | omega | (simp; omega) | simp_all)) ?_)
 | refine de rfl (eop_callx (i := 3) ca6 rfl (WeakL.refl _) rfl (c_benchmake_Stream_OfferList (by first | assumption | omega | (simp; omega) | simp_all) (by first | assumption | omega | (simp; omega) | simp_all) (by first | assumption | omega | (simp; omega) | simp_all)) ?_)
 rintro _ _ ⟨x31, a31, rfl, hx31, hxo31, ha31, rfl⟩
 refine dp rfl (pop_assign rfl) ?_
 refine dn ?_
 have hm5 := hm24.len
 have hol := ho27.len
 have hxl := hx31.len
 have hms : ∀ s ∈ m24.Teams, s.length ≤ 1000000 := fun s hs => Nat.le_trans (hm24.sh s hs) (by decide)
 have hxg : ∀ x ∈ x31, x.Gives.length ≤ 1000000 := fun x hx => Nat.le_trans (hx31.all x hx).len (by decide)
 have hxb : ∀ x ∈ x31, x.Id.length ≤ 1000000 ∧ x.Gives.length ≤ 1000000 ∧ ∀ g ∈ x.Gives, g.Player.length ≤ 1000000 := fun x hx => ⟨(hx31.all x hx).id, hxg x hx, (hx31.all x hx).all⟩
 have h0o : x31 ≠ [] → 0 < o27.length := fun hne => by
  rcases Nat.eq_zero_or_pos o27.length with q | q
  ·exact absurd (hxo31 (List.length_eq_zero_iff.1 q)) hne
  ·exact q
 have hrl : (rlG m24 o27 x31).length ≤ 1000000 := Nat.le_trans (rlG_len m24 o27 x31) (Nat.le_trans (Nat.mul_le_mul hxl hxl) (by decide))
 refine hw_reg ?_
 refine dp rfl (pop_loadw ty28 rfl rfl rfl rfl) ?_
 refine dp rfl (pop_move rfl) ?_
 refine dp rfl (pop_move rfl) ?_
 refine dp rfl (pop_call (hs' := [eMarket m24, eOwners o27, eDeals x31, eReplies []]) ca16 rfl ⟨Weak.refl _, Weak.refl _, Weak.refl _, weak_nil 4, trivial⟩ (c_benchref1_TradesFault (m := m24) (o := o27) (l := x31) (a := []) (by omega) hms (by omega) (fun x hx => (ho27.all x hx).1) (by omega) hxb (by simp) (by simp))) ?_
 refine dp rfl (pop_assign rfl) ?_
 refine dn ?_
 simp only [trades_nil]
 refine hw_reg ?_
 refine dp rfl (pop_loadw ty28 rfl rfl rfl rfl) ?_
 refine dp rfl (pop_move rfl) ?_
 refine dp rfl (pop_move rfl) ?_
 refine dp rfl (pop_call ca17 rfl (WeakL.refl _) (c_trade_Clash (m := m24) (o := o27) (l := x31) (by omega) h0o (by omega) (by omega) hxg)) ?_
 refine dp rfl (pop_move rfl) ?_
 refine dp rfl (pop_extract rfl rfl) ?_
 refine dp rfl (pop_extract rfl rfl) ?_
 refine dp rfl (pop_assign rfl) ?_
 refine dp rfl (pop_assign rfl) ?_
 refine dn ?_
 refine hw_seq ?_
 refine hw_reg ?_
 refine dp rfl (pop_move rfl) ?_
 refine dp rfl (pop_move rfl) ?_
 refine dp rfl (pop_neq rfl rfl) ?_
 refine dp rfl (pop_move rfl) ?_
 refine dg rfl rfl (fun hc => ⟨_, OpenTo.refl _, pop_move rfl⟩) ?_
 refine dg rfl rfl (fun hc => ⟨_, OpenTo.upd (t := 47) rfl (by first | exact hc | simp_all) (OpenTo.refl _), pop_eql rfl rfl⟩) ?_
 refine dg rfl rfl (fun hc => ⟨_, OpenTo.upd (t := 48) rfl (by first | exact hc | simp_all) (OpenTo.refl _), pop_move rfl⟩) ?_
 refine dg rfl rfl (fun hc => ⟨_, OpenTo.refl _, pop_move rfl⟩) ?_
 refine dg rfl rfl (fun hc => ⟨_, OpenTo.refl _, pop_loadw ty28 rfl rfl rfl rfl⟩) ?_
 refine dg rfl rfl (fun hc => ⟨_, OpenTo.refl _, pop_move rfl⟩) ?_
 refine dg rfl rfl (fun hc => ⟨_, OpenTo.refl _, pop_move rfl⟩) ?_
 refine dg rfl rfl (fun hc => by
  have hz0 : orI [ownersE m24 o27, dealsE m24 x31] = 0 := by simp_all
  exact ⟨_, OpenTo.upd (t := 53) rfl (by first | exact hc | simp_all) (OpenTo.upd (t := 52) rfl (by first | exact hc | simp_all) (OpenTo.upd (t := 51) rfl (by first | exact hc | simp_all) (OpenTo.refl _))), pop_call ca19 rfl (WeakL.refl _) (c_benchref1_ClashOf (m := m24) (o := o27) (l := x31) (by omega) h0o (by omega) (by omega) hxg)⟩) ?_
 refine dg rfl rfl (fun hc => by
  have hz0 : orI [ownersE m24 o27, dealsE m24 x31] = 0 := by simp_all
  exact ⟨_, OpenTo.upd (t := 54) rfl (by first | exact hc | simp_all) (OpenTo.upd (t := 50) rfl (by first | exact hc | simp_all) (OpenTo.refl _)), pop_call ca18 rfl (WeakL.refl _) (c_slices_Equal_api_Pair_api_Pair (l := (clL m24 o27 x31)) (m := rlG m24 o27 x31) (by rw [clL_ok hz0]; exact hrl))⟩) ?_
 refine dg rfl rfl (fun hc => ⟨_, OpenTo.upd (t := 55) rfl (by first | exact hc | simp_all) (OpenTo.refl _), pop_not rfl⟩) ?_
 refine dg rfl rfl (fun hc => ⟨_, OpenTo.upd (t := 49) rfl (by first | exact hc | simp_all) (OpenTo.refl _), pop_picko rfl (.inr ⟨_, rfl, fun h => by simp_all⟩) (.inl rfl)⟩) ?_
 refine dp rfl (pop_picko rfl (.inl rfl) (.inr ⟨_, rfl, fun h => by simp_all⟩)) ?_
 refine dp rfl (pop_move rfl) ?_
 refine dg rfl rfl (fun hc => ⟨_, OpenTo.refl _, pop_move rfl⟩) ?_
 refine dg rfl rfl (fun hc => ⟨_, OpenTo.upd (t := 60) rfl (by first | exact hc | simp_all) (OpenTo.refl _), pop_neq rfl rfl⟩) ?_
 refine dg rfl rfl (fun hc => ⟨_, OpenTo.upd (t := 61) rfl (by first | exact hc | simp_all) (OpenTo.refl _), pop_move rfl⟩) ?_
 refine dg rfl rfl (fun hc => ⟨_, OpenTo.refl _, pop_move rfl⟩) ?_
 refine dg rfl rfl (fun hc => ⟨_, OpenTo.upd (t := 63) rfl (by first | exact hc | simp_all) (OpenTo.refl _), pop_lenm (f := ePair) (l := (clL m24 o27 x31)) ty52 rfl⟩) ?_
 refine dg rfl rfl (fun hc => ⟨_, OpenTo.upd (t := 64) rfl (by first | exact hc | simp_all) (OpenTo.refl _), pop_gtr rfl rfl⟩) ?_
 refine dg rfl rfl (fun hc => ⟨_, OpenTo.upd (t := 62) rfl (by first | exact hc | simp_all) (OpenTo.refl _), pop_picko rfl (.inr ⟨_, rfl, fun h => by simp_all⟩) (.inl rfl)⟩) ?_
 refine dp rfl (pop_picko rfl (.inl rfl) (.inr ⟨_, rfl, fun h => by simp_all⟩)) ?_
 refine dn ?_
 refine hw_cond rfl (fun h1 => ?_) (fun h1 => ?_)
 ·exfalso
  try simp at h1
  by_cases hq : orI [ownersE m24 o27, dealsE m24 x31] = 0
  ·simp [hq, clL_ok hq, eqPairs_refl] at h1
  ·simp [hq, clL_bad hq] at h1
 ·try simp at h1
  refine hw_skip ?_
  refine seqQ_n ?_
  refine hw_reg ?_
  refine dp rfl (pop_loadw ty28 rfl rfl rfl rfl) ?_
  refine dp rfl (pop_call ca8 rfl (WeakL.refl _) (c_benchref1_MarketFault (m := m24) (by omega) hms)) ?_
  refine dp rfl (pop_assign rfl) ?_
  refine dn ?_
  refine hw_reg ?_
  refine dp rfl (pop_move rfl) ?_
  refine dp rfl (pop_assign rfl) ?_
  refine dn ?_
  refine hw_join [11, 71, 72, 73, 74, 75] (fun (z0 : Unit) => [(11, .int .i64 (dealsE m24 x31))]) (fun (z0 : Unit) => [St b l a31]) (fun (z0 : Unit) => True) ?_ ?_
  ·skip
   refine hw_reg ?_
   refine dp rfl (pop_move rfl) ?_
   refine dp rfl (pop_eql rfl rfl) ?_
   refine dn ?_
   refine hw_cond rfl (fun h2 => ?_) (fun h3 => ?_)
   ·try simp at h2
    refine hw_reg1 ?_
    refine dp rfl (pop_loadw ty28 rfl rfl rfl rfl) ?_
    refine dp rfl (pop_move rfl) ?_
    refine dp rfl (pop_call ca10 rfl (WeakL.refl _) (c_benchref1_OffersFault (m := m24) (l := x31) (by omega) (by omega) hxb)) ?_
    refine dp rfl (pop_assign rfl) ?_
    refine dn ?_
    obtain ⟨_, e2, _, _⟩ := chk_ok (m := m24) (by assumption) o27 x31 [] []
    exact ⟨(), trivial, ⟨congrArg (fun q => some (HVal.int .i64 q)) e2, trivial⟩, (by repeat (first | exact keeps_refl | refine keeps_upd rfl ?_ | refine keeps_loop rfl rfl ?_)), List.Perm.refl _⟩
   ·try simp at h3
    refine hw_skip ?_
    obtain ⟨_, e2, _, _⟩ := chk_bad (m := m24) (by assumption) o27 x31 [] []
    exact ⟨(), trivial, ⟨congrArg (fun q => some (HVal.int .i64 q)) e2, trivial⟩, (by repeat (first | exact keeps_refl | refine keeps_upd rfl ?_ | refine keeps_loop rfl rfl ?_)), List.Perm.refl _⟩
  ·intro z0 _
   refine hw_reg ?_
   refine dp rfl (pop_loadw ty28 rfl rfl rfl rfl) ?_
   refine dp rfl (pop_move rfl) ?_
   refine dp rfl (pop_call ca11 rfl (WeakL.refl _) (c_trade_Text (m := m24) (l := x31) (by omega) (by omega) hxg)) ?_
   refine dp rfl (pop_move rfl) ?_
   refine dp rfl (pop_extract rfl rfl) ?_
   refine dp rfl (pop_extract rfl rfl) ?_
   refine dp rfl (pop_assign rfl) ?_
   refine dp rfl (pop_assign rfl) ?_
   refine dn ?_
   obtain ⟨e1, e2⟩ := dl_few (m := m24) hx31
   simp only [e1, e2]
   refine hw_seq ?_
   refine hw_reg ?_
   refine dp rfl (pop_move rfl) ?_
   refine dp rfl (pop_move rfl) ?_
   refine dp rfl (pop_neq rfl rfl) ?_
   refine dp rfl (pop_move rfl) ?_
   refine dg rfl rfl (fun hc => ⟨_, OpenTo.refl _, pop_move rfl⟩) ?_
   refine dg rfl rfl (fun hc => ⟨_, OpenTo.upd (t := 86) rfl (by first | exact hc | simp_all) (OpenTo.refl _), pop_eql rfl rfl⟩) ?_
   refine dg rfl rfl (fun hc => ⟨_, OpenTo.upd (t := 87) rfl (by first | exact hc | simp_all) (OpenTo.refl _), pop_move rfl⟩) ?_
   refine dg rfl rfl (fun hc => ⟨_, OpenTo.refl _, pop_move rfl⟩) ?_
   refine dg rfl rfl (fun hc => ⟨_, OpenTo.refl _, pop_move rfl⟩) ?_
   refine dg rfl rfl (fun hc => by
    have hzd : dealsE m24 x31 = 0 := by simp_all
    exact ⟨_, OpenTo.upd (t := 90) rfl (by first | exact hc | simp_all) (OpenTo.refl _), pop_call ca20 rfl (WeakL.refl _) (c_benchref1_OfferLines (l := x31) (by omega) (deals_k hzd).2)⟩) ?_
   refine dg rfl rfl (fun hc => ⟨_, OpenTo.upd (t := 91) rfl (by first | exact hc | simp_all) (OpenTo.upd (t := 89) rfl (by first | exact hc | simp_all) (OpenTo.refl _)), pop_neqs rfl rfl⟩) ?_
   refine dg rfl rfl (fun hc => ⟨_, OpenTo.upd (t := 88) rfl (by first | exact hc | simp_all) (OpenTo.refl _), pop_picko rfl (.inr ⟨_, rfl, fun h => by simp_all⟩) (.inl rfl)⟩) ?_
   refine dp rfl (pop_picko rfl (.inl rfl) (.inr ⟨_, rfl, fun h => by simp_all⟩)) ?_
   refine dp rfl (pop_move rfl) ?_
   refine dg rfl rfl (fun hc => ⟨_, OpenTo.refl _, pop_move rfl⟩) ?_
   refine dg rfl rfl (fun hc => ⟨_, OpenTo.upd (t := 96) rfl (by first | exact hc | simp_all) (OpenTo.refl _), pop_neq rfl rfl⟩) ?_
   refine dg rfl rfl (fun hc => ⟨_, OpenTo.upd (t := 97) rfl (by first | exact hc | simp_all) (OpenTo.refl _), pop_move rfl⟩) ?_
   refine dg rfl rfl (fun hc => ⟨_, OpenTo.refl _, pop_move rfl⟩) ?_
   refine dg rfl rfl (fun hc => ⟨_, OpenTo.upd (t := 99) rfl (by first | exact hc | simp_all) (OpenTo.refl _), pop_neqs rfl rfl⟩) ?_
   refine dg rfl rfl (fun hc => ⟨_, OpenTo.upd (t := 98) rfl (by first | exact hc | simp_all) (OpenTo.refl _), pop_picko rfl (.inr ⟨_, rfl, fun h => by simp_all⟩) (.inl rfl)⟩) ?_
   refine dp rfl (pop_picko rfl (.inl rfl) (.inr ⟨_, rfl, fun h => by simp_all⟩)) ?_
   refine dn ?_
   refine hw_cond rfl (fun h4 => ?_) (fun h4 => ?_)
   ·exfalso
    try simp at h4
    by_cases hq : dealsE m24 x31 = 0
    ·simp [hq] at h4
    ·simp [hq] at h4
   ·try simp at h4
    refine hw_skip ?_
    refine seqQ_n ?_
    refine hw_reg ?_
    refine dp rfl (pop_move rfl) ?_
    refine dp rfl (pop_loadw ty28 rfl rfl rfl rfl) ?_
    first
    | refine de rfl (eop_callx (i := 0) ca15 rfl (WeakL.refl _) rfl (c_benchmake_Stream_OfferString (by first | assumption | omega | (simp; omega) | simp_all) (by first | assumption | omega | (simp; omega) | simp_all)) ?_)
    | refine de rfl (eop_callx (i := 1) ca15 rfl (WeakL.refl _) rfl (c_benchmake_Stream_OfferString (by first | assumption | omega | (simp; omega) | simp_all) (by first | assumption | omega | (simp; omega) | simp_all)) ?_)
    | refine de rfl (eop_callx (i := 2) ca15 rfl (WeakL.refl _) rfl (c_benchmake_Stream_OfferString (by first | assumption | omega | (simp; omega) | simp_all) (by first | assumption | omega | (simp; omega) | simp_all)) ?_)
    | refine de rfl (eop_callx (i := 3) ca15 rfl (WeakL.refl _) rfl (c_benchmake_Stream_OfferString (by first | assumption | omega | (simp; omega) | simp_all) (by first | assumption | omega | (simp; omega) | simp_all)) ?_)
    rintro _ _ ⟨t105, a105, rfl, ht105, ha105, rfl⟩
    refine dp rfl (pop_assign rfl) ?_
    refine dn ?_
    refine hw_reg ?_
    refine dp rfl (pop_loadw ty28 rfl rfl rfl rfl) ?_
    refine dp rfl (pop_move rfl) ?_
    refine dp rfl (pop_call ca12 rfl (WeakL.refl _) (c_trade_Read (m := m24) (text := t105) (by omega) (by omega))) ?_
    refine dp rfl (pop_move rfl) ?_
    refine dp rfl (pop_extract rfl rfl) ?_
    refine dp rfl (pop_extract rfl rfl) ?_
    refine dp rfl (pop_extract rfl rfl) ?_
    refine dp rfl (pop_assign rfl) ?_
    refine dp rfl (pop_assign rfl) ?_
    refine dp rfl (pop_assign rfl) ?_
    refine dn ?_
    refine hw_seq ?_
    have hdp := dvP_bd m24 t105 (by omega)
    refine hw_reg ?_
    refine dp rfl (pop_move rfl) ?_
    refine dp rfl (pop_neq rfl rfl) ?_
    refine dn ?_
    refine hw_cond rfl (fun h5 => ?_) (fun h6 => ?_)
    ·try simp at h5
     obtain ⟨d1, d2⟩ := dv_1 (m := m24) (text := t105) (by simpa using h5)
     have d3 : dvP m24 t105 = [] := by unfold dvP; rw [if_neg (by rw [d1]; simpa using h5)]
     simp only [d1, d2, d3]
     refine hw_reg ?_
     refine dp rfl (pop_move rfl) ?_
     refine dp rfl (pop_move rfl) ?_
     refine dp rfl (pop_eql rfl rfl) ?_
     refine dp rfl (pop_move rfl) ?_
     refine dg rfl rfl (fun hc => ⟨_, OpenTo.refl _, pop_move rfl⟩) ?_
     refine dg rfl rfl (fun hc => ⟨_, OpenTo.upd (t := 119) rfl (by first | exact hc | simp_all) (OpenTo.refl _), pop_eql rfl rfl⟩) ?_
     refine dp rfl (pop_picko rfl (.inr ⟨_, rfl, fun h => by simp_all⟩) (.inl rfl)) ?_
     refine dp rfl (pop_move rfl) ?_
     refine dg rfl rfl (fun hc => ⟨_, OpenTo.refl _, pop_move rfl⟩) ?_
     refine dg rfl rfl (fun hc => ⟨_, OpenTo.upd (t := 123) rfl (by first | exact hc | simp_all) (OpenTo.refl _), pop_lenm (f := eDeal) (l := ([] : List DealS)) ty30 rfl⟩) ?_
     refine dg rfl rfl (fun hc => ⟨_, OpenTo.upd (t := 124) rfl (by first | exact hc | simp_all) (OpenTo.refl _), pop_eql rfl rfl⟩) ?_
     refine dp rfl (pop_picko rfl (.inr ⟨_, rfl, fun h => by simp_all⟩) (.inl rfl)) ?_
     refine dp rfl (pop_move rfl) ?_
     refine dg rfl rfl (fun hc => ⟨_, OpenTo.refl _, pop_call ca21 rfl (WeakL.refl _) c_benchlaw1_traded⟩) ?_
     refine dp rfl (pop_picko rfl (.inr ⟨_, rfl, fun h => by simp_all⟩) (.inl rfl)) ?_
     refine dp rfl (pop_assign rfl) ?_
     refine dn ?_
     refine hw_ret ?_
     refine ret_g Ghost.clear rfl ⟨?_, rfl⟩
     show HVal.bool _ = _
     first | rfl | (simp; done) | (simp_all; done)
    ·try simp at h6
     refine hw_skip ?_
     refine seqQ_n ?_
     refine hw_reg ?_
     refine dp rfl (pop_loadw ty28 rfl rfl rfl rfl) ?_
     refine dp rfl (pop_move rfl) ?_
     refine dp rfl (pop_call ca22 rfl (WeakL.refl _) (c_benchref1_OffersRead (m := m24) (text := t105) (by omega) (by omega) (by simpa using h6))) ?_
     refine dp rfl (pop_move rfl) ?_
     refine dp rfl (pop_extract rfl rfl) ?_
     refine dp rfl (pop_extract rfl rfl) ?_
     refine dp rfl (pop_extract rfl rfl) ?_
     refine dp rfl (pop_assign rfl) ?_
     refine dp rfl (pop_assign rfl) ?_
     refine dp rfl (pop_assign rfl) ?_
     refine dn ?_
     refine hw_reg ?_
     refine dp rfl (pop_move rfl) ?_
     refine dp rfl (pop_move rfl) ?_
     refine dp rfl (pop_eql rfl rfl) ?_
     refine dp rfl (pop_move rfl) ?_
     refine dg rfl rfl (fun hc => ⟨_, OpenTo.refl _, pop_move rfl⟩) ?_
     refine dg rfl rfl (fun hc => ⟨_, OpenTo.refl _, pop_move rfl⟩) ?_
     refine dg rfl rfl (fun hc => ⟨_, OpenTo.upd (t := 142) rfl (by first | exact hc | simp_all) (OpenTo.upd (t := 141) rfl (by first | exact hc | simp_all) (OpenTo.refl _)), pop_eql rfl rfl⟩) ?_
     refine dp rfl (pop_picko rfl (.inr ⟨_, rfl, fun h => by simp_all⟩) (.inl rfl)) ?_
     refine dp rfl (pop_move rfl) ?_
     refine dg rfl rfl (fun hc => ⟨_, OpenTo.refl _, pop_move rfl⟩) ?_
     refine dg rfl rfl (fun hc => ⟨_, OpenTo.refl _, pop_move rfl⟩) ?_
     refine dg rfl rfl (fun hc => ⟨_, OpenTo.upd (t := 147) rfl (by first | exact hc | simp_all) (OpenTo.upd (t := 146) rfl (by first | exact hc | simp_all) (OpenTo.refl _)), pop_call ca13 rfl (WeakL.refl _) (c_EqualFunc_Offer (l := dvP m24 t105) hdp.1 hdp.2)⟩) ?_
     refine dp rfl (pop_picko rfl (.inr ⟨_, rfl, fun h => by simp_all⟩) (.inl rfl)) ?_
     refine dp rfl (pop_move rfl) ?_
     refine dg rfl rfl (fun hc => ⟨_, OpenTo.refl _, pop_call ca21 rfl (WeakL.refl _) c_benchlaw1_traded⟩) ?_
     refine dp rfl (pop_picko rfl (.inr ⟨_, rfl, fun h => by simp_all⟩) (.inl rfl)) ?_
     refine dp rfl (pop_assign rfl) ?_
     refine dn ?_
     refine hw_ret ?_
     refine ret_g Ghost.clear rfl ⟨?_, rfl⟩
     show HVal.bool _ = _
     first | rfl | (simp; done) | (simp_all; done)
end Go.Proofs.YtdjpppifnmjhoaaGreatDoor
end
section
namespace Go.HL
open Go
theorem handed_shaped {H : Type} {enc : TypeId × Value → H} {a : Assume} {C : Checked} {os : Os} {f : FuncId} {fn : Func} {s : ChangeSpec} {conds : List PathCond} {apart fresh handsOn again : Bool} {X : World → Array Value → Prop}
 (hX : ∀ (w w' : World) (args : Array Value), w.heap = w'.heap → X w args → X w' args)
 (own : ownKnob C.prog.godebug = none) (started : os.Started) (noInit : C.prog.inits.idxOf? f = none) (hfn : C.prog.funcs[f]? = some fn)
 (witness : ∃ (w : World) (tape : Tape) (i : Input), w.os = os ∧ (w.forCall tape i).Shaped C.prog ∧ i.vars = [] ∧ Input.okWide C.prog (w.forCall tape i) .any w.heap.size f i ∧
   ((s.pre enc C.prog fn conds apart (w.forCall tape i).memory i.args ∧ X (w.forCall tape i).memory i.args) ∧ sizedMet enc C.prog fn (OpenSpec.ofChange s) apart (w.forCall tape i).memory i.args) ∧ a.holds C.prog (lone (Frame.enter C.prog f i.args .normal) [] (w.forCall tape i)))
 (contract : ∀ (W : World) (base : Nat) (args : Array Value) (ds gs : List (DataW H)) (before : List MemPlace),
   (∀ (j : Nat) t v, fn.params[j]? = some t → args[j]? = some v → Value.okWide C.prog W .any base t v) → DataW.Whole enc C.prog fn.params.toList s.vars apart W args.toList ds gs before →
   X W args → W.ShapedOpen C.prog → Calls C.prog f args W fun e W' => ∃ v, e = .returned v ∧ s.post enc C.prog fn apart fresh handsOn again W args v W') :
 ReturnsInHanded a C os f .any (fun w args => (s.pre enc C.prog fn conds apart w args ∧ X w args) ∧ sizedMet enc C.prog fn (OpenSpec.ofChange s) apart w args) (s.post enc C.prog fn apart fresh handsOn again) := by
 refine returnsInHanded_of_calls own started noInit witness fun w tape i _ hsh _ hok hpre _ => ?_
 obtain ⟨_, _, _, fn', hfn', _, _, _, _, hval⟩ := hok
 obtain rfl : fn' = fn := Option.some.inj (hfn'.symm.trans hfn)
 obtain ⟨⟨⟨ds, gs, before, hw, _⟩, hx⟩, _⟩ := hpre
 refine (contract (w.forCall tape i) w.heap.size i.args ds gs before hval (DataW.Whole.of_heap (w' := w.forCall tape i) (by rfl) hw) (hX _ _ _ (by rfl) hx) hsh).mono fun e W' ⟨v, he, hp⟩ => ?_
 subst he
 exact ChangeSpec.post_blind hp
end Go.HL
end
section
namespace Go.Proofs
open Go.Shelf
def Tryz.laysm146_ren : Go.Shelf.Ren := ⟨fun | 146 => 72 | 221 => 115 | 268 => 164 | 138 => 55 | 143 => 101 | 195 => 99 | 197 => 175 | 218 => 100 | 219 => 156 | 260 => 204 | 217 => 136 | 225 => 190 | 224 => 191 | 267 => 192 | 266 => 178 | 314 => 220 | n => n, fun | 9 => 9 | 31 => 26 | 3 => 3 | 4 => 4 | 0 => 0 | 105 => 238 | 21 => 21 | 5 => 5 | 46 => 139 | 119 => 280 | 139 => 283 | 138 => 282 | 146 => 272 | 51 => 185 | n => n, fun | 1 => 0 | 3 => 2 | 4 => 3 | n => n⟩
theorem Tryz.laysm146 : Go.Proofs.LaysM.n146 Tryz.prog Tryz.laysm146_ren := {
 mixed := by kernel_rfl
 f138 := Tryz.func55.trans (congrArg some (by kernel_rfl))
 f143 := Tryz.func101.trans (congrArg some (by kernel_rfl))
 f146 := Tryz.func72.trans (congrArg some (by kernel_rfl))
 f195 := Tryz.func99.trans (congrArg some (by kernel_rfl))
 f197 := Tryz.func175.trans (congrArg some (by kernel_rfl))
 f217 := Tryz.func136.trans (congrArg some (by kernel_rfl))
 f218 := Tryz.func100.trans (congrArg some (by kernel_rfl))
 f219 := Tryz.func156.trans (congrArg some (by kernel_rfl))
 f221 := Tryz.func115.trans (congrArg some (by kernel_rfl))
 f224 := Tryz.func191.trans (congrArg some (by kernel_rfl))
 f225 := Tryz.func190.trans (congrArg some (by kernel_rfl))
 f260 := Tryz.func204.trans (congrArg some (by kernel_rfl))
 f266 := Tryz.func178.trans (congrArg some (by kernel_rfl))
 f267 := Tryz.func192.trans (congrArg some (by kernel_rfl))
 f268 := Tryz.func164.trans (congrArg some (by kernel_rfl))
 f314 := Tryz.func220.trans (congrArg some (by kernel_rfl))
 t0 := Tryz.underlying0
 a0 := Tryz.isAgg0
 z0 := Tryz.sizeOf0
 v0 := Tryz.zeroValue0
 t3 := Tryz.underlying3
 a3 := Tryz.isAgg3
 z3 := Tryz.sizeOf3
 v3 := Tryz.zeroValue3
 t4 := Tryz.underlying4
 a4 := Tryz.isAgg4
 z4 := Tryz.sizeOf4
 v4 := Tryz.zeroValue4
 t5 := Tryz.underlying5
 a5 := Tryz.isAgg5
 z5 := Tryz.sizeOf5
 v5 := Tryz.zeroValue5
 t9 := Tryz.underlying9
 a9 := Tryz.isAgg9
 z9 := Tryz.sizeOf9
 v9 := Tryz.zeroValue9
 t21 := Tryz.underlying21
 a21 := Tryz.isAgg21
 z21 := Tryz.sizeOf21
 v21 := Tryz.zeroValue21
 t31 := Tryz.underlying26
 a31 := Tryz.isAgg26
 z31 := Tryz.sizeOf26
 v31 := Tryz.zeroValue26
 t46 := Tryz.underlying139
 a46 := Tryz.isAgg139
 z46 := Tryz.sizeOf139
 v46 := Tryz.zeroValue139
 t51 := Tryz.underlying185
 a51 := Tryz.isAgg185
 z51 := Tryz.sizeOf185
 v51 := Tryz.zeroValue185
 t105 := Tryz.underlying238
 a105 := Tryz.isAgg238
 z105 := Tryz.sizeOf238
 v105 := Tryz.zeroValue238
 t119 := Tryz.underlying280
 a119 := Tryz.isAgg280
 z119 := Tryz.sizeOf280
 t138 := Tryz.underlying282
 a138 := Tryz.isAgg282
 z138 := Tryz.sizeOf282
 v138 := Tryz.zeroValue282
 t139 := Tryz.underlying283
 a139 := Tryz.isAgg283
 z139 := Tryz.sizeOf283
 v139 := Tryz.zeroValue283
 t146 := Tryz.underlying272
 a146 := Tryz.isAgg272
 z146 := Tryz.sizeOf272
 v146 := Tryz.zeroValue272
 g1 := by kernel_rfl
 g3 := by kernel_rfl
 g4 := by kernel_rfl
 i0 := by kernel_rfl
 i3 := by kernel_rfl
 i4 := by kernel_rfl
 i5 := by kernel_rfl
 i9 := by kernel_rfl
 i21 := by kernel_rfl
 i31 := by kernel_rfl
 i46 := by kernel_rfl
 i51 := by kernel_rfl
 i105 := by kernel_rfl
 i138 := by kernel_rfl
 i139 := by kernel_rfl
 i146 := by kernel_rfl
 m1 := by kernel_rfl
 s1_3 := fun w h => Go.Proofs.cell_of_shapedOpen_int (zero := #[.int .i64 0]) (t := 3) h (of_decide_eq_true (by kernel_rfl)) (by kernel_rfl) rfl (by kernel_rfl) (by kernel_rfl) Tryz.underlying3
 m3 := by kernel_rfl
 m4 := by kernel_rfl }
end Go.Proofs
end
section
namespace Go.Proofs.YtdjpppifnmjhoaaGreatDoor
open Go.ChangeShapes Go.WideShapes Go.ChangeAt Go.RowKit Go.HL
theorem ownOffersClash : ownKnob Tryz.prog.godebug = none := by kernel_rfl
theorem laidOutOffersClash : laidOutB Tryz.prog = true := by kernel_rfl
theorem cellsOffersClash : Tryz.prog.cellsOf 3 = 1 := by kernel_rfl
theorem tabOffersClash {W : World} (h : laidMetH Tryz.prog Rows.offersClashRow.laid W) (hsh : W.ShapedOpen Tryz.prog) : TabI Tryz.prog (allI W) := by
 rw [MakeChecks.laidMetH_plain _ _ _ (by kernel_rfl)] at h
 letI : Tracks := ⟨false⟩
 exact tabI_of_laid (i := 2) (g := 1) (t := 259) h (by kernel_rfl) (by kernel_rfl) (by kernel_rfl) Tryz.underlying259 Tryz.underlying187 (by kernel_rfl) (by kernel_rfl) (fun g hg => by
  obtain rfl : Tryz.laysm146_ren.g 1 = g := Option.some.inj (Tryz.laysm146.m1.symm.trans hg)
  exact Tryz.laysm146.s1_3 W hsh)
theorem callsOffersClash {W : World} (ht : TabI Tryz.prog (allI W)) {a : Option Addr} {len cap : Nat} {H : Type} {enc : TypeId × Value → H} {d0 : DataW H} {p : List MemPlace} (h : DataW.Trod enc Tryz.prog W 0 (fun _ => true) true 22 (.slice a len cap) d0 p) :
 Calls Tryz.prog 4 #[.slice a len cap] W fun e W' => e = .returned (.bool true) ∧ Below W.heap.size W W' := by
 obtain ⟨fuel, hf⟩ := h
 rcases open_ints Tryz.underlying22 Tryz.underlying3 cellsOffersClash hf with ⟨hcs, hx⟩ | ⟨a', len', cap', zs, hcs, _, hl, hm, hz, hx, hcell, hwz⟩
 ·simp [Value.cells] at hcs
  obtain ⟨rfl, rfl, rfl⟩ := hcs
  letI : Tracks := ⟨false⟩
  exact conp_law (l := []) (c_benchlaw1_OffersClash) ht (.slice0 _ _ _)
 ·simp [Value.cells] at hcs
  obtain ⟨rfl, rfl, rfl⟩ := hcs
  simp only [if_true] at hz
  letI : Tracks := ⟨false⟩
  exact conp_law (l := zs.take len) (c_benchlaw1_OffersClash) ht (v_ints hcell (by omega) hl)
set_option maxRecDepth 100000 in
theorem liftedOffersClash (os : Os) (started : os.Started) (H : Type) (enc : TypeId × Value → H) :
 ReturnsInHanded {} Tryz.checked os 4 .any (fun w args => (Rows.offersClashSpec.pre enc Tryz.prog Tryz.f4 Rows.offersClashRow.domain false w args ∧ laidMetH Tryz.prog Rows.offersClashRow.laid w) ∧ sizedMet enc Tryz.prog Tryz.f4 (OpenSpec.ofChange Rows.offersClashSpec) false w args)
  (Rows.offersClashSpec.post enc Tryz.prog Tryz.f4 false true false false) := by
 refine handed_shaped (C := Tryz.checked) (X := fun w _ => laidMetH Tryz.prog Rows.offersClashRow.laid w) (fun _ _ _ hh h => h.of_heap hh) ownOffersClash started (by kernel_rfl) Tryz.func4
  (ChangeSpec.witness_shaped (enc := enc) (C := Tryz.checked) (os := os) (X := fun w _ => laidMetH Tryz.prog Rows.offersClashRow.laid w) false (World.laidAll Tryz.prog os Rows.offersClashRow.laid) #[.slice none 0 0] 8 (World.laidAll_os _ _ _)
    (World.shaped_of_ZipB (by kernel_rfl) (by kernel_rfl)) (by kernel_rfl) (by kernel_rfl) (by kernel_rfl)
    (by rw [MakeChecks.laidMetH_plain _ _ _ (by kernel_rfl)]; exact laidMet_laidAll _ (by kernel_rfl) (by kernel_rfl))) ?_
 intro W base args ds gs before hval0 hW hL hsh
 have hval : ∀ (j : Nat) t v, Tryz.f4.params[j]? = some t → args[j]? = some v → Value.okWide Tryz.prog W .any base t v := hval0
 have hW' := hW
 obtain ⟨p, q, hA0, hV, rfl, _, _⟩ := hW
 have hA : DataW.TrodAll enc Tryz.prog W 0 (fun _ => true) true Tryz.f4.params.toList args.toList ds p := hA0
 rw [Tryz.params4] at hA hval
 obtain ⟨v0, d0, rfl, rfl, h0⟩ := trodAll_one hA
 obtain ⟨rfl, rfl⟩ := trodVars_none hV
 obtain ⟨a0, len, cap, rfl⟩ := okWide_slice Tryz.underlying22 (hval 0 22 v0 rfl rfl)
 simp only [List.append_nil] at hW'
 have hlt : ∀ x ∈ p, x.block < W.heap.size := fun x hx => by simpa using hW'.lt x hx
 refine (callsOffersClash (tabOffersClash hL hsh) h0).mono fun e W' ⟨he, hb⟩ => ?_
 subst he
 have hargs : DataW.Trod enc Tryz.prog W' 0 (fun b => decide (b < W.heap.size)) true 22 (.slice a0 len cap) d0 p :=
  Below.trod laidOutOffersClash (by kernel_rfl) (of_decide_eq_true (by kernel_rfl)) h0 hb hlt
 exact ⟨_, rfl, _, _, _, [], p, [], hW', trodAll_mk1 (shut_bool Tryz.underlying4 _), trodAll_mk1 hargs, rfl, hb.frame _, fun h => by cases h⟩
theorem mapsOffersClash : mapsRowed Tryz.prog = true := by kernel_rfl
theorem inplOffersClash : (Rows.offersClashRow.inPlace == Tryz.prog.inPlace 4) = true := by kernel_rfl
theorem unfoOffersClash : (Rows.offersClashRow.unfollowed == Tryz.prog.unfollowed 4) = true := by kernel_rfl
theorem recuOffersClash : (Rows.offersClashRow.recurses == Tryz.prog.recurses 4) = true := by kernel_rfl
theorem varsOffersClash : (Rows.offersClashRow.named == Tryz.prog.varsNamed 4) = true := by kernel_rfl
theorem joinOffersClash : joinedFacts Tryz.prog 4 Tryz.f4 Rows.offersClashSpec Rows.offersClashRow = true := by
 simp only [joinedFacts, Bool.and_eq_true]
 repeat' apply And.intro
 all_goals first
  | with_reducible exact laidOutOffersClash
  | with_reducible exact mapsOffersClash
  | with_reducible exact inplOffersClash
  | with_reducible exact unfoOffersClash
  | with_reducible exact recuOffersClash
  | with_reducible exact varsOffersClash
  | kernel_rfl
theorem lookOffersClash : true = Tryz.prog.looks [] := by kernel_rfl
theorem goesOffersClash : false = Rows.offersClashRow.goesBy Tryz.prog := by kernel_rfl
theorem wfbtOffersClash : Rows.offersClashRow.wfByText (OpenSpec.ofChange Rows.offersClashSpec) = true := by kernel_rfl
theorem mainOffersClash : Tryz.prog.mainIs = some ("fea490b9caaa294fbd664e55b8210568bd1793e919865ba4d290413b53a80d50" |> fun h => (true, h.toList)) := by kernel_rfl
theorem stanOffersClash : ([22].all fun u => !Tryz.prog.wantsStandIn u) = true := by kernel_rfl
theorem fnamOffersClash : Tryz.prog.funcNamed Rows.offersClashRow.func = some 4 := by kernel_rfl
theorem holdsOffersClash : Rows.OffersClashSaid :=
 OpenClaim.holds_of_wide 4 Tryz.f4 rfl rfl rfl rfl rfl rfl rfl ⟨rfl, rfl, rfl, rfl, rfl⟩ rfl rfl rfl rfl rfl fnamOffersClash Tryz.func4 joinOffersClash
  (of_decide_eq_true (by kernel_rfl)) (by unfold Func.isWrapper; first | (rw [if_pos (by decide +kernel)]; kernel_rfl) | (rw [if_neg (by decide +kernel)]; exact ⟨rfl, rfl⟩))
  (fun os started H enc _ => liftedOffersClash os started H enc)
theorem cardOffersClash : Rows.OffersClashCardSaid :=
 Claim7.holds_tied_plain_at .later [] [.data, .data, .data, .data, .sentinel, .sentinel, .pinned] true (true, "fea490b9caaa294fbd664e55b8210568bd1793e919865ba4d290413b53a80d50") true holdsOffersClash (fun _ h => by cases h) wfbtOffersClash (fun _ h => by cases h) offersClash_row_tie rfl ⟨rfl, rfl⟩ mainOffersClash rfl
  (fun f fn hf hfn => by
    obtain rfl : f = 4 := Option.some.inj (fnamOffersClash.symm.trans hf) |>.symm
    obtain rfl : fn = Tryz.f4 := (Option.some.inj (Tryz.func4.symm.trans hfn)).symm
    exact ⟨lookOffersClash, fun j t ht => by
     rw [Tryz.params4] at ht
     have hm : t ∈ [22] := by simpa using Array.mem_of_getElem? ht
     have hall := stanOffersClash
     exact (show Tryz.prog.wantsStandIn t = false by simpa using List.all_eq_true.1 hall t hm)⟩)
  goesOffersClash
end Go.Proofs.YtdjpppifnmjhoaaGreatDoor
end
