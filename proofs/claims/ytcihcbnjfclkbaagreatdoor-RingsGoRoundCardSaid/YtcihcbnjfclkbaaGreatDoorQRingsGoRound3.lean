/- Part 3 of the proof: a program logic, contracts of functions and plain facts; no conditions. -/
import Derived.Test.YtcihcbnjfclkbaaGreatDoorQRingsGoRound2
import Derived.KernelRfl
import Derived.Shelf.Strconv.Atoi
set_option linter.unusedVariables false
set_option linter.unusedSimpArgs false
namespace Go.HL
section
section
variable {α : Type} [DecidableEq α]
/-- A list without the things that equal the one before (p ahead of the first). -/
def zcG (p : Option α) : List α → List α
 | [] => []
 | x :: r => if p = some x then zcG (some x) r else x :: zcG (some x) r
theorem zls (x : α) : ∀ (A : List α) (p : Option α), zcG p (A ++ [x]) = zcG p A ++ if (A.getLast?.or p) = some x then [] else [x]
 | [], p => by
   by_cases h : p = some x <;> simp [zcG, h]
 | y :: A, p => by
   have ih := zls x A (some y)
   have e : ((y :: A).getLast?.or p) = (A.getLast?.or (some y)) := by
    cases A with
    | nil => simp
    | cons z A => simp [List.getLast?_cons_cons, List.getLast?_cons]
   simp only [List.cons_append, zcG]
   rw [e, ih]
   split <;> simp
theorem zld {l : List α} {k : Nat} {x y : α} (hx : l[k]? = some x) (hy : l[k - 1]? = some y) (h0 : 0 < k) : zcG none (l.take (k + 1)) = zcG none (l.take k) ++ if x = y then [] else [x] := by
 have hk := zC hx
 rw [zaN hx, zls]
 have e : ((l.take k).getLast?.or none) = some y := by
  rw [List.getLast?_eq_getElem?, List.length_take, Nat.min_eq_left (by omega), List.getElem?_take_of_lt (by omega), hy]; rfl
 rw [e]
 by_cases h : x = y
 ·rw [if_pos h, if_pos (by rw [h])]
 ·rw [if_neg h, if_neg (by simpa using fun q : y = x => h q.symm)]
structure CmpA (l : List α) (j : Nat) (D : List α) : Prop where
 len : D.length = l.length
 lo : D.take (zcG none (l.take j)).length = zcG none (l.take j)
 lt : (zcG none (l.take j)).length < j
 hi : ∀ i, j ≤ i + 1 → D[i]? = l[i]?
theorem CmpA.start {l : List α} {k : Nat} {x y : α} (hx : l[k]? = some x) (hy : l[k - 1]? = some y) (h0 : 0 < k) (e : x = y) (h : zcG none (l.take k) = l.take k) : CmpA l (k + 1) l ∧ (zcG none (l.take (k + 1))).length = k := by
 have hk := zC hx
 have h1 : zcG none (l.take (k + 1)) = l.take k := by rw [zld hx hy h0, if_pos e, h]; simp
 have h2 : (l.take k).length = k := by rw [List.length_take]; omega
 exact ⟨⟨rfl, by rw [h1, h2], by rw [h1, h2]; omega, fun _ _ => rfl⟩, by rw [h1, h2]⟩
theorem CmpA.same {l D : List α} {j : Nat} (h : CmpA l j D) {x y : α} (hx : l[j]? = some x) (hy : l[j - 1]? = some y) (e : x = y) : CmpA l (j + 1) D ∧ (zcG none (l.take (j + 1))).length = (zcG none (l.take j)).length := by
 have h0 := h.lt
 have h1 : zcG none (l.take (j + 1)) = zcG none (l.take j) := by rw [zld hx hy (by omega), if_pos e]; simp
 exact ⟨⟨h.len, by rw [h1]; exact h.lo, by rw [h1]; omega, fun i hi => h.hi i (by omega)⟩, by rw [h1]⟩
variable {c : α → α → Int}
end
end
section
theorem znQ {α : Type} {l : List α} (h : l.Nodup) {i j : Nat} {a : α} (hi : l[i]? = some a) (hj : l[j]? = some a) : i = j := by
 have key : ∀ (i j : Nat), i < j → l[i]? = some a → l[j]? = some a → False := fun i j hij h1 h2 => by
  have hi := zC h1
  have hj := zC h2
  rw [List.getElem?_eq_getElem hi] at h1
  rw [List.getElem?_eq_getElem hj] at h2
  exact List.pairwise_iff_getElem.1 h i j hi hj hij (Option.some.inj (h1.trans h2.symm))
 rcases Nat.lt_trichotomy i j with h' | h' | h'
 ·exact (key i j h' hi hj).elim
 ·exact h'
 ·exact (key j i h' hj hi).elim
/-! what a range has come to -/
structure VisOk {β : Type} (L : List β) (vis : List Nat) (E : List β) : Prop where
 nd : vis.Nodup
 lt : ∀ j ∈ vis, j < L.length
 eq : E.map some = vis.map fun j => L[j]?
theorem VisOk.nil {β : Type} (L : List β) : VisOk L [] [] := ⟨List.nodup_nil, (fun j h => by cases h), rfl⟩
theorem VisOk.step {β : Type} {L E : List β} {vis : List Nat} (h : VisOk L vis E) {j : Nat} {q : β} (hj : L[j]? = some q) (hn : j ∉ vis) : VisOk L (vis ++ [j]) (E ++ [q]) where
 nd := List.nodup_append.2 ⟨h.nd, by simp, fun a ha b hb => by simp at hb; subst hb; exact fun e => hn (e ▸ ha)⟩
 lt k hk := by
  rcases List.mem_append.1 hk with hk | hk
  ·exact h.lt k hk
  ·simp at hk; subst hk; exact zC hj
 eq := by simp only [List.map_append, h.eq, List.map_cons, List.map_nil, hj]
theorem VisOk.len {β : Type} {L E : List β} {vis : List Nat} (h : VisOk L vis E) : E.length = vis.length := by
 have := congrArg List.length h.eq; simpa using this
theorem VisOk.le {β : Type} {L E : List β} {vis : List Nat} (h : VisOk L vis E) : vis.length ≤ L.length := by
 have := zeU h.nd (m := List.range L.length) fun j hj => List.mem_range.2 (h.lt j hj)
 simpa using this
theorem VisOk.room {β : Type} {L E : List β} {vis : List Nat} (h : VisOk L vis E) {j : Nat} {q : β} (hj : L[j]? = some q) (hn : j ∉ vis) : vis.length < L.length := by
 have := (h.step hj hn).le
 rw [List.length_append] at this
 simp only [List.length_cons, List.length_nil] at this
 omega
theorem VisOk.done {β : Type} {L E : List β} {vis : List Nat} (h : VisOk L vis E) (hl : vis.length = L.length) : E.Perm L := by
 have hp : vis.Perm (List.range L.length) := by
  refine (List.perm_ext_iff_of_nodup h.nd List.nodup_range).2 fun a => ⟨fun ha => List.mem_range.2 (h.lt a ha), fun ha => ?_⟩
  refine Classical.byContradiction fun hna => ?_
  have h1 : (a :: vis).Nodup := List.nodup_cons.2 ⟨hna, h.nd⟩
  have h2 := zeU h1 (m := List.range L.length) fun j hj => by
   rcases List.mem_cons.1 hj with rfl | hj
   ·exact ha
   ·exact List.mem_range.2 (h.lt j hj)
  simp at h2; omega
 have h1 := hp.map fun j => L[j]?
 rw [← h.eq] at h1
 have h2 : ((List.range L.length).map fun j => L[j]?) = L.map some := by
  refine List.ext_getElem? fun i => ?_
  rw [List.getElem?_map, List.getElem?_map]
  rcases Nat.lt_or_ge i L.length with hi | hi
  ·rw [List.getElem?_range hi, List.getElem?_eq_getElem hi]; simp [hi]
  ·rw [List.getElem?_eq_none (by simpa using hi), List.getElem?_eq_none hi]; rfl
 rw [h2] at h1
 have h3 := h1.filterMap id
 have key : ∀ l : List β, (l.map some).filterMap id = l := fun l => by
  induction l with
  | nil => rfl
  | cons x l ih => simp [ih]
 rwa [key, key] at h3
def NextOk {β : Type} (L : List β) (vis : List Nat) (c : Bool) (vis' : List Nat) : Prop :=
 (c = false ∧ vis' = vis ∧ vis.length = L.length) ∨ (c = true ∧ ∃ j q, L[j]? = some q ∧ j ∉ vis ∧ vis' = vis ++ [j])
theorem NextOk.t {β : Type} {L : List β} {vis vis' : List Nat} {c : Bool} (h : NextOk L vis c vis') (hc : c = true) : ∃ j q, L[j]? = some q ∧ j ∉ vis ∧ vis' = vis ++ [j] := by
 rcases h with ⟨h, _⟩ | ⟨_, h⟩
 ·rw [hc] at h; cases h
 ·exact h
theorem NextOk.f {β : Type} {L : List β} {vis vis' : List Nat} {c : Bool} (h : NextOk L vis c vis') (hc : c = false) : vis' = vis ∧ vis.length = L.length := by
 rcases h with ⟨_, h⟩ | ⟨h, _⟩
 ·exact h
 ·rw [hc] at h; cases h
section
variable {P : Program} {e : Env} {dst : Option Tmp} {ty : TypeId} {pos : String} {af : Array Edge} {g : Option (Nat × Bool)} {M : List MObj} {K : HVal → List MObj → Prop}
theorem zm2 {α : Type} : ∀ {M : List α} {i : Nat} {m : α}, M[i]? = some m → M.set i m = M
 | [], i, m, h => by simp at h
 | x :: M, 0, m, h => by simp at h; simp [h]
 | x :: M, i + 1, m, h => by simp at h; simp [zm2 h]
theorem zmE [Tracks] {β : Type} {L : List β} {enc : β → HVal × HVal} {x : Operand} {i r b : Nat} {l : List (HVal × HVal)} {vis : List Nat} (hx : zu e x = some (.raw (.pointer (some ⟨r, 0, none⟩)))) (hm : M[i]? = some (.iter r b l vis)) (hL : l = L.map enc)
 (hv : vis.Nodup) (hvl : ∀ j ∈ vis, j < L.length) (hk : ∀ c R vis', NextOk L vis c vis' → K (.tup (.bool c :: R)) (M.set i (.iter r b l vis'))) : EOp P e M ⟨dst, .next x false, ty, pos, af, g⟩ K := by
 have hl : l.length = L.length := by rw [hL, List.length_map]
 refine zsM hx hm hv (fun j hj => by rw [hl]; exact hvl j hj) (fun hlen => ?_) (fun j p hj hn => ?_)
 ·have := hk false [] vis (.inl ⟨rfl, rfl, by rw [hlen, hl]⟩)
  rw [zm2 hm] at this
  exact this
 ·rw [hL, List.getElem?_map] at hj
  cases hq : L[j]? with
  | none => rw [hq] at hj; cases hj
  | some q => exact hk true [p.1, p.2] (vis ++ [j]) (.inr ⟨rfl, j, q, hq, hn, rfl⟩)
theorem zlw [Tracks] {β : Type} {L : List β} {enc : β → HVal × HVal} {x : Operand} {i r b j : Nat} {l : List (HVal × HVal)} {vis : List Nat} {q : β} (hx : zu e x = some (.raw (.pointer (some ⟨r, 0, none⟩)))) (hm : M[i]? = some (.iter r b l (vis ++ [j]))) (hL : l = L.map enc) (hq : L[j]? = some q)
 (hk : K (.tup [(enc q).1, (enc q).2]) M) : EOp P e M ⟨dst, .entry x, ty, pos, af, g⟩ K :=
 zrh hx hm (p := enc q) (by rw [hL, List.getElem?_map, hq]; rfl) hk
theorem ztl {α : Type} (f : α → HVal) (L : List (Str × α)) : sk (em f L) = L.map fun p => (.str p.1, f p.2) := by simp [sk]
theorem ztc {κ α : Type} [DecidableEq κ] (ek : κ → HVal) (f : α → HVal) (L : List (κ × α)) : kk ek (em f L) = L.map fun p => (ek p.1, f p.2) := by simp [kk]
end
theorem zuB {α : Type} {a b c d : α} {X : List α} : (a :: b :: c :: d :: X).Perm (a :: d :: c :: b :: X) :=
 List.Perm.cons a (((List.Perm.swap c b (d :: X)).trans ((List.Perm.swap d b X).cons c)).trans (((List.Perm.swap d c (b :: X)))))
/-! maps whose values are owned slices -/
section
variable {β : Type}
abbrev Grp (β : Type) := List (Str × (Value × List β))
abbrev fG {β : Type} (q : Value × List β) : HVal := .raw q.1
abbrev gZ (β : Type) : Value × List β := (.slice none 0 0, [])
def gV (s : Str) (G : Grp β) : Value := ((alk s G).getD (gZ β)).1
def gL (s : Str) (G : Grp β) : List β := ((alk s G).getD (gZ β)).2
def grp (sz : Nat) (e : β → HVal) (G : Grp β) : List MObj := G.map fun p => .arr p.2.1 sz (p.2.2.map e)
theorem zpm {κ α : Type} [DecidableEq κ] {s : κ} {v : α} : ∀ {G : List (κ × α)}, alk s G = some v → ∃ n, G[n]? = some (s, v) ∧ ∀ u, zax s u G = G.set n (s, u)
 | [], h => by simp [alk] at h
 | p :: r, h => by
   simp only [alk] at h
   by_cases hs : s = p.1
   ·rw [if_pos hs] at h
    simp only [Option.some.injEq] at h
    subst h
    exact ⟨0, by simp [hs], fun u => by simp [zax, hs]⟩
   ·rw [if_neg hs] at h
    obtain ⟨n, h1, h2⟩ := zpm h
    exact ⟨n + 1, by simpa using h1, fun u => by simp [zax, hs, h2]⟩
theorem zlh {κ α : Type} [DecidableEq κ] {s : κ} {p : κ → Bool} : ∀ {G : List (κ × α)}, alk s (G.filter fun q => p q.1) = if p s then alk s G else none
 | [] => by simp [alk]
 | q :: r => by
   have ih := zlh (s := s) (p := p) (G := r)
   rw [List.filter_cons]
   by_cases hq : p q.1 = true
   ·rw [if_pos hq]
    simp only [alk]
    by_cases hs : s = q.1
    ·rw [if_pos hs, if_pos hs, hs, if_pos hq]
    ·rw [if_neg hs, if_neg hs, ih]
   ·rw [if_neg hq, ih]
    simp only [alk]
    by_cases hs : s = q.1
    ·rw [hs, if_neg hq, if_neg hq]
    ·rw [if_neg hs]
theorem zhf {κ α : Type} [DecidableEq κ] {s : κ} {G : List (κ × α)} (h : alk s G = none) : (G.filter fun q => decide (q.1 ≠ s)) = G := by
 rw [List.filter_eq_self]
 intro q hq
 rw [zeE] at h
 simp only [decide_eq_true_eq]
 exact fun e => h (e ▸ List.mem_map_of_mem hq)
theorem zhj {κ α : Type} [DecidableEq κ] {s : κ} {v : α} : ∀ {G : List (κ × α)}, ANodup G → alk s G = some v → G.Perm ((s, v) :: G.filter fun q => decide (q.1 ≠ s))
 | [], _, h => by simp [alk] at h
 | p :: r, hn, h => by
   have h1 := List.nodup_cons.1 hn
   simp only [alk] at h
   by_cases hs : s = p.1
   ·rw [if_pos hs] at h
    simp only [Option.some.injEq] at h
    have h2 : alk s r = none := by rw [zeE, hs]; exact h1.1
    rw [List.filter_cons, if_neg (by simp [hs]), zhf h2, hs, ← h]
   ·rw [if_neg hs] at h
    rw [List.filter_cons, if_pos (by simp; exact fun e => hs e.symm)]
    exact (List.Perm.cons p (zhj h1.2 h)).trans (List.Perm.swap _ _ _)
end
section
variable {P : Program} {e : Env} {dst : Option Tmp} {ty : TypeId} {pos : String} {af : Array Edge} {g : Option (Nat × Bool)} {M : List MObj} {K : HVal → List MObj → Prop} {β : Type} {eb : β → HVal}
theorem zph [Tracks] {I : Imm} {M : List MObj} {w : World} (sz : Nat) (hs : Sat P I M w) : Sat P I (.arr (.slice none 0 0) sz [] :: M) w where
 imm := hs.imm
 obj m hm := by
  rcases List.mem_cons.1 hm with rfl | hm
  ·exact .inl ⟨rfl, rfl⟩
  ·exact hs.obj m hm
 nodup := by simp only [blocks, List.flatMap_cons, MObj.blocks, List.nil_append]; exact hs.nodup
 apart b hb := hs.apart b (by simpa only [blocks, List.flatMap_cons, MObj.blocks, List.nil_append] using hb)
 os := hs.os
 output := hs.output
 tape := hs.tape
 tab := hs.tab
 low := hs.low
theorem EOp.pre [Tracks] {M' : List MObj} {o : Oper} (hm : ∀ I F w, Sat P I (M ++ F) w → Sat P I (M' ++ F) w) (h : EOp P e M' o K) : EOp P e M o K := fun I F a w ho hs => h I F a w ho (hm I F w hs)
theorem EOp.post_perm [Tracks] {o : Oper} (h : EOp P e M o fun x N => ∃ N', N.Perm N' ∧ K x N') : EOp P e M o K := fun I F a w ho hs =>
 Oper.wp_noQ (fun _ _ ⟨v, x, M', J, h1, h2, ⟨N', h3, h4⟩, h5, h6⟩ => ⟨v, x, N', J, h1, h2, h4, h5, h6.perm (h3.append_right F)⟩) (h I F a w ho hs)
theorem zmw [Tracks] {x y : Operand} {t el : TypeId} {size bytes sz b2 : Nat} {zero z2 : Value} {d : TD} {A : List MObj} {G : Grp β} {s : Str} {ys : List β}
 (hf : Fits P t (.slice el) size bytes zero) (hel : Fits P el d sz b2 z2) (hz : z2.cells.size = sz) (hby : Nat.ble b2 100000 = true)
 (hx : zu e x = some (.raw (gV s G))) (hy : zu e y = some (.slice sz (ys.map eb))) (hfl : ∀ y ∈ ys.map eb, zaD (zm y) = true) (hlen : (gL s G).length + ys.length ≤ 1000000000)
 (hk : ∀ v', K (.raw v') (A ++ grp sz eb (zax s (v', gL s G ++ ys) G))) : EOp P e (A ++ grp sz eb G) ⟨dst, .call ⟨.builtin .append, #[x, y], #[t, t]⟩, ty, pos, af, g⟩ K := by
 cases hq : alk s G with
 | none =>
   have h1 : gV s G = .slice none 0 0 := by unfold gV; rw [hq]; rfl
   have h2 : gL s G = [] := by unfold gL; rw [hq]; rfl
   rw [h1] at hx
   rw [h2, List.nil_append] at hk
   refine EOp.pre (M' := .arr (.slice none 0 0) sz [] :: (A ++ grp sz eb G)) (fun I F w hs => zph sz hs) (EOp.post_perm ?_)
   refine zam (i := 0) hf hel hz hby hx hy rfl hfl (by rw [h2] at hlen; simpa using hlen) fun v' => ⟨_, ?_, hk v'⟩
   rw [zkB hq]
   simp only [List.set_cons_zero, grp, List.map_append, List.map_cons, List.map_nil, List.nil_append]
   rw [← List.append_assoc]
   exact (List.perm_append_comm (l₁ := [MObj.arr v' sz (ys.map eb)]) (l₂ := A ++ G.map fun p => MObj.arr p.2.1 sz (p.2.2.map eb)))
 | some q =>
   obtain ⟨v, l⟩ := q
   have h1 : gV s G = v := by unfold gV; rw [hq]; rfl
   have h2 : gL s G = l := by unfold gL; rw [hq]; rfl
   obtain ⟨n, h3, h4⟩ := zpm hq
   rw [h1] at hx
   rw [h2] at hk hlen
   have h5 : (A ++ grp sz eb G)[A.length + n]? = some (.arr v sz (l.map eb)) := by
    rw [List.getElem?_append_right (by omega), Nat.add_sub_cancel_left]
    simp [grp, h3]
   refine zam (i := A.length + n) hf hel hz hby hx hy h5 hfl (by simpa using hlen) fun v' => ?_
   have h6 : (A ++ grp sz eb G).set (A.length + n) (.arr v' sz (l.map eb ++ ys.map eb)) = A ++ grp sz eb (zax s (v', l ++ ys) G) := by
    rw [List.set_append_right _ _ (by omega), Nat.add_sub_cancel_left, h4]
    simp [grp, List.map_set]
   rw [h6]
   exact hk v'
theorem Ghost.grp_take [Tracks] {A : List MObj} {G G' : Grp β} {s : Str} {sz : Nat} (hn : ANodup G) (hG : alk s G = alk s G') : Ghost e (A ++ grp sz eb G) e (.arr (gV s G') sz ((gL s G').map eb) :: (A ++ grp sz eb (G.filter fun q => decide (q.1 ≠ s)))) := by
 cases hq : alk s G with
 | none =>
   have h1 : gV s G' = .slice none 0 0 := by unfold gV; rw [← hG, hq]; rfl
   have h2 : gL s G' = [] := by unfold gL; rw [← hG, hq]; rfl
   rw [h1, h2, zhf hq]
   exact Ghost.arr_nil sz
 | some q =>
   obtain ⟨v, l⟩ := q
   have h1 : gV s G' = v := by unfold gV; rw [← hG, hq]; rfl
   have h2 : gL s G' = l := by unfold gL; rw [← hG, hq]; rfl
   rw [h1, h2]
   refine Ghost.perm ?_
   have h3 := ((zhj hn hq).map fun p => MObj.arr p.2.1 sz (p.2.2.map eb)).append_left A
   refine h3.trans ?_
   simp only [List.map_cons, grp]
   exact List.perm_middle
end
end
section
section
variable {κ α γ : Type} [DecidableEq κ]
theorem VisOk.fresh {L E : List (κ × α)} {vis : List Nat} (h : VisOk L vis E) (hn : ANodup L) {j : Nat} {q : κ × α} (hj : L[j]? = some q) (hv : j ∉ vis) : alk q.1 E = none := by
 rw [zeE]
 intro hm
 obtain ⟨q', h1, h2⟩ := List.mem_map.1 hm
 have h3 : some q' ∈ E.map some := List.mem_map_of_mem h1
 rw [h.eq] at h3
 obtain ⟨j', h4, h5⟩ := List.mem_map.1 h3
 have e : j' = j := znQ hn (a := q.1) (by rw [List.getElem?_map, h5]; simp [h2]) (by rw [List.getElem?_map, hj]; rfl)
 exact hv (e ▸ h4)
theorem ANodup.perm {A B : Type} {E L : List (A × B)} (hn : ANodup L) (hp : E.Perm L) : ANodup E := (hp.map (fun p : A × B => p.1)).nodup_iff.2 hn
theorem zsb {E L : List (κ × α)} (hp : E.Perm L) (hn : ANodup L) (m : κ) : alk m E = alk m L := by
 have hne : ANodup E := hn.perm hp
 cases h : alk m L with
 | none =>
   rw [zeE] at h ⊢
   exact fun hm => h ((hp.map (·.1)).mem_iff.1 hm)
 | some v => exact (zg6 hne).1 (hp.mem_iff.2 ((zg6 hn).2 h))
theorem zlX (g : α → γ) (m : κ) : ∀ (E : List (κ × α)), alk m (E.map fun q => (q.1, g q.2)) = (alk m E).map g
 | [] => rfl
 | p :: r => by
   have ih := zlX g m r
   simp only [List.map_cons, alk]
   by_cases h : m = p.1
   ·rw [if_pos h, if_pos h]; rfl
   ·rw [if_neg h, if_neg h, ih]
theorem ANodup.map {A B C : Type} (g : B → C) {E : List (A × B)} (h : ANodup E) : ANodup (E.map fun q => (q.1, g q.2)) := by
 unfold ANodup at *; rw [List.map_map]; exact h
end
theorem zoY (s : Str) : ∀ (l : List Str) (k : Int), zcn s l k = -1 ∨ (k ≤ zcn s l k ∧ zcn s l k < k + l.length)
 | [], k => .inl rfl
 | x :: r, k => by
   simp only [zcn]
   by_cases h : s = x
   ·rw [if_pos h]; right; simp; omega
   ·rw [if_neg h]
    rcases zoY s r (k + 1) with h' | h'
    ·exact .inl h'
    ·right; simp only [List.length_cons]; omega
theorem zl4 {trust : List Str} {n : Int} : ∀ (l : List Play) (B : List (Str × Int)), ANodup B → (∀ q ∈ B, 0 ≤ q.2 ∧ q.2 < trust.length) → ANodup (l.foldl (zc3 trust n) B) ∧ ∀ q ∈ l.foldl (zc3 trust n) B, 0 ≤ q.2 ∧ q.2 < trust.length
 | [], B, h1, h2 => ⟨h1, h2⟩
 | p :: r, B, h1, h2 => by
   refine zl4 r (zc3 trust n B p) ?_ ?_
   ·unfold zc3; split
    ·exact h1
    ·split
     ·exact h1.put
     ·exact h1
   ·unfold zc3; split
    ·exact h2
    ·rename_i hc
     split
     ·intro q hq
      rcases zdr hq with rfl | hq
      ·rcases zoY p.Source trust 0 with h | h
       ·exfalso; exact hc (.inr (by rw [h]; decide))
       ·dsimp only; omega
      ·exact h2 q hq
     ·exact h2
theorem zhv (l : List Play) (trust : List Str) (n : Int) : ANodup (zdJ l trust n) := (zl4 l [] ANodup.nil (fun q h => by cases h)).1
theorem zp9 {l : List Play} {trust : List Str} {n : Int} {q : Str × Int} (h : q ∈ zdJ l trust n) : 0 ≤ q.2 ∧ q.2 < trust.length := (zl4 l [] ANodup.nil (fun q h => by cases h)).2 q h
abbrev zkL (trust : List Str) (E : List (Str × Int)) : List (Str × Str) := E.map fun q => (q.1, trust.getD q.2.toNat [])
theorem zri {trust : List Str} {L E : List (Str × Int)} {vis : List Nat} (h : VisOk L vis E) (hn : ANodup L) {j : Nat} {q : Str × Int} (hj : L[j]? = some q) (hv : j ∉ vis) : zax q.1 (trust.getD q.2.toNat []) (zkL trust E) = zkL trust (E ++ [q]) := by
 rw [zkB]
 ·simp
 ·have := zlX (fun k : Int => trust.getD k.toNat []) q.1 E
  rw [this, h.fresh hn hj hv]; rfl
theorem zsr {l : List Play} {trust : List Str} {n : Int} {E : List (Str × Int)} (hp : E.Perm (zdJ l trust n)) (m : Str) : alk m (zkL trust E) = zju l trust n m := by
 have := zlX (fun k : Int => trust.getD k.toNat []) m E
 rw [this, zsb hp (zhv _ _ _)]; rfl
theorem zqr {l : List Play} {trust : List Str} {n : Int} {E : List (Str × Int)} (hp : E.Perm (zdJ l trust n)) : ANodup (zkL trust E) :=
 ANodup.map (fun k : Int => trust.getD k.toNat []) ((zhv _ _ _).perm hp)
/-! groups of statistics -/
structure GOk (E : List (Of2 × Int)) (G : Grp StatS) : Prop where
 nd : ANodup G
 raw : ∀ s, gL s G = zbu E s
theorem GOk.nil : GOk [] [] := ⟨ANodup.nil, fun s => rfl⟩
theorem zh4 (E : List (Of2 × Int)) (q : Of2 × Int) (s : Str) : zbu (E ++ [q]) s = zbu E s ++ if q.1.1 = s ∧ q.2 ≠ 0 then [⟨q.1.2, q.2⟩] else [] := by
 unfold zbu
 rw [List.filter_append, List.map_append, List.filter_cons]
 by_cases h : q.1.1 = s ∧ q.2 ≠ 0
 ·rw [if_pos h, if_pos (by simpa using h)]; rfl
 ·rw [if_neg h, if_neg (by simpa using h)]; rfl
theorem GOk.skip {E : List (Of2 × Int)} {G : Grp StatS} (h : GOk E G) {q : Of2 × Int} (hq : q.2 = 0) : GOk (E ++ [q]) G :=
 ⟨h.nd, fun s => by rw [zh4, if_neg (by simp [hq]), List.append_nil, h.raw]⟩
theorem zug (s t : Str) (v : Value) (l : List StatS) (G : Grp StatS) : gL t (zax s (v, l) G) = if t = s then l else gL t G := by
 unfold gL; rw [zl3]; split <;> rfl
theorem GOk.put {E : List (Of2 × Int)} {G : Grp StatS} (h : GOk E G) {q : Of2 × Int} (hq : ¬ q.2 = 0) (v : Value) : GOk (E ++ [q]) (zax q.1.1 (v, gL q.1.1 G ++ [⟨q.1.2, q.2⟩]) G) := by
 refine ⟨h.nd.put, fun s => ?_⟩
 rw [zug, zh4]
 by_cases hs : s = q.1.1
 ·rw [if_pos hs, if_pos ⟨hs.symm, hq⟩, hs, h.raw]
 ·rw [if_neg hs, if_neg (fun e => hs e.1.symm), List.append_nil, h.raw]
theorem zjR (E : List (Of2 × Int)) (s : Str) : (zbu E s).length ≤ E.length := by
 unfold zbu; rw [List.length_map]; exact List.length_filter_le _ _
theorem zh2 {E c : List (Of2 × Int)} (h : E.Perm c) (s : Str) : (zbu E s).Perm (zbu c s) := (h.filter _).map _
theorem zq0 {c : List (Of2 × Int)} (h : ANodup c) (s : Str) {x y : StatS} (hx : x ∈ zbu c s) (hy : y ∈ zbu c s) (e : x.Name = y.Name) : x = y := by
 unfold zbu at hx hy
 obtain ⟨p, hp, rfl⟩ := List.mem_map.1 hx
 obtain ⟨p', hp', rfl⟩ := List.mem_map.1 hy
 have h1 := List.mem_filter.1 hp
 have h2 := List.mem_filter.1 hp'
 have k1 : p.1.1 = s := by have := h1.2; simp only [Bool.and_eq_true, beq_iff_eq] at this; exact this.1
 have k2 : p'.1.1 = s := by have := h2.2; simp only [Bool.and_eq_true, beq_iff_eq] at this; exact this.1
 have k3 : p.1 = p'.1 := Prod.ext (k1.trans k2.symm) e
 have a1 := (zg6 h (x := p.1) (v := p.2)).1 h1.1
 have a2 := (zg6 h (x := p'.1) (v := p'.2)).1 h2.1
 rw [← k3, a1] at a2
 have k4 : p.2 = p'.2 := Option.some.inj a2
 have k5 : p.1.2 = p'.1.2 := e
 rw [k4, k5]
theorem zov {E c : List (Of2 × Int)} (hE : E.Perm c) (hn : ANodup c) {G : Grp StatS} (hG : GOk E G) {s : Str} {l' : List StatS} (hp : l'.Perm (gL s G)) (hw : l'.Pairwise fun a b => ¬ zlS b a < 0) : l' = zfe c s := by
 unfold zfe
 rw [hG.raw] at hp
 exact zk0 zoL (fun x y hx hy e => zq0 hn s hx hy (zdZ.1 e)) (hp.trans (zh2 hE s)) hw
theorem zoT {E c : List (Of2 × Int)} (hE : E.Perm c) {G : Grp StatS} (hG : GOk E G) (s : Str) : (gL s G).length = (zbu c s).length := by
 rw [hG.raw]; exact (zh2 hE s).length_eq
abbrev zeW (G : Grp StatS) (N : List Str) : Grp StatS := G.filter fun q => !(N.contains q.1)
theorem zsj (G : Grp StatS) : zeW G [] = G := by unfold zeW; rw [List.filter_eq_self]; simp
theorem zsE {G : Grp StatS} {N : List Str} {s : Str} (h : s ∉ N) : alk s (zeW G N) = alk s G := by
 have := zlh (s := s) (p := fun k => !(N.contains k)) (G := G)
 unfold zeW
 rw [this, if_pos (by simpa using h)]
theorem zq7 (G : Grp StatS) (N : List Str) (s : Str) : (zeW G N).filter (fun q => decide (q.1 ≠ s)) = zeW G (N ++ [s]) := by
 unfold zeW
 rw [List.filter_filter]
 refine List.filter_congr fun q _ => ?_
 by_cases h1 : q.1 ∈ N <;> by_cases h2 : q.1 = s <;> simp [h1, h2]
theorem zqE {G : Grp StatS} {N : List Str} (h : ANodup G) : ANodup (zeW G N) := by
 unfold ANodup at *
 exact h.sublist ((List.filter_sublist).map _)
theorem zqM {l : List Str} (hn : l.Nodup) {k : Nat} {s : Str} (h : l[k]? = some s) : s ∉ l.take k := by
 intro hm
 obtain ⟨j, hj⟩ := List.getElem?_of_mem hm
 have hjk : j < k := by have := zC hj; simp at this; omega
 rw [List.getElem?_take_of_lt hjk] at hj
 have := znQ hn hj h
 omega
theorem zhG (l : List Str) : (zaJ l).Perm l := List.mergeSort_perm _ _
theorem zp4 {c : List (Of2 × Int)} {S : List Str} {q : Of2 × Int} (hq : q ∈ c) (ho : out q.2 (-100000) 100000 = true) : zfN c S = true := by
 unfold zfN; rw [Bool.or_eq_true]; left; rw [List.any_eq_true]; exact ⟨q, hq, ho⟩
theorem zqG {c : List (Of2 × Int)} {S : List Str} {s : Str} (hs : s ∈ S) (ho : 40 < (zbu c s).length) : zfN c S = true := by
 unfold zfN; rw [Bool.or_eq_true]; right; rw [List.any_eq_true]; exact ⟨s, hs, by simpa using ho⟩
theorem zqS {c : List (Of2 × Int)} {S : List Str} (h1 : ∀ q ∈ c, out q.2 (-100000) 100000 = false) (h2 : ∀ s ∈ S, ¬ 40 < (zbu c s).length) : zfN c S = false := by
 unfold zfN; rw [Bool.or_eq_false_iff]
 constructor
 ·rw [List.any_eq_false]; intro q hq; rw [h1 q hq]; simp
 ·rw [List.any_eq_false]; intro s hs; simpa using h2 s hs
/-! lines -/
theorem zkm {s t : Str} {S : List Str} : t ∈ zcj s S ↔ t = s ∨ t ∈ S := by
 unfold zcj
 by_cases h : S.contains s = true
 ·rw [if_pos h]
  have : s ∈ S := by simpa using h
  constructor
  ·exact .inr
  ·rintro (rfl | h)
   ·exact this
   ·exact h
 ·rw [if_neg h]; simp; exact Or.comm
theorem zhQ {s : Str} {S : List Str} (h : S.Nodup) : (zcj s S).Nodup := by
 unfold zcj
 by_cases hc : S.contains s = true
 ·rw [if_pos hc]; exact h
 ·rw [if_neg hc]
  exact List.nodup_append.2 ⟨h, by simp, fun a ha b hb => by simp at hb; subst hb; intro e; subst e; simp at hc; exact hc ha⟩
theorem zt4 (s : Str) (S : List Str) : (zcj s S).length ≤ S.length + 1 := by
 unfold zcj; split
 ·omega
 ·simp
structure LnOk (q : LnS) (n : Nat) : Prop where
 c : ANodup q.c
 S : q.S.Nodup
 k : ∀ s ∈ q.S, s.length ≤ 40
 cl : q.c.length ≤ n
 Sl : q.S.length ≤ n
 bd : ∀ e ∈ q.c, -(100000 * (n : Int)) ≤ e.2 ∧ e.2 ≤ 100000 * (n : Int)
theorem LnOk.val {q : LnS} {n : Nat} (h : LnOk q n) (s : Of2) : -(100000 * (n : Int)) ≤ (alk s q.c).getD 0 ∧ (alk s q.c).getD 0 ≤ 100000 * (n : Int) := by
 cases hq : alk s q.c with
 | none => simp; omega
 | some v => exact h.bd _ (zcV hq)
theorem LnOk.put {q : LnS} {n : Nat} (h : LnOk q n) {p : Play} (hp : playFault p = 0) : LnOk (zs4 q p) (n + 1) := by
 obtain ⟨_, _, _, _, ⟨_, k2, _⟩, hb, _⟩ := ziR hp
 have hv := h.val (p.Player, p.Stat)
 refine ⟨h.c.put, zhQ h.S, fun s hs => ?_, Nat.le_trans (ztY _ _ _) (by have := h.cl; omega), Nat.le_trans (zt4 _ _) (by have := h.Sl; omega), fun e he => ?_⟩
 ·rcases zkm.1 hs with rfl | hs
  ·exact ztO k2
  ·exact h.k s hs
 ·rcases zdr he with rfl | he
  ·dsimp only; omega
  ·have := h.bd e he; omega
theorem LnOk.up {q : LnS} {n : Nat} (h : LnOk q n) : LnOk q (n + 1) :=
 ⟨h.c, h.S, h.k, by have := h.cl; omega, by have := h.Sl; omega, fun e he => by have := h.bd e he; omega⟩
theorem zpv {l : List Play} {trust : List Str} {week n : Int} : ∀ (m : List Play) (q : LnS) (i : Nat), LnOk q i → (∀ x ∈ m, playFault x = 0) → LnOk (m.foldl (zgt l trust week n) q) (i + m.length)
 | [], q, i, h, _ => h
 | x :: m, q, i, h, hm => by
   have h1 : LnOk (zgt l trust week n q x) (i + 1) := by
    unfold zgt; split
    ·exact h.put (hm x List.mem_cons_self)
    ·exact h.up
   have := zpv (l := l) (trust := trust) (week := week) (n := n) m _ (i + 1) h1 fun y hy => hm y (List.mem_cons_of_mem _ hy)
   rw [List.foldl_cons, List.length_cons, show i + (m.length + 1) = i + 1 + m.length by omega]
   exact this
theorem ztr {l m : List Play} {trust : List Str} {week n : Int} (hm : ∀ x ∈ m, playFault x = 0) : LnOk (zdX l trust week n m) m.length := by
 have := zpv (l := l) (trust := trust) (week := week) (n := n) m ⟨[], []⟩ 0 ⟨ANodup.nil, List.nodup_nil, (fun s h => by cases h), Nat.le_refl _, Nat.le_refl _, fun e h => by cases h⟩ hm
 rw [Nat.zero_add] at this; exact this
theorem zsP {l : List Play} {O : List (Str × Str)} {trust : List Str} {week n : Int} {x : Play} (hO : ∀ m, alk m O = zju l trust n m)
 (h : (((n < x.At ∨ ¬ x.Week = week) ∨ 0 < x.Undo) ∨ (alk (x.Source, x.No) (zhT l n)).getD false = true) ∨ ¬ (alk x.Match O).getD [] = x.Source) : ziW l trust week n x = false := by
 rw [hO] at h
 simp only [ziW, zob, Bool.not_eq_false', Bool.or_eq_true, decide_eq_true_eq, bne_iff_ne, ne_eq]
 exact h
theorem zsF {l : List Play} {O : List (Str × Str)} {trust : List Str} {week n : Int} {x : Play} (hO : ∀ m, alk m O = zju l trust n m)
 (h : (((x.At ≤ n ∧ x.Week = week) ∧ x.Undo ≤ 0) ∧ (alk (x.Source, x.No) (zhT l n)).getD false = false) ∧ (alk x.Match O).getD [] = x.Source) : ziW l trust week n x = true := by
 rw [hO] at h
 obtain ⟨⟨⟨⟨h1, h2⟩, h3⟩, h4⟩, h5⟩ := h
 simp only [ziW, zob, h4, h5, h2, Bool.not_eq_true', Bool.or_eq_false_iff, decide_eq_false_iff_not, bne_self_eq_false, and_true]
 omega
def zg9 (l : List Play) (t : List Str) (week n : Int) : Int := if orI [zcA l, zem t] != 0 then orI [zcA l, zem t] else if !(zgJ week) || !(zcX n) then 1 else zoN l t week n
def zhl (l : List Play) (t : List Str) (week n : Int) : List LineS := if orI [zcA l, zem t] != 0 then [] else if !(zgJ week) || !(zcX n) then [] else znW l t week n
theorem okPT {l : List Play} {t : List Str} (h : orI [zcA l, zem t] = 0) : zcA l = 0 ∧ zem t = 0 := by
 rw [orI2] at h; split at h
 ·contradiction
 ·rename_i h1; exact ⟨by simpa using h1, h⟩
end
section
structure MendS where
 Player : Str
 Week : Int
 Stat : Str
 Count : Int
 At : Int
 Version : Int
 By : Str
abbrev Plc := Str × Int
section
variable {α : Type}
def zca (f : α → Int) (c : α → α → Int) (d : α) (l : List α) : Nat → List α → Int
 | _, [] => 0
 | k, x :: r => if f x ≠ 0 then f x else if 0 < k ∧ c x (l.getD (k - 1) d) ≤ 0 then 7 else zca f c d l (k + 1) r
theorem zsy {f : α → Int} {c : α → α → Int} {d : α} {l : List α} {k : Nat} {x : α} {r : List α} (h1 : f x = 0) (h2 : 0 < k → ¬ c x (l.getD (k - 1) d) ≤ 0) : zca f c d l k (x :: r) = zca f c d l (k + 1) r := by
 rw [zca, if_neg (by simp [h1]), if_neg (fun h => h2 h.1 h.2)]
theorem zrd {f : α → Int} {c : α → α → Int} {d : α} {l : List α} {k : Nat} {x : α} {r : List α} (h1 : f x ≠ 0) : zca f c d l k (x :: r) = f x := by
 rw [zca, if_pos h1]
theorem zrL {f : α → Int} {c : α → α → Int} {d : α} {l : List α} {k : Nat} {x : α} {r : List α} (h1 : f x = 0) (h0 : 0 < k) (h2 : c x (l.getD (k - 1) d) ≤ 0) : zca f c d l k (x :: r) = 7 := by
 rw [zca, if_neg (by simp [h1]), if_pos ⟨h0, h2⟩]
theorem ztJ (f : α → Str) : Cmp (fun a b => za4 (f a) (f b)) fun _ => True where
 flip x y _ _ := by rw [zdO (f x) (f y)]; omega
 trans x y z _ _ _ h1 h2 := zfQ h1 h2
end
theorem zoH (a b : Str) : (Op.bytesLess a b || a == b) = decide (za4 a b ≤ 0) := by
 rw [Bool.eq_iff_iff, decide_eq_true_iff, zjh]
 rcases zb9 a b with h | h | h
 ·simp [h, zbd h]
 ·subst h; simp [zas]
 ·have hne : a ≠ b := fun e => by subst e; rw [zas] at h; cases h
  simp [h, zbd h, hne]
/-! what is wrong -/
def ziT (x : MendS) : Int :=
 if !(key x.Player) || !(key x.Stat) || !(key x.By) then 5
 else if !(zgJ x.Week) || out x.Count (-100000) 100000 || !(zcX x.At) || out x.Version 1 1000 then 1 else 0
theorem zoc {x : MendS} (h : ziT x = 0) : key x.Player = true ∧ key x.Stat = true ∧ zgJ x.Week = true ∧ (-100000 ≤ x.Count ∧ x.Count ≤ 100000) ∧ zcX x.At = true := by
 unfold ziT at h
 split at h
 ·omega
 split at h
 ·omega
 rename_i h1 h2
 simp only [Bool.or_eq_true, Bool.not_eq_true', not_or, Bool.not_eq_false, Bool.not_eq_true] at h1 h2
 exact ⟨h1.1.1, h1.1.2, h2.1.1.1, zeu h2.1.1.2, h2.1.2⟩
end
end Go.HL
section
namespace Go.HL
theorem zoI (a b : List Asset) : zc9 (a ++ b) = zc9 a + zc9 b := by simp [zc9]
theorem zml : ∀ {L : List Asset}, (∀ x ∈ L, -1000000 ≤ x.Value ∧ x.Value ≤ 1000000) → -1000000 * (L.length : Int) ≤ zc9 L ∧ zc9 L ≤ 1000000 * (L.length : Int)
 | [], _ => by simp [zc9]
 | x :: L, h => by
   have ih := zml (L := L) fun y hy => h y (List.mem_cons_of_mem _ hy)
   have hx := h x (by simp)
   have e : zc9 (x :: L) = x.Value + zc9 L := by simp [zc9]
   rw [e, List.length_cons]; omega
theorem zlC {l : List Asset} {pos : Str} {m : Int} {y : Asset} (h : y ∈ zdQ (ofP l pos) m) : y ∈ l := by
 unfold zdQ at h
 have h1 := List.mem_of_mem_take (List.mem_filter.1 h).1
 unfold ofP ze5 at h1
 exact (List.mem_filter.1 ((ziM byValue).1 h1)).1
theorem zqa (o : List Asset) (m : Int) : (zdQ o m).length ≤ o.length := by
 unfold zdQ
 refine Nat.le_trans (List.length_filter_le _ _) ?_
 simp; omega
theorem zhV (f : Str → List Asset) {p : List Place} {i : Nat} {x : Place} (h : p[i]? = some x) : zaB f (p.take (i + 1)) = zaB f (p.take i) ++ zdQ (f x.Position) x.Many := by
 rw [zaN h]; simp [zaB]
theorem zix {f : Str → List Asset} {n : Nat} (hf : ∀ s, (f s).length ≤ n) : ∀ p : List Place, (zaB f p).length ≤ n * p.length
 | [] => by simp [zaB]
 | x :: p => by
   have ih := zix hf p
   have h1 := zqa (f x.Position) x.Many
   have h2 := hf x.Position
   have e : zaB f (x :: p) = zdQ (f x.Position) x.Many ++ zaB f p := by simp [zaB]
   rw [e, List.length_append, List.length_cons, Nat.mul_succ]; omega
theorem zok {f : Str → List Asset} {l : List Asset} (hf : ∀ s m y, y ∈ zdQ (f s) m → y ∈ l) {p : List Place} {y : Asset} (h : y ∈ zaB f p) : y ∈ l := by
 unfold zaB at h
 obtain ⟨x, _, hx⟩ := List.mem_flatMap.1 h
 exact hf _ _ y hx
/-- What a prefix of the places brings stays small. -/
theorem zoW {f : Str → List Asset} {l : List Asset} {p : List Place} {i : Nat} (hf : ∀ s m y, y ∈ zdQ (f s) m → y ∈ l) (hn : ∀ s, (f s).length ≤ 12) (hp : p.length ≤ 10) (hv : ∀ x ∈ l, -1000000 ≤ x.Value ∧ x.Value ≤ 1000000) :
 (zaB f (p.take i)).length ≤ 120 ∧ -120000000 ≤ zc9 (zaB f (p.take i)) ∧ zc9 (zaB f (p.take i)) ≤ 120000000 := by
 have h1 := zix hn (p.take i)
 have h2 : (p.take i).length ≤ 10 := by simp; omega
 have h3 := zml (L := zaB f (p.take i)) fun y hy => hv y (zok hf hy)
 have h4 : (zaB f (p.take i)).length ≤ 120 := by omega
 omega
theorem zub {C l : List Asset} {k : Nat} (hC : ∀ y ∈ C, y ∈ l) (hn : C.length ≤ 12) (hv : ∀ x ∈ l, -1000000 ≤ x.Value ∧ x.Value ≤ 1000000) :
 ((C.take k).filter (fun y => decide (0 < y.Value))).length ≤ 12 ∧ -12000000 ≤ zc9 ((C.take k).filter (fun y => decide (0 < y.Value))) ∧ zc9 ((C.take k).filter (fun y => decide (0 < y.Value))) ≤ 12000000 := by
 have h1 := List.length_filter_le (fun y : Asset => decide (0 < y.Value)) (C.take k)
 have h2 : (C.take k).length ≤ 12 := by simp; omega
 have h3 := zml (L := (C.take k).filter (fun y => decide (0 < y.Value))) fun y hy => hv y (hC y (List.mem_of_mem_take (List.mem_filter.1 hy).1))
 omega
theorem zhy {C : List Asset} {k : Nat} {y : Asset} (h : C[k]? = some y) : (C.take (k + 1)).filter (fun y => decide (0 < y.Value)) = (C.take k).filter (fun y => decide (0 < y.Value)) ++ if 0 < y.Value then [y] else [] := by
 rw [zaN h, List.filter_append]
 by_cases hy : 0 < y.Value <;> simp [hy]
theorem zmC {o : List Asset} {m : Int} {N : Nat} (hN : (if (o.length : Int) < m then (o.length : Int) else m) = (N : Int)) : zdQ o m = ((o.take N).drop 0).filter (fun y => decide (0 < y.Value)) := by
 unfold zdQ
 have : (min m (o.length : Int)).toNat = N := by split at hN <;> omega
 rw [this, List.drop_zero]
def zg0 (l : List Asset) (p : List Place) : Int := orI [zcp l, zco p]
theorem ztT {l : List Asset} {p : List Place} (h : zg0 l p = 0) : zcp l = 0 ∧ zco p = 0 := znR h
def zpZ (l : List Asset) (p : List Place) : Int := zc9 (zaB (ofP l) p)
end Go.HL
namespace Go.HL
end Go.HL
namespace Go.HL
end Go.HL
end
namespace Go.HL
section
/-- The state of a loop that draws: the list that grows, how many were drawn. -/
structure GL (α : Type) where
 u : Value
 out : List α
 a : Nat
structure GLok {α : Type} (P : α → Prop) (n m : Nat) (q : GL α) : Prop where
 len : q.out.length ≤ n
 all : ∀ x ∈ q.out, P x
 a : q.a ≤ m
section
variable {α : Type} {P : α → Prop}
theorem GLok.add {n m m' : Nat} {u u' : Value} {out : List α} {a1 a2 : Nat} {x : α} (h : GLok P n m ⟨u, out, a1⟩) (hx : P x) (ha : a2 ≤ m') : GLok P (n + 1) m' ⟨u', out ++ [x], a2⟩ :=
 ⟨by have := h.len; simp at *; omega, fun y hy => by
  rcases List.mem_append.1 hy with hy | hy
  ·exact h.all y hy
  ·simp at hy; subst hy; exact hx, ha⟩
theorem GLok.same {n m m' : Nat} {u : Value} {out : List α} {a1 a2 : Nat} (h : GLok P n m ⟨u, out, a1⟩) (ha : a2 ≤ m') : GLok P (n + 1) m' ⟨u, out, a2⟩ :=
 ⟨by have := h.len; dsimp only at *; omega, h.all, ha⟩
theorem zg4 {l : List α} {j : Nat} {y : α} (h : ∀ x ∈ l, P x) (hy : P y) : ∀ x ∈ l.set j y, P x := fun x hx => by
 rcases zqC hx with rfl | hx
 ·exact hy
 ·exact h x hx
end
theorem zut : Sh [] := by simp [Sh]
def zfx : Asset := ⟨[97], [103, 107], 5⟩
def zg3 : Place := ⟨[103, 107], 1⟩
theorem zux : zg0 [zfx] [zg3] = 0 := by kernel_rfl
theorem znO : zaB (ofP [zfx]) [zg3] = [zfx] := by kernel_rfl
theorem ztF : zpZ [zfx] [zg3] = 5 := by unfold zpZ; rw [znO]; rfl
theorem zrD : zlJ (zaB (ofP [zfx]) [zg3]) = [[97]] := by rw [znO]; simp [zlJ, zaJ, zfx]
end
section
structure PairS where
 Name : Str
 Val : Str
end
section

end
section
open Op (bytesLess)
end
section

end
section

end
section

end
section

end
section

end
section
def zhS {α : Type} (e : α → HVal) (a b : α) : Bool := zgs (zm (e a)) (zm (e b))
end
section
section
variable {α : Type} [DecidableEq α]
end
end
section
def znx : Room := ⟨[[97], [98]], 2, 2, [[112], [113], [114], [115]], 1000, 0⟩
theorem zsR : zbq znx [] = 0 := by kernel_rfl
theorem zo6 : zgM znx [] = [[97], [98], [98], [97]] := by kernel_rfl
end
section
def zjs : Str := [103, 111, 97, 108]
def zjp : Play := ⟨[115], 1, 0, 1, [109], [112], zjs, 2, 0⟩
def zqB : LineS := ⟨[112], 1, [⟨zjs, 2⟩]⟩
theorem zn1 : zdX [zjp] [[115]] 1 5 [zjp] = ⟨[[112]], [(([112], zjs), 2)]⟩ := by kernel_rfl
theorem zn3 : orI [zcA [zjp], zem [[115]]] = 0 := by kernel_rfl
theorem zkT : zfN [(([112], zjs), 2)] [[112]] = false := by kernel_rfl
theorem zo2 : zfe [(([112], zjs), 2)] [112] = [⟨zjs, 2⟩] := by kernel_rfl
theorem zt6 : zg9 [zjp] [[115]] 1 5 = 0 := by
 rw [zg9, zn3, if_neg (by decide), if_neg (by decide), zoN, zn1, zf1, zkT]; rfl
theorem ztQ : zhl [zjp] [[115]] 1 5 = [zqB] := by
 rw [zhl, zn3, if_neg (by decide), if_neg (by decide), znW, zn1, zf0, zkT, if_neg (by decide)]
 simp [zaJ, zo2, zqB]
end
section

end
section
theorem Cmp.lt_trans {α : Type} {c : α → α → Int} {s : α → Prop} (h : Cmp c s) {x y z : α} (hx : s x) (hy : s y) (hz : s z) (h1 : c x y < 0) (h2 : c y z < 0) : c x z < 0 := by
 rcases Int.lt_or_le (c x z) 0 with q | q
 ·exact q
 ·exfalso
  have a1 := h.flip y z hy hz
  have a2 := h.flip z x hz hx
  have hzx : c z x ≤ 0 := by
   rcases Int.lt_or_le 0 (c z x) with r | r
   ·have := h.flip x z hx hz; omega
   ·exact r
  have := h.trans z x y hz hx hy hzx (by omega)
  omega
theorem zno {a b c : Str} (h1 : za4 a b ≤ 0) (h2 : za4 b c ≤ 0) (h : za4 a c = 0) : za4 a b = 0 ∧ za4 b c = 0 := by
 have e := zdZ.1 h
 subst e
 rw [zdO b a] at *
 omega
end
section
/-- The sums of one player. -/
def zcF {κ : Type} (c : List ((Str × κ) × Int)) (s : Str) : List (κ × Int) := (c.filter fun e => e.1.1 == s).map fun e => (e.1.2, e.2)
theorem zmL {κ : Type} [DecidableEq κ] (s : Str) (st : κ) (v : Int) (s' : Str) : ∀ c : List ((Str × κ) × Int), zcF (zax (s, st) v c) s' = if s' = s then zax st v (zcF c s) else zcF c s'
 | [] => by
   by_cases e : s' = s
   ·subst e; simp [zcF, zax]
   ·have : ¬ s = s' := fun q => e q.symm
    simp [zcF, zax, e, this]
 | p :: r => by
   have ih := zmL s st v s' r
   obtain ⟨⟨a, b⟩, w⟩ := p
   simp only [zax, Prod.mk.injEq]
   by_cases h1 : s = a
   ·subst h1
    by_cases h2 : st = b
    ·subst h2
     rw [if_pos ⟨rfl, rfl⟩]
     by_cases e : s' = s
     ·subst e; simp [zcF, zax]
     ·have : ¬ s = s' := fun q => e q.symm
      simp [zcF, e, this]
    ·rw [if_neg (fun q => h2 q.2)]
     by_cases e : s' = s
     ·subst e
      rw [if_pos rfl] at ih ⊢
      simp only [zcF, List.filter_cons, beq_self_eq_true, if_true, List.map_cons, zax, if_neg h2] at ih ⊢
      rw [ih]
     ·have : ¬ s = s' := fun q => e q.symm
      rw [if_neg e] at ih ⊢
      simp only [zcF, List.filter_cons, beq_iff_eq, if_neg this] at ih ⊢
      exact ih
   ·rw [if_neg (fun q => h1 q.1)]
    by_cases e : s' = s
    ·subst e
     have : ¬ a = s' := fun q => h1 q.symm
     rw [if_pos rfl] at ih ⊢
     simp only [zcF, List.filter_cons, beq_iff_eq, if_neg this] at ih ⊢
     exact ih
    ·rw [if_neg e] at ih ⊢
     by_cases h3 : a = s'
     ·simp only [zcF, List.filter_cons, beq_iff_eq, if_pos h3, List.map_cons] at ih ⊢
      rw [ih]
     ·simp only [zcF, List.filter_cons, beq_iff_eq, if_neg h3] at ih ⊢
      exact ih
end
section
structure MarketS where
 Teams : List Str
 Vetoes : Int
 Wait : Int
 Deadline : Int
 Least : Int
 Most : Int
structure OwnerS where
 Player : Str
 Team : Str
structure GiveS where
 Player : Str
 From : Str
 To : Str
structure DealS where
 Id : Str
 By : Str
 From : Int
 To : Int
 Gives : List GiveS
abbrev zbr (m : MarketS) : HVal := .agg [eSs m.Teams, .int .i64 m.Vetoes, .int .i64 m.Wait, .int .i64 m.Deadline, .int .i64 m.Least, .int .i64 m.Most]
abbrev zaF (x : OwnerS) : HVal := .agg [.str x.Player, .str x.Team]
abbrev zb4 (l : List OwnerS) : HVal := .slice 2 (l.map zaF)
abbrev zbR (x : GiveS) : HVal := .agg [.str x.Player, .str x.From, .str x.To]
abbrev zuq (l : List GiveS) : HVal := .slice 3 (l.map zbR)
def zdf : OwnerS := ⟨[], []⟩
def zlt : GiveS := ⟨[], [], []⟩
def zkF : DealS := ⟨[], [], 0, 0, []⟩
def zat (m : MarketS) : Int :=
 if m.Teams.length = 0 then 8 else if (20 : Int) < m.Teams.length then 2
 else if zeb m.Teams ≠ 0 then zeb m.Teams
 else if out m.Vetoes 1 20 || out m.Wait 0 864000000 || out m.Deadline 0 345686400000 || out m.Least 0 m.Most || decide (60 < m.Most) then 1 else 0
structure MarketOk (m : MarketS) : Prop where
 pos : 0 < m.Teams.length
 len : m.Teams.length ≤ 20
 sorted : SortedS m.Teams
 least : 0 ≤ m.Least ∧ m.Least ≤ m.Most
 most : m.Most ≤ 60
theorem zqc {m : MarketS} (h : zat m = 0) : MarketOk m := by
 unfold zat at h
 split at h
 ·omega
 split at h
 ·omega
 split at h
 ·rename_i h1 h2 h3; exact absurd h h3
 split at h
 ·omega
 rename_i h1 h2 h3 h4
 simp only [Bool.or_eq_true, not_or, Bool.not_eq_true, decide_eq_true_eq] at h4
 have h5 := zeu h4.1.2
 exact ⟨by omega, by omega, zfm (by simpa using h3), ⟨h5.1, h5.2⟩, by omega⟩
def zhJ (a b : OwnerS) : Int := za4 a.Player b.Player
def zgK (a b : GiveS) : Int := za4 a.Player b.Player
theorem zrC : Cmp zgK fun _ => True := ztJ GiveS.Player
def zdc : List OwnerS → Str → Int
 | [], _ => 0
 | x :: r, t => (if x.Team = t then 1 else 0) + zdc r t
theorem zrq (l : List OwnerS) (x : OwnerS) (t : Str) : zdc (l ++ [x]) t = zdc l t + (if x.Team = t then 1 else 0) := by
 induction l with
 | nil => simp [zdc]
 | cons y r ih => simp only [List.cons_append, zdc, ih]; omega
theorem zpR (l : List OwnerS) (t : Str) : 0 ≤ zdc l t ∧ zdc l t ≤ l.length := by
 induction l with
 | nil => simp [zdc]
 | cons y r ih => simp only [zdc, List.length_cons]; split <;> omega
def zhs (m : MarketS) (o : List OwnerS) : Bool := m.Teams.all fun t => !(out (zdc o t) m.Least m.Most)
theorem zq4 (m : MarketS) (o : List OwnerS) : (!(m.Teams.any fun t => out (zdc o t) m.Least m.Most)) = zhs m o := by
 unfold zhs; rw [List.not_any_eq_all_not]
def zaQ (m : MarketS) (x : OwnerS) : Int := if !(key x.Player) then 5 else if !(m.Teams.contains x.Team) then 8 else 0
def zdC (m : MarketS) (o : List OwnerS) : Int := zca (zaQ m) zhJ zdf o 0 o
def zcI (m : MarketS) (o : List OwnerS) : Int := if 500 < o.length then 2 else if zdC m o ≠ 0 then zdC m o else if zhs m o then 0 else 12
def zce (m : MarketS) (o : List OwnerS) : Int := if zat m ≠ 0 then zat m else zcI m o
/-- The one that a search finds. -/
theorem zlK {l : List Str} {s : Str} (hs : SortedS l) (h : l.contains s = true) : l[zgP l s]? = some s ∧ ∀ (j : Nat) (z : Str), j < zgP l s → l[j]? = some z → z ≠ s := by
 obtain ⟨k, hk, e⟩ := List.getElem_of_mem (by simpa using h)
 have hk' : l[k]? = some s := by rw [List.getElem?_eq_getElem hk, e]
 have hp : zgP l s = k := zmt (by omega) (fun j x hj hx => hs.get hj hx hk') (fun j x hj hx => by
  rcases Nat.lt_or_eq_of_le hj with q | q
  ·exact zbd (hs.get q hk' hx)
  ·subst q; rw [hk'] at hx; cases hx; exact zas _)
 rw [hp]
 refine ⟨hk', fun j z hj hz e2 => ?_⟩
 have := hs.get hj hz hk'
 rw [e2, zas] at this; cases this
/-! as a walk tells it -/
section
variable {α : Type} {f : α → Int} {c : α → α → Int} {d : α} {l r : List α} {k : Nat} {x : α} {e : Int}
theorem zsQ (hg : zca f c d l 0 l = zca f c d l k (x :: r)) (he : e ≠ 0) (hf : f x = e) : zca f c d l 0 l = e := by
 rw [hg, zrd (by rw [hf]; exact he), hf]
theorem zsf (hg : zca f c d l 0 l = zca f c d l k (x :: r)) (hf : f x = 0) (h0 : 0 < k) (h : c x (l.getD (k - 1) d) ≤ 0) : zca f c d l 0 l = 7 := by
 rw [hg, zrL hf h0 h]
theorem ztK {a b : Str} : (Op.bytesLess a b || a == b) = true ↔ za4 a b ≤ 0 := by rw [zoH, decide_eq_true_iff]
theorem zu9 {a b : Str} (h : (Op.bytesLess a b || a == b) = false) : ¬ za4 a b ≤ 0 := by rwa [zoH, decide_eq_false_iff_not] at h
end
theorem zaZ {m : MarketS} {o r : List OwnerS} {k : Nat} {x : OwnerS} {e : Int} (hl : ¬ 500 < o.length) (hg : zdC m o = zca (zaQ m) zhJ zdf o k (x :: r)) (he : e ≠ 0) (hf : zaQ m x = e) : e = zcI m o := by
 have h : zdC m o = e := zsQ hg he hf
 rw [zcI, if_neg hl, h, if_pos he]
theorem zct {m : MarketS} {o r : List OwnerS} {k : Nat} {x : OwnerS} (hl : ¬ 500 < o.length) (hg : zdC m o = zca (zaQ m) zhJ zdf o k (x :: r)) (hf : zaQ m x = 0) (h0 : 0 < k) (h : (Op.bytesLess x.Player (o.getD (k - 1) zdf).Player || x.Player == (o.getD (k - 1) zdf).Player) = true) : 7 = zcI m o := by
 have h : zdC m o = 7 := zsf hg hf h0 (ztK.1 h)
 rw [zcI, if_neg hl, h]; rfl
theorem zoR {m : MarketS} {o r : List OwnerS} {k : Nat} {x : OwnerS} (hf : zaQ m x = 0) (h : 0 < k → (Op.bytesLess x.Player (o.getD (k - 1) zdf).Player || x.Player == (o.getD (k - 1) zdf).Player) = false) : zca (zaQ m) zhJ zdf o k (x :: r) = zca (zaQ m) zhJ zdf o (k + 1) r :=
 zsy hf fun h0 => zu9 (h h0)
theorem zcu {m : MarketS} {o : List OwnerS} (h : 500 < o.length) : 2 = zcI m o := by rw [zcI, if_pos h]
theorem zcq {m : MarketS} {o : List OwnerS} (hl : ¬ 500 < o.length) (hg : zdC m o = 0) : (if zhs m o then 0 else 12) = zcI m o := by
 have h : ¬ zdC m o ≠ 0 := by simp [hg]
 rw [zcI, if_neg hl, if_neg h]
/-- Loops that count. -/
theorem zj4 (o : List OwnerS) (t : Str) (k : Nat) (x : OwnerS) (hx : o[k]? = some x) : zdc (o.take (k + 1)) t = zdc (o.take k) t + (if x.Team = t then 1 else 0) := by
 rw [zaN hx, zrq]
/-! an owner that is looked for -/
theorem zhc {a b : Str} : za4 a b < 0 ↔ Op.bytesLess a b = true := by
 have h1 := zdO a b
 constructor
 ·intro h
  rcases zb9 a b with q | q | q
  ·exact q
  ·rw [zdZ.2 q] at h; omega
  ·have := zjh.2 (zbd q); omega
 ·intro h
  have h2 : ¬ za4 a b = 0 := fun e => by rw [zdZ.1 e, zas] at h; cases h
  have h3 := zjh.2 (zbd h)
  omega
end
section
structure GoodM (m : MarketS) : Prop where
 pos : 0 < m.Teams.length
 len : m.Teams.length ≤ 5
 sh : ∀ s ∈ m.Teams, s.length ≤ 10
def zbF : List Str := [[116, 97], [116, 98], [116, 99], [116, 100]]
theorem zdT : ∀ s ∈ zbF, s.length ≤ 10 := by decide
def zjo (x : OwnerS) : Prop := Sh x.Player ∧ Sh x.Team
structure GoodOw (l : List OwnerS) : Prop where
 len : l.length ≤ 13
 all : ∀ x ∈ l, Sh x.Player ∧ Sh x.Team
theorem znC {s : Str} {n : Nat} (h : s.length ≤ n) (hn : n ≤ 1000000) : Sh s := by unfold Sh; omega
/-- What is left of a list, some of it gone. -/
structure LeftOf {α : Type} (l k : List α) : Prop where
 len : k.length ≤ l.length
 sub : ∀ x ∈ k, x ∈ l
theorem LeftOf.take {α : Type} {l D : List α} (n : Nat) (hl : D.length = l.length) (h : ∀ x ∈ D, x ∈ l) : LeftOf l (D.take n) :=
 ⟨by rw [List.length_take]; omega, fun x hx => h x (List.mem_of_mem_take hx)⟩
theorem LeftOf.refl {α : Type} (l : List α) : LeftOf l l := ⟨Nat.le_refl _, fun _ h => h⟩
end
section

end
section
structure Hall where
 Teams : List Str
 Players : List Str
 Budget : Int
 Places : Int
structure Sale where
 Player : Str
 Team : Str
 Price : Int
def zhE : List Sale → Str → Int
 | [], _ => 0
 | x :: r, t => (if x.Team = t then x.Price else 0) + zhE r t
def many : List Sale → Str → Int
 | [], _ => 0
 | x :: r, t => (if x.Team = t then 1 else 0) + many r t
theorem zqN (l : List Sale) (x : Sale) (t : Str) : zhE (l ++ [x]) t = zhE l t + (if x.Team = t then x.Price else 0) := by
 induction l with
 | nil => simp [zhE]
 | cons y r ih => simp only [List.cons_append, zhE, ih]; omega
theorem zq6 (l : List Sale) (x : Sale) (t : Str) : many (l ++ [x]) t = many l t + (if x.Team = t then 1 else 0) := by
 induction l with
 | nil => simp [many]
 | cons y r ih => simp only [List.cons_append, many, ih]; omega
abbrev zcz := List (Str × HVal)
def lkI (L : zcz) (t : Str) : HVal := match zan t L with | some p => p.2 | none => .int .i64 0
theorem zfM {s t : Str} {v : HVal} : ∀ {L : zcz}, zan s L = none → zan t (L ++ [(s, v)]) = if t = s then some (L.length, v) else zan t L
 | [], _ => by by_cases h : t = s <;> simp [zan, h]
 | (k, h) :: r, hn => by
   simp only [zan] at hn
   by_cases hk : s = k
   ·rw [if_pos hk] at hn; cases hn
   ·rw [if_neg hk] at hn
    have hr : zan s r = none := by cases hq : zan s r with
     | none => rfl
     | some p => rw [hq] at hn; cases hn
    have ih := zfM (t := t) (v := v) hr
    simp only [List.cons_append, zan]
    by_cases ht : t = k
    ·have : ¬ t = s := fun e => hk (e ▸ ht)
     rw [if_pos ht, if_neg this, if_pos ht]
    ·rw [if_neg ht, ih]
     by_cases hs : t = s
     ·rw [if_pos hs, if_pos hs]; simp
     ·rw [if_neg hs, if_neg hs, if_neg ht]
theorem zmN {s t : Str} {v : HVal} : ∀ {L : zcz} {j : Nat} {h : HVal}, zan s L = some (j, h) → (zan t (L.set j (s, v))) = if t = s then some (j, v) else zan t L
 | [], j, h, hh => by simp [zan] at hh
 | (k, x) :: r, j, h, hh => by
   simp only [zan] at hh
   by_cases hk : s = k
   ·rw [if_pos hk] at hh
    simp only [Option.some.injEq, Prod.mk.injEq] at hh
    obtain ⟨rfl, rfl⟩ := hh
    subst hk
    simp only [List.set_cons_zero, zan]
    by_cases ht : t = s
    ·rw [if_pos ht, if_pos ht]
    ·rw [if_neg ht, if_neg ht, if_neg ht]
   ·rw [if_neg hk] at hh
    cases hq : zan s r with
    | none => rw [hq] at hh; cases hh
    | some p =>
      rw [hq] at hh
      simp only [Option.map_some, Option.some.injEq, Prod.mk.injEq] at hh
      obtain ⟨rfl, rfl⟩ := hh
      have ih := zmN (t := t) (v := v) (L := r) (j := p.1) (h := p.2) (by rw [hq])
      simp only [List.set_cons_succ, zan]
      by_cases ht : t = k
      ·have : ¬ t = s := fun e => hk (e ▸ ht)
       rw [if_pos ht, if_neg this, if_pos ht]
      ·rw [if_neg ht, ih, if_neg ht]
       by_cases hs : t = s
       ·rw [if_pos hs, if_pos hs]; rfl
       ·rw [if_neg hs, if_neg hs]
theorem zmx (s t : Str) (v : HVal) (L : zcz) : (zan t (zdp s v L)).map (·.2) = if t = s then some v else (zan t L).map (·.2) := by
 unfold zdp
 cases hq : zan s L with
 | none => simp only []; rw [zfM hq]; split <;> rfl
 | some p => obtain ⟨j, h⟩ := p; simp only []; rw [zmN hq]; split <;> rfl
theorem zrT (L : zcz) (t : Str) : lkI L t = ((zan t L).map (·.2)).getD (.int .i64 0) := by
 unfold lkI; cases zan t L <;> rfl
theorem zl8 (s t : Str) (v : HVal) (L : zcz) : lkI (zdp s v L) t = if t = s then v else lkI L t := by
 rw [zrT, zmx, zrT]; split <;> rfl
theorem zme (L : zcz) (t : Str) : (zan t L).isSome = ((zan t L).map (·.2)).isSome := by cases zan t L <;> rfl
/-- An auction after sales. -/
structure AucOk (h : Hall) (l : List Sale) (S : List Str) (L H : zcz) : Prop where
 sold : ∀ s, S.contains s = l.any (fun y => y.Player == s)
 left : ∀ t, h.Teams.contains t = true → lkI L t = .int .i64 (h.Budget - zhE l t)
 got : ∀ t, lkI H t = .int .i64 (many l t)
theorem zh0 (s t : Str) (l : List Str) : (zcj s l).contains t = (l.contains t || s == t) := by
 unfold zcj
 by_cases hc : l.contains s = true
 ·rw [if_pos hc]
  by_cases h : s = t
  ·subst h; rw [hc]; simp
  ·have : (s == t) = false := by simpa using h
   simp [this]
 ·rw [if_neg hc, List.contains_eq_any_beq, List.any_append, ← List.contains_eq_any_beq]
  congr 1
  simp only [List.any_cons, List.any_nil, Bool.or_false]
  rw [Bool.eq_iff_iff, beq_iff_eq, beq_iff_eq]; exact eq_comm
theorem AucOk.add {h : Hall} {l : List Sale} {S : List Str} {L H : zcz} (ok : AucOk h l S L H) (x : Sale) (hx : h.Teams.contains x.Team = true) :
 AucOk h (l ++ [x]) (zcj x.Player S) (zdp x.Team (.int .i64 (h.Budget - zhE l x.Team - x.Price)) L) (zdp x.Team (.int .i64 (many l x.Team + 1)) H) where
 sold s := by rw [zh0, ok.sold, List.any_append]; simp
 left t ht := by
  rw [zl8, zqN]
  by_cases e : t = x.Team
  ·subst e; rw [if_pos rfl, if_pos rfl]; congr 1; omega
  ·rw [if_neg e, if_neg (fun q => e q.symm), ok.left t ht]; congr 1; omega
 got t := by
  rw [zl8, zq6]
  by_cases e : t = x.Team
  ·subst e; rw [if_pos rfl, if_pos rfl]
  ·rw [if_neg e, if_neg (fun q => e q.symm), ok.got t]; congr 1; omega
end
section
/-! numbers in decimal -/
def dig (c : UInt8) : Bool := decide (48 ≤ c.toNat) && decide (c.toNat ≤ 57)
def zfl (s : Str) : Str := match s with | 45 :: r => r | _ => s
def numC (s : Str) (n : Int) : Bool := decide ((zfl s = [] ∨ n < ((zfl s).length : Int)) ∨ ((((zfl s).head?).getD 0).toNat : Int) = 48 ∧ ((1 : Int) < ((zfl s).length : Int) ∨ (zfl s).length < s.length))
def numB (s : Str) (n : Int) : Bool := !(numC s n) && (zfl s).all dig
def numV (s : Str) : Int := (Lib.atoi s).getD 0
def zqk (s : Str) (n : Int) : Int := if numB s n then numV s else 0
/-- The map of limits. -/
def LimOk (l : List PairS) (L : zcz) : Prop := ∀ t, (zan t L).map (·.2) = (l.find? (fun p => p.Name == t)).map (fun p => .int .i64 (zqk p.Val 9))
theorem LimOk.add {l : List PairS} {L : zcz} (ok : LimOk l L) (x : PairS) (hx : l.any (fun y => y.Name == x.Name) = false) : LimOk (l ++ [x]) (zdp x.Name (.int .i64 (zqk x.Val 9)) L) := fun t => by
 rw [zmx, List.find?_append, ok t]
 by_cases e : t = x.Name
 ·subst e
  rw [if_pos rfl]
  have : l.find? (fun p => p.Name == x.Name) = none := by
   rw [List.find?_eq_none]; intro y hy
   have := List.any_eq_false.1 hx y hy
   simpa using this
  rw [this]; simp
 ·rw [if_neg e]
  have hn : (x.Name == t) = false := by simpa using fun q => e q.symm
  cases l.find? (fun p => p.Name == t) with
  | none => simp [List.find?, hn]
  | some p => simp
theorem LimOk.is {l : List PairS} {L : zcz} (ok : LimOk l L) (t : Str) : (zan t L).isSome = l.any (fun y => y.Name == t) := by
 rw [zme, ok t]
 rw [Bool.eq_iff_iff]; simp
structure Top where
 team : Str
 first : Int
 second : Int
def Top.step (q : Top) (t : Str) (n : Int) : Top := if q.first < n then ⟨t, n, q.first⟩ else ⟨q.team, q.first, max q.second n⟩
end
section
section
variable {h : Hall} {l : List Sale} {x : Sale} (h6 : x.Player ∈ h.Players ∧ x.Team ∈ h.Teams) (h8 : ∀ y ∈ l, ¬ y.Player = x.Player)
include h6 h8
end
end
section

end
section
theorem Ghost.clear [Tracks] {e : Env} : ∀ {M : List MObj}, Ghost e M e []
 | [] => Ghost.perm (List.Perm.refl _)
 | _ :: _ => Ghost.trans Ghost.drop Ghost.clear
theorem Ghost.last [Tracks] {e : Env} {m : MObj} : ∀ {R : List MObj}, Ghost e (R ++ [m]) e [m]
 | [] => Ghost.perm (List.Perm.refl _)
 | x :: R => Ghost.trans (M' := R ++ [m]) Ghost.drop Ghost.last
theorem Ghost.only [Tracks] {e : Env} {M : List MObj} {i : Nat} {m : MObj} (h : M[i]? = some m) : Ghost e M e [m] :=
 Ghost.trans (Ghost.perm ((zeV h).trans (List.perm_append_comm (l₁ := [m]) (l₂ := M.eraseIdx i)))) Ghost.last
end
section
theorem Ghost.suffix [Tracks] {e : Env} {M : List MObj} : ∀ {R : List MObj}, Ghost e (R ++ M) e M
 | [] => Ghost.perm (List.Perm.refl _)
 | x :: R => Ghost.trans (M' := R ++ M) Ghost.drop Ghost.suffix
section
variable {P : Program} {e : Env} {dst : Option Tmp} {ty : TypeId} {pos : String} {af : Array Edge} {g : Option (Nat × Bool)} {M : List MObj} {K : HVal → List MObj → Prop}
theorem zpa [Tracks] {x y : Operand} {t kt et : TypeId} {size bytes s2 b2 s3 b3 : Nat} {zero z2 : Value} {d : TD} {i b : Nat} {ls : zcz} {s : Str} {h : HVal}
 (hf : Fits P t (.map kt et) size bytes zero) (hkt : Fits P kt .str s2 b2 z2) (het : Fits P et d s3 b3 (.int .i64 0)) (hx : zu e x = some (.raw (.map (some b)))) (hy : zu e y = some (.str s)) (hm : M[i]? = some (.map b (sk ls)))
 (hv : lkI ls s = h) (hk : K h M) : EOp P e M ⟨dst, .lookup t x y false, ty, pos, af, g⟩ K := by
 refine zlm hf hkt het hx hy hm ?_
 show K (lkI ls s) M
 rw [hv]; exact hk
end
end
section
variable {P : Program}
theorem V.hmap_inv {I : Imm} {ks vs : List HVal} {v : Value} (h : V I (.hmap ks vs) v) : ∃ b es clk, v = .map (some b) ∧ I.heap b = some (.map es clk) ∧ es.size = ks.length ∧ es.size = vs.length ∧
 (∀ (j : Nat) (c : HVal) (m : MapEntry), ks[j]? = some c → es[j]? = some m → V I c m.key) ∧ ∀ (j : Nat) (c : HVal) (m : MapEntry), vs[j]? = some c → es[j]? = some m → V I c m.val := by
 cases h with
 | hmap h1 h2 h3 h4 h5 => exact ⟨_, _, _, rfl, h1, h2, h3, h4, h5⟩
/-- A frozen map keyed by strings. -/
abbrev hsm (L : zcz) : HVal := .hmap (L.map fun p => .str p.1) (L.map (·.2))
abbrev hset (S : List (List UInt8)) : HVal := hsm (zbD S)
theorem zqU (L : zcz) : (sk L).map (·.1) = L.map fun p => HVal.str p.1 := by simp [sk, Function.comp_def]
theorem zrl (L : zcz) : (sk L).map (·.2) = L.map (·.2) := by simp [sk, Function.comp_def]
section
variable {e : Env} {dst : Option Tmp} {ty : TypeId} {pos : String} {af : Array Edge} {g : Option (Nat × Bool)}
theorem zor [Tracks] {x y : Operand} {t kt et : TypeId} {size bytes s2 b2 s3 b3 : Nat} {zero z2 z3 : Value} {d : TD} {ls : zcz} {s : List UInt8}
 (hf : Fits P t (.map kt et) size bytes zero) (hkt : Fits P kt .str s2 b2 z2) (het : Fits P et d s3 b3 z3) (hx : zu e x = some (hsm ls)) (hy : zu e y = some (.str s)) :
 POp P e ⟨dst, .lookup t x y false, ty, pos, af, g⟩ (match zan s ls with | some p => p.2 | none => zbp z3) :=
 POp.of_run fun I F a w ho hs => by
  obtain ⟨b, es, clk, h1, h3, h4, h4', hK, hV⟩ := (ho.one (x := x) (by simp [Op.operands]) hx).hmap_inv
  have h2 := (ho.one (x := y) (by simp [Op.operands]) hy).str_inv
  have h3 := hs.imm _ _ h3
  have h5 : ∀ (i : Nat) (p : HVal × HVal) (m : MapEntry), (sk ls)[i]? = some p → es[i]? = some m → V I p.1 m.key ∧ V I p.2 m.val := fun i p m a1 a2 => by
   refine ⟨hK i _ m ?_ a2, hV i _ m ?_ a2⟩
   ·rw [← zqU, List.getElem?_map, a1]; rfl
   ·rw [← zrl, List.getElem?_map, a1]; rfl
  obtain ⟨h6, h7⟩ := zeY (by simpa [sk] using h4) h5
  obtain ⟨n1, n2⟩ := zfv (I := I) (s := s) es.toList ls 0 h6 h7
  cases hq : zan s ls with
  | none =>
    refine ⟨z3, w, I, ?_, .refl I, zc7 I z3, hs⟩
    simp only [execOp, h1, h2, Instr.lookup, Sem.run_bind, run_underlying hf.mapD, Result.andThen_ok, zaK h3, Sem.run_pure, zbQ hkt.strD, Instr.findKey, run_underlying hkt.strD, n1 hq, het.run_zero]
    simp
  | some p =>
    obtain ⟨j, h⟩ := p
    obtain ⟨v, g1, g2⟩ := n2 j h hq
    refine ⟨v, w, I, ?_, .refl I, g2, hs⟩
    simp only [execOp, h1, h2, Instr.lookup, Sem.run_bind, run_underlying hf.mapD, Result.andThen_ok, zaK h3, Sem.run_pure, zbQ hkt.strD, Instr.findKey, run_underlying hkt.strD, g1]
    simp
end
/-- h, seen as h' while it is only read; objects may hold others. -/
inductive Bow (M : List MObj) : HVal → HVal → Prop
 | weak {h h' : HVal} (hw : Weak h h') : Bow M h h'
 | arr {i : Nat} {v : Value} {sz : Nat} {es : List HVal} (hm : M[i]? = some (.arr v sz es)) : Bow M (.raw v) (.slice sz es)
 | cells {i b off : Nat} {cs cs' : List HVal} (hm : M[i]? = some (.cells b cs)) (hl : cs.length = cs'.length) (h : ∀ (j : Nat) (c c' : HVal), cs[j]? = some c → cs'[j]? = some c' → Bow M c c') : Bow M (.raw (.pointer (some ⟨b, off, none⟩))) (.vptr cs' off)
 | map {i b : Nat} {L : zcz} (hm : M[i]? = some (.map b (sk L))) : Bow M (.raw (.map (some b))) (hsm L)
 | vptr {off : Nat} {l l' : List HVal} (hl : l.length = l'.length) (h : ∀ (j : Nat) (c c' : HVal), l[j]? = some c → l'[j]? = some c' → Bow M c c') : Bow M (.vptr l off) (.vptr l' off)
 | fn {f : Fn} {c1 l l' : List HVal} (hl : l.length = l'.length) (h : ∀ (j : Nat) (c c' : HVal), l[j]? = some c → l'[j]? = some c' → Bow M c c') : Bow M (.fn f c1 l) (.fn f c1 l')
def BowL (M : List MObj) : List HVal → List HVal → Prop
 | [], [] => True
 | h :: r, h' :: r' => Bow M h h' ∧ BowL M r r'
 | _, _ => False
theorem BowL.pt {M : List MObj} : ∀ {l l' : List HVal}, BowL M l l' → l.length = l'.length ∧ ∀ (j : Nat) (c c' : HVal), l[j]? = some c → l'[j]? = some c' → Bow M c c'
 | [], [], _ => ⟨rfl, fun j c c' h => by simp at h⟩
 | h :: r, h' :: r', hb => by
   obtain ⟨h1, h2⟩ := BowL.pt hb.2
   refine ⟨by simp [h1], fun j c c' a1 a2 => ?_⟩
   cases j with
   | zero => simp at a1 a2; subst a1 a2; exact hb.1
   | succ j => exact h2 j c c' (by simpa using a1) (by simpa using a2)
 | [], _ :: _, hb => hb.elim
 | _ :: _, [], hb => hb.elim
theorem Bow.cellsL {M : List MObj} {i b off : Nat} {cs cs' : List HVal} (hm : M[i]? = some (.cells b cs)) (h : BowL M cs cs') : Bow M (.raw (.pointer (some ⟨b, off, none⟩))) (.vptr cs' off) := .cells hm h.pt.1 h.pt.2
theorem Bow.vptrL {M : List MObj} {off : Nat} {l l' : List HVal} (h : BowL M l l') : Bow M (.vptr l off) (.vptr l' off) := .vptr h.pt.1 h.pt.2
theorem Bow.fnL {M : List MObj} {f : Fn} {c1 l l' : List HVal} (h : BowL M l l') : Bow M (.fn f c1 l) (.fn f c1 l') := .fn h.pt.1 h.pt.2
theorem Bow.refl {M : List MObj} {h : HVal} : Bow M h h := .weak (Weak.refl _)
theorem V.vptr_inv' {I : Imm} {cs : List HVal} {off : Nat} {v : Value} (h : V I (.vptr cs off) v) : ∃ b base rc el fr, v = .pointer (some ⟨b, base + off, none⟩) ∧ I.heap b = some (.cells rc el fr) ∧ base + cs.length ≤ rc.size ∧
 ∀ (j : Nat) (c : HVal) (v : Value), cs[j]? = some c → rc[base + j]? = some v → V I c v := by
 cases h with
 | vptr h1 h2 h3 => exact ⟨_, _, _, _, _, rfl, h1, h2, h3⟩
theorem Bow.v [Tracks] {M : List MObj} {I : Imm} {F : List MObj} {w : World} {h h' : HVal} (hb : Bow M h h') (hs : Sat P I (M ++ F) w) : ∀ {v : Value}, V I h v → V (zbz w) h' v := by
 induction hb with
 | weak hw => intro v hv; exact hw _ _ (hv.mono hs.le_all)
 | arr hm => intro v hv; exact (Bor.arr hm).v hs hv
 | @cells i b off cs cs' hm hl _ ih =>
   intro v hv
   rw [hv.raw_inv]
   obtain ⟨rc, el, fr, h2, h3, h4⟩ := hs.obj _ (List.mem_append_left _ (List.mem_of_getElem? hm))
   have := V.vptr (I := zbz w) (cs := cs') (off := off) (base := 0) h2 (by have := h4.1; simp at this; omega) fun j c v a1 a2 => by
    have hj := zC a1
    have hj' := List.getElem?_eq_getElem (l := cs) (i := j) (by omega)
    exact ih j _ c hj' a1 (h4.2 j _ v hj' (by simpa using a2))
   rwa [Nat.zero_add] at this
 | @map i b L hm =>
   intro v hv
   rw [hv.raw_inv]
   obtain ⟨es, clk, h1, h2, h3⟩ := hs.obj _ (List.mem_append_left _ (List.mem_of_getElem? hm))
   have hn : es.size = L.length := by simpa [sk] using h2.1
   refine .hmap (I := zbz w) h1 (by simp [hn]) (by simp [hn]) (fun j c m a1 a2 => ?_) (fun j c m a1 a2 => ?_)
   ·rw [← zqU, List.getElem?_map] at a1
    cases hq : (sk L)[j]? with
    | none => rw [hq] at a1; simp at a1
    | some p => rw [hq] at a1; simp at a1; subst a1; exact ((h3 j p m hq a2).1).mono hs.le_all
   ·rw [← zrl, List.getElem?_map] at a1
    cases hq : (sk L)[j]? with
    | none => rw [hq] at a1; simp at a1
    | some p => rw [hq] at a1; simp at a1; subst a1; exact ((h3 j p m hq a2).2).mono hs.le_all
 | @vptr off l l' hl _ ih =>
   intro v hv
   obtain ⟨b, base, rc, el, fr, rfl, h1, h2, h3⟩ := hv.vptr_inv'
   refine .vptr (I := zbz w) (hs.imm _ _ h1) (by omega) fun j c u a1 a2 => ?_
   have hj := zC a1
   have hj' := List.getElem?_eq_getElem (l := l) (i := j) (by omega)
   exact ih j _ c hj' a1 (h3 j _ u hj' a2)
 | @fn f c1 l l' hl _ ih =>
   intro v hv
   cases hv with
   | fn g1 g2 g3 g4 =>
     refine .fn g1 (by omega) (fun j c u a1 a2 => (g3 j c u a1 a2).mono hs.le_all) fun j c u a1 a2 => ?_
     have hj := zC a1
     have hj' := List.getElem?_eq_getElem (l := l) (i := j) (by omega)
     exact ih j _ c hj' a1 (g4 j _ u hj' a2)
theorem BowL.vl [Tracks] {M : List MObj} {I : Imm} {F : List MObj} {w : World} (hs : Sat P I (M ++ F) w) : ∀ {hs1 hs2 : List HVal} {vs : List Value}, BowL M hs1 hs2 → VL I hs1 vs → VL (zbz w) hs2 vs
 | [], [], vs, _, h => ⟨by have := h.1; simpa using this, fun j c v h1 _ => by simp at h1⟩
 | h :: r, h' :: r', [], _, hv => by have := hv.1; simp at this
 | h :: r, h' :: r', v :: vs, hb, hv => VL.cons (hb.1.v hs hv.head) (BowL.vl hs hb.2 hv.tail)
 | [], _ :: _, _, hb, _ => hb.elim
 | _ :: _, [], _, hb, _ => hb.elim
/-- A function that changes nothing, called while objects are owned that it reads; what it yields hangs on no memory. -/
theorem ziQ [Tracks] {e : Env} {dst : Option Tmp} {ty : TypeId} {pos : String} {af : Array Edge} {g : Option (Nat × Bool)} {M : List MObj} {K : HVal → List MObj → Prop} {f : FuncId} {args : Array Operand} {ats : Array TypeId} {hs hs' : List HVal} {h : HVal} (hc : Callable P f) (ha : zcK e args.toList = some hs) (hb : BowL M hs hs') (hp : ConP P f hs' h)
 (hg : zeT h = true) (hk : K h M) : EOp P e M ⟨dst, .call ⟨.value (.func f), args, ats⟩, ty, pos, af, g⟩ K := fun I F a w ho hsat => by
 have hrun : (execOp a.eval ⟨dst, .call ⟨.value (.func f), args, ats⟩, ty, pos, af, g⟩).run P w = .ok (.enter f (args.toList.map a.eval).toArray) w := by
  simp [execOp, resolve, Act.eval, Deferred.ofValue, invoke, zdd hc]
  apply Array.ext'; simp
 have hv := zeJ (I := I) (f := a.eval) _ _ ha fun x hx h hh => ho.one (by simp only [Op.operands, Call.operands]; exact Array.mem_append_right _ (by simpa using hx)) hh
 simp only [Oper.wp, hrun, Oper.upon]
 refine (hp (zbz w) [] w _ (hb.vl hsat hv) (by simpa using zlQ hsat)).mono ?_
 rintro x w' ⟨v, y, M', J, rfl, h1, ⟨rfl, rfl⟩, h3, h4⟩
 exact ⟨v, _, M, I, rfl, .refl I, hk, zj6 h3 hg, hsat.back h1 h4⟩
end
end Go.HL
namespace Go.Proofs.YtcihcbnjfclkbaaGreatDoor
set_option maxRecDepth 100000
set_option linter.unusedVariables false
set_option linter.unusedSimpArgs false
section
open Go.HL
/-- slices.IndexFunc[[]string,string] -/
theorem zex [Tracks] {l : List Str} {fid : FuncId} {caps : List HVal} {p : Str → Bool} (hca : Callable Tryz.prog fid) (hp : ∀ x, ConP Tryz.prog fid ([HVal.str x] ++ caps) (.bool (p x))) (hl : l.length ≤ 1000000) : ConP Tryz.prog 175 [.slice 1 (l.map HVal.str), .fn (.func fid) [] caps] (.int .i64 (zbN p l 0)) := by
 refine Con.of_body Tryz.func175 rfl Tryz.ntmps175 rfl rfl ?_
 refine zb ?_
 refine das rfl ?_
 refine dn ?_
 refine zh ?_
 refine zb ?_
 refine dmv rfl ?_
 refine dq (zF zG rfl) ?_
 refine dmv rfl ?_
 refine dn ?_
 refine zl ?_
 refine zZ [4, 5, 8, 9, 10, 11, 12, 13, 14, 15, 16, 17, 18] (fun (k : Nat) => [(8, .int .i64 k)]) (fun (k : Nat) => []) (fun (k : Nat) => k ≤ l.length ∧ (zbN p l 0 = zbN p (l.drop k) k)) (fun (k : Nat) => l.length - k) (0) ?_ ?_ ?_ ?_
 ·exact ⟨Nat.zero_le _, rfl⟩
 ·exact ⟨rfl, trivial⟩
 ·exact List.Perm.refl _
 ·intro k hinv
  obtain ⟨hk, hg⟩ := hinv
  refine zb ?_
  refine dq (zO rfl rfl) ?_
  refine dn ?_
  refine zh ?_
  refine zj rfl (fun h1 => ?_) (fun h2 => ?_)
  ·try simp at h1
   obtain ⟨x, hx⟩ : ∃ x, l[k]? = some x := ⟨_, List.getElem?_eq_getElem h1⟩
   have hdx := zQ hx
   rw [hdx] at hg
   refine zk ?_
   refine zf ?_
   refine zh ?_
   refine zl ?_
   refine zb ?_
   refine dmv rfl ?_
   refine das rfl ?_
   refine dn ?_
   refine zb ?_
   refine dmv rfl ?_
   refine dmv rfl ?_
   refine dmv rfl ?_
   refine dq (zJ zG ty9 rfl rfl rfl (by first | assumption | simp_all)) ?_
   refine dq (ze ty9 rfl rfl rfl) ?_
   refine dq (zdj hca rfl rfl (WeakL.refl _) (hp _)) ?_
   refine dn ?_
   refine zj rfl (fun h3 => ?_) (fun h4 => ?_)
   ·try simp at h3
    refine zb ?_
    refine dmv rfl ?_
    refine das rfl ?_
    refine dn ?_
    refine zn ?_
    refine zA rfl ?_
    show HVal.int .i64 _ = _
    first | (rw [hg]; rfl) | (rw [hg]; simp_all [zbN])
   ·try simp at h4
    refine zk ?_
    refine zz ?_
    refine zf ?_
    refine zy ?_
    refine dq (zv rfl rfl (by omega) (by omega)) ?_
    refine dmv rfl ?_
    refine dn ?_
    refine ⟨k + 1, ?_, ?_, ⟨rfl, trivial⟩, (by repeat (first | exact zo | refine zt rfl ?_ | refine zp rfl rfl ?_)), List.Perm.refl _⟩
    ·refine ⟨by omega, ?_⟩
     rw [hg, zbN, if_neg (by simp_all)]; rfl
    ·dsimp only; omega
  ·try simp at h2
   have hnk : l.length ≤ k := by omega
   obtain rfl : k = l.length := by omega
   rw [zad (Nat.le_refl _)] at hg
   refine zN ?_
   refine zT ?_
   refine zah ?_
   refine zD ?_
   refine zf ?_
   refine zb ?_
   refine das rfl ?_
   refine dn ?_
   refine zn ?_
   refine zA rfl ?_
   show HVal.int .i64 _ = _
   first | (rw [hg]; rfl) | (rw [hg]; simp_all [zbN])

/-- slices.ContainsFunc[[]string,string] -/
theorem zd6 [Tracks] {l : List Str} {fid : FuncId} {caps : List HVal} {p : Str → Bool} (hca : Callable Tryz.prog fid) (hp : ∀ x, ConP Tryz.prog fid ([HVal.str x] ++ caps) (.bool (p x))) (hl : l.length ≤ 1000000) : ConP Tryz.prog 127 [.slice 1 (l.map HVal.str), .fn (.func fid) [] caps] (.bool (l.any p)) := by
 refine Con.of_body Tryz.func127 rfl Tryz.ntmps127 rfl rfl ?_
 refine zb ?_
 refine das rfl ?_
 refine dn ?_
 refine zb ?_
 refine dmv rfl ?_
 refine dmv rfl ?_
 refine dq (zq zvg rfl (WeakL.refl _) (zex hca hp hl)) ?_
 refine dq (zbJ rfl rfl) ?_
 refine das rfl ?_
 refine dn ?_
 refine zn ?_
 refine zA rfl ?_
 congr 1; exact zej p l 0 (by omega)

/-- benchwarmer/trade.isTeam -/
theorem zma [Tracks] {m : MarketS} {t : Str} (hm : MarketOk m) : ConP Tryz.prog 78 [.vptr (zm (zbr m)) 0, .str t] (.bool (m.Teams.contains t)) := by
 refine Con.of_body Tryz.func78 rfl Tryz.ntmps78 rfl rfl ?_
 refine zb ?_
 refine das rfl ?_
 refine dn ?_
 refine zb ?_
 refine dmv rfl ?_
 refine dq ((by first | exact zaq rfl | exact zW rfl)) ?_
 refine dq (zc z7 rfl zG (by decide) rfl) ?_
 refine dq (ze zG rfl rfl rfl) ?_
 refine dmv rfl ?_
 refine dq (zq zvs rfl (WeakL.refl _) (zea (l := m.Teams) (s := t) (by have := hm.len; omega) hm.sorted)) ?_
 refine dmv rfl ?_
 refine dq (z6 rfl rfl) ?_
 refine dq (z6 rfl rfl) ?_
 refine das rfl ?_
 refine das rfl ?_
 refine dn ?_
 refine zb ?_
 refine dmv rfl ?_
 refine das rfl ?_
 refine dn ?_
 refine zn ?_
 refine zA rfl ?_
 rfl

/-- benchwarmer/trade.CheckMarket -/
theorem zia [Tracks] {m : MarketS} (ht : m.Teams.length ≤ 1000000) : ConP Tryz.prog 76 [zbr m] (.int .i64 (zat m)) := by
 refine Con.of_body Tryz.func76 rfl Tryz.ntmps76 rfl rfl ?_
 refine zb ?_
 refine dq (zaC rfl rfl) ?_
 refine das rfl ?_
 refine dn ?_
 refine zh ?_
 refine zl ?_
 refine zb ?_
 refine dq (zc z7 rfl zG (by decide) rfl) ?_
 refine dq (ze zG rfl rfl rfl) ?_
 refine dq (zF zG rfl) ?_
 refine dq (zaA rfl rfl) ?_
 refine das rfl ?_
 refine dn ?_
 refine zj rfl (fun h1 => ?_) (fun h2 => ?_)
 ·try simp at h1
  refine zb ?_
  refine das rfl ?_
  refine dn ?_
  refine zn ?_
  refine zA rfl ?_
  show HVal.int .i64 _ = _
  first
  | (rw [zat, if_pos (by simpa using h1)]; done)
  | (rw [zat, if_neg (by simpa using h2), if_pos (by omega)]; done)
  | (rw [zat, if_neg (by simpa using h2), if_neg (by omega)]; simp_all; done)
 ·try simp at h2
  refine zb ?_
  refine dq (zc z7 rfl zG (by decide) rfl) ?_
  refine dq (ze zG rfl rfl rfl) ?_
  refine dq (zF zG rfl) ?_
  refine dq (zai rfl rfl) ?_
  refine das rfl ?_
  refine dn ?_
  refine zj rfl (fun h3 => ?_) (fun h4 => ?_)
  ·try simp at h3
   refine zb ?_
   refine das rfl ?_
   refine dn ?_
   refine zn ?_
   refine zA rfl ?_
   show HVal.int .i64 _ = _
   first
   | (rw [zat, if_pos (by simpa using h1)]; done)
   | (rw [zat, if_neg (by simpa using h2), if_pos (by omega)]; done)
   | (rw [zat, if_neg (by simpa using h2), if_neg (by omega)]; simp_all; done)
  ·try simp at h4
   refine zk ?_
   refine zz ?_
   refine zf ?_
   refine zh ?_
   refine zb ?_
   refine dq (zc z7 rfl zG (by decide) rfl) ?_
   refine dq (ze zG rfl rfl rfl) ?_
   refine dq (zq zs1 rfl (WeakL.refl _) (zhZ (by first | assumption | omega | (simp; omega) | simp_all))) ?_
   refine das rfl ?_
   refine dn ?_
   refine zb ?_
   refine dmv rfl ?_
   refine dq (zaM rfl rfl) ?_
   refine dn ?_
   refine zj rfl (fun h5 => ?_) (fun h6 => ?_)
   ·try simp at h5
    refine zb ?_
    refine dmv rfl ?_
    refine das rfl ?_
    refine dn ?_
    refine zn ?_
    refine zA rfl ?_
    show HVal.int .i64 _ = _
    first
    | (rw [zat, if_pos (by simpa using h1)]; done)
    | (rw [zat, if_neg (by simpa using h2), if_pos (by omega)]; done)
    | (rw [zat, if_neg (by simpa using h2), if_neg (by omega)]; simp_all; done)
   ·try simp at h6
    refine zk ?_
    refine zf ?_
    refine zh ?_
    refine zb ?_
    refine dq (zc z7 rfl ty3 (by decide) rfl) ?_
    refine dq (ze ty3 rfl rfl rfl) ?_
    refine dq (zq zcR rfl (WeakL.refl _) za5) ?_
    refine dmv rfl ?_
    refine dg rfl rfl (fun hc => ⟨_, OpenTo.refl _, zc z7 rfl ty3 (by decide) rfl⟩) ?_
    refine dg rfl rfl (fun hc => ⟨_, OpenTo.upd (t := 24) rfl (by first | exact hc | simp_all) (OpenTo.refl _), ze ty3 rfl rfl rfl⟩) ?_
    refine dg rfl rfl (fun hc => ⟨_, OpenTo.upd (t := 25) rfl (by first | exact hc | simp_all) (OpenTo.refl _), zq zcR rfl (WeakL.refl _) za5⟩) ?_
    refine dq (zB rfl (.inl rfl) (.inr ⟨_, rfl, fun h => by simp_all⟩)) ?_
    refine dmv rfl ?_
    refine dg rfl rfl (fun hc => ⟨_, OpenTo.refl _, zc z7 rfl ty3 (by decide) rfl⟩) ?_
    refine dg rfl rfl (fun hc => ⟨_, OpenTo.upd (t := 29) rfl (by first | exact hc | simp_all) (OpenTo.refl _), ze ty3 rfl rfl rfl⟩) ?_
    refine dg rfl rfl (fun hc => ⟨_, OpenTo.upd (t := 30) rfl (by first | exact hc | simp_all) (OpenTo.refl _), zq zcR rfl (WeakL.refl _) za5⟩) ?_
    refine dq (zB rfl (.inl rfl) (.inr ⟨_, rfl, fun h => by simp_all⟩)) ?_
    refine dmv rfl ?_
    refine dg rfl rfl (fun hc => ⟨_, OpenTo.refl _, zc z7 rfl ty3 (by decide) rfl⟩) ?_
    refine dg rfl rfl (fun hc => ⟨_, OpenTo.upd (t := 34) rfl (by first | exact hc | simp_all) (OpenTo.refl _), ze ty3 rfl rfl rfl⟩) ?_
    refine dg rfl rfl (fun hc => ⟨_, OpenTo.refl _, zc z7 rfl ty3 (by decide) rfl⟩) ?_
    refine dg rfl rfl (fun hc => ⟨_, OpenTo.upd (t := 36) rfl (by first | exact hc | simp_all) (OpenTo.refl _), ze ty3 rfl rfl rfl⟩) ?_
    refine dg rfl rfl (fun hc => ⟨_, OpenTo.upd (t := 37) rfl (by first | exact hc | simp_all) (OpenTo.upd (t := 35) rfl (by first | exact hc | simp_all) (OpenTo.refl _)), zq zcR rfl (WeakL.refl _) za5⟩) ?_
    refine dq (zB rfl (.inl rfl) (.inr ⟨_, rfl, fun h => by simp_all⟩)) ?_
    refine dmv rfl ?_
    refine dg rfl rfl (fun hc => ⟨_, OpenTo.refl _, zc z7 rfl ty3 (by decide) rfl⟩) ?_
    refine dg rfl rfl (fun hc => ⟨_, OpenTo.upd (t := 41) rfl (by first | exact hc | simp_all) (OpenTo.refl _), ze ty3 rfl rfl rfl⟩) ?_
    refine dg rfl rfl (fun hc => ⟨_, OpenTo.upd (t := 42) rfl (by first | exact hc | simp_all) (OpenTo.refl _), zai rfl rfl⟩) ?_
    refine dq (zB rfl (.inl rfl) (.inr ⟨_, rfl, fun h => by simp_all⟩)) ?_
    refine dn ?_
    refine zj rfl (fun h7 => ?_) (fun h8 => ?_)
    ·try simp at h7
     refine zb ?_
     refine das rfl ?_
     refine dn ?_
     refine zn ?_
     refine zA rfl ?_
     show HVal.int .i64 _ = _
     first
     | (rw [zat, if_pos (by simpa using h1)]; done)
     | (rw [zat, if_neg (by simpa using h2), if_pos (by omega)]; done)
     | (rw [zat, if_neg (by simpa using h2), if_neg (by omega)]; simp_all; done)
    ·try simp at h8
     refine zk ?_
     refine zf ?_
     refine zb ?_
     refine das rfl ?_
     refine dn ?_
     refine zn ?_
     refine zA rfl ?_
     show HVal.int .i64 _ = _
     first
     | (rw [zat, if_pos (by simpa using h1)]; done)
     | (rw [zat, if_neg (by simpa using h2), if_pos (by omega)]; done)
     | (rw [zat, if_neg (by simpa using h2), if_neg (by omega)]; simp_all; done)

/-- benchwarmer/trade.within$1 -/
theorem zkp [Tracks] {m : MarketS} {o : List OwnerS} {L : zcz} {t : Str} (hL : ∀ t, lkI L t = .int .i64 (zdc o t)) : ConP Tryz.prog 128 [.str t, .vptr [hsm L] 0, .vptr [.vptr (zm (zbr m)) 0] 0] (.bool (out (zdc o t) m.Least m.Most)) := by
 refine Con.of_body Tryz.func128 rfl Tryz.ntmps128 rfl rfl ?_
 refine zb ?_
 refine das rfl ?_
 refine dn ?_
 refine za9 (fun _ => True) [] mixed ?_
 refine ahp 0 rfl rfl (by kernel_rfl) (by kernel_rfl) (ze zdI rfl rfl rfl) ?_
 refine ahp 1 rfl rfl (by kernel_rfl) (by kernel_rfl) (zg rfl) ?_
 refine ahp 2 rfl rfl (by kernel_rfl) (by kernel_rfl) (zcy (zor zdI ty9 ty3 rfl rfl) (show _ = _ from hL t)) ?_
 refine ahp 3 rfl rfl (by kernel_rfl) (by kernel_rfl) (ze zqx rfl rfl rfl) ?_
 refine ahp 4 rfl rfl (by kernel_rfl) (by kernel_rfl) ((by first | exact zaq rfl | exact zW rfl)) ?_
 refine ahp 5 rfl rfl (by kernel_rfl) (by kernel_rfl) (zc z7 rfl ty3 (by decide) rfl) ?_
 refine ahp 6 rfl rfl (by kernel_rfl) (by kernel_rfl) (ze ty3 rfl rfl rfl) ?_
 refine ahp 7 rfl rfl (by kernel_rfl) (by kernel_rfl) (ze zqx rfl rfl rfl) ?_
 refine ahp 8 rfl rfl (by kernel_rfl) (by kernel_rfl) ((by first | exact zaq rfl | exact zW rfl)) ?_
 refine ahp 9 rfl rfl (by kernel_rfl) (by kernel_rfl) (zc z7 rfl ty3 (by decide) rfl) ?_
 refine ahp 10 rfl rfl (by kernel_rfl) (by kernel_rfl) (ze ty3 rfl rfl rfl) ?_
 refine ahp 11 rfl rfl (by kernel_rfl) (by kernel_rfl) (zq zcR rfl (WeakL.refl _) za5) ?_
 refine ahp 12 rfl rfl (by kernel_rfl) (by kernel_rfl) (zaW rfl) ?_
 refine ahz (by kernel_rfl) ?_
 refine zn ?_
 refine zA rfl ?_
 rfl

/-- benchwarmer/trade.within -/
theorem zl1 [Tracks] {m : MarketS} {o : List OwnerS} (ht : m.Teams.length ≤ 1000000) (ho : o.length ≤ 1000000) : ConP Tryz.prog 79 [.vptr (zm (zbr m)) 0, zb4 o] (.bool (zhs m o)) := by
 refine Con.of_body Tryz.func79 rfl Tryz.ntmps79 rfl rfl ?_
 refine zb ?_
 refine dq (zaC rfl rfl) ?_
 refine das rfl ?_
 refine dn ?_
 refine zb ?_
 refine de rfl (zbU fun m8 => ?_)
 refine de rfl (zX zdI rfl fun b5 => ?_)
 refine de0 (zag zdI rfl rfl rfl rfl rfl ?_)
 refine dn ?_
 refine zI (Ghost.fc0 5 rfl) ?_
 refine zh ?_
 refine zb ?_
 refine dmv rfl ?_
 refine dq (zF zaV rfl) ?_
 refine dmv rfl ?_
 refine dn ?_
 refine zl ?_
 refine zaS [7, 11, 12, 13, 14, 15, 16, 17, 18, 19, 20] (fun (k : Nat) (L : zcz) => [(11, .int .i64 k)]) (fun (k : Nat) (L : zcz) => [.map m8 (sk L)]) (fun (k : Nat) (L : zcz) => k ≤ o.length ∧ (∀ t, lkI L t = .int .i64 (zdc (o.take k) t))) (fun (k : Nat) (L : zcz) => o.length - k) (0) ([]) ?_ ?_ ?_ ?_
 ·exact ⟨Nat.zero_le _, fun t => by simp [lkI, zan, zdc]⟩
 ·exact ⟨rfl, trivial⟩
 ·exact zL rfl
 ·intro k L hinv
  obtain ⟨hk, hL⟩ := hinv
  refine zb ?_
  refine dq (zO rfl rfl) ?_
  refine dn ?_
  refine zh ?_
  refine zj rfl (fun h1 => ?_) (fun h2 => ?_)
  ·try simp at h1
   obtain ⟨x, hx⟩ : ∃ x, o[k]? = some x := ⟨_, List.getElem?_eq_getElem h1⟩
   have hdx := zQ hx
   have hcb := zpR (o.take k) x.Team
   rw [List.length_take] at hcb
   refine zk ?_
   refine zf ?_
   refine zh ?_
   refine zl ?_
   refine zb ?_
   refine dq (zJ zaV zae rfl rfl rfl (by first | assumption | simp_all)) ?_
   refine dq (zV zae rfl rfl rfl rfl) ?_
   refine de rfl (zX zae rfl fun b7 => ?_)
   refine de0 (zag zae rfl rfl rfl rfl rfl ?_)
   refine dn ?_
   refine zI (Ghost.fc0 7 rfl) ?_
   refine zy ?_
   refine dq (ze zdI rfl rfl rfl) ?_
   refine dq (zc zae rfl ty9 (by decide) rfl) ?_
   refine dq (ze ty9 rfl rfl rfl) ?_
   refine de rfl (zpa (i := 0) zdI ty9 ty3 rfl rfl rfl (hL x.Team) ?_)
   refine dq (zv rfl rfl (by omega) (by omega)) ?_
   refine de0 (zfK (i := 0) zdI ty9 rfl rfl rfl rfl ?_)
   refine dn ?_
   refine zz ?_
   refine zf ?_
   refine zy ?_
   refine dq (zv rfl rfl (by omega) (by omega)) ?_
   refine dmv rfl ?_
   refine dn ?_
   refine ⟨k + 1, _, ?_, ?_, ⟨rfl, trivial⟩, (by repeat (first | exact zo | refine zt rfl ?_ | refine zp rfl rfl ?_)), zL rfl⟩
   ·refine ⟨by omega, fun t => ?_⟩
    rw [zl8, zj4 o t k x hx]
    by_cases e : t = x.Team
    ·rw [if_pos e, if_pos e.symm, e]
    ·rw [if_neg e, if_neg (fun q => e q.symm), hL t, Int.add_zero]
   ·dsimp only; omega
  ·try simp at h2
   have hnk : o.length ≤ k := by omega
   obtain rfl : k = o.length := by omega
   rw [List.take_length] at hL
   refine zN ?_
   refine zT ?_
   refine za3 ?_
   refine zD ?_
   refine zf ?_
   refine zb ?_
   refine dq (ze zqx rfl rfl rfl) ?_
   refine dq ((by first | exact zaq rfl | exact zW rfl)) ?_
   refine dq (zc z7 rfl zG (by decide) rfl) ?_
   refine dq (ze zG rfl rfl rfl) ?_
   refine dq (zcx rfl rfl) ?_
   refine de rfl (ziQ (hs' := [eSs m.Teams, .fn (.func 128) [] [.vptr [hsm L] 0, .vptr [.vptr (zm (zbr m)) 0] 0]]) zvb rfl ⟨.refl, .fnL ⟨.vptrL ⟨.map (i := 0) rfl, trivial⟩, .refl, trivial⟩, trivial⟩ (zd6 (p := fun t => out (zdc o t) m.Least m.Most) zuN (fun _ => zkp hL) ht) rfl ?_)
   refine dq (zao rfl) ?_
   refine das rfl ?_
   refine dn ?_
   refine zn ?_
   refine zbW Ghost.clear rfl ⟨?_, rfl⟩
   show HVal.bool _ = _
   rw [← zq4]

/-- benchwarmer/trade.CheckOwners -/
theorem zib [Tracks] {m : MarketS} {o : List OwnerS} (ht : m.Teams.length ≤ 1000000) (ho : o.length ≤ 1000000) : ConP Tryz.prog 46 [zbr m, zb4 o] (.int .i64 (zce m o)) := by
 refine Con.of_body Tryz.func46 rfl Tryz.ntmps46 rfl rfl ?_
 refine zb ?_
 refine dq (zaC rfl rfl) ?_
 refine das rfl ?_
 refine dn ?_
 refine zh ?_
 refine zb ?_
 refine dq (zV z7 rfl rfl rfl rfl) ?_
 refine dq (zq ca76 rfl (WeakL.refl _) (zia (by first | assumption | omega | (simp; omega) | simp_all))) ?_
 refine das rfl ?_
 refine dn ?_
 refine zb ?_
 refine dmv rfl ?_
 refine dq (zaM rfl rfl) ?_
 refine dn ?_
 refine zj rfl (fun h1 => ?_) (fun h2 => ?_)
 ·try simp at h1
  refine zb ?_
  refine dmv rfl ?_
  refine das rfl ?_
  refine dn ?_
  refine zn ?_
  refine zA rfl ?_
  show HVal.int .i64 _ = _
  first
  | (rw [zce, if_pos (by simpa using h1)]; done)
  | (rw [hE]; exact congrArg _ (zcu (by omega)))
  | (rw [hE, ← zcq (by omega) hg]; simp_all; done)
  | (rw [hE]
     refine congrArg _ (zaZ (e := 5) (by omega) hg (by decide) ?_)
     rw [zaQ, if_pos]
     simp_all
     done)
  | (rw [hE]
     refine congrArg _ (zaZ (e := 8) (by omega) hg (by decide) ?_)
     rw [zaQ, if_neg, if_pos]
     all_goals simp_all
     done)
  | (rw [hE]
     refine congrArg _ (zct (by omega) hg ?_ ?_ ?_)
     ·rw [zaQ, if_neg, if_neg] <;> simp_all
     ·simp_all
     ·simp_all)
 ·try simp at h2
  refine zk ?_
  refine zf ?_
  refine zh ?_
  have hz : zat m = 0 := by simpa using h2
  have hm := zqc hz
  have ht20 := hm.len
  have hE : zce m o = zcI m o := by rw [zce, if_neg (by simp [hz])]
  refine zb ?_
  refine dmv rfl ?_
  refine dq (zF zaV rfl) ?_
  refine dq (zai rfl rfl) ?_
  refine dn ?_
  refine zj rfl (fun h3 => ?_) (fun h4 => ?_)
  ·try simp at h3
   refine zb ?_
   refine das rfl ?_
   refine dn ?_
   refine zn ?_
   refine zA rfl ?_
   show HVal.int .i64 _ = _
   first
   | (rw [zce, if_pos (by simpa using h1)]; done)
   | (rw [hE]; exact congrArg _ (zcu (by omega)))
   | (rw [hE, ← zcq (by omega) hg]; simp_all; done)
   | (rw [hE]
      refine congrArg _ (zaZ (e := 5) (by omega) hg (by decide) ?_)
      rw [zaQ, if_pos]
      simp_all
      done)
   | (rw [hE]
      refine congrArg _ (zaZ (e := 8) (by omega) hg (by decide) ?_)
      rw [zaQ, if_neg, if_pos]
      all_goals simp_all
      done)
   | (rw [hE]
      refine congrArg _ (zct (by omega) hg ?_ ?_ ?_)
      ·rw [zaQ, if_neg, if_neg] <;> simp_all
      ·simp_all
      ·simp_all)
  ·try simp at h4
   refine zk ?_
   refine zf ?_
   refine zh ?_
   refine zb ?_
   refine dmv rfl ?_
   refine dq (zF zaV rfl) ?_
   refine dmv rfl ?_
   refine dn ?_
   refine zl ?_
   refine zZ [4, 6, 7, 18, 19, 20, 21, 22, 23, 24, 25, 26, 27, 28, 29, 30, 31, 32, 33, 34, 35, 36, 37, 38, 39, 40, 41, 42, 43, 44, 45, 46, 47] (fun (k : Nat) => [(18, .int .i64 k)]) (fun (k : Nat) => []) (fun (k : Nat) => k ≤ o.length ∧ (zdC m o = zca (zaQ m) zhJ zdf o k (o.drop k))) (fun (k : Nat) => o.length - k) (0) ?_ ?_ ?_ ?_
   ·exact ⟨Nat.zero_le _, rfl⟩
   ·exact ⟨rfl, trivial⟩
   ·exact List.Perm.refl _
   ·intro k hinv
    obtain ⟨hk, hg⟩ := hinv
    refine zb ?_
    refine dq (zO rfl rfl) ?_
    refine dn ?_
    refine zh ?_
    refine zj rfl (fun h5 => ?_) (fun h6 => ?_)
    ·try simp at h5
     obtain ⟨x, hx⟩ : ∃ x, o[k]? = some x := ⟨_, List.getElem?_eq_getElem h5⟩
     have hdx := zQ hx
     rw [hdx] at hg
     refine zk ?_
     refine zf ?_
     refine zh ?_
     refine zl ?_
     refine zb ?_
     refine dmv rfl ?_
     refine dq (zJ zaV zae rfl rfl rfl (by first | assumption | simp_all)) ?_
     refine dq (zV zae rfl rfl rfl rfl) ?_
     refine de rfl (zX zae rfl fun b7 => ?_)
     refine das rfl ?_
     refine de0 (zag zae rfl rfl rfl rfl rfl ?_)
     refine dn ?_
     refine zI (Ghost.fc0 7 rfl) ?_
     refine zl ?_
     refine zb ?_
     refine dq (zc zae rfl ty9 (by decide) rfl) ?_
     refine dq (ze ty9 rfl rfl rfl) ?_
     refine dq (zq zf9 rfl (WeakL.refl _) zbZ) ?_
     refine dq (zao rfl) ?_
     refine das rfl ?_
     refine dn ?_
     refine zj rfl (fun h7 => ?_) (fun h8 => ?_)
     ·try simp at h7
      refine zb ?_
      refine das rfl ?_
      refine dn ?_
      refine zn ?_
      refine zA rfl ?_
      show HVal.int .i64 _ = _
      first
      | (rw [zce, if_pos (by simpa using h1)]; done)
      | (rw [hE]; exact congrArg _ (zcu (by omega)))
      | (rw [hE, ← zcq (by omega) hg]; simp_all; done)
      | (rw [hE]
         refine congrArg _ (zaZ (e := 5) (by omega) hg (by decide) ?_)
         rw [zaQ, if_pos]
         simp_all
         done)
      | (rw [hE]
         refine congrArg _ (zaZ (e := 8) (by omega) hg (by decide) ?_)
         rw [zaQ, if_neg, if_pos]
         all_goals simp_all
         done)
      | (rw [hE]
         refine congrArg _ (zct (by omega) hg ?_ ?_ ?_)
         ·rw [zaQ, if_neg, if_neg] <;> simp_all
         ·simp_all
         ·simp_all)
     ·try simp at h8
      refine zb ?_
      refine dq (zc zae rfl ty9 (by decide) rfl) ?_
      refine dq (ze ty9 rfl rfl rfl) ?_
      refine dq (zq ca78 rfl (WeakL.refl _) (zma hm)) ?_
      refine dq (zao rfl) ?_
      refine das rfl ?_
      refine dn ?_
      refine zj rfl (fun h9 => ?_) (fun h10 => ?_)
      ·try simp at h9
       refine zb ?_
       refine das rfl ?_
       refine dn ?_
       refine zn ?_
       refine zA rfl ?_
       show HVal.int .i64 _ = _
       first
       | (rw [zce, if_pos (by simpa using h1)]; done)
       | (rw [hE]; exact congrArg _ (zcu (by omega)))
       | (rw [hE, ← zcq (by omega) hg]; simp_all; done)
       | (rw [hE]
          refine congrArg _ (zaZ (e := 5) (by omega) hg (by decide) ?_)
          rw [zaQ, if_pos]
          simp_all
          done)
       | (rw [hE]
          refine congrArg _ (zaZ (e := 8) (by omega) hg (by decide) ?_)
          rw [zaQ, if_neg, if_pos]
          all_goals simp_all
          done)
       | (rw [hE]
          refine congrArg _ (zct (by omega) hg ?_ ?_ ?_)
          ·rw [zaQ, if_neg, if_neg] <;> simp_all
          ·simp_all
          ·simp_all)
      ·try simp at h10
       refine za9 (fun _ => True) [] mixed ?_
       refine ahp 0 rfl rfl (by kernel_rfl) (by kernel_rfl) (zg rfl) ?_
       refine ahp 1 rfl rfl (by kernel_rfl) (by kernel_rfl) (zai rfl rfl) ?_
       refine ahp 2 rfl rfl (by kernel_rfl) (by kernel_rfl) (zg rfl) ?_
       refine ahg 3 rfl rfl (by kernel_rfl) (by kernel_rfl) rfl (fun hc => ⟨_, OpenTo.refl _, zc zae rfl ty9 (by decide) rfl⟩) ?_
       refine ahg 4 rfl rfl (by kernel_rfl) (by kernel_rfl) rfl (fun hc => ⟨_, OpenTo.upd (t := 37) rfl (by first | exact hc | simp_all) (OpenTo.refl _), ze ty9 rfl rfl rfl⟩) ?_
       refine ahg 5 rfl rfl (by kernel_rfl) (by kernel_rfl) rfl (fun hc => ⟨_, OpenTo.refl _, zg rfl⟩) ?_
       refine ahg 6 rfl rfl (by kernel_rfl) (by kernel_rfl) rfl (fun hc => ⟨_, OpenTo.refl _, zg rfl⟩) ?_
       refine ahg 7 rfl rfl (by kernel_rfl) (by kernel_rfl) rfl (fun hc => by have hq := hc; (try simp at hq); exact ⟨_, OpenTo.upd (t := 40) rfl (by first | exact hc | simp_all) (OpenTo.refl _), zal rfl rfl (by omega) (by omega)⟩) ?_
       refine ahg 8 rfl rfl (by kernel_rfl) (by kernel_rfl) rfl (fun hc => by have hq := hc; (try simp at hq); exact ⟨_, OpenTo.upd (t := 41) rfl (by first | exact hc | simp_all) (OpenTo.upd (t := 39) rfl (by first | exact hc | simp_all) (OpenTo.refl _)), zJ (j := k - 1) (a := o.getD (k - 1) zdf) zaV zae rfl rfl (by omega) (getD_some (by omega))⟩) ?_
       refine ahg 9 rfl rfl (by kernel_rfl) (by kernel_rfl) rfl (fun hc => ⟨_, OpenTo.upd (t := 42) rfl (by first | exact hc | simp_all) (OpenTo.refl _), zc zae rfl ty9 (by decide) rfl⟩) ?_
       refine ahg 10 rfl rfl (by kernel_rfl) (by kernel_rfl) rfl (fun hc => ⟨_, OpenTo.upd (t := 43) rfl (by first | exact hc | simp_all) (OpenTo.refl _), ze ty9 rfl rfl rfl⟩) ?_
       refine ahg 11 rfl rfl (by kernel_rfl) (by kernel_rfl) rfl (fun hc => ⟨_, OpenTo.upd (t := 44) rfl (by first | exact hc | simp_all) (OpenTo.upd (t := 38) rfl (by first | exact hc | simp_all) (OpenTo.refl _)), zdv rfl rfl⟩) ?_
       refine ahp 12 rfl rfl (by kernel_rfl) (by kernel_rfl) (zB rfl (.inr ⟨_, rfl, fun h => by simp_all⟩) (.inl rfl)) ?_
       refine ahp 13 rfl rfl (by kernel_rfl) (by kernel_rfl) (zaW rfl) ?_
       refine ahz (by kernel_rfl) ?_
       refine zj rfl (fun h11 => ?_) (fun h12 => ?_)
       ·try simp at h11
        refine zb ?_
        refine das rfl ?_
        refine dn ?_
        refine zn ?_
        refine zA rfl ?_
        show HVal.int .i64 _ = _
        first
        | (rw [zce, if_pos (by simpa using h1)]; done)
        | (rw [hE]; exact congrArg _ (zcu (by omega)))
        | (rw [hE, ← zcq (by omega) hg]; simp_all; done)
        | (rw [hE]
           refine congrArg _ (zaZ (e := 5) (by omega) hg (by decide) ?_)
           rw [zaQ, if_pos]
           simp_all
           done)
        | (rw [hE]
           refine congrArg _ (zaZ (e := 8) (by omega) hg (by decide) ?_)
           rw [zaQ, if_neg, if_pos]
           all_goals simp_all
           done)
        | (rw [hE]
           refine congrArg _ (zct (by omega) hg ?_ ?_ ?_)
           ·rw [zaQ, if_neg, if_neg] <;> simp_all
           ·simp_all
           ·simp_all)
       ·try simp at h12
        refine zk ?_
        refine zz ?_
        refine zz ?_
        refine zf ?_
        refine zy ?_
        refine dq (zv rfl rfl (by omega) (by omega)) ?_
        refine dmv rfl ?_
        refine dn ?_
        refine ⟨k + 1, ?_, ?_, ⟨rfl, trivial⟩, (by repeat (first | exact zo | refine zt rfl ?_ | refine zp rfl rfl ?_)), List.Perm.refl _⟩
        ·refine ⟨by omega, ?_⟩
         rw [hg, zoR (by rw [zaQ, if_neg (by simp_all), if_neg (by simp_all)]) (by intro hk0; simp_all)]
        ·dsimp only; omega
    ·try simp at h6
     have hnk : o.length ≤ k := by omega
     obtain rfl : k = o.length := by omega
     rw [zad (Nat.le_refl _)] at hg
     refine zN ?_
     refine zT ?_
     refine zah ?_
     refine zD ?_
     refine zf ?_
     refine zh ?_
     refine zb ?_
     refine dmv rfl ?_
     refine dq (zq ca79 rfl (WeakL.refl _) (zl1 (by first | assumption | omega | (simp; omega) | simp_all) (by first | assumption | omega | (simp; omega) | simp_all))) ?_
     refine dq (zao rfl) ?_
     refine dn ?_
     refine zj rfl (fun h13 => ?_) (fun h14 => ?_)
     ·try simp at h13
      refine zb ?_
      refine das rfl ?_
      refine dn ?_
      refine zn ?_
      refine zA rfl ?_
      show HVal.int .i64 _ = _
      first
      | (rw [zce, if_pos (by simpa using h1)]; done)
      | (rw [hE]; exact congrArg _ (zcu (by omega)))
      | (rw [hE, ← zcq (by omega) hg]; simp_all; done)
      | (rw [hE]
         refine congrArg _ (zaZ (e := 5) (by omega) hg (by decide) ?_)
         rw [zaQ, if_pos]
         simp_all
         done)
      | (rw [hE]
         refine congrArg _ (zaZ (e := 8) (by omega) hg (by decide) ?_)
         rw [zaQ, if_neg, if_pos]
         all_goals simp_all
         done)
      | (rw [hE]
         refine congrArg _ (zct (by omega) hg ?_ ?_ ?_)
         ·rw [zaQ, if_neg, if_neg] <;> simp_all
         ·simp_all
         ·simp_all)
     ·try simp at h14
      refine zk ?_
      refine zf ?_
      refine zb ?_
      refine das rfl ?_
      refine dn ?_
      refine zn ?_
      refine zA rfl ?_
      show HVal.int .i64 _ = _
      first
      | (rw [zce, if_pos (by simpa using h1)]; done)
      | (rw [hE]; exact congrArg _ (zcu (by omega)))
      | (rw [hE, ← zcq (by omega) hg]; simp_all; done)
      | (rw [hE]
         refine congrArg _ (zaZ (e := 5) (by omega) hg (by decide) ?_)
         rw [zaQ, if_pos]
         simp_all
         done)
      | (rw [hE]
         refine congrArg _ (zaZ (e := 8) (by omega) hg (by decide) ?_)
         rw [zaQ, if_neg, if_pos]
         all_goals simp_all
         done)
      | (rw [hE]
         refine congrArg _ (zct (by omega) hg ?_ ?_ ?_)
         ·rw [zaQ, if_neg, if_neg] <;> simp_all
         ·simp_all
         ·simp_all)

end
section
open Go.HL
/-- benchwarmer/benchref1.MarketFault -/
theorem zgx [Tracks] {m : MarketS} (ht : m.Teams.length ≤ 1000000) (hs : ∀ s ∈ m.Teams, s.length ≤ 1000000) : ConP Tryz.prog 8 [zbr m] (.int .i64 (zat m)) := by
 refine Con.of_body Tryz.func8 rfl Tryz.ntmps8 rfl rfl ?_
 refine zb ?_
 refine dq (zaC rfl rfl) ?_
 refine das rfl ?_
 refine dn ?_
 refine zh ?_
 refine zl ?_
 refine zb ?_
 refine dq (zc z7 rfl zG (by decide) rfl) ?_
 refine dq (ze zG rfl rfl rfl) ?_
 refine dq (zF zG rfl) ?_
 refine dq (zaA rfl rfl) ?_
 refine das rfl ?_
 refine dn ?_
 refine zj rfl (fun h1 => ?_) (fun h2 => ?_)
 ·try simp at h1
  refine zb ?_
  refine das rfl ?_
  refine dn ?_
  refine zn ?_
  refine zA rfl ?_
  show HVal.int .i64 _ = _
  first
  | (rw [zat, if_pos (by simpa using h1)]; done)
  | (rw [zat, if_neg (by simpa using h2), if_pos (by omega)]; done)
  | (rw [zat, if_neg (by simpa using h2), if_neg (by omega), hg]; simp_all [za8, leS]; done)
 ·try simp at h2
  refine zb ?_
  refine dq (zc z7 rfl zG (by decide) rfl) ?_
  refine dq (ze zG rfl rfl rfl) ?_
  refine dq (zF zG rfl) ?_
  refine dq (zai rfl rfl) ?_
  refine das rfl ?_
  refine dn ?_
  refine zj rfl (fun h3 => ?_) (fun h4 => ?_)
  ·try simp at h3
   refine zb ?_
   refine das rfl ?_
   refine dn ?_
   refine zn ?_
   refine zA rfl ?_
   show HVal.int .i64 _ = _
   first
   | (rw [zat, if_pos (by simpa using h1)]; done)
   | (rw [zat, if_neg (by simpa using h2), if_pos (by omega)]; done)
   | (rw [zat, if_neg (by simpa using h2), if_neg (by omega), hg]; simp_all [za8, leS]; done)
  ·try simp at h4
   refine zk ?_
   refine zz ?_
   refine zf ?_
   refine zh ?_
   refine zb ?_
   refine dq (zc z7 rfl zG (by decide) rfl) ?_
   refine dq (ze zG rfl rfl rfl) ?_
   refine dq (zF zG rfl) ?_
   refine dmv rfl ?_
   refine dn ?_
   refine zl ?_
   refine zZ [2, 3, 4, 18, 19, 20, 21, 22, 23, 24, 25, 26, 27, 28, 29, 30, 31, 32, 33, 34, 35, 36, 37, 38, 39, 40] (fun (k : Nat) => [(18, .int .i64 k)]) (fun (k : Nat) => []) (fun (k : Nat) => k ≤ m.Teams.length ∧ (zeb m.Teams = za8 m.Teams k (m.Teams.drop k))) (fun (k : Nat) => m.Teams.length - k) (0) ?_ ?_ ?_ ?_
   ·exact ⟨Nat.zero_le _, rfl⟩
   ·exact ⟨rfl, trivial⟩
   ·exact List.Perm.refl _
   ·intro k hinv
    obtain ⟨hk, hg⟩ := hinv
    refine zb ?_
    refine dq (zO rfl rfl) ?_
    refine dn ?_
    refine zh ?_
    refine zj rfl (fun h5 => ?_) (fun h6 => ?_)
    ·try simp at h5
     obtain ⟨x, hx⟩ : ∃ x, m.Teams[k]? = some x := ⟨_, List.getElem?_eq_getElem h5⟩
     have hdx := zQ hx
     rw [hdx] at hg
     refine zk ?_
     refine zf ?_
     refine zh ?_
     refine zl ?_
     refine zb ?_
     refine dmv rfl ?_
     refine dq (zJ zG ty9 rfl rfl rfl (by first | assumption | simp_all)) ?_
     refine dq (ze ty9 rfl rfl rfl) ?_
     refine das rfl ?_
     refine das rfl ?_
     refine dn ?_
     refine zl ?_
     refine zb ?_
     refine dmv rfl ?_
     refine dq (zq zsq rfl (WeakL.refl _) (ze6 (hs x (List.mem_of_getElem? hx)))) ?_
     refine dq (zao rfl) ?_
     refine das rfl ?_
     refine dn ?_
     refine zj rfl (fun h7 => ?_) (fun h8 => ?_)
     ·try simp at h7
      refine zb ?_
      refine das rfl ?_
      refine dn ?_
      refine zn ?_
      refine zA rfl ?_
      show HVal.int .i64 _ = _
      first
      | (rw [zat, if_pos (by simpa using h1)]; done)
      | (rw [zat, if_neg (by simpa using h2), if_pos (by omega)]; done)
      | (rw [zat, if_neg (by simpa using h2), if_neg (by omega), hg]; simp_all [za8, leS]; done)
     ·try simp at h8
      refine zb ?_
      refine dmv rfl ?_
      refine dq (zai rfl rfl) ?_
      refine dmv rfl ?_
      refine dg rfl rfl (fun hc => ⟨_, OpenTo.refl _, zg rfl⟩) ?_
      refine dg rfl rfl (fun hc => ⟨_, OpenTo.refl _, zc z7 rfl zG (by decide) rfl⟩) ?_
      refine dg rfl rfl (fun hc => ⟨_, OpenTo.upd (t := 32) rfl (by first | exact hc | simp_all) (OpenTo.refl _), ze zG rfl rfl rfl⟩) ?_
      refine dg rfl rfl (fun hc => ⟨_, OpenTo.refl _, zg rfl⟩) ?_
      refine dg rfl rfl (fun hc => by have hq := hc; (try simp at hq); exact ⟨_, OpenTo.upd (t := 34) rfl (by first | exact hc | simp_all) (OpenTo.refl _), zal rfl rfl (by omega) (by omega)⟩) ?_
      refine dg rfl rfl (fun hc => by have hq := hc; (try simp at hq); exact ⟨_, OpenTo.upd (t := 35) rfl (by first | exact hc | simp_all) (OpenTo.upd (t := 33) rfl (by first | exact hc | simp_all) (OpenTo.refl _)), zJ (j := k - 1) (a := m.Teams.getD (k - 1) []) zG ty9 rfl rfl (by omega) (getD_some (by omega))⟩) ?_
      refine dg rfl rfl (fun hc => ⟨_, OpenTo.upd (t := 36) rfl (by first | exact hc | simp_all) (OpenTo.refl _), ze ty9 rfl rfl rfl⟩) ?_
      refine dg rfl rfl (fun hc => ⟨_, OpenTo.upd (t := 37) rfl (by first | exact hc | simp_all) (OpenTo.upd (t := 31) rfl (by first | exact hc | simp_all) (OpenTo.refl _)), zdv rfl rfl⟩) ?_
      refine dq (zB rfl (.inr ⟨_, rfl, fun h => by simp_all⟩) (.inl rfl)) ?_
      refine das rfl ?_
      refine dn ?_
      refine zj rfl (fun h9 => ?_) (fun h10 => ?_)
      ·try simp at h9
       refine zb ?_
       refine das rfl ?_
       refine dn ?_
       refine zn ?_
       refine zA rfl ?_
       show HVal.int .i64 _ = _
       first
       | (rw [zat, if_pos (by simpa using h1)]; done)
       | (rw [zat, if_neg (by simpa using h2), if_pos (by omega)]; done)
       | (rw [zat, if_neg (by simpa using h2), if_neg (by omega), hg]; simp_all [za8, leS]; done)
      ·try simp at h10
       refine zk ?_
       refine zz ?_
       refine zz ?_
       refine zf ?_
       refine zy ?_
       refine dq (zv rfl rfl (by omega) (by omega)) ?_
       refine dmv rfl ?_
       refine dn ?_
       refine ⟨k + 1, ?_, ?_, ⟨rfl, trivial⟩, (by repeat (first | exact zo | refine zt rfl ?_ | refine zp rfl rfl ?_)), List.Perm.refl _⟩
       ·refine ⟨by omega, ?_⟩
        rw [hg]; simp_all [za8, leS]
       ·dsimp only; omega
    ·try simp at h6
     have hnk : m.Teams.length ≤ k := by omega
     obtain rfl : k = m.Teams.length := by omega
     rw [zad (Nat.le_refl _)] at hg
     refine zN ?_
     refine zT ?_
     refine zah ?_
     refine zD ?_
     refine zf ?_
     refine zh ?_
     refine zb ?_
     refine dq (zc z7 rfl ty3 (by decide) rfl) ?_
     refine dq (ze ty3 rfl rfl rfl) ?_
     refine dq (zq zlW rfl (WeakL.refl _) zcr) ?_
     refine dq (zao rfl) ?_
     refine dmv rfl ?_
     refine dg rfl rfl (fun hc => ⟨_, OpenTo.refl _, zc z7 rfl ty3 (by decide) rfl⟩) ?_
     refine dg rfl rfl (fun hc => ⟨_, OpenTo.upd (t := 46) rfl (by first | exact hc | simp_all) (OpenTo.refl _), ze ty3 rfl rfl rfl⟩) ?_
     refine dg rfl rfl (fun hc => ⟨_, OpenTo.upd (t := 47) rfl (by first | exact hc | simp_all) (OpenTo.refl _), zq zlW rfl (WeakL.refl _) zcr⟩) ?_
     refine dg rfl rfl (fun hc => ⟨_, OpenTo.upd (t := 48) rfl (by first | exact hc | simp_all) (OpenTo.refl _), zao rfl⟩) ?_
     refine dq (zB rfl (.inl rfl) (.inr ⟨_, rfl, fun h => by simp_all⟩)) ?_
     refine dmv rfl ?_
     refine dg rfl rfl (fun hc => ⟨_, OpenTo.refl _, zc z7 rfl ty3 (by decide) rfl⟩) ?_
     refine dg rfl rfl (fun hc => ⟨_, OpenTo.upd (t := 52) rfl (by first | exact hc | simp_all) (OpenTo.refl _), ze ty3 rfl rfl rfl⟩) ?_
     refine dg rfl rfl (fun hc => ⟨_, OpenTo.upd (t := 53) rfl (by first | exact hc | simp_all) (OpenTo.refl _), zq zlW rfl (WeakL.refl _) zcr⟩) ?_
     refine dg rfl rfl (fun hc => ⟨_, OpenTo.upd (t := 54) rfl (by first | exact hc | simp_all) (OpenTo.refl _), zao rfl⟩) ?_
     refine dq (zB rfl (.inl rfl) (.inr ⟨_, rfl, fun h => by simp_all⟩)) ?_
     refine dmv rfl ?_
     refine dg rfl rfl (fun hc => ⟨_, OpenTo.refl _, zc z7 rfl ty3 (by decide) rfl⟩) ?_
     refine dg rfl rfl (fun hc => ⟨_, OpenTo.upd (t := 58) rfl (by first | exact hc | simp_all) (OpenTo.refl _), ze ty3 rfl rfl rfl⟩) ?_
     refine dg rfl rfl (fun hc => ⟨_, OpenTo.refl _, zc z7 rfl ty3 (by decide) rfl⟩) ?_
     refine dg rfl rfl (fun hc => ⟨_, OpenTo.upd (t := 60) rfl (by first | exact hc | simp_all) (OpenTo.refl _), ze ty3 rfl rfl rfl⟩) ?_
     refine dg rfl rfl (fun hc => ⟨_, OpenTo.upd (t := 61) rfl (by first | exact hc | simp_all) (OpenTo.upd (t := 59) rfl (by first | exact hc | simp_all) (OpenTo.refl _)), zq zlW rfl (WeakL.refl _) zcr⟩) ?_
     refine dg rfl rfl (fun hc => ⟨_, OpenTo.upd (t := 62) rfl (by first | exact hc | simp_all) (OpenTo.refl _), zao rfl⟩) ?_
     refine dq (zB rfl (.inl rfl) (.inr ⟨_, rfl, fun h => by simp_all⟩)) ?_
     refine dmv rfl ?_
     refine dg rfl rfl (fun hc => ⟨_, OpenTo.refl _, zc z7 rfl ty3 (by decide) rfl⟩) ?_
     refine dg rfl rfl (fun hc => ⟨_, OpenTo.upd (t := 66) rfl (by first | exact hc | simp_all) (OpenTo.refl _), ze ty3 rfl rfl rfl⟩) ?_
     refine dg rfl rfl (fun hc => ⟨_, OpenTo.upd (t := 67) rfl (by first | exact hc | simp_all) (OpenTo.refl _), zai rfl rfl⟩) ?_
     refine dq (zB rfl (.inl rfl) (.inr ⟨_, rfl, fun h => by simp_all⟩)) ?_
     refine dn ?_
     refine zj rfl (fun h11 => ?_) (fun h12 => ?_)
     ·try simp at h11
      refine zb ?_
      refine das rfl ?_
      refine dn ?_
      refine zn ?_
      refine zA rfl ?_
      show HVal.int .i64 _ = _
      first
      | (rw [zat, if_pos (by simpa using h1)]; done)
      | (rw [zat, if_neg (by simpa using h2), if_pos (by omega)]; done)
      | (rw [zat, if_neg (by simpa using h2), if_neg (by omega), hg]; simp_all [za8, leS]; done)
     ·try simp at h12
      refine zk ?_
      refine zf ?_
      refine zb ?_
      refine das rfl ?_
      refine dn ?_
      refine zn ?_
      refine zA rfl ?_
      show HVal.int .i64 _ = _
      first
      | (rw [zat, if_pos (by simpa using h1)]; done)
      | (rw [zat, if_neg (by simpa using h2), if_pos (by omega)]; done)
      | (rw [zat, if_neg (by simpa using h2), if_neg (by omega), hg]; simp_all [za8, leS]; done)

/-- benchwarmer/benchref1.hasTeam -/
theorem zh9 [Tracks] {m : MarketS} {t : Str} (ht : m.Teams.length ≤ 1000000) : ConP Tryz.prog 43 [zbr m, .str t] (.bool (m.Teams.contains t)) := by
 refine Con.of_body Tryz.func43 rfl Tryz.ntmps43 rfl rfl ?_
 refine zb ?_
 refine dq (zaC rfl rfl) ?_
 refine das rfl ?_
 refine dn ?_
 refine zb ?_
 refine dq (zc z7 rfl zG (by decide) rfl) ?_
 refine dq (ze zG rfl rfl rfl) ?_
 refine dmv rfl ?_
 refine dq (zq zi8 rfl (WeakL.refl _) (zay (l := m.Teams) (s := t) (by omega))) ?_
 refine das rfl ?_
 refine dn ?_
 refine zn ?_
 refine zA rfl ?_
 rfl

/-- benchwarmer/benchref1.fits -/
theorem zka [Tracks] {m : MarketS} {o : List OwnerS} (ht : m.Teams.length ≤ 1000000) (ho : o.length ≤ 1000000) : ConP Tryz.prog 44 [zbr m, zb4 o] (.bool (zhs m o)) := by
 refine Con.of_body Tryz.func44 rfl Tryz.ntmps44 rfl rfl ?_
 refine zb ?_
 refine dq (zaC rfl rfl) ?_
 refine das rfl ?_
 refine dn ?_
 refine zh ?_
 refine zb ?_
 refine dq (zc z7 rfl zG (by decide) rfl) ?_
 refine dq (ze zG rfl rfl rfl) ?_
 refine dq (zF zG rfl) ?_
 refine dmv rfl ?_
 refine dn ?_
 refine zl ?_
 refine zZ [4, 6, 7, 9, 13, 14, 15, 16, 17, 18, 19, 20, 21, 22, 23, 24, 25, 26, 27, 28, 29, 30, 31, 32, 33, 34, 35, 36, 37] (fun (k : Nat) => [(13, .int .i64 k)]) (fun (k : Nat) => []) (fun (k : Nat) => k ≤ m.Teams.length ∧ (zhs m o = (m.Teams.drop k).all fun t => !(out (zdc o t) m.Least m.Most))) (fun (k : Nat) => m.Teams.length - k) (0) ?_ ?_ ?_ ?_
 ·exact ⟨Nat.zero_le _, rfl⟩
 ·exact ⟨rfl, trivial⟩
 ·exact List.Perm.refl _
 ·intro k hinv
  obtain ⟨hk, hg⟩ := hinv
  refine zb ?_
  refine dq (zO rfl rfl) ?_
  refine dn ?_
  refine zh ?_
  refine zj rfl (fun h1 => ?_) (fun h2 => ?_)
  ·try simp at h1
   obtain ⟨x, hx⟩ : ∃ x, m.Teams[k]? = some x := ⟨_, List.getElem?_eq_getElem h1⟩
   have hdx := zQ hx
   rw [hdx, List.all_cons] at hg
   refine zk ?_
   refine zf ?_
   refine zh ?_
   refine zl ?_
   refine zb ?_
   refine dq (zJ zG ty9 rfl rfl rfl (by first | assumption | simp_all)) ?_
   refine dq (ze ty9 rfl rfl rfl) ?_
   refine das rfl ?_
   refine dn ?_
   refine zb ?_
   refine das rfl ?_
   refine dn ?_
   refine zh ?_
   refine zb ?_
   refine dmv rfl ?_
   refine dq (zF zaV rfl) ?_
   refine dmv rfl ?_
   refine dn ?_
   refine zl ?_
   refine zZ [7, 9, 19, 20, 21, 22, 23, 24, 25, 26, 27, 28, 29] (fun (j : Nat) => [(19, .int .i64 j), (7, .int .i64 (zdc (o.take j) x))]) (fun (j : Nat) => []) (fun (j : Nat) => j ≤ o.length ∧ (True)) (fun (j : Nat) => o.length - j) (0) ?_ ?_ ?_ ?_
   ·exact ⟨Nat.zero_le _, trivial⟩
   ·exact ⟨rfl, rfl, trivial⟩
   ·exact List.Perm.refl _
   ·intro j hinv
    obtain ⟨hj, -⟩ := hinv
    refine zb ?_
    refine dq (zO rfl rfl) ?_
    refine dn ?_
    refine zh ?_
    refine zj rfl (fun h3 => ?_) (fun h4 => ?_)
    ·try simp at h3
     obtain ⟨y, hy⟩ : ∃ y, o[j]? = some y := ⟨_, List.getElem?_eq_getElem h3⟩
     have hdy := zQ hy
     refine zk ?_
     refine zf ?_
     refine zh ?_
     refine zl ?_
     refine zb ?_
     refine dq (zJ zaV zae rfl rfl rfl (by first | assumption | simp_all)) ?_
     refine dq (zV zae rfl rfl rfl rfl) ?_
     refine de rfl (zX zae rfl fun b9 => ?_)
     refine de0 (zag zae rfl rfl rfl rfl rfl ?_)
     refine dn ?_
     refine zI (Ghost.fc0 9 rfl) ?_
     refine zb ?_
     refine dq (zc zae rfl ty9 (by decide) rfl) ?_
     refine dq (ze ty9 rfl rfl rfl) ?_
     refine dmv rfl ?_
     refine dq (zaX rfl rfl) ?_
     refine dn ?_
     refine zj rfl (fun h5 => ?_) (fun h6 => ?_)
     ·try simp at h5
      refine zy ?_
      refine dmv rfl ?_
      have hcb := zpR (o.take j) x
      rw [List.length_take] at hcb
      refine dq (zv rfl rfl (by omega) (by omega)) ?_
      refine das rfl ?_
      refine dn ?_
      refine zz ?_
      refine zf ?_
      refine zy ?_
      refine dq (zv rfl rfl (by omega) (by omega)) ?_
      refine dmv rfl ?_
      refine dn ?_
      exact ⟨j + 1, ⟨by omega, trivial⟩, by dsimp only; omega, ⟨rfl, zbx (by rw [zj4 o x j y hy, if_pos (by simp_all)]), trivial⟩, (by repeat (first | exact zo | refine zt rfl ?_ | refine zp rfl rfl ?_)), List.Perm.refl _⟩
     ·try simp at h6
      refine zk ?_
      refine zz ?_
      refine zf ?_
      refine zy ?_
      refine dq (zv rfl rfl (by omega) (by omega)) ?_
      refine dmv rfl ?_
      refine dn ?_
      exact ⟨j + 1, ⟨by omega, trivial⟩, by dsimp only; omega, ⟨rfl, zbx (by rw [zj4 o x j y hy, if_neg (by simp_all), Int.add_zero]), trivial⟩, (by repeat (first | exact zo | refine zt rfl ?_ | refine zp rfl rfl ?_)), List.Perm.refl _⟩
    ·try simp at h4
     have hnj : o.length ≤ j := by omega
     obtain rfl : j = o.length := by omega
     rw [List.take_length]
     refine zN ?_
     refine zT ?_
     refine zah ?_
     refine zD ?_
     refine zf ?_
     refine zb ?_
     refine dmv rfl ?_
     refine dq (zc z7 rfl ty3 (by decide) rfl) ?_
     refine dq (ze ty3 rfl rfl rfl) ?_
     refine dq (zc z7 rfl ty3 (by decide) rfl) ?_
     refine dq (ze ty3 rfl rfl rfl) ?_
     refine dq (zq zlW rfl (WeakL.refl _) zcr) ?_
     refine dq (zao rfl) ?_
     refine dn ?_
     refine zj rfl (fun h7 => ?_) (fun h8 => ?_)
     ·try simp at h7
      refine zb ?_
      refine das rfl ?_
      refine dn ?_
      refine zn ?_
      refine zA rfl ?_
      show HVal.bool _ = _
      rw [hg]; simp_all
     ·try simp at h8
      refine zk ?_
      refine zz ?_
      refine zf ?_
      refine zy ?_
      refine dq (zv rfl rfl (by omega) (by omega)) ?_
      refine dmv rfl ?_
      refine dn ?_
      refine ⟨k + 1, ?_, ?_, ⟨rfl, trivial⟩, (by repeat (first | exact zo | refine zt rfl ?_ | refine zp rfl rfl ?_)), List.Perm.refl _⟩
      ·refine ⟨by omega, ?_⟩
       rw [hg]; simp_all
      ·dsimp only; omega
  ·try simp at h2
   have hnk : m.Teams.length ≤ k := by omega
   obtain rfl : k = m.Teams.length := by omega
   rw [zad (Nat.le_refl _)] at hg
   refine zN ?_
   refine zT ?_
   refine zah ?_
   refine zD ?_
   refine zf ?_
   refine zb ?_
   refine das rfl ?_
   refine dn ?_
   refine zn ?_
   refine zA rfl ?_
   show HVal.bool _ = _
   rw [hg]; simp_all

/-- benchwarmer/benchref1.OwnersFault -/
theorem zgv [Tracks] {m : MarketS} {o : List OwnerS} (ht : m.Teams.length ≤ 1000000) (ho : o.length ≤ 1000000) (hs : ∀ x ∈ o, x.Player.length ≤ 1000000) : ConP Tryz.prog 10 [zbr m, zb4 o] (.int .i64 (zcI m o)) := by
 refine Con.of_body Tryz.func10 rfl Tryz.ntmps10 rfl rfl ?_
 refine zb ?_
 refine dq (zaC rfl rfl) ?_
 refine das rfl ?_
 refine dn ?_
 refine zh ?_
 refine zb ?_
 refine dmv rfl ?_
 refine dq (zF zaV rfl) ?_
 refine dq (zai rfl rfl) ?_
 refine dn ?_
 refine zj rfl (fun h1 => ?_) (fun h2 => ?_)
 ·try simp at h1
  refine zb ?_
  refine das rfl ?_
  refine dn ?_
  refine zn ?_
  refine zA rfl ?_
  show HVal.int .i64 _ = _
  first
  | (exact congrArg _ (zcu (by omega)))
  | (rw [← zcq (by omega) hg]; simp_all; done)
  | (refine congrArg _ (zaZ (e := 5) (by omega) hg (by decide) ?_)
     rw [zaQ, if_pos]
     simp_all
     done)
  | (refine congrArg _ (zaZ (e := 8) (by omega) hg (by decide) ?_)
     rw [zaQ, if_neg, if_pos]
     all_goals simp_all
     done)
  | (refine congrArg _ (zct (by omega) hg ?_ ?_ ?_)
     ·rw [zaQ, if_neg, if_neg] <;> simp_all
     ·simp_all
     ·simp_all)
 ·try simp at h2
  refine zk ?_
  refine zf ?_
  refine zh ?_
  refine zb ?_
  refine dmv rfl ?_
  refine dq (zF zaV rfl) ?_
  refine dmv rfl ?_
  refine dn ?_
  refine zl ?_
  refine zZ [4, 5, 6, 12, 13, 14, 15, 16, 17, 18, 19, 20, 21, 22, 23, 24, 25, 26, 27, 28, 29, 30, 31, 32, 33, 34, 35, 36, 37, 38, 39, 40, 41, 42] (fun (k : Nat) => [(12, .int .i64 k)]) (fun (k : Nat) => []) (fun (k : Nat) => k ≤ o.length ∧ (zdC m o = zca (zaQ m) zhJ zdf o k (o.drop k))) (fun (k : Nat) => o.length - k) (0) ?_ ?_ ?_ ?_
  ·exact ⟨Nat.zero_le _, rfl⟩
  ·exact ⟨rfl, trivial⟩
  ·exact List.Perm.refl _
  ·intro k hinv
   obtain ⟨hk, hg⟩ := hinv
   refine zb ?_
   refine dq (zO rfl rfl) ?_
   refine dn ?_
   refine zh ?_
   refine zj rfl (fun h3 => ?_) (fun h4 => ?_)
   ·try simp at h3
    obtain ⟨x, hx⟩ : ∃ x, o[k]? = some x := ⟨_, List.getElem?_eq_getElem h3⟩
    have hdx := zQ hx
    rw [hdx] at hg
    refine zk ?_
    refine zf ?_
    refine zh ?_
    refine zl ?_
    refine zb ?_
    refine dmv rfl ?_
    refine dq (zJ zaV zae rfl rfl rfl (by first | assumption | simp_all)) ?_
    refine dq (zV zae rfl rfl rfl rfl) ?_
    refine de rfl (zX zae rfl fun b6 => ?_)
    refine das rfl ?_
    refine de0 (zag zae rfl rfl rfl rfl rfl ?_)
    refine dn ?_
    refine zI (Ghost.fc0 6 rfl) ?_
    refine zl ?_
    refine zb ?_
    refine dq (zc zae rfl ty9 (by decide) rfl) ?_
    refine dq (ze ty9 rfl rfl rfl) ?_
    refine dq (zq zsq rfl (WeakL.refl _) (ze6 (hs x (List.mem_of_getElem? hx)))) ?_
    refine dq (zao rfl) ?_
    refine das rfl ?_
    refine dn ?_
    refine zj rfl (fun h5 => ?_) (fun h6 => ?_)
    ·try simp at h5
     refine zb ?_
     refine das rfl ?_
     refine dn ?_
     refine zn ?_
     refine zA rfl ?_
     show HVal.int .i64 _ = _
     first
     | (exact congrArg _ (zcu (by omega)))
     | (rw [← zcq (by omega) hg]; simp_all; done)
     | (refine congrArg _ (zaZ (e := 5) (by omega) hg (by decide) ?_)
        rw [zaQ, if_pos]
        simp_all
        done)
     | (refine congrArg _ (zaZ (e := 8) (by omega) hg (by decide) ?_)
        rw [zaQ, if_neg, if_pos]
        all_goals simp_all
        done)
     | (refine congrArg _ (zct (by omega) hg ?_ ?_ ?_)
        ·rw [zaQ, if_neg, if_neg] <;> simp_all
        ·simp_all
        ·simp_all)
    ·try simp at h6
     refine zb ?_
     refine dq (zV z7 rfl rfl rfl rfl) ?_
     refine dq (zc zae rfl ty9 (by decide) rfl) ?_
     refine dq (ze ty9 rfl rfl rfl) ?_
     refine dq (zq ca43 rfl (WeakL.refl _) (zh9 (by first | assumption | omega | (simp; omega) | simp_all))) ?_
     refine dq (zao rfl) ?_
     refine das rfl ?_
     refine dn ?_
     refine zj rfl (fun h7 => ?_) (fun h8 => ?_)
     ·try simp at h7
      refine zb ?_
      refine das rfl ?_
      refine dn ?_
      refine zn ?_
      refine zA rfl ?_
      show HVal.int .i64 _ = _
      first
      | (exact congrArg _ (zcu (by omega)))
      | (rw [← zcq (by omega) hg]; simp_all; done)
      | (refine congrArg _ (zaZ (e := 5) (by omega) hg (by decide) ?_)
         rw [zaQ, if_pos]
         simp_all
         done)
      | (refine congrArg _ (zaZ (e := 8) (by omega) hg (by decide) ?_)
         rw [zaQ, if_neg, if_pos]
         all_goals simp_all
         done)
      | (refine congrArg _ (zct (by omega) hg ?_ ?_ ?_)
         ·rw [zaQ, if_neg, if_neg] <;> simp_all
         ·simp_all
         ·simp_all)
     ·try simp at h8
      refine za9 (fun _ => True) [] mixed ?_
      refine ahp 0 rfl rfl (by kernel_rfl) (by kernel_rfl) (zg rfl) ?_
      refine ahp 1 rfl rfl (by kernel_rfl) (by kernel_rfl) (zai rfl rfl) ?_
      refine ahp 2 rfl rfl (by kernel_rfl) (by kernel_rfl) (zg rfl) ?_
      refine ahg 3 rfl rfl (by kernel_rfl) (by kernel_rfl) rfl (fun hc => ⟨_, OpenTo.refl _, zc zae rfl ty9 (by decide) rfl⟩) ?_
      refine ahg 4 rfl rfl (by kernel_rfl) (by kernel_rfl) rfl (fun hc => ⟨_, OpenTo.upd (t := 32) rfl (by first | exact hc | simp_all) (OpenTo.refl _), ze ty9 rfl rfl rfl⟩) ?_
      refine ahg 5 rfl rfl (by kernel_rfl) (by kernel_rfl) rfl (fun hc => ⟨_, OpenTo.refl _, zg rfl⟩) ?_
      refine ahg 6 rfl rfl (by kernel_rfl) (by kernel_rfl) rfl (fun hc => ⟨_, OpenTo.refl _, zg rfl⟩) ?_
      refine ahg 7 rfl rfl (by kernel_rfl) (by kernel_rfl) rfl (fun hc => by have hq := hc; (try simp at hq); exact ⟨_, OpenTo.upd (t := 35) rfl (by first | exact hc | simp_all) (OpenTo.refl _), zal rfl rfl (by omega) (by omega)⟩) ?_
      refine ahg 8 rfl rfl (by kernel_rfl) (by kernel_rfl) rfl (fun hc => by have hq := hc; (try simp at hq); exact ⟨_, OpenTo.upd (t := 36) rfl (by first | exact hc | simp_all) (OpenTo.upd (t := 34) rfl (by first | exact hc | simp_all) (OpenTo.refl _)), zJ (j := k - 1) (a := o.getD (k - 1) zdf) zaV zae rfl rfl (by omega) (getD_some (by omega))⟩) ?_
      refine ahg 9 rfl rfl (by kernel_rfl) (by kernel_rfl) rfl (fun hc => ⟨_, OpenTo.upd (t := 37) rfl (by first | exact hc | simp_all) (OpenTo.refl _), zc zae rfl ty9 (by decide) rfl⟩) ?_
      refine ahg 10 rfl rfl (by kernel_rfl) (by kernel_rfl) rfl (fun hc => ⟨_, OpenTo.upd (t := 38) rfl (by first | exact hc | simp_all) (OpenTo.refl _), ze ty9 rfl rfl rfl⟩) ?_
      refine ahg 11 rfl rfl (by kernel_rfl) (by kernel_rfl) rfl (fun hc => ⟨_, OpenTo.upd (t := 39) rfl (by first | exact hc | simp_all) (OpenTo.upd (t := 33) rfl (by first | exact hc | simp_all) (OpenTo.refl _)), zdv rfl rfl⟩) ?_
      refine ahp 12 rfl rfl (by kernel_rfl) (by kernel_rfl) (zB rfl (.inr ⟨_, rfl, fun h => by simp_all⟩) (.inl rfl)) ?_
      refine ahp 13 rfl rfl (by kernel_rfl) (by kernel_rfl) (zaW rfl) ?_
      refine ahz (by kernel_rfl) ?_
      refine zj rfl (fun h9 => ?_) (fun h10 => ?_)
      ·try simp at h9
       refine zb ?_
       refine das rfl ?_
       refine dn ?_
       refine zn ?_
       refine zA rfl ?_
       show HVal.int .i64 _ = _
       first
       | (exact congrArg _ (zcu (by omega)))
       | (rw [← zcq (by omega) hg]; simp_all; done)
       | (refine congrArg _ (zaZ (e := 5) (by omega) hg (by decide) ?_)
          rw [zaQ, if_pos]
          simp_all
          done)
       | (refine congrArg _ (zaZ (e := 8) (by omega) hg (by decide) ?_)
          rw [zaQ, if_neg, if_pos]
          all_goals simp_all
          done)
       | (refine congrArg _ (zct (by omega) hg ?_ ?_ ?_)
          ·rw [zaQ, if_neg, if_neg] <;> simp_all
          ·simp_all
          ·simp_all)
      ·try simp at h10
       refine zk ?_
       refine zz ?_
       refine zz ?_
       refine zf ?_
       refine zy ?_
       refine dq (zv rfl rfl (by omega) (by omega)) ?_
       refine dmv rfl ?_
       refine dn ?_
       refine ⟨k + 1, ?_, ?_, ⟨rfl, trivial⟩, (by repeat (first | exact zo | refine zt rfl ?_ | refine zp rfl rfl ?_)), List.Perm.refl _⟩
       ·refine ⟨by omega, ?_⟩
        rw [hg, zoR (by rw [zaQ, if_neg (by simp_all), if_neg (by simp_all)]) (by intro hk0; simp_all)]
       ·dsimp only; omega
   ·try simp at h4
    have hnk : o.length ≤ k := by omega
    obtain rfl : k = o.length := by omega
    rw [zad (Nat.le_refl _)] at hg
    refine zN ?_
    refine zT ?_
    refine zah ?_
    refine zD ?_
    refine zf ?_
    refine zh ?_
    refine zb ?_
    refine dq (zV z7 rfl rfl rfl rfl) ?_
    refine dmv rfl ?_
    refine dq (zq ca44 rfl (WeakL.refl _) (zka (by first | assumption | omega | (simp; omega) | simp_all) (by first | assumption | omega | (simp; omega) | simp_all))) ?_
    refine dq (zao rfl) ?_
    refine dn ?_
    refine zj rfl (fun h11 => ?_) (fun h12 => ?_)
    ·try simp at h11
     refine zb ?_
     refine das rfl ?_
     refine dn ?_
     refine zn ?_
     refine zA rfl ?_
     show HVal.int .i64 _ = _
     first
     | (exact congrArg _ (zcu (by omega)))
     | (rw [← zcq (by omega) hg]; simp_all; done)
     | (refine congrArg _ (zaZ (e := 5) (by omega) hg (by decide) ?_)
        rw [zaQ, if_pos]
        simp_all
        done)
     | (refine congrArg _ (zaZ (e := 8) (by omega) hg (by decide) ?_)
        rw [zaQ, if_neg, if_pos]
        all_goals simp_all
        done)
     | (refine congrArg _ (zct (by omega) hg ?_ ?_ ?_)
        ·rw [zaQ, if_neg, if_neg] <;> simp_all
        ·simp_all
        ·simp_all)
    ·try simp at h12
     refine zk ?_
     refine zf ?_
     refine zb ?_
     refine das rfl ?_
     refine dn ?_
     refine zn ?_
     refine zA rfl ?_
     show HVal.int .i64 _ = _
     first
     | (exact congrArg _ (zcu (by omega)))
     | (rw [← zcq (by omega) hg]; simp_all; done)
     | (refine congrArg _ (zaZ (e := 5) (by omega) hg (by decide) ?_)
        rw [zaQ, if_pos]
        simp_all
        done)
     | (refine congrArg _ (zaZ (e := 8) (by omega) hg (by decide) ?_)
        rw [zaQ, if_neg, if_pos]
        all_goals simp_all
        done)
     | (refine congrArg _ (zct (by omega) hg ?_ ?_ ?_)
        ·rw [zaQ, if_neg, if_neg] <;> simp_all
        ·simp_all
        ·simp_all)
end
section
open Go.HL
set_option linter.unusedSimpArgs false
end
section
open Go.HL
set_option linter.unusedSimpArgs false
end
section
open Go.HL
set_option maxHeartbeats 2000000 in
/-- (*benchwarmer/benchmake.Stream).MarketOf -/
theorem zbH [Tracks] {b : Nat} {l : List Int} {a : Nat}  (ha : a ≤ 800000) : Con Tryz.prog 5 [pAt b] [St b l a] (fun x M' => ∃ m a', x = zbr m ∧ GoodM m ∧ a' ≤ a + 20 ∧ M' = [St b l a']) := by
 refine Con.of_bodyc Tryz.func5 rfl Tryz.ntmps5 rfl rfl ?_
 refine zb ?_
 refine de rfl (zX z7 rfl fun b2 => ?_)
 refine dn ?_
 refine zf3 [3, 4, 5, 6, 7, 8, 9, 10, 11, 12, 13, 14, 15, 16, 17, 18, 19, 20, 21, 22, 23] (fun (q : Nat × MarketS) => [(3, pAt q.1)]) (fun (q : Nat × MarketS) => [.cells q.1 (zm (zbr q.2)), .cells b2 [nilS, .int .i64 0, .int .i64 0, .int .i64 0, .int .i64 0, .int .i64 0], St b l (a + 6)]) (fun (q : Nat × MarketS) => (0 < q.2.Teams.length ∧ q.2.Teams.length ≤ 4) ∧ ∀ s ∈ q.2.Teams, s.length ≤ 10) ?_ ?_
 ·skip
  refine zbV (fun _ => True) [] mixed ?_
  refine ahp 0 rfl rfl (by kernel_rfl) (by kernel_rfl) (zK (hs := [_, _, _, _]) zG ty9 rfl rfl (by decide) (by decide) rfl) ?_
  refine ahp 1 rfl rfl (by kernel_rfl) (by kernel_rfl) (zg rfl) ?_
  refine ahp 4 rfl rfl (by kernel_rfl) (by kernel_rfl) (zg rfl) ?_
  refine ahp 5 rfl rfl (by kernel_rfl) (by kernel_rfl) (zK (hs := [_, _, _]) zU ty3 rfl rfl (by decide) (by decide) rfl) ?_
  refine ahp 7 rfl rfl (by kernel_rfl) (by kernel_rfl) (zg rfl) ?_
  refine ahp 8 rfl rfl (by kernel_rfl) (by kernel_rfl) (zK (hs := [_, _, _]) zU ty3 rfl rfl (by decide) (by decide) rfl) ?_
  refine ahp 10 rfl rfl (by kernel_rfl) (by kernel_rfl) (zg rfl) ?_
  refine ahp 11 rfl rfl (by kernel_rfl) (by kernel_rfl) (zK (hs := [_, _, _]) zU ty3 rfl rfl (by decide) (by decide) rfl) ?_
  refine ahp 13 rfl rfl (by kernel_rfl) (by kernel_rfl) (zg rfl) ?_
  refine ahp 14 rfl rfl (by kernel_rfl) (by kernel_rfl) (zK (hs := [_, _, _]) zU ty3 rfl rfl (by decide) (by decide) rfl) ?_
  refine ahp 16 rfl rfl (by kernel_rfl) (by kernel_rfl) (zg rfl) ?_
  refine ahp 17 rfl rfl (by kernel_rfl) (by kernel_rfl) (zK (hs := [_, _, _]) zU ty3 rfl rfl (by decide) (by decide) rfl) ?_
  refine zmo 2 20 rfl rfl (by kernel_rfl) ?_ ?_
  ·skip
   first
   | refine zH rfl (zi (i := 0) zfk rfl (WeakL.refl _) rfl (zak (by first | assumption | omega | (simp; omega) | simp_all) (by first | assumption | omega | (simp; omega) | simp_all) (by first | assumption | omega | (simp; omega) | simp_all) (by first | assumption | omega | (simp; omega) | simp_all)) ?_)
   | refine zH rfl (zi (i := 1) zfk rfl (WeakL.refl _) rfl (zak (by first | assumption | omega | (simp; omega) | simp_all) (by first | assumption | omega | (simp; omega) | simp_all) (by first | assumption | omega | (simp; omega) | simp_all) (by first | assumption | omega | (simp; omega) | simp_all)) ?_)
   | refine zH rfl (zi (i := 2) zfk rfl (WeakL.refl _) rfl (zak (by first | assumption | omega | (simp; omega) | simp_all) (by first | assumption | omega | (simp; omega) | simp_all) (by first | assumption | omega | (simp; omega) | simp_all) (by first | assumption | omega | (simp; omega) | simp_all)) ?_)
   | refine zH rfl (zi (i := 3) zfk rfl (WeakL.refl _) rfl (zak (by first | assumption | omega | (simp; omega) | simp_all) (by first | assumption | omega | (simp; omega) | simp_all) (by first | assumption | omega | (simp; omega) | simp_all) (by first | assumption | omega | (simp; omega) | simp_all)) ?_)
   rintro _ _ ⟨y6, rfl, hy6, rfl⟩
   refine ⟨fun _ => .inl trivial, ?_⟩
   refine ahp 3 rfl rfl (by kernel_rfl) (by kernel_rfl) (zdx (es := zbF) (f := HVal.str) (h := y6.toNat) zG ty9 rfl rfl ⟨_, _, rfl, by omega⟩ (by omega) (by simp [zbF]; omega)) ?_
   refine zmo 6 20 rfl rfl (by kernel_rfl) ?_ ?_
   ·skip
    first
    | refine zH rfl (zi (i := 0) zac rfl (WeakL.refl _) rfl (zd (L := [_, _, _]) (by first | assumption | omega | (simp; omega) | simp_all) (by first | assumption | omega | (simp; omega) | simp_all) (by first | assumption | omega | (simp; omega) | simp_all)) ?_)
    | refine zH rfl (zi (i := 1) zac rfl (WeakL.refl _) rfl (zd (L := [_, _, _]) (by first | assumption | omega | (simp; omega) | simp_all) (by first | assumption | omega | (simp; omega) | simp_all) (by first | assumption | omega | (simp; omega) | simp_all)) ?_)
    | refine zH rfl (zi (i := 2) zac rfl (WeakL.refl _) rfl (zd (L := [_, _, _]) (by first | assumption | omega | (simp; omega) | simp_all) (by first | assumption | omega | (simp; omega) | simp_all) (by first | assumption | omega | (simp; omega) | simp_all)) ?_)
    | refine zH rfl (zi (i := 3) zac rfl (WeakL.refl _) rfl (zd (L := [_, _, _]) (by first | assumption | omega | (simp; omega) | simp_all) (by first | assumption | omega | (simp; omega) | simp_all) (by first | assumption | omega | (simp; omega) | simp_all)) ?_)
    rintro _ _ ⟨y10, rfl, hy10, rfl⟩
    refine ⟨fun _ => .inl trivial, ?_⟩
    refine zmo 9 20 rfl rfl (by kernel_rfl) ?_ ?_
    ·skip
     first
     | refine zH rfl (zi (i := 0) zac rfl (WeakL.refl _) rfl (zd (L := [_, _, _]) (by first | assumption | omega | (simp; omega) | simp_all) (by first | assumption | omega | (simp; omega) | simp_all) (by first | assumption | omega | (simp; omega) | simp_all)) ?_)
     | refine zH rfl (zi (i := 1) zac rfl (WeakL.refl _) rfl (zd (L := [_, _, _]) (by first | assumption | omega | (simp; omega) | simp_all) (by first | assumption | omega | (simp; omega) | simp_all) (by first | assumption | omega | (simp; omega) | simp_all)) ?_)
     | refine zH rfl (zi (i := 2) zac rfl (WeakL.refl _) rfl (zd (L := [_, _, _]) (by first | assumption | omega | (simp; omega) | simp_all) (by first | assumption | omega | (simp; omega) | simp_all) (by first | assumption | omega | (simp; omega) | simp_all)) ?_)
     | refine zH rfl (zi (i := 3) zac rfl (WeakL.refl _) rfl (zd (L := [_, _, _]) (by first | assumption | omega | (simp; omega) | simp_all) (by first | assumption | omega | (simp; omega) | simp_all) (by first | assumption | omega | (simp; omega) | simp_all)) ?_)
     rintro _ _ ⟨y13, rfl, hy13, rfl⟩
     refine ⟨fun _ => .inl trivial, ?_⟩
     refine zmo 12 20 rfl rfl (by kernel_rfl) ?_ ?_
     ·skip
      first
      | refine zH rfl (zi (i := 0) zac rfl (WeakL.refl _) rfl (zd (L := [_, _, _]) (by first | assumption | omega | (simp; omega) | simp_all) (by first | assumption | omega | (simp; omega) | simp_all) (by first | assumption | omega | (simp; omega) | simp_all)) ?_)
      | refine zH rfl (zi (i := 1) zac rfl (WeakL.refl _) rfl (zd (L := [_, _, _]) (by first | assumption | omega | (simp; omega) | simp_all) (by first | assumption | omega | (simp; omega) | simp_all) (by first | assumption | omega | (simp; omega) | simp_all)) ?_)
      | refine zH rfl (zi (i := 2) zac rfl (WeakL.refl _) rfl (zd (L := [_, _, _]) (by first | assumption | omega | (simp; omega) | simp_all) (by first | assumption | omega | (simp; omega) | simp_all) (by first | assumption | omega | (simp; omega) | simp_all)) ?_)
      | refine zH rfl (zi (i := 3) zac rfl (WeakL.refl _) rfl (zd (L := [_, _, _]) (by first | assumption | omega | (simp; omega) | simp_all) (by first | assumption | omega | (simp; omega) | simp_all) (by first | assumption | omega | (simp; omega) | simp_all)) ?_)
      rintro _ _ ⟨y16, rfl, hy16, rfl⟩
      refine ⟨fun _ => .inl trivial, ?_⟩
      refine zmo 15 20 rfl rfl (by kernel_rfl) ?_ ?_
      ·skip
       first
       | refine zH rfl (zi (i := 0) zac rfl (WeakL.refl _) rfl (zd (L := [_, _, _]) (by first | assumption | omega | (simp; omega) | simp_all) (by first | assumption | omega | (simp; omega) | simp_all) (by first | assumption | omega | (simp; omega) | simp_all)) ?_)
       | refine zH rfl (zi (i := 1) zac rfl (WeakL.refl _) rfl (zd (L := [_, _, _]) (by first | assumption | omega | (simp; omega) | simp_all) (by first | assumption | omega | (simp; omega) | simp_all) (by first | assumption | omega | (simp; omega) | simp_all)) ?_)
       | refine zH rfl (zi (i := 2) zac rfl (WeakL.refl _) rfl (zd (L := [_, _, _]) (by first | assumption | omega | (simp; omega) | simp_all) (by first | assumption | omega | (simp; omega) | simp_all) (by first | assumption | omega | (simp; omega) | simp_all)) ?_)
       | refine zH rfl (zi (i := 3) zac rfl (WeakL.refl _) rfl (zd (L := [_, _, _]) (by first | assumption | omega | (simp; omega) | simp_all) (by first | assumption | omega | (simp; omega) | simp_all) (by first | assumption | omega | (simp; omega) | simp_all)) ?_)
       rintro _ _ ⟨y19, rfl, hy19, rfl⟩
       refine ⟨fun _ => .inl trivial, ?_⟩
       refine zmo 18 20 rfl rfl (by kernel_rfl) ?_ ?_
       ·skip
        first
        | refine zH rfl (zi (i := 0) zac rfl (WeakL.refl _) rfl (zd (L := [_, _, _]) (by first | assumption | omega | (simp; omega) | simp_all) (by first | assumption | omega | (simp; omega) | simp_all) (by first | assumption | omega | (simp; omega) | simp_all)) ?_)
        | refine zH rfl (zi (i := 1) zac rfl (WeakL.refl _) rfl (zd (L := [_, _, _]) (by first | assumption | omega | (simp; omega) | simp_all) (by first | assumption | omega | (simp; omega) | simp_all) (by first | assumption | omega | (simp; omega) | simp_all)) ?_)
        | refine zH rfl (zi (i := 2) zac rfl (WeakL.refl _) rfl (zd (L := [_, _, _]) (by first | assumption | omega | (simp; omega) | simp_all) (by first | assumption | omega | (simp; omega) | simp_all) (by first | assumption | omega | (simp; omega) | simp_all)) ?_)
        | refine zH rfl (zi (i := 3) zac rfl (WeakL.refl _) rfl (zd (L := [_, _, _]) (by first | assumption | omega | (simp; omega) | simp_all) (by first | assumption | omega | (simp; omega) | simp_all) (by first | assumption | omega | (simp; omega) | simp_all)) ?_)
        rintro _ _ ⟨y22, rfl, hy22, rfl⟩
        refine ⟨fun _ => .inl trivial, ?_⟩
        refine ahp 19 rfl rfl (by kernel_rfl) (by kernel_rfl) (zaG (cs := [_, _, _, _, _, _]) z7 zkv rfl) ?_
        refine ahe 20 rfl (by kernel_rfl) ?_
        refine zH rfl (zX z7 rfl fun b3 => ?_)
        refine ⟨fun _ => .inl trivial, ?_⟩
        refine ahe 21 rfl (by kernel_rfl) ?_
        first
        | refine zau (zx (i := 0) z7 rfl rfl rfl rfl rfl (Nat.le_of_ble_eq_true rfl) ?_)
        | refine zau (zx (i := 1) z7 rfl rfl rfl rfl rfl (Nat.le_of_ble_eq_true rfl) ?_)
        | refine zau (zx (i := 2) z7 rfl rfl rfl rfl rfl (Nat.le_of_ble_eq_true rfl) ?_)
        | refine zau (zx (i := 3) z7 rfl rfl rfl rfl rfl (Nat.le_of_ble_eq_true rfl) ?_)
        refine ⟨fun _ => .inl trivial, ?_⟩
        refine ahz (by kernel_rfl) ?_
        refine ⟨(b3, ⟨(zbF.take y6.toNat).drop 0, y10, y13, y16, y19, y22⟩), ?_, ⟨rfl, trivial⟩, (by repeat (first | exact zo | refine zt rfl ?_ | refine zp rfl rfl ?_)), ?_⟩
        ·exact ⟨⟨by simp [zbF]; omega, by simp [zbF]; omega⟩, fun s hs => zdT s (List.mem_of_mem_take (by simpa using hs))⟩
        ·repeat (first | exact List.Perm.nil | refine zS 0 rfl ?_ | refine zS 1 rfl ?_ | refine zS 2 rfl ?_ | refine zS 3 rfl ?_ | (refine zM 0 rfl ?hq ?_; (case hq => simp [z8, zm]; done)) | (refine zM 1 rfl ?hq ?_; (case hq => simp [z8, zm]; done)) | (refine zM 2 rfl ?hq ?_; (case hq => simp [z8, zm]; done)) | (refine zM 3 rfl ?hq ?_; (case hq => simp [z8, zm]; done)) | fail)
       ·skip
        refine zH rfl (zX z7 rfl fun b3 => ?_)
        refine ⟨fun _ => .inl trivial, ?_⟩
        refine ahe 18 rfl (by kernel_rfl) ?_
        first
        | refine zH rfl (zi (i := 0) zac rfl (WeakL.refl _) rfl (zd (L := [_, _, _]) (by first | assumption | omega | (simp; omega) | simp_all) (by first | assumption | omega | (simp; omega) | simp_all) (by first | assumption | omega | (simp; omega) | simp_all)) ?_)
        | refine zH rfl (zi (i := 1) zac rfl (WeakL.refl _) rfl (zd (L := [_, _, _]) (by first | assumption | omega | (simp; omega) | simp_all) (by first | assumption | omega | (simp; omega) | simp_all) (by first | assumption | omega | (simp; omega) | simp_all)) ?_)
        | refine zH rfl (zi (i := 2) zac rfl (WeakL.refl _) rfl (zd (L := [_, _, _]) (by first | assumption | omega | (simp; omega) | simp_all) (by first | assumption | omega | (simp; omega) | simp_all) (by first | assumption | omega | (simp; omega) | simp_all)) ?_)
        | refine zH rfl (zi (i := 3) zac rfl (WeakL.refl _) rfl (zd (L := [_, _, _]) (by first | assumption | omega | (simp; omega) | simp_all) (by first | assumption | omega | (simp; omega) | simp_all) (by first | assumption | omega | (simp; omega) | simp_all)) ?_)
        rintro _ _ ⟨y22, rfl, hy22, rfl⟩
        refine ⟨fun _ => .inl trivial, ?_⟩
        refine ahp 19 rfl rfl (by kernel_rfl) (by kernel_rfl) (zaG (cs := [_, _, _, _, _, _]) z7 zkv rfl) ?_
        refine ahe 21 rfl (by kernel_rfl) ?_
        first
        | refine zau (zx (i := 0) z7 rfl rfl rfl rfl rfl (Nat.le_of_ble_eq_true rfl) ?_)
        | refine zau (zx (i := 1) z7 rfl rfl rfl rfl rfl (Nat.le_of_ble_eq_true rfl) ?_)
        | refine zau (zx (i := 2) z7 rfl rfl rfl rfl rfl (Nat.le_of_ble_eq_true rfl) ?_)
        | refine zau (zx (i := 3) z7 rfl rfl rfl rfl rfl (Nat.le_of_ble_eq_true rfl) ?_)
        refine ⟨fun _ => .inl trivial, ?_⟩
        refine ahz (by kernel_rfl) ?_
        refine ⟨(b3, ⟨(zbF.take y6.toNat).drop 0, y10, y13, y16, y19, y22⟩), ?_, ⟨rfl, trivial⟩, (by repeat (first | exact zo | refine zt rfl ?_ | refine zp rfl rfl ?_)), ?_⟩
        ·exact ⟨⟨by simp [zbF]; omega, by simp [zbF]; omega⟩, fun s hs => zdT s (List.mem_of_mem_take (by simpa using hs))⟩
        ·repeat (first | exact List.Perm.nil | refine zS 0 rfl ?_ | refine zS 1 rfl ?_ | refine zS 2 rfl ?_ | refine zS 3 rfl ?_ | (refine zM 0 rfl ?hq ?_; (case hq => simp [z8, zm]; done)) | (refine zM 1 rfl ?hq ?_; (case hq => simp [z8, zm]; done)) | (refine zM 2 rfl ?hq ?_; (case hq => simp [z8, zm]; done)) | (refine zM 3 rfl ?hq ?_; (case hq => simp [z8, zm]; done)) | fail)
      ·skip
       refine zH rfl (zX z7 rfl fun b3 => ?_)
       refine ⟨fun _ => .inl trivial, ?_⟩
       refine ahe 15 rfl (by kernel_rfl) ?_
       first
       | refine zH rfl (zi (i := 0) zac rfl (WeakL.refl _) rfl (zd (L := [_, _, _]) (by first | assumption | omega | (simp; omega) | simp_all) (by first | assumption | omega | (simp; omega) | simp_all) (by first | assumption | omega | (simp; omega) | simp_all)) ?_)
       | refine zH rfl (zi (i := 1) zac rfl (WeakL.refl _) rfl (zd (L := [_, _, _]) (by first | assumption | omega | (simp; omega) | simp_all) (by first | assumption | omega | (simp; omega) | simp_all) (by first | assumption | omega | (simp; omega) | simp_all)) ?_)
       | refine zH rfl (zi (i := 2) zac rfl (WeakL.refl _) rfl (zd (L := [_, _, _]) (by first | assumption | omega | (simp; omega) | simp_all) (by first | assumption | omega | (simp; omega) | simp_all) (by first | assumption | omega | (simp; omega) | simp_all)) ?_)
       | refine zH rfl (zi (i := 3) zac rfl (WeakL.refl _) rfl (zd (L := [_, _, _]) (by first | assumption | omega | (simp; omega) | simp_all) (by first | assumption | omega | (simp; omega) | simp_all) (by first | assumption | omega | (simp; omega) | simp_all)) ?_)
       rintro _ _ ⟨y19, rfl, hy19, rfl⟩
       refine ⟨fun _ => .inl trivial, ?_⟩
       refine ahe 18 rfl (by kernel_rfl) ?_
       first
       | refine zH rfl (zi (i := 0) zac rfl (WeakL.refl _) rfl (zd (L := [_, _, _]) (by first | assumption | omega | (simp; omega) | simp_all) (by first | assumption | omega | (simp; omega) | simp_all) (by first | assumption | omega | (simp; omega) | simp_all)) ?_)
       | refine zH rfl (zi (i := 1) zac rfl (WeakL.refl _) rfl (zd (L := [_, _, _]) (by first | assumption | omega | (simp; omega) | simp_all) (by first | assumption | omega | (simp; omega) | simp_all) (by first | assumption | omega | (simp; omega) | simp_all)) ?_)
       | refine zH rfl (zi (i := 2) zac rfl (WeakL.refl _) rfl (zd (L := [_, _, _]) (by first | assumption | omega | (simp; omega) | simp_all) (by first | assumption | omega | (simp; omega) | simp_all) (by first | assumption | omega | (simp; omega) | simp_all)) ?_)
       | refine zH rfl (zi (i := 3) zac rfl (WeakL.refl _) rfl (zd (L := [_, _, _]) (by first | assumption | omega | (simp; omega) | simp_all) (by first | assumption | omega | (simp; omega) | simp_all) (by first | assumption | omega | (simp; omega) | simp_all)) ?_)
       rintro _ _ ⟨y22, rfl, hy22, rfl⟩
       refine ⟨fun _ => .inl trivial, ?_⟩
       refine ahp 19 rfl rfl (by kernel_rfl) (by kernel_rfl) (zaG (cs := [_, _, _, _, _, _]) z7 zkv rfl) ?_
       refine ahe 21 rfl (by kernel_rfl) ?_
       first
       | refine zau (zx (i := 0) z7 rfl rfl rfl rfl rfl (Nat.le_of_ble_eq_true rfl) ?_)
       | refine zau (zx (i := 1) z7 rfl rfl rfl rfl rfl (Nat.le_of_ble_eq_true rfl) ?_)
       | refine zau (zx (i := 2) z7 rfl rfl rfl rfl rfl (Nat.le_of_ble_eq_true rfl) ?_)
       | refine zau (zx (i := 3) z7 rfl rfl rfl rfl rfl (Nat.le_of_ble_eq_true rfl) ?_)
       refine ⟨fun _ => .inl trivial, ?_⟩
       refine ahz (by kernel_rfl) ?_
       refine ⟨(b3, ⟨(zbF.take y6.toNat).drop 0, y10, y13, y16, y19, y22⟩), ?_, ⟨rfl, trivial⟩, (by repeat (first | exact zo | refine zt rfl ?_ | refine zp rfl rfl ?_)), ?_⟩
       ·exact ⟨⟨by simp [zbF]; omega, by simp [zbF]; omega⟩, fun s hs => zdT s (List.mem_of_mem_take (by simpa using hs))⟩
       ·repeat (first | exact List.Perm.nil | refine zS 0 rfl ?_ | refine zS 1 rfl ?_ | refine zS 2 rfl ?_ | refine zS 3 rfl ?_ | (refine zM 0 rfl ?hq ?_; (case hq => simp [z8, zm]; done)) | (refine zM 1 rfl ?hq ?_; (case hq => simp [z8, zm]; done)) | (refine zM 2 rfl ?hq ?_; (case hq => simp [z8, zm]; done)) | (refine zM 3 rfl ?hq ?_; (case hq => simp [z8, zm]; done)) | fail)
     ·skip
      refine zH rfl (zX z7 rfl fun b3 => ?_)
      refine ⟨fun _ => .inl trivial, ?_⟩
      refine ahe 12 rfl (by kernel_rfl) ?_
      first
      | refine zH rfl (zi (i := 0) zac rfl (WeakL.refl _) rfl (zd (L := [_, _, _]) (by first | assumption | omega | (simp; omega) | simp_all) (by first | assumption | omega | (simp; omega) | simp_all) (by first | assumption | omega | (simp; omega) | simp_all)) ?_)
      | refine zH rfl (zi (i := 1) zac rfl (WeakL.refl _) rfl (zd (L := [_, _, _]) (by first | assumption | omega | (simp; omega) | simp_all) (by first | assumption | omega | (simp; omega) | simp_all) (by first | assumption | omega | (simp; omega) | simp_all)) ?_)
      | refine zH rfl (zi (i := 2) zac rfl (WeakL.refl _) rfl (zd (L := [_, _, _]) (by first | assumption | omega | (simp; omega) | simp_all) (by first | assumption | omega | (simp; omega) | simp_all) (by first | assumption | omega | (simp; omega) | simp_all)) ?_)
      | refine zH rfl (zi (i := 3) zac rfl (WeakL.refl _) rfl (zd (L := [_, _, _]) (by first | assumption | omega | (simp; omega) | simp_all) (by first | assumption | omega | (simp; omega) | simp_all) (by first | assumption | omega | (simp; omega) | simp_all)) ?_)
      rintro _ _ ⟨y16, rfl, hy16, rfl⟩
      refine ⟨fun _ => .inl trivial, ?_⟩
      refine ahe 15 rfl (by kernel_rfl) ?_
      first
      | refine zH rfl (zi (i := 0) zac rfl (WeakL.refl _) rfl (zd (L := [_, _, _]) (by first | assumption | omega | (simp; omega) | simp_all) (by first | assumption | omega | (simp; omega) | simp_all) (by first | assumption | omega | (simp; omega) | simp_all)) ?_)
      | refine zH rfl (zi (i := 1) zac rfl (WeakL.refl _) rfl (zd (L := [_, _, _]) (by first | assumption | omega | (simp; omega) | simp_all) (by first | assumption | omega | (simp; omega) | simp_all) (by first | assumption | omega | (simp; omega) | simp_all)) ?_)
      | refine zH rfl (zi (i := 2) zac rfl (WeakL.refl _) rfl (zd (L := [_, _, _]) (by first | assumption | omega | (simp; omega) | simp_all) (by first | assumption | omega | (simp; omega) | simp_all) (by first | assumption | omega | (simp; omega) | simp_all)) ?_)
      | refine zH rfl (zi (i := 3) zac rfl (WeakL.refl _) rfl (zd (L := [_, _, _]) (by first | assumption | omega | (simp; omega) | simp_all) (by first | assumption | omega | (simp; omega) | simp_all) (by first | assumption | omega | (simp; omega) | simp_all)) ?_)
      rintro _ _ ⟨y19, rfl, hy19, rfl⟩
      refine ⟨fun _ => .inl trivial, ?_⟩
      refine ahe 18 rfl (by kernel_rfl) ?_
      first
      | refine zH rfl (zi (i := 0) zac rfl (WeakL.refl _) rfl (zd (L := [_, _, _]) (by first | assumption | omega | (simp; omega) | simp_all) (by first | assumption | omega | (simp; omega) | simp_all) (by first | assumption | omega | (simp; omega) | simp_all)) ?_)
      | refine zH rfl (zi (i := 1) zac rfl (WeakL.refl _) rfl (zd (L := [_, _, _]) (by first | assumption | omega | (simp; omega) | simp_all) (by first | assumption | omega | (simp; omega) | simp_all) (by first | assumption | omega | (simp; omega) | simp_all)) ?_)
      | refine zH rfl (zi (i := 2) zac rfl (WeakL.refl _) rfl (zd (L := [_, _, _]) (by first | assumption | omega | (simp; omega) | simp_all) (by first | assumption | omega | (simp; omega) | simp_all) (by first | assumption | omega | (simp; omega) | simp_all)) ?_)
      | refine zH rfl (zi (i := 3) zac rfl (WeakL.refl _) rfl (zd (L := [_, _, _]) (by first | assumption | omega | (simp; omega) | simp_all) (by first | assumption | omega | (simp; omega) | simp_all) (by first | assumption | omega | (simp; omega) | simp_all)) ?_)
      rintro _ _ ⟨y22, rfl, hy22, rfl⟩
      refine ⟨fun _ => .inl trivial, ?_⟩
      refine ahp 19 rfl rfl (by kernel_rfl) (by kernel_rfl) (zaG (cs := [_, _, _, _, _, _]) z7 zkv rfl) ?_
      refine ahe 21 rfl (by kernel_rfl) ?_
      first
      | refine zau (zx (i := 0) z7 rfl rfl rfl rfl rfl (Nat.le_of_ble_eq_true rfl) ?_)
      | refine zau (zx (i := 1) z7 rfl rfl rfl rfl rfl (Nat.le_of_ble_eq_true rfl) ?_)
      | refine zau (zx (i := 2) z7 rfl rfl rfl rfl rfl (Nat.le_of_ble_eq_true rfl) ?_)
      | refine zau (zx (i := 3) z7 rfl rfl rfl rfl rfl (Nat.le_of_ble_eq_true rfl) ?_)
      refine ⟨fun _ => .inl trivial, ?_⟩
      refine ahz (by kernel_rfl) ?_
      refine ⟨(b3, ⟨(zbF.take y6.toNat).drop 0, y10, y13, y16, y19, y22⟩), ?_, ⟨rfl, trivial⟩, (by repeat (first | exact zo | refine zt rfl ?_ | refine zp rfl rfl ?_)), ?_⟩
      ·exact ⟨⟨by simp [zbF]; omega, by simp [zbF]; omega⟩, fun s hs => zdT s (List.mem_of_mem_take (by simpa using hs))⟩
      ·repeat (first | exact List.Perm.nil | refine zS 0 rfl ?_ | refine zS 1 rfl ?_ | refine zS 2 rfl ?_ | refine zS 3 rfl ?_ | (refine zM 0 rfl ?hq ?_; (case hq => simp [z8, zm]; done)) | (refine zM 1 rfl ?hq ?_; (case hq => simp [z8, zm]; done)) | (refine zM 2 rfl ?hq ?_; (case hq => simp [z8, zm]; done)) | (refine zM 3 rfl ?hq ?_; (case hq => simp [z8, zm]; done)) | fail)
    ·skip
     refine zH rfl (zX z7 rfl fun b3 => ?_)
     refine ⟨fun _ => .inl trivial, ?_⟩
     refine ahe 9 rfl (by kernel_rfl) ?_
     first
     | refine zH rfl (zi (i := 0) zac rfl (WeakL.refl _) rfl (zd (L := [_, _, _]) (by first | assumption | omega | (simp; omega) | simp_all) (by first | assumption | omega | (simp; omega) | simp_all) (by first | assumption | omega | (simp; omega) | simp_all)) ?_)
     | refine zH rfl (zi (i := 1) zac rfl (WeakL.refl _) rfl (zd (L := [_, _, _]) (by first | assumption | omega | (simp; omega) | simp_all) (by first | assumption | omega | (simp; omega) | simp_all) (by first | assumption | omega | (simp; omega) | simp_all)) ?_)
     | refine zH rfl (zi (i := 2) zac rfl (WeakL.refl _) rfl (zd (L := [_, _, _]) (by first | assumption | omega | (simp; omega) | simp_all) (by first | assumption | omega | (simp; omega) | simp_all) (by first | assumption | omega | (simp; omega) | simp_all)) ?_)
     | refine zH rfl (zi (i := 3) zac rfl (WeakL.refl _) rfl (zd (L := [_, _, _]) (by first | assumption | omega | (simp; omega) | simp_all) (by first | assumption | omega | (simp; omega) | simp_all) (by first | assumption | omega | (simp; omega) | simp_all)) ?_)
     rintro _ _ ⟨y13, rfl, hy13, rfl⟩
     refine ⟨fun _ => .inl trivial, ?_⟩
     refine ahe 12 rfl (by kernel_rfl) ?_
     first
     | refine zH rfl (zi (i := 0) zac rfl (WeakL.refl _) rfl (zd (L := [_, _, _]) (by first | assumption | omega | (simp; omega) | simp_all) (by first | assumption | omega | (simp; omega) | simp_all) (by first | assumption | omega | (simp; omega) | simp_all)) ?_)
     | refine zH rfl (zi (i := 1) zac rfl (WeakL.refl _) rfl (zd (L := [_, _, _]) (by first | assumption | omega | (simp; omega) | simp_all) (by first | assumption | omega | (simp; omega) | simp_all) (by first | assumption | omega | (simp; omega) | simp_all)) ?_)
     | refine zH rfl (zi (i := 2) zac rfl (WeakL.refl _) rfl (zd (L := [_, _, _]) (by first | assumption | omega | (simp; omega) | simp_all) (by first | assumption | omega | (simp; omega) | simp_all) (by first | assumption | omega | (simp; omega) | simp_all)) ?_)
     | refine zH rfl (zi (i := 3) zac rfl (WeakL.refl _) rfl (zd (L := [_, _, _]) (by first | assumption | omega | (simp; omega) | simp_all) (by first | assumption | omega | (simp; omega) | simp_all) (by first | assumption | omega | (simp; omega) | simp_all)) ?_)
     rintro _ _ ⟨y16, rfl, hy16, rfl⟩
     refine ⟨fun _ => .inl trivial, ?_⟩
     refine ahe 15 rfl (by kernel_rfl) ?_
     first
     | refine zH rfl (zi (i := 0) zac rfl (WeakL.refl _) rfl (zd (L := [_, _, _]) (by first | assumption | omega | (simp; omega) | simp_all) (by first | assumption | omega | (simp; omega) | simp_all) (by first | assumption | omega | (simp; omega) | simp_all)) ?_)
     | refine zH rfl (zi (i := 1) zac rfl (WeakL.refl _) rfl (zd (L := [_, _, _]) (by first | assumption | omega | (simp; omega) | simp_all) (by first | assumption | omega | (simp; omega) | simp_all) (by first | assumption | omega | (simp; omega) | simp_all)) ?_)
     | refine zH rfl (zi (i := 2) zac rfl (WeakL.refl _) rfl (zd (L := [_, _, _]) (by first | assumption | omega | (simp; omega) | simp_all) (by first | assumption | omega | (simp; omega) | simp_all) (by first | assumption | omega | (simp; omega) | simp_all)) ?_)
     | refine zH rfl (zi (i := 3) zac rfl (WeakL.refl _) rfl (zd (L := [_, _, _]) (by first | assumption | omega | (simp; omega) | simp_all) (by first | assumption | omega | (simp; omega) | simp_all) (by first | assumption | omega | (simp; omega) | simp_all)) ?_)
     rintro _ _ ⟨y19, rfl, hy19, rfl⟩
     refine ⟨fun _ => .inl trivial, ?_⟩
     refine ahe 18 rfl (by kernel_rfl) ?_
     first
     | refine zH rfl (zi (i := 0) zac rfl (WeakL.refl _) rfl (zd (L := [_, _, _]) (by first | assumption | omega | (simp; omega) | simp_all) (by first | assumption | omega | (simp; omega) | simp_all) (by first | assumption | omega | (simp; omega) | simp_all)) ?_)
     | refine zH rfl (zi (i := 1) zac rfl (WeakL.refl _) rfl (zd (L := [_, _, _]) (by first | assumption | omega | (simp; omega) | simp_all) (by first | assumption | omega | (simp; omega) | simp_all) (by first | assumption | omega | (simp; omega) | simp_all)) ?_)
     | refine zH rfl (zi (i := 2) zac rfl (WeakL.refl _) rfl (zd (L := [_, _, _]) (by first | assumption | omega | (simp; omega) | simp_all) (by first | assumption | omega | (simp; omega) | simp_all) (by first | assumption | omega | (simp; omega) | simp_all)) ?_)
     | refine zH rfl (zi (i := 3) zac rfl (WeakL.refl _) rfl (zd (L := [_, _, _]) (by first | assumption | omega | (simp; omega) | simp_all) (by first | assumption | omega | (simp; omega) | simp_all) (by first | assumption | omega | (simp; omega) | simp_all)) ?_)
     rintro _ _ ⟨y22, rfl, hy22, rfl⟩
     refine ⟨fun _ => .inl trivial, ?_⟩
     refine ahp 19 rfl rfl (by kernel_rfl) (by kernel_rfl) (zaG (cs := [_, _, _, _, _, _]) z7 zkv rfl) ?_
     refine ahe 21 rfl (by kernel_rfl) ?_
     first
     | refine zau (zx (i := 0) z7 rfl rfl rfl rfl rfl (Nat.le_of_ble_eq_true rfl) ?_)
     | refine zau (zx (i := 1) z7 rfl rfl rfl rfl rfl (Nat.le_of_ble_eq_true rfl) ?_)
     | refine zau (zx (i := 2) z7 rfl rfl rfl rfl rfl (Nat.le_of_ble_eq_true rfl) ?_)
     | refine zau (zx (i := 3) z7 rfl rfl rfl rfl rfl (Nat.le_of_ble_eq_true rfl) ?_)
     refine ⟨fun _ => .inl trivial, ?_⟩
     refine ahz (by kernel_rfl) ?_
     refine ⟨(b3, ⟨(zbF.take y6.toNat).drop 0, y10, y13, y16, y19, y22⟩), ?_, ⟨rfl, trivial⟩, (by repeat (first | exact zo | refine zt rfl ?_ | refine zp rfl rfl ?_)), ?_⟩
     ·exact ⟨⟨by simp [zbF]; omega, by simp [zbF]; omega⟩, fun s hs => zdT s (List.mem_of_mem_take (by simpa using hs))⟩
     ·repeat (first | exact List.Perm.nil | refine zS 0 rfl ?_ | refine zS 1 rfl ?_ | refine zS 2 rfl ?_ | refine zS 3 rfl ?_ | (refine zM 0 rfl ?hq ?_; (case hq => simp [z8, zm]; done)) | (refine zM 1 rfl ?hq ?_; (case hq => simp [z8, zm]; done)) | (refine zM 2 rfl ?hq ?_; (case hq => simp [z8, zm]; done)) | (refine zM 3 rfl ?hq ?_; (case hq => simp [z8, zm]; done)) | fail)
   ·skip
    refine zH rfl (zX z7 rfl fun b3 => ?_)
    refine ⟨fun _ => .inl trivial, ?_⟩
    refine ahe 6 rfl (by kernel_rfl) ?_
    first
    | refine zH rfl (zi (i := 0) zac rfl (WeakL.refl _) rfl (zd (L := [_, _, _]) (by first | assumption | omega | (simp; omega) | simp_all) (by first | assumption | omega | (simp; omega) | simp_all) (by first | assumption | omega | (simp; omega) | simp_all)) ?_)
    | refine zH rfl (zi (i := 1) zac rfl (WeakL.refl _) rfl (zd (L := [_, _, _]) (by first | assumption | omega | (simp; omega) | simp_all) (by first | assumption | omega | (simp; omega) | simp_all) (by first | assumption | omega | (simp; omega) | simp_all)) ?_)
    | refine zH rfl (zi (i := 2) zac rfl (WeakL.refl _) rfl (zd (L := [_, _, _]) (by first | assumption | omega | (simp; omega) | simp_all) (by first | assumption | omega | (simp; omega) | simp_all) (by first | assumption | omega | (simp; omega) | simp_all)) ?_)
    | refine zH rfl (zi (i := 3) zac rfl (WeakL.refl _) rfl (zd (L := [_, _, _]) (by first | assumption | omega | (simp; omega) | simp_all) (by first | assumption | omega | (simp; omega) | simp_all) (by first | assumption | omega | (simp; omega) | simp_all)) ?_)
    rintro _ _ ⟨y10, rfl, hy10, rfl⟩
    refine ⟨fun _ => .inl trivial, ?_⟩
    refine ahe 9 rfl (by kernel_rfl) ?_
    first
    | refine zH rfl (zi (i := 0) zac rfl (WeakL.refl _) rfl (zd (L := [_, _, _]) (by first | assumption | omega | (simp; omega) | simp_all) (by first | assumption | omega | (simp; omega) | simp_all) (by first | assumption | omega | (simp; omega) | simp_all)) ?_)
    | refine zH rfl (zi (i := 1) zac rfl (WeakL.refl _) rfl (zd (L := [_, _, _]) (by first | assumption | omega | (simp; omega) | simp_all) (by first | assumption | omega | (simp; omega) | simp_all) (by first | assumption | omega | (simp; omega) | simp_all)) ?_)
    | refine zH rfl (zi (i := 2) zac rfl (WeakL.refl _) rfl (zd (L := [_, _, _]) (by first | assumption | omega | (simp; omega) | simp_all) (by first | assumption | omega | (simp; omega) | simp_all) (by first | assumption | omega | (simp; omega) | simp_all)) ?_)
    | refine zH rfl (zi (i := 3) zac rfl (WeakL.refl _) rfl (zd (L := [_, _, _]) (by first | assumption | omega | (simp; omega) | simp_all) (by first | assumption | omega | (simp; omega) | simp_all) (by first | assumption | omega | (simp; omega) | simp_all)) ?_)
    rintro _ _ ⟨y13, rfl, hy13, rfl⟩
    refine ⟨fun _ => .inl trivial, ?_⟩
    refine ahe 12 rfl (by kernel_rfl) ?_
    first
    | refine zH rfl (zi (i := 0) zac rfl (WeakL.refl _) rfl (zd (L := [_, _, _]) (by first | assumption | omega | (simp; omega) | simp_all) (by first | assumption | omega | (simp; omega) | simp_all) (by first | assumption | omega | (simp; omega) | simp_all)) ?_)
    | refine zH rfl (zi (i := 1) zac rfl (WeakL.refl _) rfl (zd (L := [_, _, _]) (by first | assumption | omega | (simp; omega) | simp_all) (by first | assumption | omega | (simp; omega) | simp_all) (by first | assumption | omega | (simp; omega) | simp_all)) ?_)
    | refine zH rfl (zi (i := 2) zac rfl (WeakL.refl _) rfl (zd (L := [_, _, _]) (by first | assumption | omega | (simp; omega) | simp_all) (by first | assumption | omega | (simp; omega) | simp_all) (by first | assumption | omega | (simp; omega) | simp_all)) ?_)
    | refine zH rfl (zi (i := 3) zac rfl (WeakL.refl _) rfl (zd (L := [_, _, _]) (by first | assumption | omega | (simp; omega) | simp_all) (by first | assumption | omega | (simp; omega) | simp_all) (by first | assumption | omega | (simp; omega) | simp_all)) ?_)
    rintro _ _ ⟨y16, rfl, hy16, rfl⟩
    refine ⟨fun _ => .inl trivial, ?_⟩
    refine ahe 15 rfl (by kernel_rfl) ?_
    first
    | refine zH rfl (zi (i := 0) zac rfl (WeakL.refl _) rfl (zd (L := [_, _, _]) (by first | assumption | omega | (simp; omega) | simp_all) (by first | assumption | omega | (simp; omega) | simp_all) (by first | assumption | omega | (simp; omega) | simp_all)) ?_)
    | refine zH rfl (zi (i := 1) zac rfl (WeakL.refl _) rfl (zd (L := [_, _, _]) (by first | assumption | omega | (simp; omega) | simp_all) (by first | assumption | omega | (simp; omega) | simp_all) (by first | assumption | omega | (simp; omega) | simp_all)) ?_)
    | refine zH rfl (zi (i := 2) zac rfl (WeakL.refl _) rfl (zd (L := [_, _, _]) (by first | assumption | omega | (simp; omega) | simp_all) (by first | assumption | omega | (simp; omega) | simp_all) (by first | assumption | omega | (simp; omega) | simp_all)) ?_)
    | refine zH rfl (zi (i := 3) zac rfl (WeakL.refl _) rfl (zd (L := [_, _, _]) (by first | assumption | omega | (simp; omega) | simp_all) (by first | assumption | omega | (simp; omega) | simp_all) (by first | assumption | omega | (simp; omega) | simp_all)) ?_)
    rintro _ _ ⟨y19, rfl, hy19, rfl⟩
    refine ⟨fun _ => .inl trivial, ?_⟩
    refine ahe 18 rfl (by kernel_rfl) ?_
    first
    | refine zH rfl (zi (i := 0) zac rfl (WeakL.refl _) rfl (zd (L := [_, _, _]) (by first | assumption | omega | (simp; omega) | simp_all) (by first | assumption | omega | (simp; omega) | simp_all) (by first | assumption | omega | (simp; omega) | simp_all)) ?_)
    | refine zH rfl (zi (i := 1) zac rfl (WeakL.refl _) rfl (zd (L := [_, _, _]) (by first | assumption | omega | (simp; omega) | simp_all) (by first | assumption | omega | (simp; omega) | simp_all) (by first | assumption | omega | (simp; omega) | simp_all)) ?_)
    | refine zH rfl (zi (i := 2) zac rfl (WeakL.refl _) rfl (zd (L := [_, _, _]) (by first | assumption | omega | (simp; omega) | simp_all) (by first | assumption | omega | (simp; omega) | simp_all) (by first | assumption | omega | (simp; omega) | simp_all)) ?_)
    | refine zH rfl (zi (i := 3) zac rfl (WeakL.refl _) rfl (zd (L := [_, _, _]) (by first | assumption | omega | (simp; omega) | simp_all) (by first | assumption | omega | (simp; omega) | simp_all) (by first | assumption | omega | (simp; omega) | simp_all)) ?_)
    rintro _ _ ⟨y22, rfl, hy22, rfl⟩
    refine ⟨fun _ => .inl trivial, ?_⟩
    refine ahp 19 rfl rfl (by kernel_rfl) (by kernel_rfl) (zaG (cs := [_, _, _, _, _, _]) z7 zkv rfl) ?_
    refine ahe 21 rfl (by kernel_rfl) ?_
    first
    | refine zau (zx (i := 0) z7 rfl rfl rfl rfl rfl (Nat.le_of_ble_eq_true rfl) ?_)
    | refine zau (zx (i := 1) z7 rfl rfl rfl rfl rfl (Nat.le_of_ble_eq_true rfl) ?_)
    | refine zau (zx (i := 2) z7 rfl rfl rfl rfl rfl (Nat.le_of_ble_eq_true rfl) ?_)
    | refine zau (zx (i := 3) z7 rfl rfl rfl rfl rfl (Nat.le_of_ble_eq_true rfl) ?_)
    refine ⟨fun _ => .inl trivial, ?_⟩
    refine ahz (by kernel_rfl) ?_
    refine ⟨(b3, ⟨(zbF.take y6.toNat).drop 0, y10, y13, y16, y19, y22⟩), ?_, ⟨rfl, trivial⟩, (by repeat (first | exact zo | refine zt rfl ?_ | refine zp rfl rfl ?_)), ?_⟩
    ·exact ⟨⟨by simp [zbF]; omega, by simp [zbF]; omega⟩, fun s hs => zdT s (List.mem_of_mem_take (by simpa using hs))⟩
    ·repeat (first | exact List.Perm.nil | refine zS 0 rfl ?_ | refine zS 1 rfl ?_ | refine zS 2 rfl ?_ | refine zS 3 rfl ?_ | (refine zM 0 rfl ?hq ?_; (case hq => simp [z8, zm]; done)) | (refine zM 1 rfl ?hq ?_; (case hq => simp [z8, zm]; done)) | (refine zM 2 rfl ?hq ?_; (case hq => simp [z8, zm]; done)) | (refine zM 3 rfl ?hq ?_; (case hq => simp [z8, zm]; done)) | fail)
  ·skip
   refine zH rfl (zX z7 rfl fun b3 => ?_)
   refine ⟨fun _ => .inl trivial, ?_⟩
   refine ahe 2 rfl (by kernel_rfl) ?_
   first
   | refine zH rfl (zi (i := 0) zfk rfl (WeakL.refl _) rfl (zak (by first | assumption | omega | (simp; omega) | simp_all) (by first | assumption | omega | (simp; omega) | simp_all) (by first | assumption | omega | (simp; omega) | simp_all) (by first | assumption | omega | (simp; omega) | simp_all)) ?_)
   | refine zH rfl (zi (i := 1) zfk rfl (WeakL.refl _) rfl (zak (by first | assumption | omega | (simp; omega) | simp_all) (by first | assumption | omega | (simp; omega) | simp_all) (by first | assumption | omega | (simp; omega) | simp_all) (by first | assumption | omega | (simp; omega) | simp_all)) ?_)
   | refine zH rfl (zi (i := 2) zfk rfl (WeakL.refl _) rfl (zak (by first | assumption | omega | (simp; omega) | simp_all) (by first | assumption | omega | (simp; omega) | simp_all) (by first | assumption | omega | (simp; omega) | simp_all) (by first | assumption | omega | (simp; omega) | simp_all)) ?_)
   | refine zH rfl (zi (i := 3) zfk rfl (WeakL.refl _) rfl (zak (by first | assumption | omega | (simp; omega) | simp_all) (by first | assumption | omega | (simp; omega) | simp_all) (by first | assumption | omega | (simp; omega) | simp_all) (by first | assumption | omega | (simp; omega) | simp_all)) ?_)
   rintro _ _ ⟨y6, rfl, hy6, rfl⟩
   refine ⟨fun _ => .inl trivial, ?_⟩
   refine ahp 3 rfl rfl (by kernel_rfl) (by kernel_rfl) (zdx (es := zbF) (f := HVal.str) (h := y6.toNat) zG ty9 rfl rfl ⟨_, _, rfl, by omega⟩ (by omega) (by simp [zbF]; omega)) ?_
   refine ahe 6 rfl (by kernel_rfl) ?_
   first
   | refine zH rfl (zi (i := 0) zac rfl (WeakL.refl _) rfl (zd (L := [_, _, _]) (by first | assumption | omega | (simp; omega) | simp_all) (by first | assumption | omega | (simp; omega) | simp_all) (by first | assumption | omega | (simp; omega) | simp_all)) ?_)
   | refine zH rfl (zi (i := 1) zac rfl (WeakL.refl _) rfl (zd (L := [_, _, _]) (by first | assumption | omega | (simp; omega) | simp_all) (by first | assumption | omega | (simp; omega) | simp_all) (by first | assumption | omega | (simp; omega) | simp_all)) ?_)
   | refine zH rfl (zi (i := 2) zac rfl (WeakL.refl _) rfl (zd (L := [_, _, _]) (by first | assumption | omega | (simp; omega) | simp_all) (by first | assumption | omega | (simp; omega) | simp_all) (by first | assumption | omega | (simp; omega) | simp_all)) ?_)
   | refine zH rfl (zi (i := 3) zac rfl (WeakL.refl _) rfl (zd (L := [_, _, _]) (by first | assumption | omega | (simp; omega) | simp_all) (by first | assumption | omega | (simp; omega) | simp_all) (by first | assumption | omega | (simp; omega) | simp_all)) ?_)
   rintro _ _ ⟨y10, rfl, hy10, rfl⟩
   refine ⟨fun _ => .inl trivial, ?_⟩
   refine ahe 9 rfl (by kernel_rfl) ?_
   first
   | refine zH rfl (zi (i := 0) zac rfl (WeakL.refl _) rfl (zd (L := [_, _, _]) (by first | assumption | omega | (simp; omega) | simp_all) (by first | assumption | omega | (simp; omega) | simp_all) (by first | assumption | omega | (simp; omega) | simp_all)) ?_)
   | refine zH rfl (zi (i := 1) zac rfl (WeakL.refl _) rfl (zd (L := [_, _, _]) (by first | assumption | omega | (simp; omega) | simp_all) (by first | assumption | omega | (simp; omega) | simp_all) (by first | assumption | omega | (simp; omega) | simp_all)) ?_)
   | refine zH rfl (zi (i := 2) zac rfl (WeakL.refl _) rfl (zd (L := [_, _, _]) (by first | assumption | omega | (simp; omega) | simp_all) (by first | assumption | omega | (simp; omega) | simp_all) (by first | assumption | omega | (simp; omega) | simp_all)) ?_)
   | refine zH rfl (zi (i := 3) zac rfl (WeakL.refl _) rfl (zd (L := [_, _, _]) (by first | assumption | omega | (simp; omega) | simp_all) (by first | assumption | omega | (simp; omega) | simp_all) (by first | assumption | omega | (simp; omega) | simp_all)) ?_)
   rintro _ _ ⟨y13, rfl, hy13, rfl⟩
   refine ⟨fun _ => .inl trivial, ?_⟩
   refine ahe 12 rfl (by kernel_rfl) ?_
   first
   | refine zH rfl (zi (i := 0) zac rfl (WeakL.refl _) rfl (zd (L := [_, _, _]) (by first | assumption | omega | (simp; omega) | simp_all) (by first | assumption | omega | (simp; omega) | simp_all) (by first | assumption | omega | (simp; omega) | simp_all)) ?_)
   | refine zH rfl (zi (i := 1) zac rfl (WeakL.refl _) rfl (zd (L := [_, _, _]) (by first | assumption | omega | (simp; omega) | simp_all) (by first | assumption | omega | (simp; omega) | simp_all) (by first | assumption | omega | (simp; omega) | simp_all)) ?_)
   | refine zH rfl (zi (i := 2) zac rfl (WeakL.refl _) rfl (zd (L := [_, _, _]) (by first | assumption | omega | (simp; omega) | simp_all) (by first | assumption | omega | (simp; omega) | simp_all) (by first | assumption | omega | (simp; omega) | simp_all)) ?_)
   | refine zH rfl (zi (i := 3) zac rfl (WeakL.refl _) rfl (zd (L := [_, _, _]) (by first | assumption | omega | (simp; omega) | simp_all) (by first | assumption | omega | (simp; omega) | simp_all) (by first | assumption | omega | (simp; omega) | simp_all)) ?_)
   rintro _ _ ⟨y16, rfl, hy16, rfl⟩
   refine ⟨fun _ => .inl trivial, ?_⟩
   refine ahe 15 rfl (by kernel_rfl) ?_
   first
   | refine zH rfl (zi (i := 0) zac rfl (WeakL.refl _) rfl (zd (L := [_, _, _]) (by first | assumption | omega | (simp; omega) | simp_all) (by first | assumption | omega | (simp; omega) | simp_all) (by first | assumption | omega | (simp; omega) | simp_all)) ?_)
   | refine zH rfl (zi (i := 1) zac rfl (WeakL.refl _) rfl (zd (L := [_, _, _]) (by first | assumption | omega | (simp; omega) | simp_all) (by first | assumption | omega | (simp; omega) | simp_all) (by first | assumption | omega | (simp; omega) | simp_all)) ?_)
   | refine zH rfl (zi (i := 2) zac rfl (WeakL.refl _) rfl (zd (L := [_, _, _]) (by first | assumption | omega | (simp; omega) | simp_all) (by first | assumption | omega | (simp; omega) | simp_all) (by first | assumption | omega | (simp; omega) | simp_all)) ?_)
   | refine zH rfl (zi (i := 3) zac rfl (WeakL.refl _) rfl (zd (L := [_, _, _]) (by first | assumption | omega | (simp; omega) | simp_all) (by first | assumption | omega | (simp; omega) | simp_all) (by first | assumption | omega | (simp; omega) | simp_all)) ?_)
   rintro _ _ ⟨y19, rfl, hy19, rfl⟩
   refine ⟨fun _ => .inl trivial, ?_⟩
   refine ahe 18 rfl (by kernel_rfl) ?_
   first
   | refine zH rfl (zi (i := 0) zac rfl (WeakL.refl _) rfl (zd (L := [_, _, _]) (by first | assumption | omega | (simp; omega) | simp_all) (by first | assumption | omega | (simp; omega) | simp_all) (by first | assumption | omega | (simp; omega) | simp_all)) ?_)
   | refine zH rfl (zi (i := 1) zac rfl (WeakL.refl _) rfl (zd (L := [_, _, _]) (by first | assumption | omega | (simp; omega) | simp_all) (by first | assumption | omega | (simp; omega) | simp_all) (by first | assumption | omega | (simp; omega) | simp_all)) ?_)
   | refine zH rfl (zi (i := 2) zac rfl (WeakL.refl _) rfl (zd (L := [_, _, _]) (by first | assumption | omega | (simp; omega) | simp_all) (by first | assumption | omega | (simp; omega) | simp_all) (by first | assumption | omega | (simp; omega) | simp_all)) ?_)
   | refine zH rfl (zi (i := 3) zac rfl (WeakL.refl _) rfl (zd (L := [_, _, _]) (by first | assumption | omega | (simp; omega) | simp_all) (by first | assumption | omega | (simp; omega) | simp_all) (by first | assumption | omega | (simp; omega) | simp_all)) ?_)
   rintro _ _ ⟨y22, rfl, hy22, rfl⟩
   refine ⟨fun _ => .inl trivial, ?_⟩
   refine ahp 19 rfl rfl (by kernel_rfl) (by kernel_rfl) (zaG (cs := [_, _, _, _, _, _]) z7 zkv rfl) ?_
   refine ahe 21 rfl (by kernel_rfl) ?_
   first
   | refine zau (zx (i := 0) z7 rfl rfl rfl rfl rfl (Nat.le_of_ble_eq_true rfl) ?_)
   | refine zau (zx (i := 1) z7 rfl rfl rfl rfl rfl (Nat.le_of_ble_eq_true rfl) ?_)
   | refine zau (zx (i := 2) z7 rfl rfl rfl rfl rfl (Nat.le_of_ble_eq_true rfl) ?_)
   | refine zau (zx (i := 3) z7 rfl rfl rfl rfl rfl (Nat.le_of_ble_eq_true rfl) ?_)
   refine ⟨fun _ => .inl trivial, ?_⟩
   refine ahz (by kernel_rfl) ?_
   refine ⟨(b3, ⟨(zbF.take y6.toNat).drop 0, y10, y13, y16, y19, y22⟩), ?_, ⟨rfl, trivial⟩, (by repeat (first | exact zo | refine zt rfl ?_ | refine zp rfl rfl ?_)), ?_⟩
   ·exact ⟨⟨by simp [zbF]; omega, by simp [zbF]; omega⟩, fun s hs => zdT s (List.mem_of_mem_take (by simpa using hs))⟩
   ·repeat (first | exact List.Perm.nil | refine zS 0 rfl ?_ | refine zS 1 rfl ?_ | refine zS 2 rfl ?_ | refine zS 3 rfl ?_ | (refine zM 0 rfl ?hq ?_; (case hq => simp [z8, zm]; done)) | (refine zM 1 rfl ?hq ?_; (case hq => simp [z8, zm]; done)) | (refine zM 2 rfl ?hq ?_; (case hq => simp [z8, zm]; done)) | (refine zM 3 rfl ?hq ?_; (case hq => simp [z8, zm]; done)) | fail)
 ·intro q hq
  obtain ⟨b3, ⟨T, Ve, Wa, Dl, Le, Mo⟩⟩ := q
  dsimp only at hq
  obtain ⟨⟨hT0, hT5⟩, hTs⟩ := hq
  refine zsJ [24, 25, 26, 27, 28, 29, 30, 31, 32, 33, 34, 35, 36, 37, 38, 39, 40, 41, 42, 43] (fun (q : MarketS × Nat) => []) (fun (q : MarketS × Nat) => [.cells b3 (zm (zbr q.1)), .cells b2 [nilS, .int .i64 0, .int .i64 0, .int .i64 0, .int .i64 0, .int .i64 0], St b l q.2]) (fun (q : MarketS × Nat) => GoodM q.1 ∧ q.2 ≤ a + 20) ?_ ?_
  ·skip
   refine zb ?_
   refine dmv rfl ?_
   first
   | refine de rfl (zi (i := 0) zhu rfl (WeakL.refl _) rfl (zaI (by first | assumption | omega | (simp; omega) | simp_all) (by first | assumption | omega | (simp; omega) | simp_all)) ?_)
   | refine de rfl (zi (i := 1) zhu rfl (WeakL.refl _) rfl (zaI (by first | assumption | omega | (simp; omega) | simp_all) (by first | assumption | omega | (simp; omega) | simp_all)) ?_)
   | refine de rfl (zi (i := 2) zhu rfl (WeakL.refl _) rfl (zaI (by first | assumption | omega | (simp; omega) | simp_all) (by first | assumption | omega | (simp; omega) | simp_all)) ?_)
   | refine de rfl (zi (i := 3) zhu rfl (WeakL.refl _) rfl (zaI (by first | assumption | omega | (simp; omega) | simp_all) (by first | assumption | omega | (simp; omega) | simp_all)) ?_)
   rintro _ _ ⟨y25, rfl, rfl⟩
   refine dn ?_
   refine zj rfl (fun h1 => ?_) (fun h2 => ?_)
   ·try simp at h1
    refine zy ?_
    refine dq (zw z7 rfl zG (by decide) rfl) ?_
    first
    | refine de rfl (zP (i := 0) zG rfl rfl (.inl ⟨rfl, rfl⟩) ?_)
    | refine de rfl (zP (i := 1) zG rfl rfl (.inl ⟨rfl, rfl⟩) ?_)
    | refine de rfl (zP (i := 2) zG rfl rfl (.inl ⟨rfl, rfl⟩) ?_)
    | refine de rfl (zP (i := 3) zG rfl rfl (.inl ⟨rfl, rfl⟩) ?_)
    refine de rfl (zeK zqv rfl (WeakL.refl _) (zbA (by first | assumption | omega | (simp; omega) | simp_all)) fun v28 => ?_)
    refine dmv rfl ?_
    refine dq (zK (hs := [_, _, _]) zG ty9 rfl rfl (by decide) (by decide) rfl) ?_
    first
    | refine de rfl (zi (i := 0) zcl rfl (WeakL.refl _) rfl (zR (L := [_, _, _]) (by first | assumption | omega | (simp; omega) | simp_all) (by first | assumption | omega | (simp; omega) | simp_all) (by first | assumption | omega | (simp; omega) | simp_all)) ?_)
    | refine de rfl (zi (i := 1) zcl rfl (WeakL.refl _) rfl (zR (L := [_, _, _]) (by first | assumption | omega | (simp; omega) | simp_all) (by first | assumption | omega | (simp; omega) | simp_all) (by first | assumption | omega | (simp; omega) | simp_all)) ?_)
    | refine de rfl (zi (i := 2) zcl rfl (WeakL.refl _) rfl (zR (L := [_, _, _]) (by first | assumption | omega | (simp; omega) | simp_all) (by first | assumption | omega | (simp; omega) | simp_all) (by first | assumption | omega | (simp; omega) | simp_all)) ?_)
    | refine de rfl (zi (i := 3) zcl rfl (WeakL.refl _) rfl (zR (L := [_, _, _]) (by first | assumption | omega | (simp; omega) | simp_all) (by first | assumption | omega | (simp; omega) | simp_all) (by first | assumption | omega | (simp; omega) | simp_all)) ?_)
    rintro _ _ ⟨y31, rfl, hy31, rfl⟩
    refine dq (zK (hs := [_]) zG ty9 rfl rfl (by decide) (by decide) rfl) ?_
    first
    | refine de rfl (zam (i := 0) zG ty9 rfl rfl rfl rfl rfl (by simp [zaD, zm]) (by first | omega | (simp; omega)) fun v33 => ?_)
    | refine de rfl (zam (i := 1) zG ty9 rfl rfl rfl rfl rfl (by simp [zaD, zm]) (by first | omega | (simp; omega)) fun v33 => ?_)
    | refine de rfl (zam (i := 2) zG ty9 rfl rfl rfl rfl rfl (by simp [zaD, zm]) (by first | omega | (simp; omega)) fun v33 => ?_)
    | refine de rfl (zam (i := 3) zG ty9 rfl rfl rfl rfl rfl (by simp [zaD, zm]) (by first | omega | (simp; omega)) fun v33 => ?_)
    refine dmv rfl ?_
    first
    | refine de rfl (zi (i := 0) zfI rfl (WeakL.refl _) rfl (zav (by first | assumption | omega | (simp; omega) | simp_all) (by first | assumption | omega | (simp; omega) | simp_all) (by first | assumption | omega | (simp; omega) | simp_all) (by first | assumption | omega | (simp; omega) | simp_all)) ?_)
    | refine de rfl (zi (i := 1) zfI rfl (WeakL.refl _) rfl (zav (by first | assumption | omega | (simp; omega) | simp_all) (by first | assumption | omega | (simp; omega) | simp_all) (by first | assumption | omega | (simp; omega) | simp_all) (by first | assumption | omega | (simp; omega) | simp_all)) ?_)
    | refine de rfl (zi (i := 2) zfI rfl (WeakL.refl _) rfl (zav (by first | assumption | omega | (simp; omega) | simp_all) (by first | assumption | omega | (simp; omega) | simp_all) (by first | assumption | omega | (simp; omega) | simp_all) (by first | assumption | omega | (simp; omega) | simp_all)) ?_)
    | refine de rfl (zi (i := 3) zfI rfl (WeakL.refl _) rfl (zav (by first | assumption | omega | (simp; omega) | simp_all) (by first | assumption | omega | (simp; omega) | simp_all) (by first | assumption | omega | (simp; omega) | simp_all) (by first | assumption | omega | (simp; omega) | simp_all)) ?_)
    rintro _ _ ⟨y35, rfl, rfl⟩
    refine dmv rfl ?_
    first
    | refine de rfl (zi (i := 0) zfI rfl (WeakL.refl _) rfl (zav (by first | assumption | omega | (simp; omega) | simp_all) (by first | assumption | omega | (simp; omega) | simp_all) (by first | assumption | omega | (simp; omega) | simp_all) (by first | assumption | omega | (simp; omega) | simp_all)) ?_)
    | refine de rfl (zi (i := 1) zfI rfl (WeakL.refl _) rfl (zav (by first | assumption | omega | (simp; omega) | simp_all) (by first | assumption | omega | (simp; omega) | simp_all) (by first | assumption | omega | (simp; omega) | simp_all) (by first | assumption | omega | (simp; omega) | simp_all)) ?_)
    | refine de rfl (zi (i := 2) zfI rfl (WeakL.refl _) rfl (zav (by first | assumption | omega | (simp; omega) | simp_all) (by first | assumption | omega | (simp; omega) | simp_all) (by first | assumption | omega | (simp; omega) | simp_all) (by first | assumption | omega | (simp; omega) | simp_all)) ?_)
    | refine de rfl (zi (i := 3) zfI rfl (WeakL.refl _) rfl (zav (by first | assumption | omega | (simp; omega) | simp_all) (by first | assumption | omega | (simp; omega) | simp_all) (by first | assumption | omega | (simp; omega) | simp_all) (by first | assumption | omega | (simp; omega) | simp_all)) ?_)
    rintro _ _ ⟨y37, rfl, rfl⟩
    refine dmv rfl ?_
    first
    | refine de rfl (zi (i := 0) zfI rfl (WeakL.refl _) rfl (zav (by first | assumption | omega | (simp; omega) | simp_all) (by first | assumption | omega | (simp; omega) | simp_all) (by first | assumption | omega | (simp; omega) | simp_all) (by first | assumption | omega | (simp; omega) | simp_all)) ?_)
    | refine de rfl (zi (i := 1) zfI rfl (WeakL.refl _) rfl (zav (by first | assumption | omega | (simp; omega) | simp_all) (by first | assumption | omega | (simp; omega) | simp_all) (by first | assumption | omega | (simp; omega) | simp_all) (by first | assumption | omega | (simp; omega) | simp_all)) ?_)
    | refine de rfl (zi (i := 2) zfI rfl (WeakL.refl _) rfl (zav (by first | assumption | omega | (simp; omega) | simp_all) (by first | assumption | omega | (simp; omega) | simp_all) (by first | assumption | omega | (simp; omega) | simp_all) (by first | assumption | omega | (simp; omega) | simp_all)) ?_)
    | refine de rfl (zi (i := 3) zfI rfl (WeakL.refl _) rfl (zav (by first | assumption | omega | (simp; omega) | simp_all) (by first | assumption | omega | (simp; omega) | simp_all) (by first | assumption | omega | (simp; omega) | simp_all) (by first | assumption | omega | (simp; omega) | simp_all)) ?_)
    rintro _ _ ⟨y39, rfl, rfl⟩
    refine dq (zw z7 rfl zG (by decide) rfl) ?_
    first
    | refine de0 (zx (i := 0) zG rfl rfl rfl rfl rfl (Nat.le_of_ble_eq_true rfl) ?_)
    | refine de0 (zx (i := 1) zG rfl rfl rfl rfl rfl (Nat.le_of_ble_eq_true rfl) ?_)
    | refine de0 (zx (i := 2) zG rfl rfl rfl rfl rfl (Nat.le_of_ble_eq_true rfl) ?_)
    | refine de0 (zx (i := 3) zG rfl rfl rfl rfl rfl (Nat.le_of_ble_eq_true rfl) ?_)
    refine dq (zw z7 rfl ty3 (by decide) rfl) ?_
    first
    | refine de0 (zx (i := 0) ty3 rfl rfl rfl rfl rfl (Nat.le_of_ble_eq_true rfl) ?_)
    | refine de0 (zx (i := 1) ty3 rfl rfl rfl rfl rfl (Nat.le_of_ble_eq_true rfl) ?_)
    | refine de0 (zx (i := 2) ty3 rfl rfl rfl rfl rfl (Nat.le_of_ble_eq_true rfl) ?_)
    | refine de0 (zx (i := 3) ty3 rfl rfl rfl rfl rfl (Nat.le_of_ble_eq_true rfl) ?_)
    refine dq (zw z7 rfl ty3 (by decide) rfl) ?_
    first
    | refine de0 (zx (i := 0) ty3 rfl rfl rfl rfl rfl (Nat.le_of_ble_eq_true rfl) ?_)
    | refine de0 (zx (i := 1) ty3 rfl rfl rfl rfl rfl (Nat.le_of_ble_eq_true rfl) ?_)
    | refine de0 (zx (i := 2) ty3 rfl rfl rfl rfl rfl (Nat.le_of_ble_eq_true rfl) ?_)
    | refine de0 (zx (i := 3) ty3 rfl rfl rfl rfl rfl (Nat.le_of_ble_eq_true rfl) ?_)
    refine dq (zw z7 rfl ty3 (by decide) rfl) ?_
    first
    | refine de0 (zx (i := 0) ty3 rfl rfl rfl rfl rfl (Nat.le_of_ble_eq_true rfl) ?_)
    | refine de0 (zx (i := 1) ty3 rfl rfl rfl rfl rfl (Nat.le_of_ble_eq_true rfl) ?_)
    | refine de0 (zx (i := 2) ty3 rfl rfl rfl rfl rfl (Nat.le_of_ble_eq_true rfl) ?_)
    | refine de0 (zx (i := 3) ty3 rfl rfl rfl rfl rfl (Nat.le_of_ble_eq_true rfl) ?_)
    refine dn ?_
    (first | refine zb1 (Ghost.fcell (i := 0) (k := 0) (j := 0) rfl rfl rfl) ?_ | refine zb1 (Ghost.fcell (i := 0) (k := 1) (j := 0) rfl rfl rfl) ?_ | refine zb1 (Ghost.fcell (i := 0) (k := 2) (j := 0) rfl rfl rfl) ?_ | refine zb1 (Ghost.fcell (i := 0) (k := 3) (j := 0) rfl rfl rfl) ?_ | refine zb1 (Ghost.fcell (i := 1) (k := 0) (j := 0) rfl rfl rfl) ?_ | refine zb1 (Ghost.fcell (i := 1) (k := 1) (j := 0) rfl rfl rfl) ?_ | refine zb1 (Ghost.fcell (i := 1) (k := 2) (j := 0) rfl rfl rfl) ?_ | refine zb1 (Ghost.fcell (i := 1) (k := 3) (j := 0) rfl rfl rfl) ?_ | refine zb1 (Ghost.fcell (i := 2) (k := 0) (j := 0) rfl rfl rfl) ?_ | refine zb1 (Ghost.fcell (i := 2) (k := 1) (j := 0) rfl rfl rfl) ?_ | refine zb1 (Ghost.fcell (i := 2) (k := 2) (j := 0) rfl rfl rfl) ?_ | refine zb1 (Ghost.fcell (i := 2) (k := 3) (j := 0) rfl rfl rfl) ?_ | refine zb1 (Ghost.fcell (i := 3) (k := 0) (j := 0) rfl rfl rfl) ?_ | refine zb1 (Ghost.fcell (i := 3) (k := 1) (j := 0) rfl rfl rfl) ?_ | refine zb1 (Ghost.fcell (i := 3) (k := 2) (j := 0) rfl rfl rfl) ?_ | refine zb1 (Ghost.fcell (i := 3) (k := 3) (j := 0) rfl rfl rfl) ?_)
    refine zpF (⟨T ++ [y31], y35, y37, Dl, y39, Mo⟩, a + 14) ⟨?_, by dsimp only; omega⟩ trivial (by repeat (first | exact zo | refine zt rfl ?_ | refine zp rfl rfl ?_)) ?_
    ·exact ⟨by simp, by simp; omega, fun s hs => by
      rcases List.mem_append.1 hs with hs | hs
      ·exact hTs s hs
      ·rw [List.mem_singleton.1 hs]; simp at hy31; rcases hy31 with rfl | rfl | rfl <;> decide⟩
    ·repeat (first | exact List.Perm.nil | refine zS 0 rfl ?_ | refine zS 1 rfl ?_ | refine zS 2 rfl ?_ | refine zS 3 rfl ?_ | (refine zM 0 rfl ?hq ?_; (case hq => simp [z8, zm]; done)) | (refine zM 1 rfl ?hq ?_; (case hq => simp [z8, zm]; done)) | (refine zM 2 rfl ?hq ?_; (case hq => simp [z8, zm]; done)) | (refine zM 3 rfl ?hq ?_; (case hq => simp [z8, zm]; done)) | fail)
   ·try simp at h2
    refine zk ?_
    refine zpF (⟨T, Ve, Wa, Dl, Le, Mo⟩, a + 7) ⟨⟨hT0, Nat.le_succ_of_le hT5, hTs⟩, by dsimp only; omega⟩ trivial (by repeat (first | exact zo | refine zt rfl ?_ | refine zp rfl rfl ?_)) ?_
    ·repeat (first | exact List.Perm.nil | refine zS 0 rfl ?_ | refine zS 1 rfl ?_ | refine zS 2 rfl ?_ | refine zS 3 rfl ?_ | (refine zM 0 rfl ?hq ?_; (case hq => simp [z8, zm]; done)) | (refine zM 1 rfl ?hq ?_; (case hq => simp [z8, zm]; done)) | (refine zM 2 rfl ?hq ?_; (case hq => simp [z8, zm]; done)) | (refine zM 3 rfl ?hq ?_; (case hq => simp [z8, zm]; done)) | fail)
  ·intro q hq2
   obtain ⟨m, a2⟩ := q
   dsimp only at hq2
   refine zb ?_
   first
   | refine de rfl (zeG (i := 0) z7 rfl rfl rfl rfl rfl ?_)
   | refine de rfl (zeG (i := 1) z7 rfl rfl rfl rfl rfl ?_)
   | refine de rfl (zeG (i := 2) z7 rfl rfl rfl rfl rfl ?_)
   | refine de rfl (zeG (i := 3) z7 rfl rfl rfl rfl rfl ?_)
   first
   | refine de0 (zx (i := 0) z7 rfl rfl rfl rfl rfl (Nat.le_of_ble_eq_true rfl) ?_)
   | refine de0 (zx (i := 1) z7 rfl rfl rfl rfl rfl (Nat.le_of_ble_eq_true rfl) ?_)
   | refine de0 (zx (i := 2) z7 rfl rfl rfl rfl rfl (Nat.le_of_ble_eq_true rfl) ?_)
   | refine de0 (zx (i := 3) z7 rfl rfl rfl rfl rfl (Nat.le_of_ble_eq_true rfl) ?_)
   refine dn ?_
   refine zn ?_
   exact ⟨_, _, (Ghost.drop).trans (Ghost.fc0 2 rfl), [_], _, ⟨⟨_, _, _, _, _, rfl, z7, .inr ⟨rfl, rfl, rfl⟩⟩, trivial⟩, Weak.refl _, m, a2, rfl, hq2.1, hq2.2, rfl⟩
end
end Go.Proofs.YtcihcbnjfclkbaaGreatDoor
namespace Go.HL
section
section
variable {κ : Type}
/-- The zcF maps by the outer key: block and entries. -/
abbrev GrM (κ : Type) := List (Str × (Nat × List (κ × Int)))
end
end
section
section
variable {P : Program} {e : Env} {dst : Option Tmp} {ty : TypeId} {pos : String} {af : Array Edge} {g : Option (Nat × Bool)} {M : List MObj} {K : HVal → List MObj → Prop}
end
end
section
section
variable {P : Program} {e : Env} {dst : Option Tmp} {ty : TypeId} {pos : String} {af : Array Edge} {g : Option (Nat × Bool)}
end
section
variable {P : Program} {n : Nat} {e e' : Env} {M M' : List MObj} {Q Q' : Exit → Env → List MObj → Prop} {c c' : Code}
def zrw {α β γ δ : Type} (e : Env) (ks : List Nat) (W : α → β → γ → δ → List (Nat × HVal)) (MM : α → β → γ → δ → List MObj) (Iv : α → β → γ → δ → Prop) (μ : α → β → γ → δ → Nat) (x : α) (y : β) (u : γ) (v : δ) (Q : Exit → Env → List MObj → Prop) : Exit → Env → List MObj → Prop
 | .normal, e', M => ∃ j k l m, Iv j k l m ∧ μ j k l m < μ x y u v ∧ zcT e' (W j k l m) ∧ zd3 ks e e' ∧ M.Perm (MM j k l m)
 | z, e', M => Q z e' M
theorem zkw {α β γ δ : Type} {e0 : Env} {ks : List Nat} {W : α → β → γ → δ → List (Nat × HVal)} {MM : α → β → γ → δ → List MObj} {Iv : α → β → γ → δ → Prop} {μ : α → β → γ → δ → Nat} {x : α} {y : β} {u : γ} {v : δ} {id : Nat} (h : Q (.exit id) e M) :
 zrw e0 ks W MM Iv μ x y u v Q (.exit id) e M := h
theorem ziA [Tracks] {α β γ δ : Type} (ks : List Nat) (W : α → β → γ → δ → List (Nat × HVal)) (MM : α → β → γ → δ → List MObj) (Iv : α → β → γ → δ → Prop) (μ : α → β → γ → δ → Nat) (x : α) (y : β) (u : γ) (v : δ) (h0 : Iv x y u v) (hW : zcT e (W x y u v)) (hM : M.Perm (MM x y u v))
 (hb : ∀ x y u v, Iv x y u v → HWp P n c (loopE e ks (W x y u v)) (MM x y u v) (zrw e ks W MM Iv μ x y u v Q)) : HWp P n (.loop c) e M Q := by
 refine zZ (ι := α × β × γ × δ) ks (fun p => W p.1 p.2.1 p.2.2.1 p.2.2.2) (fun p => MM p.1 p.2.1 p.2.2.1 p.2.2.2) (fun p => Iv p.1 p.2.1 p.2.2.1 p.2.2.2) (fun p => μ p.1 p.2.1 p.2.2.1 p.2.2.2) (x, y, u, v) h0 hW hM fun p hp => zf2 (hb p.1 p.2.1 p.2.2.1 p.2.2.2 hp) ?_
 intro z e1 M1 hq
 cases z with
 | normal => obtain ⟨j, k, l, m, h⟩ := hq; exact ⟨(j, k, l, m), h⟩
 | _ => exact hq
end
end
end Go.HL
namespace Go.Proofs.YtcihcbnjfclkbaaGreatDoor
set_option maxRecDepth 100000
set_option linter.unusedVariables false
set_option linter.unusedSimpArgs false
section
open Go.HL
/-- (*benchwarmer/benchmake.Stream).OwnerList$1 -/
theorem zeP [Tracks] {m : MarketS} {x : OwnerS} {t : Str} {bn n : Nat} (hn : n ≤ 1000000) : Con Tryz.prog 37 [zaF x, .vptr [.str t] 0, pAt bn, .vptr (zm (zbr m)) 0] [.cells bn [.int .i64 (n : Int)]] (fun r M' => ∃ (y : Bool) (n' : Nat), r = .bool y ∧ n' ≤ n + 1 ∧ M' = [.cells bn [.int .i64 (n' : Int)]]) := by
 refine Con.of_body Tryz.func37 rfl Tryz.ntmps37 rfl rfl ?_
 refine zb ?_
 refine dq (zaC rfl rfl) ?_
 refine das rfl ?_
 refine dn ?_
 refine zf3 [6, 7, 8, 9, 10, 11] (fun (n2 : Nat) => []) (fun (n2 : Nat) => [.cells bn [.int .i64 (n2 : Int)]]) (fun (n2 : Nat) => n2 ≤ n + 1) ?_ ?_
 ·skip
  refine zb ?_
  refine dq ((by first | exact zc zae rfl ty9 (by decide) rfl | exact zw zae rfl ty9 (by decide) rfl)) ?_
  refine dq (ze ty9 rfl rfl rfl) ?_
  refine dq (ze ty9 rfl rfl rfl) ?_
  refine dq (zaX rfl rfl) ?_
  refine dn ?_
  refine zj rfl (fun h1 => ?_) (fun h2 => ?_)
  ·try simp at h1
   refine zy ?_
   first
   | refine de rfl (zP (i := 0) ty3 rfl rfl (.inl ⟨rfl, rfl⟩) ?_)
   | refine de rfl (zP (i := 1) ty3 rfl rfl (.inl ⟨rfl, rfl⟩) ?_)
   | refine de rfl (zP (i := 2) ty3 rfl rfl (.inl ⟨rfl, rfl⟩) ?_)
   | refine de rfl (zP (i := 3) ty3 rfl rfl (.inl ⟨rfl, rfl⟩) ?_)
   refine dq (zv rfl rfl (by omega) (by omega)) ?_
   first
   | refine de0 (zx (i := 0) ty3 rfl rfl rfl rfl rfl (Nat.le_of_ble_eq_true rfl) ?_)
   | refine de0 (zx (i := 1) ty3 rfl rfl rfl rfl rfl (Nat.le_of_ble_eq_true rfl) ?_)
   | refine de0 (zx (i := 2) ty3 rfl rfl rfl rfl rfl (Nat.le_of_ble_eq_true rfl) ?_)
   | refine de0 (zx (i := 3) ty3 rfl rfl rfl rfl rfl (Nat.le_of_ble_eq_true rfl) ?_)
   refine dn ?_
   exact ⟨n + 1, Nat.le_refl _, trivial, (by repeat (first | exact zo | refine zt rfl ?_ | refine zp rfl rfl ?_)), zL rfl⟩
  ·try simp at h2
   refine zk ?_
   exact ⟨n, by omega, trivial, (by repeat (first | exact zo | refine zt rfl ?_ | refine zp rfl rfl ?_)), zL rfl⟩
 ·intro n2 hn2
  refine zb ?_
  refine dq ((by first | exact zc zae rfl ty9 (by decide) rfl | exact zw zae rfl ty9 (by decide) rfl)) ?_
  refine dq (ze ty9 rfl rfl rfl) ?_
  refine dq (ze ty9 rfl rfl rfl) ?_
  refine dq (zaX rfl rfl) ?_
  refine dmv rfl ?_
  refine dgl rfl rfl (fun hc => ⟨_, OpenTo.refl _, zP (i := 0) ty3 rfl rfl (.inl ⟨rfl, rfl⟩) ⟨rfl, rfl⟩⟩) ?_
  refine dg rfl rfl (fun hc => ⟨_, OpenTo.refl _, (by first | exact zc z7 rfl ty3 (by decide) rfl | exact zw z7 rfl ty3 (by decide) rfl)⟩) ?_
  refine dg rfl rfl (fun hc => ⟨_, OpenTo.upd (t := 18) rfl (by first | exact hc | simp_all) (OpenTo.refl _), ze ty3 rfl rfl rfl⟩) ?_
  refine dg rfl rfl (fun hc => ⟨_, OpenTo.upd (t := 19) rfl (by first | exact hc | simp_all) (OpenTo.upd (t := 17) rfl (by first | exact hc | simp_all) (OpenTo.refl _)), zai rfl rfl⟩) ?_
  refine dq (zB rfl (.inr ⟨_, rfl, fun h => by simp_all⟩) (.inl rfl)) ?_
  refine das rfl ?_
  refine dn ?_
  refine zn ?_
  exact zbs rfl ⟨_, n2, rfl, hn2, rfl⟩

/-- slices.IndexFunc[[]benchwarmer/api.Owner,benchwarmer/api.Owner] -/
theorem zhL [Tracks] {l : List OwnerS} {v : Value} {fid : FuncId} {caps : List HVal} {bn n : Nat} (hca : Callable Tryz.prog fid) (hp : ∀ (x : OwnerS) (n : Nat), n ≤ 1000000 → Con Tryz.prog fid ([zaF x] ++ caps) [.cells bn [.int .i64 (n : Int)]] fun r M' => ∃ (y : Bool) (n' : Nat), r = .bool y ∧ n' ≤ n + 1 ∧ M' = [.cells bn [.int .i64 (n' : Int)]]) (hl : l.length ≤ 1000) (hn : n ≤ 1000) : Con Tryz.prog 72 [.raw v, .fn (.func fid) [] caps] [.arr v 2 (l.map zaF), .cells bn [.int .i64 (n : Int)]] (fun r M' => ∃ (i : Int) (n' : Nat), r = .int .i64 i ∧ (-1 ≤ i ∧ i < l.length) ∧ n' ≤ n + l.length ∧ M' = [.arr v 2 (l.map zaF), .cells bn [.int .i64 (n' : Int)]]) := by
 refine Con.of_body Tryz.func72 rfl Tryz.ntmps72 rfl rfl ?_
 refine zb ?_
 refine das rfl ?_
 refine dn ?_
 refine zh ?_
 refine zb ?_
 refine dmv rfl ?_
 refine de rfl (zaP (i := 0) (es := l) zaV rfl rfl ?_)
 refine dmv rfl ?_
 refine dn ?_
 refine zl ?_
 refine zaS [4, 5, 8, 9, 10, 11, 12, 13, 14, 15, 16, 17, 18] (fun (k : Nat) (n2 : Nat) => [(8, .int .i64 k)]) (fun (k : Nat) (n2 : Nat) => [.arr v 2 (l.map zaF), .cells bn [.int .i64 (n2 : Int)]]) (fun (k : Nat) (n2 : Nat) => k ≤ l.length ∧ (n2 ≤ n + k)) (fun (k : Nat) (n2 : Nat) => l.length - k) (0) (n) ?_ ?_ ?_ ?_
 ·exact ⟨Nat.zero_le _, Nat.le_refl _⟩
 ·exact ⟨rfl, trivial⟩
 ·exact zL rfl
 ·intro k n2 hinv
  obtain ⟨hk, hn2⟩ := hinv
  refine zb ?_
  refine dq (zO rfl rfl) ?_
  refine dn ?_
  refine zh ?_
  refine zj rfl (fun h1 => ?_) (fun h2 => ?_)
  ·try simp at h1
   obtain ⟨x, hx⟩ : ∃ x, l[k]? = some x := ⟨_, List.getElem?_eq_getElem h1⟩
   have hdx := zQ hx
   refine zk ?_
   refine zf ?_
   refine zh ?_
   refine zl ?_
   refine zb ?_
   refine dmv rfl ?_
   refine das rfl ?_
   refine dn ?_
   refine zdb (i := 0) rfl (fun h0 he => ?_) (fun ob off cap hv hcap => ?_)
   ·exfalso; have := congrArg List.length he; simp at this; subst this; simp at hx
   rw [List.length_map] at hv hcap
   subst hv
   refine zb ?_
   refine dmv rfl ?_
   refine dmv rfl ?_
   refine dmv rfl ?_
   refine dq (zab (j := k) zaV zae rfl rfl rfl (by omega)) ?_
   refine de rfl (zbK (i := 0) (j := k) (f := zaF) (es := l) zae rfl rfl rfl hx rfl rfl rfl ?_)
   refine de rfl (EOp.perm (M := [.cells bn [.int .i64 (n2 : Int)]] ++ [.arr (.slice (some ⟨ob, off, none⟩) l.length cap) 2 (l.map zaF)]) (List.Perm.swap _ _ _) (EOp.mono ?_ ((zfF hca rfl rfl (WeakL.refl _) (hp _ n2 (by omega))).frame [.arr (.slice (some ⟨ob, off, none⟩) l.length cap) 2 (l.map zaF)])))
   rintro _ _ ⟨N, rfl, y16, n16, rfl, hn16, rfl⟩
   refine dn ?_
   refine zj rfl (fun h3 => ?_) (fun h4 => ?_)
   ·try simp at h3
    refine zb ?_
    refine dmv rfl ?_
    refine das rfl ?_
    refine dn ?_
    refine zn ?_
    first
    | exact zbW (Ghost.perm (List.Perm.swap _ _ _)) rfl ⟨(k : Int), n16, rfl, ⟨by omega, by omega⟩, by omega, rfl⟩
    | exact zbs rfl ⟨-1, n2, rfl, ⟨by omega, by omega⟩, by omega, rfl⟩
   ·try simp at h4
    refine zk ?_
    refine zz ?_
    refine zf ?_
    refine zy ?_
    refine dq (zv rfl rfl (by omega) (by omega)) ?_
    refine dmv rfl ?_
    refine dn ?_
    exact ⟨k + 1, n16, ⟨by omega, by omega⟩, by dsimp only; omega, ⟨rfl, trivial⟩, (by repeat (first | exact zo | refine zt rfl ?_ | refine zp rfl rfl ?_)), List.Perm.swap _ _ _⟩
  ·try simp at h2
   have hnk : l.length ≤ k := by omega
   obtain rfl : k = l.length := by omega
   refine zN ?_
   refine zT ?_
   refine za3 ?_
   refine zD ?_
   refine zf ?_
   refine zb ?_
   refine das rfl ?_
   refine dn ?_
   refine zn ?_
   first
   | exact zbW (Ghost.perm (List.Perm.swap _ _ _)) rfl ⟨(k : Int), n16, rfl, ⟨by omega, by omega⟩, by omega, rfl⟩
   | exact zbs rfl ⟨-1, n2, rfl, ⟨by omega, by omega⟩, by omega, rfl⟩

set_option maxHeartbeats 2000000 in
/-- slices.DeleteFunc[[]benchwarmer/api.Owner,benchwarmer/api.Owner] -/
theorem zhm [Tracks] {l : List OwnerS} {v : Value} {fid : FuncId} {caps : List HVal} {bn n : Nat} (hca : Callable Tryz.prog fid) (hp : ∀ (x : OwnerS) (n : Nat), n ≤ 1000000 → Con Tryz.prog fid ([zaF x] ++ caps) [.cells bn [.int .i64 (n : Int)]] fun r M' => ∃ (y : Bool) (n' : Nat), r = .bool y ∧ n' ≤ n + 1 ∧ M' = [.cells bn [.int .i64 (n' : Int)]]) (hl : l.length ≤ 1000) (hn : n ≤ 1000) : Con Tryz.prog 36 [.raw v, .fn (.func fid) [] caps] [.arr v 2 (l.map zaF), .cells bn [.int .i64 (n : Int)]] (fun r M' => ∃ (u : Value) (l' : List OwnerS) (n' : Nat), r = .raw u ∧ LeftOf l l' ∧ n' ≤ n + 2 * l.length ∧ M' = [.arr u 2 (l'.map zaF), .cells bn [.int .i64 (n' : Int)]]) := by
 refine Con.of_body Tryz.func36 rfl Tryz.ntmps36 rfl rfl ?_
 refine zb ?_
 refine das rfl ?_
 refine dn ?_
 refine zb ?_
 refine dmv rfl ?_
 refine dmv rfl ?_
 refine de rfl (zbP (M1 := [.arr v 2 (l.map zaF), .cells bn [.int .i64 (n : Int)]]) (R := []) ca72 rfl (WeakL.refl _) (List.Perm.refl _) (zhL hca hp hl hn) ?_)
 rintro _ _ ⟨i10, n10, rfl, hi10, hn10, rfl⟩
 refine das rfl ?_
 refine dn ?_
 refine zh ?_
 refine zb ?_
 refine dmv rfl ?_
 refine dq (zaA rfl rfl) ?_
 refine dn ?_
 refine zj rfl (fun h1 => ?_) (fun h2 => ?_)
 ·try simp at h1
  refine zb ?_
  refine dmv rfl ?_
  refine das rfl ?_
  refine dn ?_
  refine zn ?_
  first
  | exact zbs rfl ⟨_, l, n10, rfl, LeftOf.refl l, by omega, rfl⟩
  | (refine zbs rfl ⟨_, D.take i, n2, rfl, LeftOf.take i hDl hDs, by omega, ?_⟩
     rw [List.map_take]; rfl)
 ·try simp at h2
  refine zk ?_
  refine zf ?_
  refine zh ?_
  obtain ⟨i0, rfl⟩ : ∃ i0 : Nat, i10 = (i0 : Int) := ⟨i10.toNat, by omega⟩
  have hl0 : 0 < l.length := by omega
  refine zdb (i := 0) rfl (fun h0 he => ?_) (fun ob off cap hv hcap => ?_)
  ·exfalso; have := congrArg List.length he; simp at this; subst this; simp at hl0
  rw [List.length_map] at hv hcap
  subst hv
  refine zb ?_
  refine dmv rfl ?_
  refine dq (zv rfl rfl (by omega) (by omega)) ?_
  refine das rfl ?_
  refine dn ?_
  refine zl ?_
  refine ziA [5, 6, 7, 16, 17, 18, 19, 20, 21, 22, 23, 24, 25, 26, 27, 28, 29, 30, 31, 32, 33, 34, 35] (fun (j : Nat) (i : Nat) (D : List OwnerS) (n2 : Nat) => [(6, .int .i64 (j : Int)), (5, .int .i64 (i : Int))]) (fun (j : Nat) (i : Nat) (D : List OwnerS) (n2 : Nat) => [.arr (.slice (some ⟨ob, off, none⟩) l.length cap) 2 (D.map zaF), .cells bn [.int .i64 (n2 : Int)]]) (fun (j : Nat) (i : Nat) (D : List OwnerS) (n2 : Nat) => (i < j ∧ j ≤ l.length) ∧ D.length = l.length ∧ (∀ x ∈ D, x ∈ l) ∧ n2 ≤ n + l.length + j) (fun (j : Nat) (i : Nat) (D : List OwnerS) (n2 : Nat) => l.length - j) (i0 + 1) (i0) (l) (n10) ?_ ?_ ?_ ?_
  ·exact ⟨⟨by omega, by omega⟩, rfl, fun _ h => h, by omega⟩
  ·exact ⟨zbx (by omega), rfl, trivial⟩
  ·exact zL rfl
  ·intro j i D n2 hinv
   obtain ⟨⟨hij, hjl⟩, hDl, hDs, hn2⟩ := hinv
   refine zh ?_
   refine zb ?_
   refine dmv rfl ?_
   refine dmv rfl ?_
   refine de rfl (zaP (i := 0) (es := D) zaV rfl rfl ?_)
   refine dq (zO rfl rfl) ?_
   refine dn ?_
   refine zj rfl (fun h3 => ?_) (fun h4 => ?_)
   ·try simp at h3
    obtain ⟨x, hx⟩ : ∃ x, D[j]? = some x := ⟨_, List.getElem?_eq_getElem (by omega)⟩
    refine zk ?_
    refine zf ?_
    refine zh ?_
    refine zl ?_
    refine zb ?_
    refine dmv rfl ?_
    refine dmv rfl ?_
    refine dq (zab (j := j) zaV zae rfl rfl rfl (by omega)) ?_
    refine de rfl (zbK (i := 0) (j := j) (f := zaF) (es := D) zae rfl rfl rfl hx rfl rfl rfl ?_)
    refine de rfl (zX zae rfl fun b7 => ?_)
    refine de0 (zag zae rfl rfl rfl rfl rfl ?_)
    refine dn ?_
    refine zI (Ghost.fc0 7 rfl) ?_
    refine zb ?_
    refine dmv rfl ?_
    refine dq (zV zae rfl rfl rfl rfl) ?_
    refine de rfl (EOp.perm (M := [.cells bn [.int .i64 (n2 : Int)]] ++ [.arr (.slice (some ⟨ob, off, none⟩) l.length cap) 2 (D.map zaF)]) (List.Perm.swap _ _ _) (EOp.mono ?_ ((zfF hca rfl rfl (WeakL.refl _) (hp _ n2 (by omega))).frame [.arr (.slice (some ⟨ob, off, none⟩) l.length cap) 2 (D.map zaF)])))
    rintro _ _ ⟨N, rfl, y28, n28, rfl, hn28, rfl⟩
    refine dq (zao rfl) ?_
    refine dn ?_
    refine zj rfl (fun h5 => ?_) (fun h6 => ?_)
    ·try simp at h5
     refine zb ?_
     refine dmv rfl ?_
     refine dmv rfl ?_
     refine dq (zV zae rfl rfl rfl rfl) ?_
     refine dq (zab (j := i) zaV zae rfl rfl rfl (by omega)) ?_
     refine de0 (zck (i := 1) (j := i) (y := D[i]'(by omega)) (y' := x) zae rfl rfl rfl rfl (List.getElem?_eq_getElem _) rfl rfl rfl ?_)
     refine dn ?_
     refine zy ?_
     refine dmv rfl ?_
     refine dq (zv rfl rfl (by omega) (by omega)) ?_
     refine das rfl ?_
     refine dn ?_
     refine zz ?_
     refine zf ?_
     refine zy ?_
     refine dmv rfl ?_
     refine dq (zv rfl rfl (by omega) (by omega)) ?_
     refine das rfl ?_
     refine dn ?_
     exact ⟨j + 1, i + 1, D.set i x, n28, ⟨⟨by omega, by omega⟩, by simpa using hDl, zg4 (P := fun x => x ∈ l) hDs (hDs x (List.mem_of_getElem? hx)), by omega⟩, by dsimp only; omega, ⟨rfl, rfl, trivial⟩, (by repeat (first | exact zo | refine zt rfl ?_ | refine zp rfl rfl ?_)), by dsimp only; rw [List.map_set]; exact List.Perm.swap _ _ _⟩
    ·try simp at h6
     refine zk ?_
     refine zz ?_
     refine zf ?_
     refine zy ?_
     refine dmv rfl ?_
     refine dq (zv rfl rfl (by omega) (by omega)) ?_
     refine das rfl ?_
     refine dn ?_
     exact ⟨j + 1, i, D, n28, ⟨⟨by omega, by omega⟩, hDl, hDs, by omega⟩, by dsimp only; omega, ⟨rfl, rfl, trivial⟩, (by repeat (first | exact zo | refine zt rfl ?_ | refine zp rfl rfl ?_)), List.Perm.swap _ _ _⟩
   ·try simp at h4
    refine zN ?_
    refine zT ?_
    refine zkw ?_
    refine zD ?_
    refine zf ?_
    refine zb ?_
    refine dmv rfl ?_
    refine dmv rfl ?_
    refine dq (zrX (l := i) zaV zae rfl ⟨_, _, rfl, rfl⟩ rfl (by omega) (by omega) hcap) ?_
    refine de0 (znN (i := 0) (m := i) i zaV zae rfl rfl rfl (zsB (by omega) hcap) rfl (by omega) (Nat.le_refl _) (by rw [List.length_map, hDl]; omega) ?_)
    refine dn ?_
    refine zb ?_
    refine dmv rfl ?_
    refine dmv rfl ?_
    refine dq (zlp (h := i) zaV zae rfl ⟨_, _, rfl, rfl⟩ (by omega)) ?_
    refine das rfl ?_
    refine dn ?_
    refine zn ?_
    first
    | exact zbs rfl ⟨_, l, n10, rfl, LeftOf.refl l, by omega, rfl⟩
    | (refine zbs rfl ⟨_, D.take i, n2, rfl, LeftOf.take i hDl hDs, by omega, ?_⟩
       rw [List.map_take]; rfl)

/-- benchwarmer/benchmake.Key -/
theorem zkZ [Tracks] {s : Str} (hs : s.length ≤ 1000000) : ConP Tryz.prog 38 [.str s] (.bool (key s)) := by
 refine Con.of_body Tryz.func38 rfl Tryz.ntmps38 rfl rfl ?_
 refine zb ?_
 refine das rfl ?_
 refine dn ?_
 refine zb ?_
 refine dmv rfl ?_
 refine dq (zq zsq rfl (WeakL.refl _) (ze6 (by first | assumption | omega | (simp; omega) | simp_all))) ?_
 refine das rfl ?_
 refine dn ?_
 refine zn ?_
 refine zA rfl ?_
 rfl

set_option maxHeartbeats 4000000 in
/-- (*benchwarmer/benchmake.Stream).OwnerList -/
theorem zbB [Tracks] {b : Nat} {l : List Int} {a : Nat} {m : MarketS} (ha : a ≤ 700000) (hm : GoodM m) : Con Tryz.prog 6 [pAt b, zbr m] [St b l a] (fun x M' => ∃ k a', x = zb4 k ∧ GoodOw k ∧ a' ≤ a + 40 ∧ M' = [St b l a']) := by
 have hm0 := hm.pos
 have hm5 := hm.len
 refine Con.of_body Tryz.func6 rfl Tryz.ntmps6 rfl rfl ?_
 refine zb ?_
 refine dq (zaC rfl rfl) ?_
 refine das rfl ?_
 refine dn ?_
 refine zb ?_
 refine das rfl ?_
 refine dn ?_
 refine zh ?_
 refine zb ?_
 refine dmv rfl ?_
 first
 | refine de rfl (zi (i := 0) zfk rfl (WeakL.refl _) rfl (zak (by first | assumption | omega | (simp; omega) | simp_all) (by first | assumption | omega | (simp; omega) | simp_all) (by first | assumption | omega | (simp; omega) | simp_all) (by first | assumption | omega | (simp; omega) | simp_all)) ?_)
 | refine de rfl (zi (i := 1) zfk rfl (WeakL.refl _) rfl (zak (by first | assumption | omega | (simp; omega) | simp_all) (by first | assumption | omega | (simp; omega) | simp_all) (by first | assumption | omega | (simp; omega) | simp_all) (by first | assumption | omega | (simp; omega) | simp_all)) ?_)
 | refine de rfl (zi (i := 2) zfk rfl (WeakL.refl _) rfl (zak (by first | assumption | omega | (simp; omega) | simp_all) (by first | assumption | omega | (simp; omega) | simp_all) (by first | assumption | omega | (simp; omega) | simp_all) (by first | assumption | omega | (simp; omega) | simp_all)) ?_)
 | refine de rfl (zi (i := 3) zfk rfl (WeakL.refl _) rfl (zak (by first | assumption | omega | (simp; omega) | simp_all) (by first | assumption | omega | (simp; omega) | simp_all) (by first | assumption | omega | (simp; omega) | simp_all) (by first | assumption | omega | (simp; omega) | simp_all)) ?_)
 rintro _ _ ⟨y12, rfl, hy12, rfl⟩
 refine dmv rfl ?_
 refine dn ?_
 refine zI (Ghost.perm (M' := [St b l (a + 1)]) (List.Perm.refl _)) ?_
 refine zI (Ghost.arr_nil 2) ?_
 refine zl ?_
 refine zaS [5, 6, 13, 14, 15, 16, 17, 18, 19, 20, 21, 22, 23, 24, 25, 26, 27] (fun (k : Nat) (q : GL OwnerS) => [(13, .int .i64 (k : Int)), (5, .raw q.u)]) (fun (k : Nat) (q : GL OwnerS) => [St b l q.a, .arr q.u 2 (q.out.map zaF)]) (fun (k : Nat) (q : GL OwnerS) => (k : Int) ≤ y12 ∧ GLok zjo k (a + 1 + k) q) (fun (k : Nat) (q : GL OwnerS) => y12.toNat - k) (0) (⟨.slice none 0 0, [], a + 1⟩) ?_ ?_ ?_ ?_
 ·exact ⟨by omega, ⟨by simp, by simp, by dsimp only; omega⟩⟩
 ·exact ⟨rfl, rfl, trivial⟩
 ·repeat (first | exact List.Perm.nil | refine zS 0 rfl ?_ | refine zS 1 rfl ?_ | refine zS 2 rfl ?_ | refine zS 3 rfl ?_ | (refine zM 0 rfl ?hq ?_; (case hq => simp [z8, zm]; done)) | (refine zM 1 rfl ?hq ?_; (case hq => simp [z8, zm]; done)) | (refine zM 2 rfl ?hq ?_; (case hq => simp [z8, zm]; done)) | (refine zM 3 rfl ?hq ?_; (case hq => simp [z8, zm]; done)) | fail)
 ·intro k q hinv
  obtain ⟨hk, hq⟩ := hinv
  obtain ⟨u, out, a1⟩ := q
  obtain ⟨g1, g2, g3⟩ := id hq
  dsimp only at g1 g2 g3
  refine zb ?_
  refine dq (zO rfl rfl) ?_
  refine dn ?_
  refine zh ?_
  refine zj rfl (fun h1 => ?_) (fun h2 => ?_)
  ·try simp at h1
   refine zk ?_
   refine zf ?_
   refine zh ?_
   refine zl ?_
   refine zb ?_
   refine dmv rfl ?_
   refine das rfl ?_
   refine dn ?_
   refine zbV (fun _ => True) [] mixed ?_
   refine ahp 0 rfl rfl (by kernel_rfl) (by kernel_rfl) (zg rfl) ?_
   refine ahp 1 rfl rfl (by kernel_rfl) (by kernel_rfl) (zg rfl) ?_
   refine ahp 2 rfl rfl (by kernel_rfl) (by kernel_rfl) (zq ca35 rfl (WeakL.refl _) (zlR (i := k) (by omega))) ?_
   have hdl := ztX (i := k) (by omega)
   refine ahp 3 rfl rfl (by kernel_rfl) (by kernel_rfl) (znF rfl rfl (by simp; omega)) ?_
   refine ahp 4 rfl rfl (by kernel_rfl) (by kernel_rfl) (zg rfl) ?_
   refine ahp 5 rfl rfl (by kernel_rfl) (by kernel_rfl) ((by first | exact zc z7 rfl zG (by decide) rfl | exact zw z7 rfl zG (by decide) rfl)) ?_
   refine ahp 6 rfl rfl (by kernel_rfl) (by kernel_rfl) (ze zG rfl rfl rfl) ?_
   refine ahe 7 rfl (by kernel_rfl) ?_
   first
   | refine zH rfl (zi (i := 0) zcl rfl (WeakL.refl _) rfl (zR (by first | assumption | omega | (simp; omega) | simp_all) (by first | assumption | omega | (simp; omega) | simp_all) (by first | assumption | omega | (simp; omega) | simp_all)) ?_)
   | refine zH rfl (zi (i := 1) zcl rfl (WeakL.refl _) rfl (zR (by first | assumption | omega | (simp; omega) | simp_all) (by first | assumption | omega | (simp; omega) | simp_all) (by first | assumption | omega | (simp; omega) | simp_all)) ?_)
   | refine zH rfl (zi (i := 2) zcl rfl (WeakL.refl _) rfl (zR (by first | assumption | omega | (simp; omega) | simp_all) (by first | assumption | omega | (simp; omega) | simp_all) (by first | assumption | omega | (simp; omega) | simp_all)) ?_)
   | refine zH rfl (zi (i := 3) zcl rfl (WeakL.refl _) rfl (zR (by first | assumption | omega | (simp; omega) | simp_all) (by first | assumption | omega | (simp; omega) | simp_all) (by first | assumption | omega | (simp; omega) | simp_all)) ?_)
   rintro _ _ ⟨y23, rfl, hy23, rfl⟩
   refine ⟨fun _ => .inl trivial, ?_⟩
   refine ahp 8 rfl rfl (by kernel_rfl) (by kernel_rfl) (zaG (cs := [_, _]) zae zrZ rfl) ?_
   refine ahp 9 rfl rfl (by kernel_rfl) (by kernel_rfl) (zK (hs := [_]) zaV zae rfl rfl (by decide) (by decide) rfl) ?_
   refine ahe 10 rfl (by kernel_rfl) ?_
   first
   | refine zH rfl (zam (i := 0) zaV zae rfl rfl rfl rfl rfl (by simp [zaD, zm]) (by first | omega | (simp; omega)) fun v26 => ?_)
   | refine zH rfl (zam (i := 1) zaV zae rfl rfl rfl rfl rfl (by simp [zaD, zm]) (by first | omega | (simp; omega)) fun v26 => ?_)
   | refine zH rfl (zam (i := 2) zaV zae rfl rfl rfl rfl rfl (by simp [zaD, zm]) (by first | omega | (simp; omega)) fun v26 => ?_)
   | refine zH rfl (zam (i := 3) zaV zae rfl rfl rfl rfl rfl (by simp [zaD, zm]) (by first | omega | (simp; omega)) fun v26 => ?_)
   refine ⟨fun _ => .inl trivial, ?_⟩
   refine ahp 11 rfl rfl (by kernel_rfl) (by kernel_rfl) (zaW rfl) ?_
   refine ahz (by kernel_rfl) ?_
   refine zz ?_
   refine zf ?_
   refine zy ?_
   refine dq (zv rfl rfl (by omega) (by omega)) ?_
   refine dmv rfl ?_
   refine dn ?_
   exact ⟨k + 1, ⟨v26, out ++ [⟨112 :: Lib.decDigits k, y23⟩], a1 + 1⟩, ⟨by omega, hq.add (x := (⟨112 :: Lib.decDigits k, y23⟩ : OwnerS)) ⟨znC (n := 11) (by simp; omega) (by decide), znC (hm.sh y23 hy23) (by decide)⟩ (by omega)⟩, by dsimp only; omega, ⟨rfl, rfl, trivial⟩, (by repeat (first | exact zo | refine zt rfl ?_ | refine zp rfl rfl ?_)), by repeat (first | exact List.Perm.nil | refine zS 0 rfl ?_ | refine zS 1 rfl ?_ | refine zS 2 rfl ?_ | refine zS 3 rfl ?_ | (refine zM 0 rfl ?hq ?_; (case hq => simp [z8, zm]; done)) | (refine zM 1 rfl ?hq ?_; (case hq => simp [z8, zm]; done)) | (refine zM 2 rfl ?hq ?_; (case hq => simp [z8, zm]; done)) | (refine zM 3 rfl ?hq ?_; (case hq => simp [z8, zm]; done)) | fail)⟩
  ·try simp at h2
   refine zN ?_
   refine zT ?_
   refine za3 ?_
   refine zD ?_
   refine zf ?_
   refine zh ?_
   refine zb ?_
   refine dq ((by first | exact zc z7 rfl zG (by decide) rfl | exact zw z7 rfl zG (by decide) rfl)) ?_
   refine dq (ze zG rfl rfl rfl) ?_
   refine dq (zF zG rfl) ?_
   refine dmv rfl ?_
   refine dn ?_
   refine zl ?_
   refine zdn [5, 8, 9, 31, 32, 33, 34, 35, 36, 37, 38, 39, 40, 41, 42, 43, 44, 45, 46, 47, 48, 49, 50, 51, 52, 53, 54, 55, 56] (fun (k : Nat) (u : Value) (out : List OwnerS) => [(31, .int .i64 k), (5, .raw u)]) (fun (k : Nat) (u : Value) (out : List OwnerS) => [St b l a1, .arr u 2 (out.map zaF)]) (fun (k : Nat) (u : Value) (out : List OwnerS) => k ≤ m.Teams.length ∧ (out.length ≤ 8 + k ∧ (∀ x ∈ out, zjo x))) (fun (k : Nat) (u : Value) (out : List OwnerS) => m.Teams.length - k) (0) (u) (out) ?_ ?_ ?_ ?_
   ·exact ⟨Nat.zero_le _, by omega, g2⟩
   ·exact ⟨rfl, rfl, trivial⟩
   ·repeat (first | exact List.Perm.nil | refine zS 0 rfl ?_ | refine zS 1 rfl ?_ | refine zS 2 rfl ?_ | refine zS 3 rfl ?_ | (refine zM 0 rfl ?hq ?_; (case hq => simp [z8, zm]; done)) | (refine zM 1 rfl ?hq ?_; (case hq => simp [z8, zm]; done)) | (refine zM 2 rfl ?hq ?_; (case hq => simp [z8, zm]; done)) | (refine zM 3 rfl ?hq ?_; (case hq => simp [z8, zm]; done)) | fail)
   ·intro k u out hinv
    obtain ⟨hk, g1, g2⟩ := hinv
    refine zb ?_
    refine dq (zO rfl rfl) ?_
    refine dn ?_
    refine zh ?_
    refine zj rfl (fun h3 => ?_) (fun h4 => ?_)
    ·try simp at h3
     obtain ⟨x, hx⟩ : ∃ x, m.Teams[k]? = some x := ⟨_, List.getElem?_eq_getElem h3⟩
     have hdx := zQ hx
     refine zk ?_
     refine zf ?_
     refine zh ?_
     refine zl ?_
     refine zb ?_
     refine dq (zJ zG ty9 rfl rfl rfl (by first | assumption | simp_all)) ?_
     refine dq (ze ty9 rfl rfl rfl) ?_
     refine de rfl (zX ty9 rfl fun b8 => ?_)
     refine de0 (zag ty9 rfl rfl rfl rfl rfl ?_)
     refine dn ?_
     refine zI (Ghost.fc0 8 rfl) ?_
     refine zb ?_
     refine de rfl (zX ty3 rfl fun b9 => ?_)
     first
     | refine de0 (zx (i := 0) ty3 rfl rfl rfl rfl rfl (Nat.le_of_ble_eq_true rfl) ?_)
     | refine de0 (zx (i := 1) ty3 rfl rfl rfl rfl rfl (Nat.le_of_ble_eq_true rfl) ?_)
     | refine de0 (zx (i := 2) ty3 rfl rfl rfl rfl rfl (Nat.le_of_ble_eq_true rfl) ?_)
     | refine de0 (zx (i := 3) ty3 rfl rfl rfl rfl rfl (Nat.le_of_ble_eq_true rfl) ?_)
     refine dn ?_
     refine zb ?_
     refine dmv rfl ?_
     refine dq (zcx rfl rfl) ?_
     refine de rfl (zbP (M1 := [.arr u 2 (out.map zaF), .cells b9 [.int .i64 ((0 : Nat) : Int)]]) (R := [St b l a1]) ca36 rfl (WeakL.refl _) (by repeat (first | exact List.Perm.nil | refine zS 0 rfl ?_ | refine zS 1 rfl ?_ | refine zS 2 rfl ?_ | refine zS 3 rfl ?_ | (refine zM 0 rfl ?hq ?_; (case hq => simp [z8, zm]; done)) | (refine zM 1 rfl ?hq ?_; (case hq => simp [z8, zm]; done)) | (refine zM 2 rfl ?hq ?_; (case hq => simp [z8, zm]; done)) | (refine zM 3 rfl ?hq ?_; (case hq => simp [z8, zm]; done)) | fail)) (zhm (l := out) (n := 0) (caps := [.vptr [.str x] 0, pAt b9, .vptr (zm (zbr m)) 0]) ca37 (fun x n hn => zeP hn) (by omega) (by omega)) ?_)
     rintro _ _ ⟨u37, out2, n2, rfl, hlo, hn2, rfl⟩
     have hol := hlo.len
     refine das rfl ?_
     refine dn ?_
     refine zI (Ghost.fc 9 (i := 1) rfl rfl) ?_
     refine zb ?_
     refine dq (ze ty3 rfl rfl rfl) ?_
     refine dq (zaA rfl rfl) ?_
     refine dmv rfl ?_
     refine dg rfl rfl (fun hc => ⟨_, OpenTo.refl _, (by first | exact zc z7 rfl ty3 (by decide) rfl | exact zw z7 rfl ty3 (by decide) rfl)⟩) ?_
     refine dg rfl rfl (fun hc => ⟨_, OpenTo.upd (t := 41) rfl (by first | exact hc | simp_all) (OpenTo.refl _), ze ty3 rfl rfl rfl⟩) ?_
     refine dg rfl rfl (fun hc => ⟨_, OpenTo.upd (t := 42) rfl (by first | exact hc | simp_all) (OpenTo.refl _), zaA rfl rfl⟩) ?_
     refine dq (zB rfl (.inr ⟨_, rfl, fun h => by simp_all⟩) (.inl rfl)) ?_
     refine dmv rfl ?_
     refine dg rfl rfl (fun hc => ⟨_, OpenTo.refl _, ze ty9 rfl rfl rfl⟩) ?_
     refine dg rfl rfl (fun hc => by have hq := hc; (try simp at hq); exact ⟨_, OpenTo.upd (t := 46) rfl (by first | exact hc | simp_all) (OpenTo.refl _), zq ca38 rfl (WeakL.refl _) (zkZ (s := x) (by have := hm.sh x (List.mem_of_getElem? hx); omega))⟩) ?_
     refine dq (zB rfl (.inr ⟨_, rfl, fun h => by simp_all⟩) (.inl rfl)) ?_
     refine dn ?_
     refine zj rfl (fun h5 => ?_) (fun h6 => ?_)
     ·try simp at h5
      refine zy ?_
      refine dmv rfl ?_
      refine dq (ze ty9 rfl rfl rfl) ?_
      have hxl := hm.sh x (List.mem_of_getElem? hx)
      refine dq (znF rfl rfl (by simp; omega)) ?_
      refine dq (ze ty9 rfl rfl rfl) ?_
      refine dq (zaG (cs := [_, _]) zae zrZ rfl) ?_
      refine dq (zK (hs := [_]) zaV zae rfl rfl (by decide) (by decide) rfl) ?_
      first
      | refine de rfl (zam (i := 0) zaV zae rfl rfl rfl rfl rfl (by simp [zaD, zm]) (by first | omega | (simp; omega)) fun v55 => ?_)
      | refine de rfl (zam (i := 1) zaV zae rfl rfl rfl rfl rfl (by simp [zaD, zm]) (by first | omega | (simp; omega)) fun v55 => ?_)
      | refine de rfl (zam (i := 2) zaV zae rfl rfl rfl rfl rfl (by simp [zaD, zm]) (by first | omega | (simp; omega)) fun v55 => ?_)
      | refine de rfl (zam (i := 3) zaV zae rfl rfl rfl rfl rfl (by simp [zaD, zm]) (by first | omega | (simp; omega)) fun v55 => ?_)
      refine das rfl ?_
      refine dn ?_
      refine zz ?_
      refine zf ?_
      refine zy ?_
      refine dq (zv rfl rfl (by omega) (by omega)) ?_
      refine dmv rfl ?_
      refine dn ?_
      exact ⟨k + 1, v55, out2 ++ [⟨113 :: x, x⟩], ⟨by omega, by simp; have := hlo.len; omega, fun z hz => by
       rcases List.mem_append.1 hz with hz | hz
       ·exact g2 z (hlo.sub z hz)
       ·rw [List.mem_singleton.1 hz]; exact ⟨znC (s := 113 :: x) (n := 11) (by simp; omega) (by decide), znC hxl (by decide)⟩⟩, by dsimp only; omega, ⟨rfl, rfl, trivial⟩, (by repeat (first | exact zo | refine zt rfl ?_ | refine zp rfl rfl ?_)), by repeat (first | exact List.Perm.nil | refine zS 0 rfl ?_ | refine zS 1 rfl ?_ | refine zS 2 rfl ?_ | refine zS 3 rfl ?_ | (refine zM 0 rfl ?hq ?_; (case hq => simp [z8, zm]; done)) | (refine zM 1 rfl ?hq ?_; (case hq => simp [z8, zm]; done)) | (refine zM 2 rfl ?hq ?_; (case hq => simp [z8, zm]; done)) | (refine zM 3 rfl ?hq ?_; (case hq => simp [z8, zm]; done)) | fail)⟩
     ·try simp at h6
      refine zk ?_
      refine zz ?_
      refine zf ?_
      refine zy ?_
      refine dq (zv rfl rfl (by omega) (by omega)) ?_
      refine dmv rfl ?_
      refine dn ?_
      exact ⟨k + 1, u37, out2, ⟨by omega, by have := hlo.len; omega, fun z hz => g2 z (hlo.sub z hz)⟩, by dsimp only; omega, ⟨rfl, rfl, trivial⟩, (by repeat (first | exact zo | refine zt rfl ?_ | refine zp rfl rfl ?_)), by repeat (first | exact List.Perm.nil | refine zS 0 rfl ?_ | refine zS 1 rfl ?_ | refine zS 2 rfl ?_ | refine zS 3 rfl ?_ | (refine zM 0 rfl ?hq ?_; (case hq => simp [z8, zm]; done)) | (refine zM 1 rfl ?hq ?_; (case hq => simp [z8, zm]; done)) | (refine zM 2 rfl ?hq ?_; (case hq => simp [z8, zm]; done)) | (refine zM 3 rfl ?hq ?_; (case hq => simp [z8, zm]; done)) | fail)⟩
    ·try simp at h4
     have hnk : m.Teams.length ≤ k := by omega
     obtain rfl : k = m.Teams.length := by omega
     refine zN ?_
     refine zT ?_
     refine zeA ?_
     refine zD ?_
     refine zf ?_
     refine zf3 [10, 57, 58, 59, 60, 61, 62, 63, 64, 65, 66, 67, 68, 69, 70, 71, 72, 73, 74, 75, 76, 77, 78, 79, 80, 81, 82, 83, 84, 85, 86, 87, 88, 89] (fun (q : List OwnerS × Nat) => []) (fun (q : List OwnerS × Nat) => [St b l q.2, .arr u 2 (q.1.map zaF)]) (fun (q : List OwnerS × Nat) => q.1.length ≤ 13 ∧ (∀ x ∈ q.1, zjo x) ∧ q.2 ≤ a + 40) ?_ ?_
     ·skip
      refine zb ?_
      refine dmv rfl ?_
      first
      | refine de rfl (zaP (i := 0) zaV rfl rfl ?_)
      | refine de rfl (zaP (i := 1) zaV rfl rfl ?_)
      | refine de rfl (zaP (i := 2) zaV rfl rfl ?_)
      | refine de rfl (zaP (i := 3) zaV rfl rfl ?_)
      refine dq (zai rfl rfl) ?_
      refine dmv rfl ?_
      refine dg rfl rfl (fun hc => ⟨_, OpenTo.refl _, zg rfl⟩) ?_
      refine dgx (fun x M' => ∃ (y : Bool) (a3 : Nat), x = .bool y ∧ a3 ≤ a1 + 1 ∧ M' = [St b l a3, .arr u 2 (out.map zaF)]) rfl rfl (fun hc => ⟨_, false, a1, rfl, by omega, rfl⟩) (fun hc => ⟨_, OpenTo.upd (t := 61) rfl (by first | exact hc | simp_all) (OpenTo.refl _), zi (i := 0) zhu rfl (WeakL.refl _) rfl (zaI (a := a1) (by omega) (by omega)) (fun h M' hh => by
       obtain ⟨y, h1, h2⟩ := hh
       exact ⟨y, a1 + 1, h1, by omega, by rw [h2]; rfl⟩)⟩) ?_
      rintro _ _ ⟨y, a3, rfl, ha3, rfl⟩
      refine dq (zB rfl (.inr ⟨_, rfl, fun h => by simp_all⟩) (.inl rfl)) ?_
      refine dn ?_
      refine zj rfl (fun h7 => ?_) (fun h8 => ?_)
      ·try simp at h7
       have ho0 : 0 < out.length := by simp_all
       refine zdb (i := 1) rfl (fun h0 he => ?_) (fun ob off cap hv hcap => ?_)
       ·exfalso; have := congrArg List.length he; simp at this; subst this; simp at ho0
       subst hv
       refine zb ?_
       refine dmv rfl ?_
       refine dmv rfl ?_
       refine dmv rfl ?_
       first
       | refine de rfl (zaP (i := 0) zaV rfl rfl ?_)
       | refine de rfl (zaP (i := 1) zaV rfl rfl ?_)
       | refine de rfl (zaP (i := 2) zaV rfl rfl ?_)
       | refine de rfl (zaP (i := 3) zaV rfl rfl ?_)
       first
       | refine de rfl (zi (i := 0) zfj rfl (WeakL.refl _) rfl (zap (by first | assumption | omega | (simp; omega) | simp_all) (by first | assumption | omega | (simp; omega) | simp_all)) ?_)
       | refine de rfl (zi (i := 1) zfj rfl (WeakL.refl _) rfl (zap (by first | assumption | omega | (simp; omega) | simp_all) (by first | assumption | omega | (simp; omega) | simp_all)) ?_)
       | refine de rfl (zi (i := 2) zfj rfl (WeakL.refl _) rfl (zap (by first | assumption | omega | (simp; omega) | simp_all) (by first | assumption | omega | (simp; omega) | simp_all)) ?_)
       | refine de rfl (zi (i := 3) zfj rfl (WeakL.refl _) rfl (zap (by first | assumption | omega | (simp; omega) | simp_all) (by first | assumption | omega | (simp; omega) | simp_all)) ?_)
       rintro _ _ ⟨y68, rfl, hy68, rfl⟩
       refine dq (zab (j := y68) zaV zae rfl rfl rfl (by simp; omega)) ?_
       refine das rfl ?_
       refine dn ?_
       obtain ⟨x, hx⟩ : ∃ x, out[y68]? = some x := ⟨_, List.getElem?_eq_getElem (by omega)⟩
       refine zbV (fun M => ∃ i : Nat, M[i]? = some (.arr (.slice (some ⟨ob, off, none⟩) (out.map zaF).length cap) 2 (out.map zaF))) [6, 13] mixed ?_
       refine ahp 0 rfl rfl (by kernel_rfl) (by kernel_rfl) (zg rfl) ?_
       refine ahp 1 rfl rfl (by kernel_rfl) (by kernel_rfl) (zg rfl) ?_
       refine ahp 2 rfl rfl (by kernel_rfl) (by kernel_rfl) (zg rfl) ?_
       refine ahp 3 rfl rfl (by kernel_rfl) (by kernel_rfl) (zg rfl) ?_
       refine ahp 4 rfl rfl (by kernel_rfl) (by kernel_rfl) ((by first | exact zaq rfl | exact zW rfl)) ?_
       refine ahp 5 rfl rfl (by kernel_rfl) (by kernel_rfl) ((by first | exact zc zae rfl ty9 (by decide) rfl | exact zw zae rfl ty9 (by decide) rfl)) ?_
       refine ahl 6 rfl rfl (by kernel_rfl) (by kernel_rfl) (by simp) ⟨1, rfl⟩ (fun M hM => by obtain ⟨i, hi⟩ := hM; exact zbg (i := i) (j := y68) 0 ty9 rfl (by omega) hi hx rfl rfl ⟨rfl, rfl⟩) ?_
       refine ahp 7 rfl rfl (by kernel_rfl) (by kernel_rfl) (zK (hs := [_, _, _]) zG ty9 rfl rfl (by decide) (by decide) rfl) ?_
       refine ahp 9 rfl rfl (by kernel_rfl) (by kernel_rfl) (zg rfl) ?_
       refine ahp 10 rfl rfl (by kernel_rfl) (by kernel_rfl) (zg rfl) ?_
       refine ahp 11 rfl rfl (by kernel_rfl) (by kernel_rfl) ((by first | exact zaq rfl | exact zW rfl)) ?_
       refine ahp 12 rfl rfl (by kernel_rfl) (by kernel_rfl) ((by first | exact zc zae rfl ty9 (by decide) rfl | exact zw zae rfl ty9 (by decide) rfl)) ?_
       refine ahl 13 rfl rfl (by kernel_rfl) (by kernel_rfl) (by simp) ⟨1, rfl⟩ (fun M hM => by obtain ⟨i, hi⟩ := hM; exact zbg (i := i) (j := y68) 1 ty9 rfl (by omega) hi hx rfl rfl ⟨rfl, rfl⟩) ?_
       refine ahp 14 rfl rfl (by kernel_rfl) (by kernel_rfl) (zK (hs := [_, _]) zG ty9 rfl rfl (by decide) (by decide) rfl) ?_
       refine ahe 8 rfl (by kernel_rfl) ?_
       first
       | refine zH rfl (zi (i := 0) zcl rfl (WeakL.refl _) rfl (zR (L := [_, _, _]) (by first | assumption | omega | (simp; omega) | simp_all) (by first | assumption | omega | (simp; omega) | simp_all) (by first | assumption | omega | (simp; omega) | simp_all)) ?_)
       | refine zH rfl (zi (i := 1) zcl rfl (WeakL.refl _) rfl (zR (L := [_, _, _]) (by first | assumption | omega | (simp; omega) | simp_all) (by first | assumption | omega | (simp; omega) | simp_all) (by first | assumption | omega | (simp; omega) | simp_all)) ?_)
       | refine zH rfl (zi (i := 2) zcl rfl (WeakL.refl _) rfl (zR (L := [_, _, _]) (by first | assumption | omega | (simp; omega) | simp_all) (by first | assumption | omega | (simp; omega) | simp_all) (by first | assumption | omega | (simp; omega) | simp_all)) ?_)
       | refine zH rfl (zi (i := 3) zcl rfl (WeakL.refl _) rfl (zR (L := [_, _, _]) (by first | assumption | omega | (simp; omega) | simp_all) (by first | assumption | omega | (simp; omega) | simp_all) (by first | assumption | omega | (simp; omega) | simp_all)) ?_)
       rintro _ _ ⟨y78, rfl, hy78, rfl⟩
       refine ⟨fun _ => by first | exact .inl ⟨0, rfl⟩ | exact .inl ⟨1, rfl⟩ | exact .inl ⟨2, rfl⟩ | exact .inr (by simp [zbC, Region.binds]), ?_⟩
       refine ahe 15 rfl (by kernel_rfl) ?_
       first
       | refine zH rfl (zi (i := 0) zcl rfl (WeakL.refl _) rfl (zR (L := [_, _]) (by first | assumption | omega | (simp; omega) | simp_all) (by first | assumption | omega | (simp; omega) | simp_all) (by first | assumption | omega | (simp; omega) | simp_all)) ?_)
       | refine zH rfl (zi (i := 1) zcl rfl (WeakL.refl _) rfl (zR (L := [_, _]) (by first | assumption | omega | (simp; omega) | simp_all) (by first | assumption | omega | (simp; omega) | simp_all) (by first | assumption | omega | (simp; omega) | simp_all)) ?_)
       | refine zH rfl (zi (i := 2) zcl rfl (WeakL.refl _) rfl (zR (L := [_, _]) (by first | assumption | omega | (simp; omega) | simp_all) (by first | assumption | omega | (simp; omega) | simp_all) (by first | assumption | omega | (simp; omega) | simp_all)) ?_)
       | refine zH rfl (zi (i := 3) zcl rfl (WeakL.refl _) rfl (zR (L := [_, _]) (by first | assumption | omega | (simp; omega) | simp_all) (by first | assumption | omega | (simp; omega) | simp_all) (by first | assumption | omega | (simp; omega) | simp_all)) ?_)
       rintro _ _ ⟨y85, rfl, hy85, rfl⟩
       refine ⟨fun _ => by first | exact .inl ⟨0, rfl⟩ | exact .inl ⟨1, rfl⟩ | exact .inl ⟨2, rfl⟩ | exact .inr (by simp [zbC, Region.binds]), ?_⟩
       refine ahp 16 rfl rfl (by kernel_rfl) (by kernel_rfl) ((by first | exact zaq rfl | exact zW rfl)) ?_
       refine ahp 17 rfl rfl (by kernel_rfl) (by kernel_rfl) ((by first | exact zc zae rfl ty9 (by decide) rfl | exact zw zae rfl ty9 (by decide) rfl)) ?_
       refine ahe 18 rfl (by kernel_rfl) ?_
       refine zau (zaR (i := 1) (j := y68) (f := 0) (y := zaF x) (y' := zaF ⟨y78, x.Team⟩) ty9 rfl (by omega) rfl rfl (zcJ hx) rfl rfl (by simp [zm]) rfl ?_)
       refine ⟨fun _ => .inr (by simp [zbC, Region.binds]), ?_⟩
       refine ahp 19 rfl rfl (by kernel_rfl) (by kernel_rfl) ((by first | exact zaq rfl | exact zW rfl)) ?_
       refine ahp 20 rfl rfl (by kernel_rfl) (by kernel_rfl) ((by first | exact zc zae rfl ty9 (by decide) rfl | exact zw zae rfl ty9 (by decide) rfl)) ?_
       refine ahe 21 rfl (by kernel_rfl) ?_
       refine zau (zaR (i := 1) (j := y68) (f := 1) (y := zaF ⟨y78, x.Team⟩) (y' := zaF ⟨y78, y85⟩) ty9 rfl (by omega) rfl rfl (zop (zcJ hx)) rfl rfl (by simp [zm]) rfl ?_)
       refine ⟨fun _ => .inr (by simp [zbC, Region.binds]), ?_⟩
       refine ahz (by kernel_rfl) ?_
       exact ⟨(out.set y68 ⟨y78, y85⟩, a3 + 3), ⟨by simp; omega, zg4 (P := zjo) g2 ⟨by simp at hy78; rcases hy78 with rfl | rfl | rfl; exact (g2 x (List.mem_of_getElem? hx)).1; exact zut; (unfold Sh; simp), by simp at hy85; rcases hy85 with rfl | rfl; exact (g2 x (List.mem_of_getElem? hx)).2; (unfold Sh; simp)⟩, by dsimp only; omega⟩, trivial, (by repeat (first | exact zo | refine zt rfl ?_ | refine zp rfl rfl ?_)), by repeat (first | exact List.Perm.nil | refine zS 0 rfl ?_ | refine zS 1 rfl ?_ | refine zS 2 rfl ?_ | refine zS 3 rfl ?_ | (refine zM 0 rfl ?hq ?_; (case hq => simp [z8, zm]; done)) | (refine zM 1 rfl ?hq ?_; (case hq => simp [z8, zm]; done)) | (refine zM 2 rfl ?hq ?_; (case hq => simp [z8, zm]; done)) | (refine zM 3 rfl ?hq ?_; (case hq => simp [z8, zm]; done)) | fail)⟩
      ·try simp at h8
       refine zk ?_
       exact ⟨(out, a3), ⟨by dsimp only; omega, g2, by dsimp only; omega⟩, trivial, (by repeat (first | exact zo | refine zt rfl ?_ | refine zp rfl rfl ?_)), by repeat (first | exact List.Perm.nil | refine zS 0 rfl ?_ | refine zS 1 rfl ?_ | refine zS 2 rfl ?_ | refine zS 3 rfl ?_ | (refine zM 0 rfl ?hq ?_; (case hq => simp [z8, zm]; done)) | (refine zM 1 rfl ?hq ?_; (case hq => simp [z8, zm]; done)) | (refine zM 2 rfl ?hq ?_; (case hq => simp [z8, zm]; done)) | (refine zM 3 rfl ?hq ?_; (case hq => simp [z8, zm]; done)) | fail)⟩
     ·intro q hq3
      obtain ⟨k1, a4⟩ := q
      dsimp only at hq3
      obtain ⟨q1, q2, q3⟩ := hq3
      refine zb ?_
      refine dmv rfl ?_
      refine das rfl ?_
      refine dn ?_
      refine zn ?_
      refine zbW (Ghost.fa 4 (i := 1) rfl rfl) rfl ⟨k1, a4, rfl, ⟨q1, q2⟩, by omega, rfl⟩
end
section
open Go.HL

end
section
open Go.HL

end
section
open Go.HL

end
end Go.Proofs.YtcihcbnjfclkbaaGreatDoor
namespace Go.HL
section
open Op (bytesLess)
abbrev ze3 : Pick := ⟨0, [], [], 0, false⟩
theorem zn2 {α : Type} {R : α → α → Prop} (tr : ∀ a b c, R a b → R b c → R a c) {l : List α} (h : ∀ (i : Nat) (a b : α), l[i]? = some a → l[i + 1]? = some b → R a b) : l.Pairwise R := by
 have key : ∀ (d i : Nat) (a b : α), l[i]? = some a → l[i + d + 1]? = some b → R a b := by
  intro d
  induction d with
  | zero => intro i a b ha hb; exact h i a b ha hb
  | succ d ih =>
    intro i a b ha hb
    have hlt := zC hb
    have hc := List.getElem?_eq_getElem (l := l) (i := i + d + 1) (by omega)
    exact tr _ _ _ (ih i a _ ha hc) (h (i + d + 1) _ b hc (by rw [show i + d + 1 + 1 = i + (d + 1) + 1 by omega]; exact hb))
 refine List.pairwise_iff_getElem.2 fun i j hi hj hij => ?_
 refine key (j - i - 1) i _ _ (List.getElem?_eq_getElem hi) ?_
 rw [show i + (j - i - 1) + 1 = j by omega]; exact List.getElem?_eq_getElem hj
theorem ziP {α : Type} [DecidableEq α] : ∀ {l m : List α}, l.Nodup → (∀ x ∈ l, x ∈ m) → l.length ≤ m.length
 | [], _, _, _ => Nat.zero_le _
 | a :: l, m, h, hs => by
   have ha := hs a List.mem_cons_self
   obtain ⟨h1, h2⟩ := List.nodup_cons.1 h
   have h3 := ziP (m := m.erase a) h2 fun x hx => (List.mem_erase_of_ne (fun e : x = a => h1 (by rw [← e]; exact hx))).2 (hs x (List.mem_cons_of_mem _ hx))
   rw [List.length_erase_of_mem ha] at h3
   have := List.length_pos_of_mem ha
   simp; omega
theorem zrf {α : Type} {R : α → α → Prop} : ∀ {l : List α}, l.Pairwise R → ∀ x ∈ l, ∀ y ∈ l, x = y ∨ R x y ∨ R y x
 | [], _, x, hx, _, _ => by simp at hx
 | a :: l, h, x, hx, y, hy => by
   obtain ⟨h1, h2⟩ := List.pairwise_cons.1 h
   rcases List.mem_cons.1 hx with e | hx' <;> rcases List.mem_cons.1 hy with e' | hy'
   ·exact .inl (e.trans e'.symm)
   ·exact .inr (.inl (e ▸ h1 y hy'))
   ·exact .inr (.inr (e' ▸ h1 x hx'))
   ·exact zrf h2 x hx' y hy'
/-! keeps that are right -/
def kLt (a b : Keep) : Prop := bytesLess a.Team b.Team = true ∨ (a.Team = b.Team ∧ a.Round < b.Round)
theorem zq8 (a b c : Keep) (h1 : kLt a b) (h2 : kLt b c) : kLt a c := by
 rcases h1 with h1 | ⟨e1, h1⟩ <;> rcases h2 with h2 | ⟨e2, h2⟩
 ·exact .inl (zcZ h1 h2)
 ·exact .inl (e2 ▸ h1)
 ·exact .inl (e1 ▸ h2)
 ·exact .inr ⟨e1.trans e2, by omega⟩
theorem zuk {a b : Keep} (h : ¬ orI [za4 b.Team a.Team, zgO b.Round a.Round] ≤ 0) : kLt a b := by
 rw [zfZ] at h
 rcases zb9 a.Team b.Team with h1 | h1 | h1
 ·exact .inl h1
 ·refine .inr ⟨h1, ?_⟩
  rw [h1] at h
  simp [zas, orI, zgO] at h
  split at h
  ·omega
  ·split at h <;> omega
 ·rw [h1] at h; simp [orI] at h
structure KeepsOk (r : Room) (k : List Keep) : Prop where
 all : ∀ x ∈ k, x.Team ∈ r.Teams ∧ x.Player ∈ r.Players ∧ 1 ≤ x.Round ∧ x.Round ≤ r.Rounds
 lt : k.Pairwise kLt
theorem zlE {r : Room} {l : List Keep} : ∀ (t : List Keep) (k : Nat) (kept : List Str) (tw : Bool), l.drop k = t → zji r l k kept tw t = 0 →
 (∀ x ∈ t, x.Team ∈ r.Teams ∧ x.Player ∈ r.Players ∧ 1 ≤ x.Round ∧ x.Round ≤ r.Rounds) ∧ ∀ (i : Nat) (a b : Keep), k ≤ i + 1 → l[i]? = some a → l[i + 1]? = some b → kLt a b
 | [], k, kept, tw, hd, h => ⟨by simp, fun i a b hi ha hb => by
    have := zC hb
    have h2 : l.length ≤ k := by rw [← List.drop_eq_nil_iff]; exact hd
    omega⟩
 | x :: t, k, kept, tw, hd, h => by
   have hk : l[k]? = some x := by
    have := congrArg (fun q => q[0]?) hd
    simpa using this
   have hd' : l.drop (k + 1) = t := by
    have := zQ hk
    rw [hd] at this; simp at this; exact this.symm
   simp only [zji] at h
   split at h
   ·omega
   ·rename_i h1
    split at h
    ·omega
    ·rename_i h2
     split at h
     ·omega
     ·rename_i h3
      obtain ⟨h4, h5⟩ := zlE t (k + 1) _ _ hd' h
      have h2' := zeu (by simpa using h2)
      refine ⟨fun y hy => ?_, fun i a b hi ha hb => ?_⟩
      ·rcases List.mem_cons.1 hy with rfl | hy
       ·simp at h1; exact ⟨h1.1, h1.2, h2'⟩
       ·exact h4 y hy
      ·by_cases e : k = i + 1
       ·subst e
        rw [hk] at hb; cases hb
        refine zuk fun hc => h3 ?_
        simp [List.getD, ha]; exact hc
       ·exact h5 i a b (by omega) ha hb
theorem zkE {r : Room} {k : List Keep} (h : zd1 r k = 0) : KeepsOk r k := by
 unfold zd1 at h
 split at h
 ·rename_i hc; simp [h] at hc
 ·split at h
  ·omega
  ·obtain ⟨h1, h2⟩ := zlE k 0 [] false rfl h
   exact ⟨h1, zn2 zq8 fun i a b => h2 i a b (by omega)⟩
theorem ziD {l : List Str} : ∀ (r : List Str) (k : Nat), za8 l k r = 0 → ∀ s ∈ r, key s = true
 | [], _, _, s, hs => by simp at hs
 | x :: r, k, h, s, hs => by
   simp only [za8] at h
   split at h
   ·omega
   ·rename_i h1
    split at h
    ·omega
    ·rcases List.mem_cons.1 hs with rfl | hs
     ·simpa using h1
     ·exact ziD r (k + 1) h s hs
structure RoomOk (r : Room) : Prop where
 sorted : SortedS r.Players
 t20 : r.Teams.length ≤ 20
 t0 : 0 < r.Teams.length
 r1 : 1 ≤ r.Rounds
 r30 : r.Rounds ≤ 30
 p500 : r.Players.length ≤ 500
 ne : ∀ s ∈ r.Players, s ≠ []
 many : (r.Teams.length : Int) * r.Rounds ≤ r.Players.length
 clock : 1000 ≤ r.Clock ∧ r.Clock ≤ 86400000
 start : zcX r.Start = true
theorem zmb {r : Room} (h : za0 r = 0) : RoomOk r := by
 obtain ⟨a1, a2, a3, a4, a5, a6⟩ := zge h
 unfold za0 at h
 split at h
 ·rename_i hc; simp [h] at hc
 ·split at h
  ·omega
  ·split at h
   ·omega
   ·split at h
    ·rename_i hc; simp [h] at hc
    ·rename_i hp
     split at h
     ·omega
     ·rename_i hcl
      split at h
      ·omega
      ·rename_i hm
       simp at hcl hp
       refine ⟨a1, a2, a3, a4, a5, a6, fun s hs e => ?_, by omega, zeu hcl.1, hcl.2⟩
       unfold playersFault at hp
       split at hp
       ·omega
       ·have := ziD _ 0 hp s hs
        subst e; simp [key, zgA] at this
theorem zn9 {l : List Str} (h : SortedS l) : l.Nodup :=
 List.Pairwise.imp (fun {a b} hab e => by subst e; rw [zas] at hab; cases hab) h
/-! turns -/
theorem zhW {r : Room} {s : List Swap} {t : Str} (ht : t ∈ r.Teams) : ∀ (n : Nat) (rd : Int), 1 ≤ rd → rd ≤ n → ∃ x ∈ zb2 r s n, x.of = t ∧ x.round = rd
 | 0, rd, h1, h2 => by omega
 | n + 1, rd, h1, h2 => by
   by_cases e : rd = (n : Int) + 1
   ·refine ⟨⟨rd, t, owner rd t s⟩, ?_, rfl, rfl⟩
    simp only [zb2, List.mem_append]
    right
    subst e
    unfold zeZ
    refine List.mem_map.2 ⟨t, ?_, rfl⟩
    split
    ·exact List.mem_reverse.2 ht
    ·exact ht
   ·obtain ⟨x, hx, h3⟩ := zhW ht n rd h1 (by omega)
    exact ⟨x, by simp only [zb2, List.mem_append]; exact .inl hx, h3⟩
def fits (t : Turn) (x : Keep) : Bool := decide (x.Team = t.of ∧ x.Round = t.round)
theorem zlu (r : Room) (t : Turn) : ∀ (k : List Keep) (p : Pick), (zde r t p k).No = p.No ∧ (zde r t p k).Team = p.Team
 | [], p => ⟨rfl, rfl⟩
 | x :: k, p => by
   obtain ⟨h1, h2⟩ := zlu r t k (if x.Team = t.of ∧ x.Round = t.round then { p with Player := x.Player, At := r.Start } else p)
   simp only [zde]; rw [h1, h2]
   split <;> exact ⟨rfl, rfl⟩
theorem zlr (r : Room) (t : Turn) : ∀ (k : List Keep) (p : Pick), (zde r t p k).Player = p.Player ∨ ∃ x ∈ k, fits t x = true ∧ (zde r t p k).Player = x.Player
 | [], p => .inl rfl
 | x :: k, p => by
   simp only [zde]
   rcases zlr r t k (if x.Team = t.of ∧ x.Round = t.round then { p with Player := x.Player, At := r.Start } else p) with h | ⟨y, hy, h1, h2⟩
   ·by_cases e : x.Team = t.of ∧ x.Round = t.round
    ·rw [if_pos e] at h ⊢
     exact .inr ⟨x, List.mem_cons_self, by simp [fits, e], h⟩
    ·rw [if_neg e] at h ⊢
     exact .inl h
   ·exact .inr ⟨y, List.mem_cons_of_mem _ hy, h1, h2⟩
theorem zjJ (r : Room) (t : Turn) : ∀ (k : List Keep) (p : Pick), k.any (fits t) = false → zde r t p k = p
 | [], p, _ => rfl
 | x :: k, p, h => by
   simp only [List.any_cons, Bool.or_eq_false_iff] at h
   have e : ¬ (x.Team = t.of ∧ x.Round = t.round) := by simpa [fits] using h.1
   simp only [zde]; rw [if_neg e]; exact zjJ r t k p h.2
theorem zlD (r : Room) (t : Turn) {x : Keep} : ∀ (k : List Keep) (p : Pick), x ∈ k → fits t x = true → (∀ y ∈ k, fits t y = true → y.Player = x.Player) → (zde r t p k).Player = x.Player
 | [], p, hx, _, _ => by simp at hx
 | y :: k, p, hx, hf, hu => by
   simp only [zde]
   by_cases e : y.Team = t.of ∧ y.Round = t.round
   ·have hy := hu y List.mem_cons_self (by simp [fits, e])
    rw [if_pos e]
    rcases zlr r t k { p with Player := y.Player, At := r.Start } with h | ⟨z, hz, h1, h2⟩
    ·rw [h]; exact hy
    ·rw [h2]; exact hu z (List.mem_cons_of_mem _ hz) h1
   ·rw [if_neg e]
    rcases List.mem_cons.1 hx with rfl | hx
    ·exact absurd (by simpa [fits] using hf) e
    ·exact zlD r t k p hx hf fun z hz => hu z (List.mem_cons_of_mem _ hz)
theorem KeepsOk.one {r : Room} {k : List Keep} (h : KeepsOk r k) {t : Turn} {x y : Keep} (hx : x ∈ k) (hy : y ∈ k) (fx : fits t x = true) (fy : fits t y = true) : y = x := by
 simp [fits] at fx fy
 rcases zrf h.lt x hx y hy with e | e | e
 ·exact e.symm
 ·exfalso
  rcases e with e | ⟨e1, e2⟩
  ·rw [fx.1, fy.1, zas] at e; cases e
  ·omega
 ·exfalso
  rcases e with e | ⟨e1, e2⟩
  ·rw [fx.1, fy.1, zas] at e; cases e
  ·omega
theorem zpc {r : Room} {k : List Keep} (h : KeepsOk r k) (hne : ∀ s ∈ r.Players, s ≠ []) (t : Turn) (p : Pick) (hp : p.Player = []) : ((zde r t p k).Player == []) = !(k.any (fits t)) := by
 cases hq : k.any (fits t) with
 | false => rw [zjJ r t k p hq, hp]; rfl
 | true =>
   obtain ⟨x, hx, hf⟩ := List.any_eq_true.1 hq
   rw [zlD r t k p hx hf fun y hy hfy => by rw [h.one hx hy hf hfy]]
   have := hne _ (h.all x hx).2.1
   simpa using this
def zb7 (r : Room) (k : List Keep) (s : List Swap) : List Pick := (zhq r k s).filter fun p => p.Player == []
theorem zhX {r : Room} {k : List Keep} (h : KeepsOk r k) (hne : ∀ s ∈ r.Players, s ≠ []) : ∀ (l : List Turn) (i : Nat), ((zdY r k i l).filter fun p => p.Player == []).length + (l.filter fun t => k.any (fits t)).length = l.length
 | [], i => rfl
 | t :: l, i => by
   have ih := zhX h hne l (i + 1)
   simp only [zdY, List.filter_cons, zpc h hne t ⟨i, t.team, [], 0, false⟩ rfl, List.length_cons]
   cases k.any (fits t) <;> simp only [Bool.not_true, Bool.not_false, Bool.false_eq_true, if_true, if_false, List.length_cons] <;> omega
theorem zsk {r : Room} {k : List Keep} {s : List Swap} (h : zdl r k s = 0) : (zb7 r k s).length + k.length ≤ (turns r s).length := by
 obtain ⟨h1, _, h3⟩ := zgk h
 have hk := zkE h3
 have hr := zmb h1
 have e := zhX hk hr.ne (turns r s) 0
 have hs : (k.map fun x => (x.Team, x.Round)).length ≤ (((turns r s).filter fun t => k.any (fits t)).map fun t => (t.of, t.round)).length := by
  refine ziP ?_ fun q hq => ?_
  ·refine List.pairwise_map.2 (hk.lt.imp fun {a b} hab e => ?_)
   injection e with e1 e2
   rcases hab with hab | ⟨_, hab⟩
   ·rw [e1, zas] at hab; cases hab
   ·omega
  ·obtain ⟨x, hx, rfl⟩ := List.mem_map.1 hq
   obtain ⟨a1, _, a3, a4⟩ := hk.all x hx
   obtain ⟨t, ht, b1, b2⟩ := zhW (s := s) a1 r.Rounds.toNat x.Round a3 (by omega)
   refine List.mem_map.2 ⟨t, List.mem_filter.2 ⟨ht, List.any_eq_true.2 ⟨x, hx, by simp [fits, b1, b2]⟩⟩, by rw [b1, b2]⟩
 simp only [List.length_map] at hs
 unfold zb7 zhq
 omega
/-! who is left -/
def zcE (k : List Keep) (l : List Pick) (s : Str) : Bool := k.any (fun x => x.Player == s) || l.any (fun p => p.Player == s)
def zpU (r : Room) (k : List Keep) (l : List Pick) : List Str := r.Players.filter fun s => !(zcE k l s)
theorem zsH {r : Room} {k : List Keep} {l : List Pick} (hs : SortedS r.Players) : r.Players.length ≤ (zpU r k l).length + k.length + l.length := by
 have h1 : (r.Players.filter (zcE k l)).length ≤ (k.map (·.Player) ++ l.map (·.Player)).length := by
  refine ziP ((zn9 hs).sublist List.filter_sublist) fun s h => ?_
  have := (List.mem_filter.1 h).2
  simp only [zcE, Bool.or_eq_true, List.any_eq_true, beq_iff_eq] at this
  rcases this with ⟨x, hx, e⟩ | ⟨x, hx, e⟩
  ·exact List.mem_append_left _ (List.mem_map.2 ⟨x, hx, e⟩)
  ·exact List.mem_append_right _ (List.mem_map.2 ⟨x, hx, e⟩)
 have h2 : ∀ (p : Str → Bool) (q : List Str), (q.filter fun s => !(p s)).length + (q.filter p).length = q.length := fun p q => by
  induction q with
  | nil => rfl
  | cons a q ih => simp only [List.filter_cons]; cases p a <;> simp <;> omega
 have := h2 (zcE k l) r.Players
 rw [List.length_append, List.length_map, List.length_map] at h1
 unfold zpU
 omega
theorem zqb {r : Room} {s : List Swap} (h : RoomOk r) : (turns r s).length ≤ r.Players.length := by
 unfold turns; rw [zet]
 have := h.many
 have e : ((r.Rounds.toNat * r.Teams.length : Nat) : Int) = (r.Teams.length : Int) * r.Rounds := by
  rw [Int.natCast_mul, Int.toNat_of_nonneg (by have := h.r1; omega), Int.mul_comm]
 omega
theorem ztw {r : Room} {k : List Keep} {s : List Swap} {l : List Pick} (h : zdl r k s = 0) (hl : l.length < (zb7 r k s).length) : 0 < (zpU r k l).length := by
 have hr := zmb (zgk h).1
 have h1 := zsk h
 have h2 := zsH (k := k) (l := l) hr.sorted
 have h3 := zqb (s := s) hr
 omega
end
section
def zgm (r : Room) (l : List Pick) : Int := match l.getLast? with | some p => p.At | none => r.Start
def pkF (r : Room) (k : List Keep) (fr l : List Pick) (p : Pick) : Int :=
 if !(zcX p.At) then 1 else if !(p.No == (fr.getD l.length ze3).No) then 7 else if !(p.Team == (fr.getD l.length ze3).Team) then 13
 else if !(r.Players.contains p.Player) then 8 else if zcE k l p.Player then 6 else if p.At < zgm r l then 11 else 0
def zfo (r : Room) (k : List Keep) (fr l : List Pick) : Nat → List Pick → Int
 | _, [] => 0
 | i, p :: t => if pkF r k fr (l.take i) p != 0 then pkF r k fr (l.take i) p else zfo r k fr l (i + 1) t
def zsO (r : Room) (k : List Keep) (s : List Swap) (l : List Pick) : Int := if (zb7 r k s).length < l.length then 2 else zfo r k (zb7 r k s) l 0 l
def zeo (r : Room) (k : List Keep) (s : List Swap) (l : List Pick) : Int := if zdl r k s != 0 then zdl r k s else zsO r k s l
theorem zuy {r : Room} {k : List Keep} {fr l : List Pick} {i : Nat} {p : Pick} {t : List Pick} (h : pkF r k fr (l.take i) p ≠ 0) : zfo r k fr l i (p :: t) = pkF r k fr (l.take i) p := by
 rw [zfo, if_pos (by simpa using h)]
theorem zte {r : Room} {k : List Keep} {fr l : List Pick} {i : Nat} {p : Pick} {t : List Pick} (h : pkF r k fr (l.take i) p = 0) : zfo r k fr l i (p :: t) = zfo r k fr l (i + 1) t := by
 rw [zfo, if_neg (by simp [h])]
section
variable {r : Room} {k : List Keep} {fr l : List Pick} {p : Pick}
theorem pf0 (h1 : zcX p.At = true) (h2 : p.No = (fr.getD l.length ze3).No) (h3 : p.Team = (fr.getD l.length ze3).Team) (h4 : p.Player ∈ r.Players) (h5 : zcE k l p.Player = false) (h6 : ¬ p.At < zgm r l) : pkF r k fr l p = 0 := by
 unfold pkF; rw [if_neg (by simp [h1]), if_neg (by simpa using h2), if_neg (by simpa using h3), if_neg (by simpa using h4), if_neg (by simp [h5]), if_neg h6]
theorem zud (h : pkF r k fr l p = 0) : zcX p.At = true ∧ p.No = (fr.getD l.length ze3).No ∧ p.Team = (fr.getD l.length ze3).Team ∧ p.Player ∈ r.Players ∧ zcE k l p.Player = false := by
 unfold pkF at h
 split at h
 ·omega
 ·rename_i h1
  split at h
  ·omega
  ·rename_i h2
   split at h
   ·omega
   ·rename_i h3
    split at h
    ·omega
    ·rename_i h4
     split at h
     ·omega
     ·rename_i h5
      simp at h1 h2 h3 h4 h5
      exact ⟨h1, h2, h3, h4, h5⟩
end
theorem zif {r : Room} {k : List Keep} {s : List Swap} {l : List Pick} (h : zeo r k s l = 0) : zdl r k s = 0 ∧ l.length ≤ (zb7 r k s).length ∧ zfo r k (zb7 r k s) l 0 l = 0 := by
 unfold zeo at h
 split at h
 ·rename_i hc; simp [h] at hc
 ·rename_i hc
  unfold zsO at h
  split at h
  ·omega
  ·exact ⟨by simpa using hc, by omega, h⟩
theorem zkA {r : Room} {k : List Keep} {fr l : List Pick} : ∀ (t : List Pick) (i : Nat), l.drop i = t → zfo r k fr l i t = 0 → ∀ (j : Nat) (p : Pick), i ≤ j → l[j]? = some p → pkF r k fr (l.take j) p = 0
 | [], i, hd, _, j, p, hj, hp => by
   have := zC hp
   have h2 : l.length ≤ i := by rw [← List.drop_eq_nil_iff]; exact hd
   omega
 | x :: t, i, hd, h, j, p, hj, hp => by
   have hk : l[i]? = some x := by
    have := congrArg (fun q => q[0]?) hd
    simpa using this
   have hd' : l.drop (i + 1) = t := by
    have := zQ hk
    rw [hd] at this; simp at this; exact this.symm
   by_cases e : pkF r k fr (l.take i) x = 0
   ·rw [zte e] at h
    by_cases hij : i = j
    ·subst hij; rw [hk] at hp; cases hp; exact e
    ·exact zkA t (i + 1) hd' h j p (by omega) hp
   ·rw [zuy e] at h; exact absurd h e
structure Wish where
 Team : Str
 Players : List Str
/-- whom a team would pick of those who are not gone -/
def zga (g : Str → Bool) (team : Str) : List Wish → Option Str
 | [] => none
 | y :: r => if y.Team = team then (match y.Players.find? (fun s => !(g s)) with | some s => some s | none => zga g team r) else zga g team r
def zis (r : Room) (g : Str → Bool) (w : List Wish) (team : Str) : Str := match zga g team w with | some s => s | none => (r.Players.find? (fun s => !(g s))).getD []
theorem znY {p : Str → Bool} {l : List Str} {s : Str} (h : l.find? p = some s) : s ∈ l ∧ p s = true := ⟨List.mem_of_find?_eq_some h, List.find?_some h⟩
/-! picks by lists -/
def zsV (r : Room) (k : List Keep) (fr : List Pick) (w : List Wish) (l : List Pick) (at' : Int) : Pick :=
 ⟨(fr.getD l.length ze3).No, (fr.getD l.length ze3).Team, zis r (zcE k l) w (fr.getD l.length ze3).Team, at', true⟩
def dueB (r : Room) (l : List Pick) (at' : Int) : Bool := zcX (zgm r l + r.Clock) && decide (zgm r l + r.Clock ≤ at')
theorem zqH (k : List Keep) (l : List Pick) (p : Pick) (s : Str) : zcE k (l ++ [p]) s = (zcE k l s || p.Player == s) := by
 simp [zcE, Bool.or_assoc]
/-! what a run holds -/
structure RunOk (r : Room) (k : List Keep) (s : List Swap) (l : List Pick) (S : List Str) : Prop where
 gone : ∀ x ∈ r.Players, S.contains x = zcE k l x
theorem RunOk.add {r : Room} {k : List Keep} {s : List Swap} {l : List Pick} {S : List Str} (ok : RunOk r k s l S) (p : Pick) : RunOk r k s (l ++ [p]) (zcj p.Player S) :=
 ⟨fun x hx => by rw [zqH, zh0, ok.gone x hx]⟩
end
section
section
variable {r : Room} {w : List Wish} {k : Nat} {x : Wish} {t : List Wish}
end
end
end Go.HL
namespace Go.Proofs.YtcihcbnjfclkbaaGreatDoor
set_option maxRecDepth 100000
set_option linter.unusedVariables false
set_option linter.unusedSimpArgs false
section
open Go.HL
set_option linter.unusedSimpArgs false
end
section
open Go.HL

end
section
open Go.HL
set_option linter.unusedSimpArgs false
end
section
open Go.HL

end
section
open Go.HL

end
section
open Go.HL

end
end Go.Proofs.YtcihcbnjfclkbaaGreatDoor
namespace Go.HL
section
variable {P : Program}
theorem EOp.fzi [Tracks] {e : Env} {M N : List MObj} {o : Oper} {K : HVal → List MObj → Prop} {sz : Nat} {es : List HVal} (i : Nat) (h : EOp P e M o fun x M' => ∃ v, x = .raw v ∧ M'[i]? = some (.arr v sz es) ∧ M'.eraseIdx i = N) (hk : K (.slice sz es) N) : EOp P e M o K := fun I F a w ho hs =>
 Oper.wp_noQ (fun _ _ ⟨v, x, M', J, h1, h2, ⟨u, h3, h4, h5⟩, h6, h7⟩ => by
  subst h3 h5
  obtain ⟨J', g1, g2, g3⟩ := (h7.pull h4).freeze_arr
  exact ⟨v, _, _, J', h1, h2.trans g1, hk, by rw [h6.raw_inv]; exact g3, g2⟩) (h I F a w ho hs)
end
end Go.HL
namespace Go.Proofs.YtcihcbnjfclkbaaGreatDoor
set_option maxRecDepth 100000
set_option linter.unusedVariables false
set_option linter.unusedSimpArgs false
section
open Go.HL
set_option maxHeartbeats 2000000 in
/-- (*benchwarmer/benchmake.Stream).Order -/
theorem zf8 [Tracks] {b : Nat} {l : List Int} {a : Nat} {n : Nat} (ha : a ≤ 800000) (hn1 : 1 ≤ n) (hn2 : n ≤ 1000) : Con Tryz.prog 40 [pAt b, .int .i64 (n : Int)] [St b l a] (fun x M' => ∃ (L : List Int) (a' : Nat), x = .slice 1 (L.map (.int .i64)) ∧ (L.length = n ∧ ∀ i ∈ L, (0 : Int) ≤ i ∧ i < n) ∧ a' ≤ a + n ∧ M' = [St b l a']) := by
 refine Con.of_body Tryz.func40 rfl Tryz.ntmps40 rfl rfl ?_
 refine zb ?_
 refine das rfl ?_
 refine dn ?_
 refine zb ?_
 refine das rfl ?_
 refine dn ?_
 refine zI (Ghost.arr_nil 1) ?_
 refine zh ?_
 refine zb ?_
 refine dmv rfl ?_
 refine dmv rfl ?_
 refine dn ?_
 refine zl ?_
 refine zdn [5, 6, 10, 11, 12, 13, 14, 15, 16, 17] (fun (k : Nat) (u : Value) (L : List Int) => [(10, .int .i64 (k : Int)), (5, .raw u)]) (fun (k : Nat) (u : Value) (L : List Int) => [.arr u 1 (L.map (HVal.int .i64)), St b l a]) (fun (k : Nat) (u : Value) (L : List Int) => k ≤ n ∧ L.length = k ∧ ∀ i ∈ L, (0 : Int) ≤ i ∧ i < n) (fun (k : Nat) (u : Value) (L : List Int) => n - k) (0) (.slice none 0 0) ([]) ?_ ?_ ?_ ?_
 ·exact ⟨by omega, rfl, by simp⟩
 ·exact ⟨rfl, rfl, trivial⟩
 ·exact zL rfl
 ·intro k u L hinv
  obtain ⟨hk, hL, hLb⟩ := hinv
  refine zb ?_
  refine dq (zO rfl rfl) ?_
  refine dn ?_
  refine zh ?_
  refine zj rfl (fun h1 => ?_) (fun h2 => ?_)
  ·try simp at h1
   have hkn : k < n := by omega
   refine zk ?_
   refine zf ?_
   refine zh ?_
   refine zl ?_
   refine zb ?_
   refine dmv rfl ?_
   refine das rfl ?_
   refine dn ?_
   refine zy ?_
   refine dmv rfl ?_
   refine dmv rfl ?_
   refine dq (zK (hs := [_]) zU ty3 rfl rfl (by decide) (by decide) rfl) ?_
   refine de rfl (zam (i := 0) zU ty3 rfl rfl rfl rfl rfl (by simp [zaD, zm]) (by simp; omega) fun v16 => ?_)
   refine das rfl ?_
   refine dn ?_
   refine zz ?_
   refine zf ?_
   refine zy ?_
   refine dq (zv rfl rfl (by omega) (by omega)) ?_
   refine dmv rfl ?_
   refine dn ?_
   exact ⟨k + 1, v16, L ++ [(k : Int)], ⟨by omega, by simp [hL], fun i hi => by rcases List.mem_append.1 hi with h | h; exact hLb i h; (simp at h; omega)⟩, by dsimp only; omega, ⟨rfl, rfl, trivial⟩, (by repeat (first | exact zo | refine zt rfl ?_ | refine zp rfl rfl ?_)), zL (by simp)⟩
  ·try simp at h2
   obtain rfl : n = k := by omega
   refine zN ?_
   refine zT ?_
   refine zeA ?_
   refine zD ?_
   refine zf ?_
   refine zh ?_
   refine zI (Ghost.perm (M' := [St b l a, .arr u 1 (L.map (.int .i64))]) (by repeat (first | exact List.Perm.nil | refine zS 0 rfl ?_ | refine zS 1 rfl ?_ | refine zS 2 rfl ?_ | refine zS 3 rfl ?_ | (refine zM 0 rfl ?hq ?_; (case hq => simp [z8, zm]; done)) | (refine zM 1 rfl ?hq ?_; (case hq => simp [z8, zm]; done)) | (refine zM 2 rfl ?hq ?_; (case hq => simp [z8, zm]; done)) | (refine zM 3 rfl ?hq ?_; (case hq => simp [z8, zm]; done)) | fail))) ?_
   refine zdb (i := 1) rfl (fun h0 he => ?_) (fun ob off cap hv hcap => ?_)
   ·exfalso; have := congrArg List.length he; simp at this; subst this; simp at hL; omega
   rw [List.length_map, hL] at hv hcap
   subst hv
   refine zb ?_
   refine dmv rfl ?_
   refine dq (zal rfl rfl (by omega) (by omega)) ?_
   refine das rfl ?_
   refine dn ?_
   refine zl ?_
   refine zdn [7, 8, 20, 21, 22, 23, 24, 25, 26, 27, 28, 29, 30, 31, 32, 33, 34, 35, 36, 37, 38, 39, 40, 41] (fun (m : Nat) (L : List Int) (a2 : Nat) => [(7, .int .i64 (m : Int))]) (fun (m : Nat) (L : List Int) (a2 : Nat) => [St b l a2, .arr (.slice (some ⟨ob, off, none⟩) n cap) 1 (L.map (HVal.int .i64))]) (fun (m : Nat) (L : List Int) (a2 : Nat) => m < n ∧ (L.length = n ∧ ∀ i ∈ L, (0 : Int) ≤ i ∧ i < n) ∧ a2 + m ≤ a + n) (fun (m : Nat) (L : List Int) (a2 : Nat) => m) (n - 1) (L) (a) ?_ ?_ ?_ ?_
   ·exact ⟨by omega, ⟨hL, hLb⟩, by omega⟩
   ·exact ⟨zbx (by omega), trivial⟩
   ·exact List.Perm.refl _
   ·intro m L a2 hinv
    obtain ⟨hm, ⟨hL, hLb⟩, ha2⟩ := hinv
    refine zh ?_
    refine zb ?_
    refine dmv rfl ?_
    refine dq (zai rfl rfl) ?_
    refine dn ?_
    refine zj rfl (fun h3 => ?_) (fun h4 => ?_)
    ·try simp at h3
     have hm0 : 0 < m := by omega
     refine zk ?_
     refine zf ?_
     refine zh ?_
     refine zl ?_
     refine zb ?_
     refine dmv rfl ?_
     refine dmv rfl ?_
     refine dq (zv rfl rfl (by omega) (by omega)) ?_
     refine de rfl (zi (i := 0) zfj rfl (WeakL.refl _) rfl (zap (by omega) (by omega)) ?_)
     rintro _ _ ⟨y27, rfl, hy27, rfl⟩
     refine das rfl ?_
     refine dn ?_
     obtain ⟨z1, hz1⟩ : ∃ z, L[y27]? = some z := ⟨_, List.getElem?_eq_getElem (by omega)⟩
     obtain ⟨z2, hz2⟩ : ∃ z, L[m]? = some z := ⟨_, List.getElem?_eq_getElem (by omega)⟩
     obtain ⟨z3, hz3⟩ : ∃ z, (L.set m z1)[y27]? = some z := ⟨_, List.getElem?_eq_getElem (by simp; omega)⟩
     refine zbV (fun M => ∃ i : Nat, M[i]? = some (.arr (.slice (some ⟨ob, off, none⟩) n cap) 1 (L.map (HVal.int .i64)))) [7, 11] mixed ?_
     refine ahp 0 rfl rfl (by kernel_rfl) (by kernel_rfl) (zg rfl) ?_
     refine ahp 1 rfl rfl (by kernel_rfl) (by kernel_rfl) (zg rfl) ?_
     refine ahp 2 rfl rfl (by kernel_rfl) (by kernel_rfl) (zg rfl) ?_
     refine ahp 3 rfl rfl (by kernel_rfl) (by kernel_rfl) (zg rfl) ?_
     refine ahp 4 rfl rfl (by kernel_rfl) (by kernel_rfl) (zg rfl) ?_
     refine ahp 5 rfl rfl (by kernel_rfl) (by kernel_rfl) (zg rfl) ?_
     refine ahp 6 rfl rfl (by kernel_rfl) (by kernel_rfl) (zab (j := y27) zU ty3 rfl rfl rfl (by omega)) ?_
     refine ahl 7 rfl rfl (by kernel_rfl) (by kernel_rfl) (by simp) (⟨1, rfl⟩) (fun M hM => by obtain ⟨i, hi⟩ := hM; exact zbg (i := i) (j := y27) 0 ty3 rfl (by omega) hi hz1 rfl rfl ⟨rfl, rfl⟩) ?_
     refine ahp 8 rfl rfl (by kernel_rfl) (by kernel_rfl) (zg rfl) ?_
     refine ahp 9 rfl rfl (by kernel_rfl) (by kernel_rfl) (zg rfl) ?_
     refine ahp 10 rfl rfl (by kernel_rfl) (by kernel_rfl) (zab (j := m) zU ty3 rfl rfl rfl (by omega)) ?_
     refine ahl 11 rfl rfl (by kernel_rfl) (by kernel_rfl) (by simp) (⟨1, rfl⟩) (fun M hM => by obtain ⟨i, hi⟩ := hM; exact zbg (i := i) (j := m) 0 ty3 rfl (by omega) hi hz2 rfl rfl ⟨rfl, rfl⟩) ?_
     refine ahp 12 rfl rfl (by kernel_rfl) (by kernel_rfl) (zab (j := m) zU ty3 rfl rfl rfl (by omega)) ?_
     refine ahe 13 rfl (by kernel_rfl) ?_
     refine zau (zck (i := 1) (f := HVal.int .i64) (es := L) (j := m) (y := z2) (y' := z1) ty3 rfl rfl rfl rfl hz2 rfl rfl rfl ?_)
     refine ⟨fun _ => .inr (by simp [zbC, Region.binds]), ?_⟩
     refine ahp 14 rfl rfl (by kernel_rfl) (by kernel_rfl) (zab (j := y27) zU ty3 rfl rfl rfl (by omega)) ?_
     refine ahe 15 rfl (by kernel_rfl) ?_
     refine zau (zck (i := 1) (f := HVal.int .i64) (es := L.set m z1) (j := y27) (y := z3) (y' := z2) ty3 rfl rfl rfl rfl hz3 rfl rfl rfl ?_)
     refine ⟨fun _ => .inr (by simp [zbC, Region.binds]), ?_⟩
     refine ahz (by kernel_rfl) ?_
     refine zz ?_
     refine zf ?_
     refine zy ?_
     refine dmv rfl ?_
     refine dq (zal rfl rfl (by omega) (by omega)) ?_
     refine das rfl ?_
     refine dn ?_
     exact ⟨m - 1, (L.set m z1).set y27 z2, a2 + 1, ⟨by omega, ⟨by simp [hL], zg4 (P := fun i : Int => 0 ≤ i ∧ i < n) (zg4 (P := fun i : Int => 0 ≤ i ∧ i < n) hLb (hLb z1 (List.mem_of_getElem? hz1))) (hLb z2 (List.mem_of_getElem? hz2))⟩, by omega⟩, by dsimp only; omega, ⟨zbx (by omega), trivial⟩, (by repeat (first | exact zo | refine zt rfl ?_ | refine zp rfl rfl ?_)), zL (by simp [List.map_set])⟩
    ·try simp at h4
     refine zN ?_
     refine zT ?_
     refine zeA ?_
     refine zD ?_
     refine zf ?_
     refine zb ?_
     refine dmv rfl ?_
     refine das rfl ?_
     refine dn ?_
     refine zn ?_
     refine zbW (Ghost.fa 4 (i := 1) rfl rfl) rfl ⟨L, a2, rfl, ⟨hL, hLb⟩, by omega, rfl⟩
end
end Go.Proofs.YtcihcbnjfclkbaaGreatDoor
namespace Go.HL
section
open Op
structure WantS where
 Player : Str
 For : List Str
abbrev zbY (w : WantS) : HVal := .agg [.str w.Player, eSs w.For]
abbrev zc8 (l : List WantS) : HVal := .slice 2 (l.map zbY)
def zcm : WantS := ⟨[], []⟩
/-- Who has a player; empty: nobody. -/
def zaE : List OwnerS → Str → Str
 | [], _ => []
 | x :: t, s => if x.Player = s then x.Team else zaE t s
/-- What is wrong with whom a team would take. -/
def za2 (o : List OwnerS) (w : WantS) : Nat → List Str → Int
 | _, [] => 0
 | k, s :: t => if zaE o s = [] then 8 else if (w.For.take k).contains s = true then 6 else if zaE o s = zaE o w.Player then 16 else za2 o w (k + 1) t
def zaL (o : List OwnerS) (w : WantS) : Int := if 20 < w.For.length then 2 else za2 o w 0 w.For
def zaf (o : List OwnerS) (w : List WantS) : Nat → List WantS → Int
 | _, [] => 0
 | k, x :: t => if zaE o x.Player = [] then 8 else if 0 < k ∧ (bytesLess x.Player (w.getD (k - 1) zcm).Player = true ∨ x.Player = (w.getD (k - 1) zcm).Player) then 7 else if zaL o x ≠ 0 then zaL o x else zaf o w (k + 1) t
def zY (o : List OwnerS) (w : List WantS) : Int := if 500 < w.length then 2 else zaf o w 0 w
def zar (m : MarketS) (o : List OwnerS) (w : List WantS) : Int := if zce m o ≠ 0 then zce m o else zY o w
theorem zlf {o : List OwnerS} {w : WantS} {k : Nat} {s : Str} {t : List Str} (h1 : zaE o s ≠ []) (h2 : (w.For.take k).contains s = false) (h3 : zaE o s ≠ zaE o w.Player) : za2 o w k (s :: t) = za2 o w (k + 1) t := by
 rw [za2, if_neg h1, if_neg (by rw [h2]; simp), if_neg h3]
/-- What right wants are. -/
structure WantsOk (o : List OwnerS) (w : List WantS) : Prop where
 len : w.length ≤ 500
 srt : SortedS (w.map (·.Player))
 tm : ∀ x ∈ w, zaE o x.Player ≠ []
 few : ∀ x ∈ w, x.For.length ≤ 20
 nd : ∀ x ∈ w, x.For.Nodup
 ftm : ∀ x ∈ w, ∀ s ∈ x.For, zaE o s ≠ [] ∧ zaE o s ≠ zaE o x.Player
theorem zn0 {o : List OwnerS} {w : WantS} : ∀ {t : List Str} {k : Nat}, w.For.drop k = t → (w.For.take k).Nodup → za2 o w k t = 0 → w.For.Nodup ∧ ∀ s ∈ t, zaE o s ≠ [] ∧ zaE o s ≠ zaE o w.Player
 | [], k, hd, hn, _ => by
   have : w.For.length ≤ k := by simpa using hd
   rw [List.take_of_length_le this] at hn
   exact ⟨hn, by simp⟩
 | s :: t, k, hd, hn, h => by
   rw [za2] at h
   split at h
   ·omega
   split at h
   ·omega
   split at h
   ·omega
   rename_i h1 h2 h3
   have hk : w.For[k]? = some s := by have := congrArg (fun q : List Str => q[0]?) hd; simpa using this
   have e : w.For.take (k + 1) = w.For.take k ++ [s] := by rw [List.take_add_one, hk]; rfl
   obtain ⟨g1, g2⟩ := zn0 (t := t) (k := k + 1) (by rw [← List.drop_drop (i := 1), hd]; rfl) (by
    rw [e]
    refine List.nodup_append.2 ⟨hn, by simp, fun a ha b hb => ?_⟩
    rw [List.mem_singleton.1 hb]
    exact fun q => h2 (by rw [← q]; simpa using ha)) h
   refine ⟨g1, fun z hz => ?_⟩
   rcases List.mem_cons.1 hz with rfl | hz
   ·exact ⟨h1, h3⟩
   ·exact g2 z hz
theorem zsG (a b : Str) : bytesLess a b = true ∨ a = b ∨ bytesLess b a = true := by
 rcases Int.lt_trichotomy (za4 a b) 0 with h | h | h
 ·exact .inl (zhc.1 h)
 ·exact .inr (.inl (zdZ.1 h))
 ·exact .inr (.inr (zhc.1 (by have := zdO a b; omega)))
theorem zkX {o : List OwnerS} {w : List WantS} : ∀ {t : List WantS} {k : Nat}, w.drop k = t → zaf o w k t = 0 →
 (∀ x ∈ t, zaE o x.Player ≠ [] ∧ zaL o x = 0) ∧ ∀ j x y, k ≤ j → 0 < j → w[j]? = some x → w[j - 1]? = some y → bytesLess y.Player x.Player = true
 | [], k, hd, _ => ⟨by simp, fun j x y hj h0 hx hy => by
   have : w.length ≤ k := by simpa using hd
   rw [List.getElem?_eq_none (by omega)] at hx; cases hx⟩
 | z :: t, k, hd, h => by
   rw [zaf] at h
   split at h
   ·omega
   split at h
   ·omega
   split at h
   ·contradiction
   rename_i h1 h2 h3
   have hk : w[k]? = some z := by have := congrArg (fun q : List WantS => q[0]?) hd; simpa using this
   obtain ⟨g1, g2⟩ := zkX (t := t) (k := k + 1) (by rw [← List.drop_drop (i := 1), hd]; rfl) h
   refine ⟨fun x hx => ?_, fun j x y hj h0 hx hy => ?_⟩
   ·rcases List.mem_cons.1 hx with rfl | hx
    ·exact ⟨h1, Classical.not_not.1 h3⟩
    ·exact g1 x hx
   ·rcases Nat.lt_or_ge k j with q | q
    ·exact g2 j x y q h0 hx hy
    ·obtain rfl : j = k := by omega
     rw [hk] at hx; cases hx
     have e : w.getD (j - 1) zcm = y := by rw [List.getD_eq_getElem?_getD, hy]; rfl
     rw [e] at h2
     refine Classical.byContradiction fun hb => h2 ⟨h0, ?_⟩
     rcases zsG z.Player y.Player with q | q | q
     ·exact .inl q
     ·exact .inr q
     ·exact absurd q hb
theorem zmd {l : List Str} (h : ∀ (j : Nat) (x y : Str), l[j]? = some x → l[j + 1]? = some y → bytesLess x y = true) : SortedS l := by
 have key : ∀ (d i : Nat) (a b : Str), l[i]? = some a → l[i + d + 1]? = some b → bytesLess a b = true := by
  intro d
  induction d with
  | zero => intro i a b ha hb; exact h i a b ha hb
  | succ d ih =>
    intro i a b ha hb
    have hl := zC hb
    obtain ⟨c, hc⟩ : ∃ c, l[i + d + 1]? = some c := ⟨_, List.getElem?_eq_getElem (by omega)⟩
    exact zcZ (ih i a c ha hc) (h (i + d + 1) c b hc (by rw [← hb]; congr 1))
 refine List.pairwise_iff_getElem.2 fun i j hi hj hij => ?_
 exact key (j - i - 1) i _ _ (List.getElem?_eq_getElem hi) (by rw [show i + (j - i - 1) + 1 = j by omega]; exact List.getElem?_eq_getElem hj)
theorem zr4 {o : List OwnerS} {w : List WantS} (h : zY o w = 0) : WantsOk o w := by
 unfold zY at h
 split at h
 ·omega
 obtain ⟨h1, h2⟩ := zkX (t := w) (k := 0) rfl h
 have hf : ∀ x ∈ w, x.For.length ≤ 20 ∧ x.For.Nodup ∧ ∀ s ∈ x.For, zaE o s ≠ [] ∧ zaE o s ≠ zaE o x.Player := fun x hx => by
  have := (h1 x hx).2
  unfold zaL at this
  split at this
  ·omega
  ·obtain ⟨a, b⟩ := zn0 (t := x.For) (k := 0) rfl (by simp) this
   exact ⟨by omega, a, b⟩
 refine ⟨by omega, ?_, fun x hx => (h1 x hx).1, fun x hx => (hf x hx).1, fun x hx => (hf x hx).2.1, fun x hx => (hf x hx).2.2⟩
 refine zmd fun j x y hx hy => ?_
 rw [List.getElem?_map] at hx hy
 cases ha : w[j]? with
 | none => rw [ha] at hx; cases hx
 | some a =>
   cases hb : w[j + 1]? with
   | none => rw [hb] at hy; cases hy
   | some b =>
     rw [ha] at hx; rw [hb] at hy
     simp at hx hy
     subst hx hy
     exact h2 (j + 1) b a (by omega) (by omega) hb (by simpa using ha)
theorem zeH {m : MarketS} {o : List OwnerS} {w : List WantS} (h : zar m o w = 0) : zce m o = 0 ∧ WantsOk o w := by
 unfold zar at h
 split at h
 ·contradiction
 ·rename_i h1; exact ⟨Classical.not_not.1 h1, zr4 h⟩
/-- Where a player of wants stands, or -1. -/
def zba (w : List WantS) (s : Str) : Int := if (w.map (·.Player)).contains s = true then ((zgP (w.map (·.Player)) s : Nat) : Int) else -1
theorem zcW {w : List WantS} (hs : SortedS (w.map (·.Player))) {s : Str} {k : Nat} : zba w s = (k : Int) ↔ ∃ x, w[k]? = some x ∧ x.Player = s := by
 unfold zba
 constructor
 ·intro h
  split at h
  ·rename_i hc
   obtain ⟨h1, _⟩ := zlK hs hc
   have e : zgP (w.map (·.Player)) s = k := by omega
   rw [e, List.getElem?_map] at h1
   cases hx : w[k]? with
   | none => rw [hx] at h1; cases h1
   | some x => rw [hx] at h1; simp at h1; exact ⟨x, rfl, h1⟩
  ·omega
 ·rintro ⟨x, hx, rfl⟩
  have hm : (w.map (·.Player))[k]? = some x.Player := by rw [List.getElem?_map, hx]; rfl
  have hc : (w.map (·.Player)).contains x.Player = true := by
   rw [List.contains_iff_mem]; exact List.mem_of_getElem? hm
  rw [if_pos hc]
  obtain ⟨h1, h2⟩ := zlK hs hc
  congr 1
  rcases Nat.lt_trichotomy (zgP (w.map (·.Player)) x.Player) k with q | q | q
  ·have := hs.get q h1 hm
   rw [zas] at this; cases this
  ·exact q
  ·exact absurd rfl (h2 k _ q hm)
theorem znJ {w : List WantS} (hs : SortedS (w.map (·.Player))) {s : Str} : -1 ≤ zba w s ∧ zba w s < w.length := by
 unfold zba
 split
 ·rename_i hc
  obtain ⟨h1, _⟩ := zlK hs hc
  have := zC h1
  rw [List.length_map] at this
  omega
 ·omega
theorem zp5 {w : List WantS} {s : Str} : zba w s < 0 ↔ s ∉ w.map (·.Player) := by
 unfold zba
 split
 ·rename_i hc
  rw [List.contains_iff_mem] at hc
  constructor
  ·intro h; omega
  ·exact fun h => absurd hc h
 ·rename_i hc
  rw [List.contains_iff_mem] at hc
  exact ⟨fun _ => hc, fun _ => by omega⟩
theorem zre {l : List WantS} {s : Str} {i : Nat} : (bif decide ((i : Int) < (l.length : Int)) then za4 (l.getD i zcm).Player s == 0 else false) = ((l.map (·.Player))[i]? == some s) := by
 by_cases h : i < l.length
 ·obtain ⟨x, hx⟩ : ∃ x, l[i]? = some x := ⟨_, List.getElem?_eq_getElem h⟩
  have e : l.getD i zcm = x := by rw [List.getD_eq_getElem?_getD, hx]; rfl
  rw [List.getElem?_map, hx, e]
  have h2 : (i : Int) < (l.length : Int) := by omega
  simp only [h2, decide_true, cond_true, Option.map_some]
  rw [Bool.eq_iff_iff]
  simp [zdZ]
 ·have h2 : ¬ (i : Int) < (l.length : Int) := by omega
  rw [List.getElem?_eq_none (by simpa using Nat.le_of_not_lt h)]
  simp [h2]
theorem zbn {o : List OwnerS} {w : List WantS} {k : Nat} {x : WantS} {t : List WantS} {e : Int} (h4 : w.length ≤ 500) (hg : zaf o w 0 w = zaf o w k (x :: t)) (h6 : zaE o x.Player ≠ [])
 (h8 : ¬ (0 < k ∧ (bytesLess x.Player (w.getD (k - 1) zcm).Player = true ∨ x.Player = (w.getD (k - 1) zcm).Player))) (hE : zaL o x = e) (he : e ≠ 0) : zY o w = e := by
 rw [zY, if_neg (by omega), hg, zaf, if_neg h6, if_neg h8, if_pos (by rw [hE]; exact he), hE]
theorem zii {o : List OwnerS} {x : WantS} {j : Nat} {y : Str} {t : List Str} (h : x.For.length ≤ 20) (hj : za2 o x 0 x.For = za2 o x j (y :: t)) (h1 : zaE o y = []) : zaL o x = 8 := by
 rw [zaL, if_neg (by omega), hj, za2, if_pos h1]
theorem ziJ {o : List OwnerS} {x : WantS} {j : Nat} {y : Str} {t : List Str} (h : x.For.length ≤ 20) (hj : za2 o x 0 x.For = za2 o x j (y :: t)) (h1 : zaE o y ≠ []) (h2 : (x.For.take j).contains y = true) : zaL o x = 6 := by
 rw [zaL, if_neg (by omega), hj, za2, if_neg h1, if_pos h2]
theorem zgL {o : List OwnerS} {x : WantS} {j : Nat} {y : Str} {t : List Str} (h : x.For.length ≤ 20) (hj : za2 o x 0 x.For = za2 o x j (y :: t)) (h1 : zaE o y ≠ []) (h2 : ¬ (x.For.take j).contains y = true) (h3 : zaE o y = zaE o x.Player) : zaL o x = 16 := by
 rw [zaL, if_neg (by omega), hj, za2, if_neg h1, if_neg h2, if_pos h3]
end
section
def zk9 (x : WantS) : Prop := Sh x.Player ∧ x.For.length ≤ 4 ∧ ∀ s ∈ x.For, Sh s
def GoodW0 (x : WantS) : Prop := Sh x.Player ∧ x.For.length ≤ 3 ∧ ∀ s ∈ x.For, Sh s
theorem GoodW0.up {x : WantS} (h : GoodW0 x) : zk9 x := ⟨h.1, Nat.le_succ_of_le h.2.1, h.2.2⟩
structure GoodWs (l : List WantS) : Prop where
 len : l.length ≤ 5
 all : ∀ x ∈ l, zk9 x
theorem zpu {l : List Str} {s : Str} (h : ∀ x ∈ l, Sh x) (hs : Sh s) : ∀ x ∈ l ++ [s], Sh x := fun x hx => by
 rcases List.mem_append.1 hx with h1 | h1
 ·exact h x h1
 ·rw [List.mem_singleton.1 h1]; exact hs
end
section
open Go
section
variable {P : Program} {e : Env} {ty : TypeId} {pos : String} {af : Array Edge} {M : List MObj}
theorem zuA [Tracks] {ops : Array Oper} {n d j : Nat} {op : Op} {want c : Bool} {rest : Env → List MObj → Prop} (Q : HVal → List MObj → Prop) (hd : Nat.blt d n = true) (hg : zdP ops e j want = some c) (hn : c = false → ∃ x, Q x M)
 (hp : c = true → ∃ e2, OpenTo e e2 ∧ EOp P e2 M ⟨some d, op, ty, pos, af, some (j, want)⟩ Q) (k : ∀ x M', Q x M' → rest (upd e d (.opt c x)) M') : HOp P ops n ⟨some d, op, ty, pos, af, some (j, want)⟩ e M rest :=
 ⟨fun t ht => by simp at ht; subst ht; exact zdN hd, c, hg, fun hc => by
  obtain ⟨e2, h1, h2⟩ := hp hc
  intro I F a w ho hs
  exact Oper.wp_noQ (fun _ _ ⟨v, x, M', J, h3, h4, h5, h7, h8⟩ => ⟨v, .opt c x, M', J, h3, h4, k x M' h5, .opt (fun _ => h7) (fun hf => by rw [hc] at hf; cases hf), h8⟩) (h2 I F a w (ho.open h1) hs),
  fun hc => by
   obtain ⟨x, hx⟩ := hn hc
   exact ⟨x, by subst hc; exact k x M hx⟩⟩
end
end
section
open Go
section
variable {P : Program} {e : Env} {dst : Option Tmp} {ty : TypeId} {pos : String} {af : Array Edge} {g : Option (Nat × Bool)} {M : List MObj} {K : HVal → List MObj → Prop}
theorem zky {n : Nat} (h : n < 9223372036854775808) : IntKind.i64.wrap (n : Int) = (n : Int) := zhb (by omega) (by omega)
theorem zoC [Tracks] {x y : Operand} {t t' : TypeId} {s k : Nat} {k' : IntKind} (hx : zu e x = some (.int .i64 (s : Int))) (hy : zu e y = some (.int k' (k : Int))) (hk : k ≤ 62) :
 POp P e ⟨dst, .binOp .shr t x y t', ty, pos, af, g⟩ (.int .i64 ((s / 2 ^ k : Nat) : Int)) := by
 have := zjn (P := P) (dst := dst) (ty := ty) (pos := pos) (af := af) (g := g) (t := t) (t' := t') hx hy (by omega)
 have e1 : min (k : Int).toNat IntKind.i64.bits = k := by show min k 64 = k; omega
 rw [e1] at this
 have e2 : (s : Int).fdiv (2 ^ k) = ((s / 2 ^ k : Nat) : Int) := by
  rw [Int.fdiv_eq_ediv_of_nonneg _ (by exact_mod_cast Nat.zero_le (2 ^ k)), Int.natCast_ediv]; simp
 rwa [e2] at this
theorem zmA [Tracks] {x y : Operand} {t t' : TypeId} {s : Nat} (hx : zu e x = some (.int .i64 (s : Int))) (hy : zu e y = some (.int .i64 1)) :
 POp P e ⟨dst, .binOp .and t x y t', ty, pos, af, g⟩ (.int .i64 ((s % 2 : Nat) : Int)) :=
 POp.of_val fun I a w ho => ⟨.int .i64 ((s % 2 : Nat) : Int), by
  have g1 := (ho.one (x := x) (by simp [Op.operands]) hx).int_inv
  have g2 := (ho.one (x := y) (by simp [Op.operands]) hy).int_inv
  have g3 : (BitVec.ofInt IntKind.i64.bits (s : Int) &&& BitVec.ofInt IntKind.i64.bits 1).toNat = s % 2 := by
   show (BitVec.ofInt 64 (s : Int) &&& BitVec.ofInt 64 1).toNat = s % 2
   rw [BitVec.toNat_and]
   have h1 : (BitVec.ofInt 64 (1 : Int)).toNat = 1 := by decide
   have h2 : (BitVec.ofInt 64 (s : Int)).toNat = s % 2 ^ 64 := by
    rw [BitVec.toNat_ofInt]; exact Int.toNat_natCast (s % 2 ^ 64)
   rw [h1, h2, Nat.and_one_is_mod]; omega
  have g4 := zky (n := s % 2) (by omega)
  simp only [execOp, g1, g2, eqGuard, binOp, Op.intBits, g3, g4]
  rfl, .int _ _⟩
theorem zgd [Tracks] {x y : Operand} {t t' : TypeId} {k : Nat} {k' : IntKind} (hx : zu e x = some (.int .i64 1)) (hy : zu e y = some (.int k' (k : Int))) (hk : k ≤ 62) :
 POp P e ⟨dst, .binOp .shl t x y t', ty, pos, af, g⟩ (.int .i64 ((2 ^ k : Nat) : Int)) :=
 POp.of_val fun I a w ho => ⟨.int .i64 ((2 ^ k : Nat) : Int), by
  have h1 := (ho.one (x := x) (by simp [Op.operands]) hx).int_inv
  have h2 := (ho.one (x := y) (by simp [Op.operands]) hy).int_inv
  have h3 : ¬ (k : Int) < 0 := by omega
  have e1 : min (k : Int).toNat IntKind.i64.bits = k := by show min k 64 = k; omega
  have e2 : IntKind.i64.wrap (1 * 2 ^ k) = ((2 ^ k : Nat) : Int) := by
   have : (1 : Int) * 2 ^ k = ((2 ^ k : Nat) : Int) := by rw [Int.one_mul]; simp
   rw [this]
   exact zky (Nat.lt_of_le_of_lt (Nat.pow_le_pow_right (by omega) hk) (by decide))
  simp only [execOp, h1, h2, eqGuard, binOp, Op.shift, h3, if_false, e1, e2]
  rfl, .int _ _⟩
theorem zjd [Tracks] {x y : Operand} {t t' : TypeId} {s u : Nat} (hx : zu e x = some (.int .i64 (s : Int))) (hy : zu e y = some (.int .i64 (u : Int))) (hs : s < 2 ^ 62) (hu : u < 2 ^ 62) :
 POp P e ⟨dst, .binOp .or t x y t', ty, pos, af, g⟩ (.int .i64 ((s ||| u : Nat) : Int)) :=
 POp.of_val fun I a w ho => ⟨.int .i64 ((s ||| u : Nat) : Int), by
  have g1 := (ho.one (x := x) (by simp [Op.operands]) hx).int_inv
  have g2 := (ho.one (x := y) (by simp [Op.operands]) hy).int_inv
  have g3 : (BitVec.ofInt IntKind.i64.bits (s : Int) ||| BitVec.ofInt IntKind.i64.bits (u : Int)).toNat = s ||| u := by
   show (BitVec.ofInt 64 (s : Int) ||| BitVec.ofInt 64 (u : Int)).toNat = s ||| u
   rw [BitVec.toNat_or]
   have h2 : ∀ z : Nat, z < 2 ^ 62 → (BitVec.ofInt 64 (z : Int)).toNat = z := fun z hz => by
    rw [BitVec.toNat_ofInt]
    have : ((z : Int) % ((2 ^ 64 : Nat) : Int)) = (z : Int) := Int.emod_eq_of_lt (by omega) (by omega)
    rw [this]; rfl
   rw [h2 s hs, h2 u hu]
  have g4 := zky (n := s ||| u) (Nat.lt_of_lt_of_le (Nat.or_lt_two_pow hs hu) (by decide))
  simp only [execOp, g1, g2, eqGuard, binOp, Op.intBits, g3, g4]
  rfl, .int _ _⟩
theorem zuu {s k : Nat} : decide (((s / 2 ^ k % 2 : Nat) : Int) = 0) = !s.testBit k := by
 rw [Nat.testBit_eq_decide_div_mod_eq]
 have : s / 2 ^ k % 2 = 0 ∨ s / 2 ^ k % 2 = 1 := by omega
 rcases this with h | h <;> simp [h]
/-! delete at maps whose keys are strings -/
theorem BornOk.erase {es : Array MapEntry} {clk : Nat} (h : BornOk es clk) {k : Nat} (hk : k < es.size) : BornOk (es.eraseIdx k hk) clk := by
 have key : ∀ i m, (es.eraseIdx k hk)[i]? = some m → es[if i < k then i else i + 1]? = some m := fun i m hm => by
  rw [Array.getElem?_eraseIdx] at hm; split at hm <;> rename_i hi <;> simp [hi, hm]
 refine ⟨fun i m hm => h.1 _ m (key i m hm), fun i j m n hm hn he => ?_⟩
 have := h.2 _ _ m n (key i m hm) (key j n hn) he
 split at this <;> split at this <;> omega
end
end
end Go.HL
