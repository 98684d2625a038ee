/- Plain facts on the assets and places that are drawn, and for the law on teams that are fielded; no conditions. -/
import Derived.Test.YtfeimpgcpjoilaaGreatDoorPure22
namespace Go.HL
/-- The state of a loop that draws: the list that grows, how many were drawn. -/
structure GL (α : Type) where
  u : Value
  out : List α
  a : Nat
structure GLok {α : Type} (P : α → Prop) (n m : Nat) (q : GL α) : Prop where
  len : q.out.length ≤ n
  all : ∀ x ∈ q.out, P x
  a : q.a ≤ m
section
variable {α : Type} {P : α → Prop}
theorem GLok.add {n m m' : Nat} {u u' : Value} {out : List α} {a1 a2 : Nat} {x : α} (h : GLok P n m ⟨u, out, a1⟩) (hx : P x) (ha : a2 ≤ m') : GLok P (n + 1) m' ⟨u', out ++ [x], a2⟩ :=
  ⟨by have := h.len; simp at *; omega, fun y hy => by
    rcases List.mem_append.1 hy with hy | hy
    · exact h.all y hy
    · simp at hy; subst hy; exact hx, ha⟩
theorem GLok.same {n m m' : Nat} {u : Value} {out : List α} {a1 a2 : Nat} (h : GLok P n m ⟨u, out, a1⟩) (ha : a2 ≤ m') : GLok P (n + 1) m' ⟨u, out, a2⟩ :=
  ⟨by have := h.len; dsimp only at *; omega, h.all, ha⟩
theorem all_set {l : List α} {j : Nat} {y : α} (h : ∀ x ∈ l, P x) (hy : P y) : ∀ x ∈ l.set j y, P x := fun x hx => by
  rcases mem_set_of hx with rfl | hx
  · exact hy
  · exact h x hx
end
def GoodA (x : Asset) : Prop := Sh x.Player ∧ Sh x.Position
def GoodP (x : Place) : Prop := Sh x.Position
structure GoodAs (l : List Asset) : Prop where
  len : l.length ≤ 7
  all : ∀ x ∈ l, Sh x.Player ∧ Sh x.Position
structure GoodPs (l : List Place) : Prop where
  len : l.length ≤ 4
  all : ∀ x ∈ l, Sh x.Position
def place4 : List Str := [[100, 102], [103, 107], [109, 102], [120, 120]]
theorem place4_sh : ∀ s ∈ place4, Sh s := by
  intro s hs
  have : s.length ≤ 2 := by revert s; decide
  unfold Sh; omega
theorem nil_sh : Sh [] := by simp [Sh]
def asset1 : Asset := ⟨[97], [103, 107], 5⟩
def place1 : Place := ⟨[103, 107], 1⟩
theorem one_ok : okAP [asset1] [place1] = 0 := by kernel_rfl
theorem one_list : fieldedL (ofP [asset1]) [place1] = [asset1] := by kernel_rfl
theorem one_sum : sumF [asset1] [place1] = 5 := by unfold sumF; rw [one_list]; rfl
theorem one_names : namesV (fieldedL (ofP [asset1]) [place1]) = [[97]] := by rw [one_list]; simp [namesV, sortS, asset1]
theorem okE {l : List Asset} {p : List Place} {x : Asset} (h : l.length ≤ 299) : orI [okAP l p, refBringsE l x] = bringsE l p x := by
  unfold bringsE refBringsE okAP
  have hl : ¬ l.length = 300 := by omega
  have hl2 : ¬ 300 ≤ l.length := by omega
  by_cases h1 : checkAssets l = 0 <;> by_cases h2 : checkPlaces p = 0 <;> by_cases h3 : assetFault x = 0 <;> simp [orI, h1, h2, h3, hl, hl2]
theorem bringsE_ok {l : List Asset} {p : List Place} {x : Asset} (h : bringsE l p x = 0) : checkAssets l = 0 ∧ checkPlaces p = 0 ∧ assetFault x = 0 ∧ ∀ y ∈ l, y.Player ≠ x.Player := by
  unfold bringsE at h
  by_cases h1 : orI [checkAssets l, checkPlaces p, assetFault x] = 0
  · obtain ⟨a, b, c⟩ := orI3 h1
    rw [if_neg (by simp [h1])] at h
    by_cases h2 : l.any (fun y => y.Player == x.Player) = true
    · rw [if_pos h2] at h; omega
    · exact ⟨a, b, c, by simpa using h2⟩
  · rw [if_pos (by simpa using h1)] at h; exact absurd h h1
theorem key_ne {s : Str} (h : key s = true) : s ≠ [] := by
  intro e; subst e; simp [key, keyHd] at h
theorem okAP_facts {l : List Asset} {p : List Place} (h : okAP l p = 0) : SortedS (l.map (·.Player)) ∧ (∀ x ∈ l, -1000000 ≤ x.Value ∧ x.Value ≤ 1000000) ∧ (∀ x ∈ l, x.Player ≠ []) ∧ (∀ x ∈ p, 0 ≤ x.Many) ∧ p.length ≤ 10 := by
  obtain ⟨h1, h2⟩ := okAP_ok h
  obtain ⟨h3, h4⟩ := checkAssets_ok h1
  obtain ⟨h5, h6⟩ := checkPlaces_ok h2
  exact ⟨h3, fun x hx => (assetFault_ok (h4 x hx)).2.2, fun x hx => key_ne (assetFault_ok (h4 x hx)).1, fun x hx => (h5 x hx).1, h6⟩
theorem brings_ref {l : List Asset} {p : List Place} {x : Asset} (h : bringsE l p x = 0) : sumV (fieldedL (ofR (isort byPlayer (l ++ [x]))) p) - sumV (fieldedL (ofR l) p) = sumF (l ++ [x]) p - sumF l p := by
  obtain ⟨h1, _, _, h4⟩ := bringsE_ok h
  have hs := (checkAssets_ok h1).1
  unfold sumF
  rw [fielded_with hs h4, fielded_ref hs]
theorem drop_ref {l : List Asset} {p : List Place} (h : okAP l p = 0) : dropRun l (dropG l p) l.length = dropped l p :=
  dropRun_congr _ fun _ hk => dropG_F (okAP_facts h).1 p hk
theorem dropName_ne {l : List Asset} {p : List Place} (h : okAP l p = 0) : (dropName l (dropped l p) != []) = decide (0 < l.length) := by
  unfold dropped
  cases hq : dropRun l (dropF l p) l.length with
  | none =>
    have := (dropRun_none l (dropF l p) l.length).1 hq
    simp [dropName, this]
  | some q =>
    obtain ⟨b, n⟩ := q
    have hb := (dropRun_lt _ _ _ _ _ hq).1
    have hne := (okAP_facts h).2.2.1 (l.getD b asset0) (by simp [List.getD, List.getElem?_eq_getElem hb])
    have h0 : 0 < l.length := by omega
    simp only [dropName, h0, decide_true, bne_iff_ne, ne_eq]
    exact hne
end Go.HL
