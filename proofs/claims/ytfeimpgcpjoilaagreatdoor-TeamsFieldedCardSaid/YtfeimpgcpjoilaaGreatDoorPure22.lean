/- Plain facts on who is fielded, on a further asset and on whom to drop; no conditions. -/
import Derived.Test.YtfeimpgcpjoilaaGreatDoorPure21
namespace Go.HL
theorem sumV_app (a b : List Asset) : sumV (a ++ b) = sumV a + sumV b := by simp [sumV]
theorem sumV_bd : ∀ {L : List Asset}, (∀ x ∈ L, -1000000 ≤ x.Value ∧ x.Value ≤ 1000000) → -1000000 * (L.length : Int) ≤ sumV L ∧ sumV L ≤ 1000000 * (L.length : Int)
  | [], _ => by simp [sumV]
  | x :: L, h => by
    have ih := sumV_bd (L := L) fun y hy => h y (List.mem_cons_of_mem _ hy)
    have hx := h x (by simp)
    have e : sumV (x :: L) = x.Value + sumV L := by simp [sumV]
    rw [e, List.length_cons]; omega
theorem mem_chosen {l : List Asset} {pos : Str} {m : Int} {y : Asset} (h : y ∈ chosen (ofP l pos) m) : y ∈ l := by
  unfold chosen at h
  have h1 := List.mem_of_mem_take (List.mem_filter.1 h).1
  unfold ofP atPos at h1
  exact (List.mem_filter.1 ((isort_mem byValue).1 h1)).1
theorem mem_chosenR {l : List Asset} {pos : Str} {m : Int} {y : Asset} (h : y ∈ chosen (ofR l pos) m) : y ∈ l := by
  unfold chosen at h
  have h1 := List.mem_of_mem_take (List.mem_filter.1 h).1
  unfold ofR atPos at h1
  exact (List.mem_filter.1 ((isort_mem byVal).1 h1)).1
theorem chosen_len (o : List Asset) (m : Int) : (chosen o m).length ≤ o.length := by
  unfold chosen
  refine Nat.le_trans (List.length_filter_le _ _) ?_
  simp; omega
theorem fieldedL_snoc (f : Str → List Asset) {p : List Place} {i : Nat} {x : Place} (h : p[i]? = some x) : fieldedL f (p.take (i + 1)) = fieldedL f (p.take i) ++ chosen (f x.Position) x.Many := by
  rw [take_snoc' h]; simp [fieldedL]
theorem fieldedL_len {f : Str → List Asset} {n : Nat} (hf : ∀ s, (f s).length ≤ n) : ∀ p : List Place, (fieldedL f p).length ≤ n * p.length
  | [] => by simp [fieldedL]
  | x :: p => by
    have ih := fieldedL_len hf p
    have h1 := chosen_len (f x.Position) x.Many
    have h2 := hf x.Position
    have e : fieldedL f (x :: p) = chosen (f x.Position) x.Many ++ fieldedL f p := by simp [fieldedL]
    rw [e, List.length_append, List.length_cons, Nat.mul_succ]; omega
theorem mem_fieldedL {f : Str → List Asset} {l : List Asset} (hf : ∀ s m y, y ∈ chosen (f s) m → y ∈ l) {p : List Place} {y : Asset} (h : y ∈ fieldedL f p) : y ∈ l := by
  unfold fieldedL at h
  obtain ⟨x, _, hx⟩ := List.mem_flatMap.1 h
  exact hf _ _ y hx
/-- What a prefix of the places brings stays small. -/
theorem field_bd {f : Str → List Asset} {l : List Asset} {p : List Place} {i : Nat} (hf : ∀ s m y, y ∈ chosen (f s) m → y ∈ l) (hn : ∀ s, (f s).length ≤ 12) (hp : p.length ≤ 10) (hv : ∀ x ∈ l, -1000000 ≤ x.Value ∧ x.Value ≤ 1000000) :
    (fieldedL f (p.take i)).length ≤ 120 ∧ -120000000 ≤ sumV (fieldedL f (p.take i)) ∧ sumV (fieldedL f (p.take i)) ≤ 120000000 := by
  have h1 := fieldedL_len hn (p.take i)
  have h2 : (p.take i).length ≤ 10 := by simp; omega
  have h3 := sumV_bd (L := fieldedL f (p.take i)) fun y hy => hv y (mem_fieldedL hf hy)
  have h4 : (fieldedL f (p.take i)).length ≤ 120 := by omega
  omega
theorem pos_bd {C l : List Asset} {k : Nat} (hC : ∀ y ∈ C, y ∈ l) (hn : C.length ≤ 12) (hv : ∀ x ∈ l, -1000000 ≤ x.Value ∧ x.Value ≤ 1000000) :
    ((C.take k).filter (fun y => decide (0 < y.Value))).length ≤ 12 ∧ -12000000 ≤ sumV ((C.take k).filter (fun y => decide (0 < y.Value))) ∧ sumV ((C.take k).filter (fun y => decide (0 < y.Value))) ≤ 12000000 := by
  have h1 := List.length_filter_le (fun y : Asset => decide (0 < y.Value)) (C.take k)
  have h2 : (C.take k).length ≤ 12 := by simp; omega
  have h3 := sumV_bd (L := (C.take k).filter (fun y => decide (0 < y.Value))) fun y hy => hv y (hC y (List.mem_of_mem_take (List.mem_filter.1 hy).1))
  omega
theorem pos_snoc {C : List Asset} {k : Nat} {y : Asset} (h : C[k]? = some y) : (C.take (k + 1)).filter (fun y => decide (0 < y.Value)) = (C.take k).filter (fun y => decide (0 < y.Value)) ++ if 0 < y.Value then [y] else [] := by
  rw [take_snoc' h, List.filter_append]
  by_cases hy : 0 < y.Value <;> simp [hy]
theorem chosen_eq {o : List Asset} {m : Int} {N : Nat} (hN : (if (o.length : Int) < m then (o.length : Int) else m) = (N : Int)) : chosen o m = ((o.take N).drop 0).filter (fun y => decide (0 < y.Value)) := by
  unfold chosen
  have : (min m (o.length : Int)).toNat = N := by split at hN <;> omega
  rw [this, List.drop_zero]
def okAP (l : List Asset) (p : List Place) : Int := orI [checkAssets l, checkPlaces p]
theorem okAP_ok {l : List Asset} {p : List Place} (h : okAP l p = 0) : checkAssets l = 0 ∧ checkPlaces p = 0 := orI_zero h
def sumF (l : List Asset) (p : List Place) : Int := sumV (fieldedL (ofP l) p)
def bringsE (l : List Asset) (p : List Place) (x : Asset) : Int :=
  if orI [checkAssets l, checkPlaces p, assetFault x] != 0 then orI [checkAssets l, checkPlaces p, assetFault x] else if l.any (fun y => y.Player == x.Player) then 6 else if 300 ≤ l.length then 12 else 0
theorem orI3 {a b c : Int} (h : orI [a, b, c] = 0) : a = 0 ∧ b = 0 ∧ c = 0 := by
  simp only [orI] at h
  split at h
  · exact absurd h (by assumption)
  · split at h
    · exact absurd h (by assumption)
    · split at h
      · exact absurd h (by assumption)
      · exact ⟨by omega, by omega, by omega⟩
def dropStep (l : List Asset) (F : Nat → Int) (q : Option (Nat × Int)) (k : Nat) (x : Asset) : Option (Nat × Int) :=
  match q with
  | none => some (k, F k)
  | some (b, n) => if n < F k ∨ (F k = n ∧ x.Value ≤ (l.getD b asset0).Value) then some (k, F k) else some (b, n)
def dropRun (l : List Asset) (F : Nat → Int) (n : Nat) : Option (Nat × Int) := (List.range n).foldl (fun q k => dropStep l F q k (l.getD k asset0)) none
theorem dropRun_succ (l : List Asset) (F : Nat → Int) (n : Nat) : dropRun l F (n + 1) = dropStep l F (dropRun l F n) n (l.getD n asset0) := by
  simp [dropRun, List.range_succ, List.foldl_append]
theorem dropRun_lt (l : List Asset) (F : Nat → Int) : ∀ (n : Nat) (b : Nat) (m : Int), dropRun l F n = some (b, m) → b < n ∧ m = F b
  | 0, b, m, h => by simp [dropRun] at h
  | n + 1, b, m, h => by
    rw [dropRun_succ] at h
    unfold dropStep at h
    split at h
    · simp at h; obtain ⟨rfl, rfl⟩ := h; exact ⟨by omega, rfl⟩
    · rename_i b' m' he
      have := dropRun_lt l F n b' m' he
      split at h
      · simp at h; obtain ⟨rfl, rfl⟩ := h; exact ⟨by omega, rfl⟩
      · simp at h; obtain ⟨rfl, rfl⟩ := h; exact ⟨by omega, this.2⟩
theorem dropRun_none (l : List Asset) (F : Nat → Int) (n : Nat) : dropRun l F n = none ↔ n = 0 := by
  cases n with
  | zero => simp [dropRun]
  | succ n =>
    rw [dropRun_succ]
    unfold dropStep
    constructor
    · intro h
      split at h
      · cases h
      · split at h <;> cases h
    · intro h; omega
theorem dropRun_congr {l : List Asset} {F G : Nat → Int} (n : Nat) (h : ∀ k, k < n → F k = G k) : dropRun l F n = dropRun l G n := by
  induction n with
  | zero => rfl
  | succ n ih => rw [dropRun_succ, dropRun_succ, ih fun k hk => h k (by omega)]; unfold dropStep; rw [h n (by omega)]
def dropF (l : List Asset) (p : List Place) (k : Nat) : Int := sumF (l.eraseIdx k) p
def dropped (l : List Asset) (p : List Place) : Option (Nat × Int) := dropRun l (dropF l p) l.length
def dropName (l : List Asset) : Option (Nat × Int) → Str
  | none => []
  | some (b, _) => (l.getD b asset0).Player
def best1 : Option (Nat × Int) → Int
  | none => -1
  | some (b, _) => (b : Int)
def left1 : Option (Nat × Int) → Int
  | none => 0
  | some (_, n) => n
def least1 (l : List Asset) : Option (Nat × Int) → Int
  | none => 0
  | some (b, _) => (l.getD b asset0).Value
end Go.HL
namespace Go.HL
def refBringsE (l : List Asset) (x : Asset) : Int := if assetFault x != 0 then assetFault x else if l.any (fun y => y.Player == x.Player) then 6 else if l.length = 300 then 12 else 0
theorem checkAssets_one (x : Asset) : checkAssets [x] = assetFault x := by
  simp [checkAssets, assetsGo]
  intro h; exact h.symm
def dropG (l : List Asset) (p : List Place) (k : Nat) : Int := sumV (fieldedL (ofR (l.filter fun y => !(y.Player == (l.getD k asset0).Player))) p)
theorem sorted_filter {l : List Asset} (h : SortedS (l.map (·.Player))) (q : Asset → Bool) : SortedS ((l.filter q).map (·.Player)) :=
  List.pairwise_map.2 ((List.pairwise_map.1 h).filter _)
theorem dropG_F {l : List Asset} (h : SortedS (l.map (·.Player))) (p : List Place) {k : Nat} (hk : k < l.length) : dropG l p k = dropF l p k := by
  unfold dropG dropF sumF
  have hx : l[k]? = some (l.getD k asset0) := getD_some hk
  rw [fielded_ref (sorted_filter h _), erase_filter (sortedS_nodup h) hx]
theorem getD_of {l : List Asset} {k : Nat} {x : Asset} (h : l[k]? = some x) : l.getD k asset0 = x := by simp [List.getD, h]
theorem drop_step_yes {l : List Asset} {F : Nat → Int} {k : Nat} {x : Asset} (hx : l[k]? = some x) (h : match dropRun l F k with | none => True | some (b, n) => n < F k ∨ (F k = n ∧ x.Value ≤ (l.getD b asset0).Value)) : dropRun l F (k + 1) = some (k, F k) := by
  rw [dropRun_succ, getD_of hx]
  unfold dropStep
  revert h
  cases dropRun l F k with
  | none => intro _; rfl
  | some q => obtain ⟨b, n⟩ := q; intro h; exact if_pos h
theorem drop_step_no {l : List Asset} {F : Nat → Int} {k : Nat} {x : Asset} (hx : l[k]? = some x) (h : match dropRun l F k with | none => False | some (b, n) => ¬ (n < F k ∨ (F k = n ∧ x.Value ≤ (l.getD b asset0).Value))) : dropRun l F (k + 1) = dropRun l F k := by
  rw [dropRun_succ, getD_of hx]
  unfold dropStep
  revert h
  cases dropRun l F k with
  | none => intro h; exact h.elim
  | some q => obtain ⟨b, n⟩ := q; intro h; exact if_neg h
theorem ord_drop {a b c d : Int} : orI [cmpI a b, cmpI c d] ≤ 0 ↔ a < b ∨ (b = a ∧ c ≤ d) := by
  rw [orI2]
  by_cases h : a = b
  · subst h; rw [if_neg (by simp [cmpI_zero]), cmpI_le]; omega
  · rw [if_pos (by simp [cmpI_zero, h]), cmpI_le]; omega
end Go.HL
namespace Go.HL
theorem best1_neg {q : Option (Nat × Int)} (h : best1 q < 0) : q = none := by
  cases q with
  | none => rfl
  | some q => obtain ⟨b, n⟩ := q; simp [best1] at h; omega
theorem drop_yes {l : List Asset} {F : Nat → Int} {k : Nat} {x : Asset} (hx : l[k]? = some x)
    (h : (best1 (dropRun l F k) < 0 ∨ left1 (dropRun l F k) < F k) ∨ F k = left1 (dropRun l F k) ∧ x.Value ≤ (l[(best1 (dropRun l F k)).toNat]?.getD asset0).Value) : dropRun l F (k + 1) = some (k, F k) := by
  refine drop_step_yes hx ?_
  revert h
  cases dropRun l F k with
  | none => intro _; trivial
  | some q =>
    obtain ⟨b, n⟩ := q
    simp only [best1, left1, Int.toNat_natCast, List.getD]
    intro h
    rcases h with (h | h) | h
    · omega
    · exact .inl h
    · exact .inr h
theorem drop_no {l : List Asset} {F : Nat → Int} {k : Nat} {x : Asset} (hx : l[k]? = some x)
    (h : (0 ≤ best1 (dropRun l F k) ∧ F k ≤ left1 (dropRun l F k)) ∧ (F k = left1 (dropRun l F k) → (l[(best1 (dropRun l F k)).toNat]?.getD asset0).Value < x.Value)) : dropRun l F (k + 1) = dropRun l F k := by
  refine drop_step_no hx ?_
  revert h
  cases dropRun l F k with
  | none => intro h; simp [best1] at h
  | some q =>
    obtain ⟨b, n⟩ := q
    simp only [best1, left1, Int.toNat_natCast, List.getD]
    intro h hc
    rcases hc with hc | hc
    · omega
    · have := h.2 hc.1; omega
/-- The same as the references ask it. -/
theorem drop_yesR {l : List Asset} {F : Nat → Int} {k : Nat} {x : Asset} (hx : l[k]? = some x) (h : dropName l (dropRun l F k) = [] ∨ orI [cmpI (left1 (dropRun l F k)) (F k), cmpI x.Value (least1 l (dropRun l F k))] ≤ 0) (hk : ∀ y ∈ l, y.Player ≠ []) : dropRun l F (k + 1) = some (k, F k) := by
  refine drop_step_yes hx ?_
  have hlt := dropRun_lt l F k
  revert h hlt
  cases dropRun l F k with
  | none => intro _ _; trivial
  | some q =>
    obtain ⟨b, n⟩ := q
    simp only [dropName, left1, least1, ord_drop]
    intro h hlt
    rcases h with h | h
    · have := (hlt b n rfl).1
      have hkl := lt_of_get hx
      exact absurd h (hk _ (by simp [List.getD, List.getElem?_eq_getElem (show b < l.length by omega)]))
    · exact h
theorem drop_noR {l : List Asset} {F : Nat → Int} {k : Nat} {x : Asset} (hx : l[k]? = some x) (h : ¬ dropName l (dropRun l F k) = []) (h2 : ¬ orI [cmpI (left1 (dropRun l F k)) (F k), cmpI x.Value (least1 l (dropRun l F k))] ≤ 0) : dropRun l F (k + 1) = dropRun l F k := by
  refine drop_step_no hx ?_
  revert h h2
  cases dropRun l F k with
  | none => intro h; simp [dropName] at h
  | some q =>
    obtain ⟨b, n⟩ := q
    simp only [dropName, left1, least1, ord_drop]
    intro _ h; exact h
end Go.HL
