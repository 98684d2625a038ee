/- Plain facts on assets: the references' order is the program's; no conditions. -/
import Derived.Test.YtfeimpgcpjoilaaGreatDoorPure20
namespace Go.HL
open Op (bytesLess)
theorem map_getD {l : List Asset} {k : Nat} : (l.map (·.Player)).getD k [] = (l.getD k asset0).Player := by
  by_cases h : k < l.length
  · simp [List.getD, List.getElem?_eq_getElem h]
  · simp [List.getD, List.getElem?_eq_none (Nat.le_of_not_lt h), asset0]
theorem assetFault_ok {x : Asset} (h : assetFault x = 0) : key x.Player = true ∧ key x.Position = true ∧ -1000000 ≤ x.Value ∧ x.Value ≤ 1000000 := by
  unfold assetFault at h
  by_cases h1 : (!(key x.Player) || !(key x.Position)) = true
  · rw [if_pos h1] at h; omega
  · rw [if_neg h1] at h
    by_cases h2 : out x.Value (-1000000) 1000000 = true
    · rw [if_pos h2] at h; omega
    · have := out_f (by simpa using h2)
      simp at h1
      exact ⟨h1.1, h1.2, this.1, this.2⟩
theorem assetsGo_ok (l : List Asset) : ∀ (t : List Asset) (k : Nat), assetsGo l k t = 0 → risingGo (l.map (·.Player)) k (t.map (·.Player)) = 0 ∧ ∀ x ∈ t, assetFault x = 0
  | [], _, _ => ⟨rfl, fun x h => by cases h⟩
  | x :: t, k, h => by
    simp only [assetsGo] at h
    by_cases h1 : assetFault x = 0
    · rw [if_neg (by simpa using h1)] at h
      by_cases h2 : (decide (0 < k) && leS x.Player (l.getD (k - 1) asset0).Player) = true
      · rw [if_pos h2] at h; omega
      · rw [if_neg h2] at h
        obtain ⟨h3, h4⟩ := assetsGo_ok l t (k + 1) h
        refine ⟨?_, fun y hy => ?_⟩
        · simp only [List.map_cons, risingGo, map_getD]
          rw [if_neg (by simp [(assetFault_ok h1).1]), if_neg h2]
          exact h3
        · rcases List.mem_cons.1 hy with rfl | hy
          · exact h1
          · exact h4 y hy
    · rw [if_pos (by simpa using h1)] at h; exact absurd h h1
theorem checkAssets_ok {l : List Asset} (h : checkAssets l = 0) : SortedS (l.map (·.Player)) ∧ ∀ x ∈ l, assetFault x = 0 := by
  unfold checkAssets at h
  split at h
  · omega
  · obtain ⟨h1, h2⟩ := assetsGo_ok l l 0 h
    exact ⟨rising1_sorted (by simpa [rising1] using h1), h2⟩
theorem placesGo_ok (l : List Place) : ∀ (t : List Place) (k : Nat), placesGo l k t = 0 → ∀ x ∈ t, 0 ≤ x.Many ∧ x.Many ≤ 12
  | [], _, _ => fun x h => by cases h
  | x :: t, k, h => by
    simp only [placesGo] at h
    by_cases h1 : (!(key x.Position)) = true
    · rw [if_pos h1] at h; omega
    · rw [if_neg h1] at h
      by_cases h2 : out x.Many 0 12 = true
      · rw [if_pos h2] at h; omega
      · rw [if_neg h2] at h
        by_cases h3 : (decide (0 < k) && leS x.Position (l.getD (k - 1) place0).Position) = true
        · rw [if_pos h3] at h; omega
        · rw [if_neg h3] at h
          intro y hy
          rcases List.mem_cons.1 hy with rfl | hy
          · exact out_f (by simpa using h2)
          · exact placesGo_ok l t (k + 1) h y hy
theorem checkPlaces_ok {l : List Place} (h : checkPlaces l = 0) : (∀ x ∈ l, 0 ≤ x.Many ∧ x.Many ≤ 12) ∧ l.length ≤ 10 := by
  unfold checkPlaces at h
  split at h
  · omega
  · exact ⟨placesGo_ok l l 0 h, by omega⟩
theorem cmpS_le {a b : Str} : cmpS a b ≤ 0 ↔ bytesLess b a = false := by
  rw [cmpS_eq]
  rcases less_total a b with h | h | h
  · simp [h, less_asymm h]
  · subst h; simp [less_irrefl]
  · have hne : a ≠ b := fun e => by subst e; rw [less_irrefl] at h; cases h
    simp [h, less_asymm h, hne]
theorem cmpS_zero {a b : Str} : cmpS a b = 0 ↔ a = b := by
  rw [cmpS_eq]
  rcases less_total a b with h | h | h
  · have hne : a ≠ b := fun e => by subst e; rw [less_irrefl] at h; cases h
    simp [h, hne]
  · subst h; simp [less_irrefl]
  · have hne : a ≠ b := fun e => by subst e; rw [less_irrefl] at h; cases h
    simp [less_asymm h, hne]
theorem cmpS_trans {a b c : Str} (h1 : cmpS a b ≤ 0) (h2 : cmpS b c ≤ 0) : cmpS a c ≤ 0 := by
  rw [cmpS_le] at *
  rcases less_total a b with h | h | h
  · rcases less_total b c with h' | h' | h'
    · exact less_asymm (less_trans h h')
    · subst h'; exact less_asymm h
    · rw [h'] at h2; cases h2
  · subst h; exact h2
  · rw [h] at h1; cases h1
theorem orI2 (a b : Int) : orI [a, b] = if a ≠ 0 then a else b := by
  simp only [orI]
  by_cases ha : a = 0 <;> by_cases hb : b = 0 <;> simp [ha, hb]
theorem byValue_flip (x y : Asset) : byValue x y = -byValue y x := by
  unfold byValue
  rw [cmpI_flip, cmpS_flip x.Player, orI_flip]
theorem cmpI_le {a b : Int} : cmpI a b ≤ 0 ↔ a ≤ b := by unfold cmpI; split <;> (try split) <;> omega
theorem cmpI_zero {a b : Int} : cmpI a b = 0 ↔ a = b := by unfold cmpI; split <;> (try split) <;> omega
theorem byValue_le {x y : Asset} : byValue x y ≤ 0 ↔ y.Value < x.Value ∨ (y.Value = x.Value ∧ cmpS x.Player y.Player ≤ 0) := by
  unfold byValue
  rw [orI2]
  by_cases h : y.Value = x.Value
  · rw [if_neg (by simp [cmpI_zero, h])]; simp [h]
  · rw [if_pos (by simp [cmpI_zero, h]), cmpI_le]; omega
theorem byValue_cmp : Cmp byValue (fun _ => True) where
  flip x y _ _ := by rw [byValue_flip x y]; omega
  trans x y z _ _ _ h1 h2 := by
    rw [byValue_le] at *
    rcases h1 with h1 | ⟨h1, h1'⟩ <;> rcases h2 with h2 | ⟨h2, h2'⟩
    · exact .inl (by omega)
    · exact .inl (by omega)
    · exact .inl (by omega)
    · exact .inr ⟨by omega, cmpS_trans h1' h2'⟩
theorem byPlayer_cmp : Cmp byPlayer (fun _ => True) where
  flip x y _ _ := by unfold byPlayer; rw [cmpS_flip x.Player y.Player]; omega
  trans x y z _ _ _ h1 h2 := cmpS_trans h1 h2
theorem byValue_player {x y : Asset} (h : byValue x y = 0) : x.Player = y.Player := by
  unfold byValue at h
  rw [orI2] at h
  split at h
  · contradiction
  · exact cmpS_zero.1 h
/-- Players that rise differ. -/
theorem sortedS_nodup {l : List Str} (h : SortedS l) : l.Nodup := h.imp fun hab e => by subst e; rw [less_irrefl] at hab; cases hab
theorem nodup_inj {l : List Asset} (h : (l.map (·.Player)).Nodup) {x y : Asset} (hx : x ∈ l) (hy : y ∈ l) (e : x.Player = y.Player) : x = y := by
  induction l with
  | nil => cases hx
  | cons a l ih =>
    simp only [List.map_cons, List.nodup_cons, List.mem_map, not_exists, not_and] at h
    rcases List.mem_cons.1 hx with rfl | hx' <;> rcases List.mem_cons.1 hy with rfl | hy'
    · rfl
    · exact absurd e.symm (h.1 y hy')
    · exact absurd e (h.1 x hx')
    · exact ih h.2 hx' hy'
theorem ofP_perm {l m : List Asset} (h : (l.map (·.Player)).Nodup) (hp : l.Perm m) (pos : Str) : ofP l pos = ofP m pos := by
  unfold ofP atPos
  refine isort_unique byValue_cmp (fun _ _ => trivial) (fun x y hx hy e => ?_) (hp.filter _)
  exact nodup_inj h (List.mem_filter.1 hx).1 (List.mem_filter.1 hy).1 (byValue_player e)
theorem ofR_ofP {l : List Asset} (h : SortedS (l.map (·.Player))) (pos : Str) : ofR l pos = ofP l pos := by
  unfold ofR ofP
  have hp : (atPos l pos).Pairwise (fun a b => bytesLess a.Player b.Player = true) := (List.pairwise_map.1 h).filter _
  refine isort_congr fun i j x y hij hy hx => ?_
  have hxy : bytesLess y.Player x.Player = true := by
    obtain ⟨hi, rfl⟩ := List.getElem?_eq_some_iff.1 hy
    obtain ⟨hj, rfl⟩ := List.getElem?_eq_some_iff.1 hx
    exact List.pairwise_iff_getElem.1 hp i j hi hj hij
  unfold byVal byValue
  rw [orI2]
  by_cases he : cmpI y.Value x.Value = 0
  · rw [if_neg (by simpa using he), he]
    have : ¬ cmpS x.Player y.Player ≤ 0 := by rw [cmpS_le, hxy]; simp
    omega
  · rw [if_pos he]
theorem with_sorted {m : List Asset} (h : (m.map (·.Player)).Nodup) : SortedS ((isort byPlayer m).map (·.Player)) := by
  have h1 := isort_sorted byPlayer_cmp (l := m) (fun _ _ => trivial)
  have h2 : ((isort byPlayer m).map (·.Player)).Nodup := ((isort_perm byPlayer m).map _).nodup_iff.2 h
  unfold SortedS
  rw [List.pairwise_map]
  have h3 := List.pairwise_map.1 h2
  refine (h1.and h3).imp fun ⟨a1, a2⟩ => ?_
  rcases less_total _ _ with h | h | h
  · exact h
  · exact absurd h a2
  · have := cmpS_le.1 a1; rw [h] at this; cases this
theorem fieldedL_congr {f g : Str → List Asset} {p : List Place} (h : ∀ x ∈ p, f x.Position = g x.Position) : fieldedL f p = fieldedL g p := by
  unfold fieldedL
  induction p with
  | nil => rfl
  | cons x p ih => simp only [List.flatMap_cons]; rw [h x (by simp), ih fun y hy => h y (List.mem_cons_of_mem _ hy)]
theorem fielded_ref {l : List Asset} (h : SortedS (l.map (·.Player))) (p : List Place) : fieldedL (ofR l) p = fieldedL (ofP l) p := fieldedL_congr fun x _ => ofR_ofP h _
theorem fielded_with {l : List Asset} {x : Asset} (h : SortedS (l.map (·.Player))) (hx : ∀ y ∈ l, y.Player ≠ x.Player) (p : List Place) : fieldedL (ofR (isort byPlayer (l ++ [x]))) p = fieldedL (ofP (l ++ [x])) p := by
  have hn : ((l ++ [x]).map (·.Player)).Nodup := by
    rw [List.map_append, List.nodup_append]
    refine ⟨sortedS_nodup h, by simp, fun a ha b hb e => ?_⟩
    simp at hb
    obtain ⟨y, hy, rfl⟩ := List.mem_map.1 ha
    exact hx y hy (e.trans hb)
  rw [fielded_ref (with_sorted hn)]
  exact fieldedL_congr fun y _ => (ofP_perm hn (isort_perm byPlayer _).symm _).symm
theorem erase_filter {l : List Asset} (h : (l.map (·.Player)).Nodup) {k : Nat} {x : Asset} (hx : l[k]? = some x) : l.filter (fun y => !(y.Player == x.Player)) = l.eraseIdx k := by
  induction l generalizing k with
  | nil => simp at hx
  | cons a l ih =>
    simp only [List.map_cons, List.nodup_cons, List.mem_map, not_exists, not_and] at h
    cases k with
    | zero =>
      simp at hx; subst hx
      simp only [List.eraseIdx_zero, List.tail_cons, List.filter_cons, beq_self_eq_true, Bool.not_true, Bool.false_eq_true, if_false]
      exact List.filter_eq_self.2 fun y hy => by simpa using h.1 y hy
    | succ k =>
      simp at hx
      have hne : a.Player ≠ x.Player := fun e => h.1 x (List.mem_of_getElem? hx) e.symm
      simp only [List.eraseIdx_cons_succ, List.filter_cons]
      rw [if_pos (by simpa using hne), ih h.2 hx]
end Go.HL
