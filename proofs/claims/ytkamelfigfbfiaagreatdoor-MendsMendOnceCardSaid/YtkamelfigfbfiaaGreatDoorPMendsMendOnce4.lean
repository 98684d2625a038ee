/- Part 4 of the proof: a program logic, contracts of functions and plain facts; no conditions. -/
import Derived.Test.YtkamelfigfbfiaaGreatDoorPMendsMendOnce3
import Derived.Shelf.SlMaps.Clone
import Derived.Shelf.Slices.CompactI
import Derived.Shelf.Slices.In.SortNone
import Derived.Shelf.Sort.Plain
set_option linter.unusedVariables false
set_option linter.unusedSimpArgs false
section
namespace Go.HL
/-! lines by their places, with mends -/
abbrev GrS := List (Plc × List StatS)
def lnPutS (G : GrS) (x : LineS) : GrS := aput (x.Player, x.Week) x.Stats G
def lnMap (l : List LineS) : GrS := l.foldl lnPutS []
theorem lnMap_snoc {l : List LineS} {k : Nat} {x : LineS} (h : l[k]? = some x) : lnMap (l.take (k + 1)) = aput (x.Player, x.Week) x.Stats (lnMap (l.take k)) := by
 rw [take_snoc' h]; simp [lnMap, List.foldl_append, lnPutS]
def mdDel (x : MendS) (l : List StatS) : List StatS := l.filter fun s => !(s.Name == x.Stat)
def mdPut (x : MendS) (l : List StatS) : List StatS := mdDel x l ++ if x.Count ≠ 0 then [⟨x.Stat, x.Count⟩] else []
def mdStep (n : Int) (G : GrS) (x : MendS) : GrS := if n < x.At then G else aput (x.Player, x.Week) (mdPut x ((alk (x.Player, x.Week) G).getD [])) G
def mdGo (G : GrS) (m : List MendS) (n : Int) : GrS := m.foldl (mdStep n) G
def mdMap (l : List LineS) (m : List MendS) (n : Int) : GrS := mdGo (lnMap l) m n
theorem mdGo_snoc {G : GrS} {m : List MendS} {n : Int} {k : Nat} {x : MendS} (h : m[k]? = some x) : mdGo G (m.take (k + 1)) n = mdStep n (mdGo G (m.take k) n) x := by
 rw [take_snoc' h]; simp [mdGo, List.foldl_append]
def mdLine (q : Plc × List StatS) : LineS := ⟨q.1.1, q.1.2, isort byNm q.2⟩
def mdL (l : List LineS) (m : List MendS) (n : Int) : List LineS := isort byWk ((mdMap l m n).map mdLine)
theorem lnMap_nodup (l : List LineS) : ANodup (lnMap l) := by
 unfold lnMap
 have key : ∀ (l : List LineS) (G : GrS), ANodup G → ANodup (l.foldl lnPutS G) := fun l => by
  induction l with
  | nil => intro G h; exact h
  | cons x l ih => intro G h; exact ih _ h.put
 exact key l [] ANodup.nil
theorem mdStep_nodup {n : Int} {G : GrS} {x : MendS} (h : ANodup G) : ANodup (mdStep n G x) := by
 unfold mdStep; split
 ·exact h
 ·exact h.put
theorem mdGo_nodup (m : List MendS) (n : Int) : ∀ {G : GrS}, ANodup G → ANodup (mdGo G m n) := by
 induction m with
 | nil => intro G h; exact h
 | cons x m ih => intro G h; exact ih (mdStep_nodup h)
theorem mdMap_nodup (l : List LineS) (m : List MendS) (n : Int) : ANodup (mdMap l m n) := mdGo_nodup m n (lnMap_nodup l)
/-! how long the lists are -/
def GLen (b : Nat) (G : GrS) : Prop := ∀ q ∈ G, q.2.length ≤ b
theorem GLen.put {b : Nat} {G : GrS} {p : Plc} {l : List StatS} (h : GLen b G) (hl : l.length ≤ b) : GLen b (aput p l G) := fun q hq => by
 rcases mem_aput hq with rfl | hq
 ·exact hl
 ·exact h q hq
theorem GLen.get {b : Nat} {G : GrS} (h : GLen b G) (p : Plc) : ((alk p G).getD []).length ≤ b := by
 cases hq : alk p G with
 | none => simp
 | some l => exact h _ (alk_of_mem hq)
theorem GLen.up {b c : Nat} {G : GrS} (h : GLen b G) (hb : b ≤ c) : GLen c G := fun q hq => Nat.le_trans (h q hq) hb
theorem mdDel_len (x : MendS) (l : List StatS) : (mdDel x l).length ≤ l.length := List.length_filter_le _ _
theorem mdPut_len (x : MendS) (l : List StatS) : (mdPut x l).length ≤ l.length + 1 := by
 have := mdDel_len x l
 unfold mdPut; rw [List.length_append]; split
 ·simp only [List.length_cons, List.length_nil]; omega
 ·simp only [List.length_nil]; omega
theorem GLen.step {b : Nat} {n : Int} {G : GrS} {x : MendS} (h : GLen b G) : GLen (b + 1) (mdStep n G x) := by
 unfold mdStep; split
 ·exact h.up (by omega)
 ·refine (h.up (by omega)).put ?_
  have h1 := mdPut_len x ((alk (x.Player, x.Week) G).getD [])
  have h2 := h.get (x.Player, x.Week)
  omega
theorem mdGo_len (m : List MendS) (n : Int) : ∀ {b : Nat} {G : GrS}, GLen b G → GLen (b + m.length) (mdGo G m n) := by
 induction m with
 | nil => intro b G h; exact h
 | cons x m ih => intro b G h; have := ih (h.step (n := n) (x := x)); rw [List.length_cons, show b + (m.length + 1) = b + 1 + m.length by omega]; exact this
theorem lnMap_len {b : Nat} {l : List LineS} (h : ∀ x ∈ l, x.Stats.length ≤ b) : GLen b (lnMap l) := by
 unfold lnMap
 have key : ∀ (l : List LineS) (G : GrS), (∀ x ∈ l, x.Stats.length ≤ b) → GLen b G → GLen b (l.foldl lnPutS G) := fun l => by
  induction l with
  | nil => intro G _ h; exact h
  | cons x l ih => intro G h hG; exact ih _ (fun y hy => h y (List.mem_cons_of_mem _ hy)) (hG.put (h x List.mem_cons_self))
 exact key l [] h (fun q hq => by cases hq)
theorem lnMap_many (l : List LineS) : (lnMap l).length ≤ l.length := by
 unfold lnMap
 have key : ∀ (l : List LineS) (G : GrS), (l.foldl lnPutS G).length ≤ G.length + l.length := fun l => by
  induction l with
  | nil => intro G; exact Nat.le_refl _
  | cons x l ih =>
    intro G
    have h1 := ih (lnPutS G x)
    have h2 : (lnPutS G x).length ≤ G.length + 1 := aput_le _ _ _
    rw [List.foldl_cons, List.length_cons]; omega
 have := key l []
 simpa using this
theorem mdGo_many (m : List MendS) (n : Int) : ∀ (G : GrS), (mdGo G m n).length ≤ G.length + m.length := by
 induction m with
 | nil => intro G; exact Nat.le_refl _
 | cons x m ih =>
   intro G
   have h1 := ih (mdStep n G x)
   have h2 : (mdStep n G x).length ≤ G.length + 1 := by
    unfold mdStep; split
    ·omega
    ·exact aput_le _ _ _
   rw [List.length_cons]
   show (mdGo (mdStep n G x) m n).length ≤ _
   omega
theorem mdMap_many (l : List LineS) (m : List MendS) (n : Int) : (mdMap l m n).length ≤ l.length + m.length := Nat.le_trans (mdGo_many m n _) (by have := lnMap_many l; omega)
/-! names within a list -/
def GNm (G : GrS) : Prop := ∀ q ∈ G, (q.2.map (·.Name)).Nodup
theorem GNm.put {G : GrS} {p : Plc} {l : List StatS} (h : GNm G) (hl : (l.map (·.Name)).Nodup) : GNm (aput p l G) := fun q hq => by
 rcases mem_aput hq with rfl | hq
 ·exact hl
 ·exact h q hq
theorem GNm.get {G : GrS} (h : GNm G) (p : Plc) : (((alk p G).getD []).map (·.Name)).Nodup := by
 cases hq : alk p G with
 | none => exact List.nodup_nil
 | some l => exact h _ (alk_of_mem hq)
theorem mdPut_names {x : MendS} {l : List StatS} (h : (l.map (·.Name)).Nodup) : ((mdPut x l).map (·.Name)).Nodup := by
 have h1 : ((mdDel x l).map (·.Name)).Nodup := h.sublist ((List.filter_sublist).map _)
 unfold mdPut
 split
 ·rw [List.map_append]
  refine List.nodup_append.2 ⟨h1, by simp, fun a ha b hb => ?_⟩
  simp at hb; subst hb
  obtain ⟨s, hs, rfl⟩ := List.mem_map.1 ha
  have := (List.mem_filter.1 hs).2
  simpa using this
 ·rw [List.append_nil]; exact h1
theorem GNm.step {n : Int} {G : GrS} {x : MendS} (h : GNm G) : GNm (mdStep n G x) := by
 unfold mdStep; split
 ·exact h
 ·exact h.put (mdPut_names (h.get _))
theorem mdGo_names (m : List MendS) (n : Int) : ∀ {G : GrS}, GNm G → GNm (mdGo G m n) := by
 induction m with
 | nil => intro G h; exact h
 | cons x m ih => intro G h; exact ih h.step
theorem lnMap_names {l : List LineS} (h : ∀ x ∈ l, (x.Stats.map (·.Name)).Nodup) : GNm (lnMap l) := by
 unfold lnMap
 have key : ∀ (l : List LineS) (G : GrS), (∀ x ∈ l, (x.Stats.map (·.Name)).Nodup) → GNm G → GNm (l.foldl lnPutS G) := fun l => by
  induction l with
  | nil => intro G _ h; exact h
  | cons x l ih => intro G h hG; exact ih _ (fun y hy => h y (List.mem_cons_of_mem _ hy)) (hG.put (h x List.mem_cons_self))
 exact key l [] h (fun q hq => by cases hq)
theorem mdMap_names {l : List LineS} {m : List MendS} {n : Int} (h : ∀ x ∈ l, (x.Stats.map (·.Name)).Nodup) : GNm (mdMap l m n) := mdGo_names m n (lnMap_names h)
theorem name_eq {l : List StatS} (h : (l.map (·.Name)).Nodup) {x y : StatS} (hx : x ∈ l) (hy : y ∈ l) (e : x.Name = y.Name) : x = y := by
 obtain ⟨i, hi⟩ := List.getElem?_of_mem hx
 obtain ⟨j, hj⟩ := List.getElem?_of_mem hy
 have := nodup_at h (a := x.Name) (i := i) (j := j) (by rw [List.getElem?_map, hi]; rfl) (by rw [List.getElem?_map, hj, e]; rfl)
 rw [this, hj] at hi; exact (Option.some.inj hi).symm
theorem stat_sorted {l l' : List StatS} (h : (l.map (·.Name)).Nodup) (hp : l'.Perm l) (hw : l'.Pairwise fun a b => ¬ byNm b a < 0) : l' = isort byNm l :=
 isort_of_sorted byNm_cmp (fun _ _ hx hy e => name_eq h hx hy (cmpS_zero.1 e)) hp hw
/-! groups of owned slices that hold such a map -/
abbrev GrV := GrpK Plc StatS
def conV (G : GrV) : GrS := G.map fun q => (q.1, q.2.2)
theorem conV_put {p : Plc} {v : Value} {l : List StatS} : ∀ {G : GrV}, conV (aput p (v, l) G) = aput p l (conV G)
 | [] => rfl
 | q :: r => by
   have ih := conV_put (p := p) (v := v) (l := l) (G := r)
   simp only [conV, aput, List.map_cons] at ih ⊢
   by_cases h : p = q.1
   ·rw [if_pos h, if_pos h]; rfl
   ·rw [if_neg h, if_neg h, List.map_cons, ih]
theorem conV_get (p : Plc) (G : GrV) : (alk p (conV G)).getD [] = gLK p G := by
 unfold conV gLK
 rw [alk_map (fun q : Value × List StatS => q.2) p G]
 cases alk p G <;> rfl
theorem conV_len (G : GrV) : (conV G).length = G.length := by unfold conV; simp
theorem mdStep_go {n : Int} {G : GrV} {x : MendS} (h : ¬ n < x.At) (v : Value) : conV (aput (x.Player, x.Week) (v, mdPut x (gLK (x.Player, x.Week) G)) G) = mdStep n (conV G) x := by
 rw [conV_put, mdStep, if_neg h, conV_get]
/-- What a range over the group gathers. -/
abbrev gLine (q : Plc × (Value × List StatS)) : LineS := mdLine (q.1, q.2.2)
theorem mdL_of {l : List LineS} {m : List MendS} {n : Int} {G E : GrV} (hG : conV G = mdMap l m n) (hE : E.Perm G) {out : List LineS} (hp : out.Perm (E.map gLine)) (hw : out.Pairwise fun a b => ¬ byWk b a < 0) : out = mdL l m n := by
 have hn : ANodup (mdMap l m n) := mdMap_nodup l m n
 have hm : ((mdMap l m n).map mdLine).Perm out := by
  rw [← hG]
  refine List.Perm.trans ?_ hp.symm
  unfold conV; rw [List.map_map]
  exact (hE.map gLine).symm
 refine isort_of_sorted byWk_cmp (fun x y hx hy e => ?_) hm.symm hw
 obtain ⟨p, hp1, rfl⟩ := List.mem_map.1 hx
 obtain ⟨q, hq1, rfl⟩ := List.mem_map.1 hy
 obtain ⟨e1, e2⟩ := byWk_zero.1 e
 have e3 : p.1 = q.1 := Prod.ext e1 e2
 have a1 := (alk_mem hn (x := p.1) (v := p.2)).1 hp1
 have a2 := (alk_mem hn (x := q.1) (v := q.2)).1 hq1
 rw [← e3, a1] at a2
 have e4 : p.2 = q.2 := Option.some.inj a2
 rw [show p = q from Prod.ext e3 e4]
abbrev MendedE (l : List LineS) (m : List MendS) (n : Int) : Int := if orI [linesFE l, mendsE m] ≠ 0 then orI [linesFE l, mendsE m] else if moment n then 0 else 1
abbrev MendedL (l : List LineS) (m : List MendS) (n : Int) : List LineS := if orI [linesFE l, mendsE m] ≠ 0 then [] else if moment n then mdL l m n else []
theorem or2z {a b : Int} (h : orI [a, b] = 0) : a = 0 ∧ b = 0 := by rw [orI2] at h; exact or_zero h
theorem md_glen {l : List LineS} {m : List MendS} {n : Int} {k : Nat} {G : GrV} (hL : ∀ x ∈ l, x.Stats.length ≤ 1000) (hm : m.length ≤ 100) (hc : conV G = mdGo (lnMap l) (m.take k) n) (p : Plc) : (gLK p G).length ≤ 1100 := by
 rw [← conV_get, hc]
 have h1 := (mdGo_len (m.take k) n (lnMap_len hL)).get p
 have h2 : (m.take k).length ≤ m.length := by rw [List.length_take]; omega
 omega
theorem md_many {l : List LineS} {m : List MendS} {n : Int} {G : GrV} (hl : l.length ≤ 1000) (hm : m.length ≤ 100) (hc : conV G = mdGo (lnMap l) m n) : G.length ≤ 1100 := by
 have h1 := conV_len G
 rw [hc] at h1
 have h2 := mdMap_many l m n
 unfold mdMap at h2
 omega
theorem conV_mem {G : GrV} {q : Plc × (Value × List StatS)} (h : q ∈ G) : (q.1, q.2.2) ∈ conV G := List.mem_map.2 ⟨q, h, rfl⟩
theorem md_q40 {l : List LineS} {m : List MendS} {n : Int} {G : GrV} {q : Plc × (Value × List StatS)} (h40 : GLen 40 (mdMap l m n)) (hc : conV G = mdGo (lnMap l) m n) (hq : q ∈ G) : q.2.2.length ≤ 40 := by
 have h1 := conV_mem hq
 rw [hc] at h1
 exact h40 _ h1
theorem md_qn {l : List LineS} {m : List MendS} {n : Int} {G : GrV} {q : Plc × (Value × List StatS)} (hs : ∀ x ∈ l, (x.Stats.map (·.Name)).Nodup) (hc : conV G = mdGo (lnMap l) m n) (hq : q ∈ G) : (q.2.2.map (·.Name)).Nodup := by
 have h1 := conV_mem hq
 rw [hc] at h1
 exact mdMap_names (m := m) (n := n) hs _ h1
/-! counts of lines -/
abbrev CnS := List (Cnt × Int)
def cnStat (x : LineS) (C : CnS) (s : StatS) : CnS := aput (x.Player, x.Week, s.Name) s.Count C
def cnRow (x : LineS) (C : CnS) (l : List StatS) : CnS := l.foldl (cnStat x) C
def cnLine (C : CnS) (x : LineS) : CnS := cnRow x C x.Stats
def cnL (l : List LineS) : CnS := l.foldl cnLine []
theorem cnRow_snoc {x : LineS} {C : CnS} {l : List StatS} {k : Nat} {s : StatS} (h : l[k]? = some s) : cnRow x C (l.take (k + 1)) = aput (x.Player, x.Week, s.Name) s.Count (cnRow x C (l.take k)) := by
 rw [take_snoc' h]; simp [cnRow, List.foldl_append, cnStat]
theorem cnL_snoc {l : List LineS} {k : Nat} {x : LineS} (h : l[k]? = some x) : cnL (l.take (k + 1)) = cnRow x (cnL (l.take k)) x.Stats := by
 rw [take_snoc' h]; simp [cnL, List.foldl_append, cnLine]
theorem cnRow_nodup (x : LineS) : ∀ (l : List StatS) {C : CnS}, ANodup C → ANodup (cnRow x C l)
 | [], _, h => h
 | s :: l, _, h => cnRow_nodup x l h.put
theorem cnL_nodup (l : List LineS) : ANodup (cnL l) := by
 unfold cnL
 have key : ∀ (l : List LineS) (C : CnS), ANodup C → ANodup (l.foldl cnLine C) := fun l => by
  induction l with
  | nil => intro C h; exact h
  | cons x l ih => intro C h; exact ih _ (cnRow_nodup x _ h)
 exact key l [] ANodup.nil
theorem cnRow_many (x : LineS) : ∀ (l : List StatS) (C : CnS), (cnRow x C l).length ≤ C.length + l.length
 | [], C => Nat.le_refl _
 | s :: l, C => by
   have h1 := cnRow_many x l (cnStat x C s)
   have h2 : (cnStat x C s).length ≤ C.length + 1 := aput_le _ _ _
   rw [List.length_cons]
   show (cnRow x (cnStat x C s) l).length ≤ _
   omega
theorem cnL_many {b : Nat} {l : List LineS} (h : ∀ x ∈ l, x.Stats.length ≤ b) : (cnL l).length ≤ b * l.length := by
 unfold cnL
 have key : ∀ (l : List LineS) (C : CnS), (∀ x ∈ l, x.Stats.length ≤ b) → (l.foldl cnLine C).length ≤ C.length + b * l.length := fun l => by
  induction l with
  | nil => intro C _; simp
  | cons x l ih =>
    intro C h
    have h1 := ih (cnLine C x) (fun y hy => h y (List.mem_cons_of_mem _ hy))
    have h2 := cnRow_many x x.Stats C
    have h3 := h x List.mem_cons_self
    have h4 : (cnLine C x).length = (cnRow x C x.Stats).length := rfl
    rw [List.foldl_cons, List.length_cons, Nat.mul_add]; omega
 have := key l [] h
 simpa using this
def cntOf (l : List LineS) (k : Cnt) : Int := (alk k (cnL l)).getD 0
/-! a map that is copied into another one -/
def merA {κ α : Type} [DecidableEq κ] (D S : List (κ × α)) : List (κ × α) := S.foldl (fun C p => aput p.1 p.2 C) D
theorem merA_snoc {κ α : Type} [DecidableEq κ] (D E : List (κ × α)) (q : κ × α) : merA D (E ++ [q]) = aput q.1 q.2 (merA D E) := by simp [merA, List.foldl_append]
theorem merA_keys {κ α : Type} [DecidableEq κ] {y : κ} : ∀ {S D : List (κ × α)}, y ∈ (merA D S).map (·.1) ↔ y ∈ D.map (·.1) ∨ y ∈ S.map (·.1)
 | [], D => by simp [merA]
 | p :: r, D => by
   have ih := merA_keys (y := y) (S := r) (D := aput p.1 p.2 D)
   show y ∈ (merA (aput p.1 p.2 D) r).map (·.1) ↔ _
   rw [ih, aput_keys, List.map_cons, List.mem_cons]
   constructor
   ·rintro ((h | h) | h)
    ·exact .inr (.inl h)
    ·exact .inl h
    ·exact .inr (.inr h)
   ·rintro (h | h | h)
    ·exact .inl (.inr h)
    ·exact .inl (.inl h)
    ·exact .inr h
theorem merA_nodup {κ α : Type} [DecidableEq κ] : ∀ {S D : List (κ × α)}, ANodup D → ANodup (merA D S)
 | [], _, h => h
 | p :: r, D, h => merA_nodup (S := r) (D := aput p.1 p.2 D) h.put
theorem merA_len {κ α : Type} [DecidableEq κ] : ∀ (S D : List (κ × α)), (merA D S).length ≤ D.length + S.length
 | [], D => Nat.le_refl _
 | p :: r, D => by
   have h1 := merA_len r (aput p.1 p.2 D)
   have h2 := aput_le p.1 p.2 D
   rw [List.length_cons]
   show (merA (aput p.1 p.2 D) r).length ≤ _
   omega
theorem merA_perm {κ α : Type} [DecidableEq κ] {D S E : List (κ × α)} (hD : ANodup D) (hp : E.Perm S) : ((merA D E).map (·.1)).Perm ((merA D S).map (·.1)) :=
 (List.perm_ext_iff_of_nodup (merA_nodup hD) (merA_nodup hD)).2 fun a => by rw [merA_keys, merA_keys, (hp.map (·.1)).mem_iff]
/-! what differs -/
def dfT (a b : List LineS) (k : Cnt) : Option TurnedS := if cntOf a k ≠ cntOf b k then some ⟨k.1, k.2.1, k.2.2, cntOf a k, cntOf b k⟩ else none
def dfKeys (a b : List LineS) : List Cnt := (merA (cnL a) (cnL b)).map (·.1)
def dfL (a b : List LineS) : List TurnedS := isort byTu ((dfKeys a b).filterMap (dfT a b))
theorem dfT_yes {a b : List LineS} {k : Cnt} (h : ¬ (alk k (cnL a)).getD 0 = (alk k (cnL b)).getD 0) : dfT a b k = some ⟨k.1, k.2.1, k.2.2, (alk k (cnL a)).getD 0, (alk k (cnL b)).getD 0⟩ := by
 unfold dfT cntOf; rw [if_pos h]
theorem dfT_no {a b : List LineS} {k : Cnt} (h : (alk k (cnL a)).getD 0 = (alk k (cnL b)).getD 0) : dfT a b k = none := by
 unfold dfT cntOf; rw [if_neg (by simp [h])]
theorem dfT_key {a b : List LineS} {k : Cnt} {t : TurnedS} (h : dfT a b k = some t) : k = (t.Player, t.Week, t.Stat) := by
 unfold dfT at h
 split at h
 ·rw [← Option.some.inj h]
 ·cases h
theorem dfT_eq {a b : List LineS} {k : Cnt} {t u : TurnedS} (h : dfT a b k = some t) (h' : dfT a b k = some u) : t = u := by rw [h] at h'; exact Option.some.inj h'
theorem dfL_of {a b : List LineS} {E : CnS} {out : List TurnedS} (hE : (E.map (·.1)).Perm (dfKeys a b)) (hp : out.Perm ((E.map (·.1)).filterMap (dfT a b))) (hw : out.Pairwise fun x y => ¬ byTu y x < 0) : out = dfL a b := by
 have hm : out.Perm ((dfKeys a b).filterMap (dfT a b)) := hp.trans (hE.filterMap _)
 refine isort_of_sorted byTu_cmp (fun x y hx hy e => ?_) hm hw
 obtain ⟨k, _, hk⟩ := List.mem_filterMap.1 hx
 obtain ⟨k', _, hk'⟩ := List.mem_filterMap.1 hy
 obtain ⟨e1, e2, e3⟩ := byTu_zero e
 have h1 := dfT_key hk
 have h2 := dfT_key hk'
 rw [e1, e2, e3, ← h2] at h1
 rw [h1] at hk
 exact dfT_eq hk hk'
theorem dfT_snoc (a b : List LineS) (E : CnS) (q : Cnt × Int) : ((E ++ [q]).map (·.1)).filterMap (dfT a b) = (E.map (·.1)).filterMap (dfT a b) ++ (dfT a b q.1).toList := by
 rw [List.map_append, List.filterMap_append]
 congr 1
theorem dfT_len (a b : List LineS) (E : CnS) : ((E.map (·.1)).filterMap (dfT a b)).length ≤ E.length := by
 have := List.length_filterMap_le (dfT a b) (E.map (·.1)); simpa using this
theorem dfL_mem {a b : List LineS} {t : TurnedS} (h : t ∈ dfL a b) : ∃ k, k ∈ dfKeys a b ∧ dfT a b k = some t := by
 unfold dfL at h
 rw [isort_mem] at h
 obtain ⟨k, h1, h2⟩ := List.mem_filterMap.1 h
 exact ⟨k, h1, h2⟩
theorem dfL_is {a b : List LineS} {t : TurnedS} (h : t ∈ dfL a b) : (t.Player, t.Week, t.Stat) ∈ dfKeys a b ∧ t.Was = cntOf a (t.Player, t.Week, t.Stat) ∧ t.Now = cntOf b (t.Player, t.Week, t.Stat) ∧ t.Was ≠ t.Now := by
 obtain ⟨k, h1, h2⟩ := dfL_mem h
 have h3 := dfT_key h2
 rw [← h3]
 unfold dfT at h2
 split at h2
 ·rename_i h4
  have h5 := Option.some.inj h2
  rw [← h5]; exact ⟨h1, rfl, rfl, h4⟩
 ·cases h2
theorem dfL_len (a b : List LineS) : (dfL a b).length ≤ (cnL a).length + (cnL b).length := by
 unfold dfL dfKeys
 rw [isort_len]
 have h1 := dfT_len a b (merA (cnL a) (cnL b))
 have h2 := merA_len (cnL b) (cnL a)
 omega
/-! one count -/
def CountE (l : List LineS) (p : Str) (w : Int) (s : Str) : Int := if linesFE l ≠ 0 then linesFE l else if !(key p) then 5 else if !(weekB w) then 1 else if !(key s) then 5 else 0
def CountV (l : List LineS) (p : Str) (w : Int) (s : Str) : Int := if linesFE l ≠ 0 then 0 else if !(key p) then 0 else if !(weekB w) then 0 else if !(key s) then 0 else cntOf l (p, w, s)
end Go.HL
end
section
namespace Go.HL
/-! one list of statistics by name -/
abbrev stA (l : List StatS) : List (Str × Int) := l.map fun s => (s.Name, s.Count)
def sv (l : List StatS) (s : Str) : Int := (alk s (stA l)).getD 0
structure StOk (l : List StatS) : Prop where
 nd : (l.map (·.Name)).Nodup
 nz : ∀ x ∈ l, x.Count ≠ 0
theorem stA_nodup {l : List StatS} (h : (l.map (·.Name)).Nodup) : ANodup (stA l) := by
 unfold ANodup; rw [List.map_map]; exact h
theorem sv_mem {l : List StatS} (h : StOk l) {x : StatS} : x ∈ l ↔ x.Count ≠ 0 ∧ sv l x.Name = x.Count := by
 have hn := stA_nodup h.nd
 constructor
 ·intro hx
  have h1 : (x.Name, x.Count) ∈ stA l := List.mem_map.2 ⟨x, hx, rfl⟩
  rw [alk_mem hn] at h1
  exact ⟨h.nz x hx, by unfold sv; rw [h1]; rfl⟩
 ·rintro ⟨h1, h2⟩
  unfold sv at h2
  cases hq : alk x.Name (stA l) with
  | none => rw [hq] at h2; exact absurd h2.symm h1
  | some v =>
    rw [hq] at h2
    have h3 : v = x.Count := h2
    rw [h3] at hq
    obtain ⟨y, hy, e⟩ := List.mem_map.1 (alk_of_mem hq)
    have e1 : y.Name = x.Name := congrArg Prod.fst e
    have e2 : y.Count = x.Count := congrArg Prod.snd e
    have : y = x := by cases y; cases x; simp only at e1 e2; rw [e1, e2]
    rw [← this]; exact hy
theorem StOk.nodup {l : List StatS} (h : StOk l) : l.Nodup := (List.pairwise_map.1 h.nd).imp fun h e => h (congrArg _ e)
theorem st_perm {l l' : List StatS} (h : StOk l) (h' : StOk l') (he : ∀ s, sv l s = sv l' s) : l.Perm l' :=
 (List.perm_ext_iff_of_nodup h.nodup h'.nodup).2 fun a => by rw [sv_mem h, sv_mem h', he]
theorem st_sort {l l' : List StatS} (h : StOk l) (h' : StOk l') (he : ∀ s, sv l s = sv l' s) : isort byNm l = isort byNm l' :=
 isort_unique byNm_cmp (fun _ _ => trivial) (fun _ _ hx hy e => name_eq h.nd hx hy (cmpS_zero.1 e)) (st_perm h h' he)
theorem sv_perm {l l' : List StatS} (h : (l'.map (·.Name)).Nodup) (hp : l.Perm l') (s : Str) : sv l s = sv l' s := by
 unfold sv; rw [alk_perm (hp.map _) (stA_nodup h)]
theorem alk_app {κ α : Type} [DecidableEq κ] (k : κ) : ∀ (A B : List (κ × α)), alk k (A ++ B) = (alk k A).or (alk k B)
 | [], B => by simp [alk]
 | p :: r, B => by
   have ih := alk_app k r B
   simp only [List.cons_append, alk]
   by_cases h : k = p.1
   ·rw [if_pos h, if_pos h]; rfl
   ·rw [if_neg h, if_neg h, ih]
theorem stA_del (x : MendS) (l : List StatS) : stA (mdDel x l) = (stA l).filter fun q => !(q.1 == x.Stat) := by
 unfold stA mdDel; rw [List.filter_map]; rfl
theorem sv_put (x : MendS) (l : List StatS) (s : Str) : sv (mdPut x l) s = if s = x.Stat then x.Count else sv l s := by
 have h1 : alk s (stA (mdDel x l)) = if s = x.Stat then none else alk s (stA l) := by
  rw [stA_del, alk_filter (s := s) (p := fun k => !(k == x.Stat))]
  by_cases h : s = x.Stat
  ·rw [if_pos h, if_neg (by simp [h])]
  ·rw [if_neg h, if_pos (by simp [h])]
 have h2 : stA (mdPut x l) = stA (mdDel x l) ++ stA (if x.Count ≠ 0 then [⟨x.Stat, x.Count⟩] else []) := by unfold stA mdPut; rw [List.map_append]
 unfold sv
 rw [h2, alk_app, h1]
 by_cases h : s = x.Stat
 ·rw [if_pos h, if_pos h]
  by_cases hc : x.Count = 0
  ·rw [if_neg (by simp [hc])]; simp [alk, hc]
  ·rw [if_pos hc]; simp [alk, h]
 ·rw [if_neg h, if_neg h]
  have : alk s (stA (if x.Count ≠ 0 then [⟨x.Stat, x.Count⟩] else [])) = none := by
   split
   ·simp [alk, h]
   ·rfl
  rw [this]; cases alk s (stA l) <;> rfl
theorem StOk.put {x : MendS} {l : List StatS} (h : StOk l) : StOk (mdPut x l) where
 nd := mdPut_names h.nd
 nz y hy := by
  unfold mdPut at hy
  rcases List.mem_append.1 hy with hy | hy
  ·exact h.nz y (List.mem_filter.1 hy).1
  ·split at hy
   ·rename_i hc; rw [List.mem_singleton.1 hy]; exact hc
   ·cases hy
theorem StOk.nil : StOk [] := ⟨List.nodup_nil, fun x h => by cases h⟩
/-! all lists by place -/
structure GSOk (G : GrS) : Prop where
 nd : ANodup G
 ok : ∀ q ∈ G, StOk q.2
def gv (G : GrS) (p : Plc) (s : Str) : Int := sv ((alk p G).getD []) s
theorem GSOk.get {G : GrS} (h : GSOk G) (p : Plc) : StOk ((alk p G).getD []) := by
 cases hq : alk p G with
 | none => exact StOk.nil
 | some l => exact h.ok _ (alk_of_mem hq)
theorem GSOk.step {n : Int} {G : GrS} {x : MendS} (h : GSOk G) : GSOk (mdStep n G x) := by
 unfold mdStep; split
 ·exact h
 ·refine ⟨h.nd.put, fun q hq => ?_⟩
  rcases mem_aput hq with rfl | hq
  ·exact (h.get _).put
  ·exact h.ok q hq
theorem GSOk.go {m : List MendS} {n : Int} : ∀ {G : GrS}, GSOk G → GSOk (mdGo G m n) := by
 induction m with
 | nil => intro G h; exact h
 | cons x m ih => intro G h; exact ih h.step
theorem mdLine_inj {G : GrS} (h : ANodup G) : (G.map mdLine).Nodup := by
 refine List.pairwise_map.2 ((List.pairwise_map.1 h).imp fun {a b} hab e => hab ?_)
 have e1 : a.1.1 = b.1.1 := congrArg LineS.Player e
 have e2 : a.1.2 = b.1.2 := congrArg LineS.Week e
 exact Prod.ext e1 e2
theorem g_sub {G H : GrS} (hG : GSOk G) (hH : GSOk H) (hd : ∀ p, (alk p G).isSome = true → (alk p H).isSome = true) (hv : ∀ p s, gv G p s = gv H p s) {y : LineS} (hy : y ∈ G.map mdLine) : y ∈ H.map mdLine := by
 obtain ⟨q, hq, rfl⟩ := List.mem_map.1 hy
 have h1 := (alk_mem hG.nd (x := q.1) (v := q.2)).1 hq
 have h2 := hd q.1 (by rw [h1]; rfl)
 obtain ⟨l', h3⟩ := Option.isSome_iff_exists.1 h2
 have h4 := alk_of_mem h3
 refine List.mem_map.2 ⟨_, h4, ?_⟩
 have h5 : isort byNm l' = isort byNm q.2 := by
  refine st_sort (hH.ok _ h4) (hG.ok _ hq) fun s => ?_
  have := hv q.1 s
  unfold gv at this
  rw [h1, h3] at this
  exact this.symm
 simp only [mdLine, h5]
theorem g_perm {G H : GrS} (hG : GSOk G) (hH : GSOk H) (hd : ∀ p, (alk p G).isSome = true ↔ (alk p H).isSome = true) (hv : ∀ p s, gv G p s = gv H p s) : (G.map mdLine).Perm (H.map mdLine) :=
 (List.perm_ext_iff_of_nodup (mdLine_inj hG.nd) (mdLine_inj hH.nd)).2 fun _ => ⟨g_sub hG hH (fun p => (hd p).1) hv, g_sub hH hG (fun p => (hd p).2) fun p s => (hv p s).symm⟩
theorem mdLine_eq {G : GrS} (hG : ANodup G) {x y : LineS} (hx : x ∈ G.map mdLine) (hy : y ∈ G.map mdLine) (e : byWk x y = 0) : x = y := by
 obtain ⟨p, hp1, rfl⟩ := List.mem_map.1 hx
 obtain ⟨q, hq1, rfl⟩ := List.mem_map.1 hy
 obtain ⟨e1, e2⟩ := byWk_zero.1 e
 have e3 : p.1 = q.1 := Prod.ext e1 e2
 have a1 := (alk_mem hG (x := p.1) (v := p.2)).1 hp1
 have a2 := (alk_mem hG (x := q.1) (v := q.2)).1 hq1
 rw [← e3, a1] at a2
 have e4 : p.2 = q.2 := Option.some.inj a2
 rw [show p = q from Prod.ext e3 e4]
theorem g_sort {G H : GrS} (hG : GSOk G) (hH : GSOk H) (hd : ∀ p, (alk p G).isSome = true ↔ (alk p H).isSome = true) (hv : ∀ p s, gv G p s = gv H p s) : isort byWk (G.map mdLine) = isort byWk (H.map mdLine) :=
 isort_unique byWk_cmp (fun _ _ => trivial) (fun _ _ hx hy e => mdLine_eq hG.nd hx hy e) (g_perm hG hH hd hv)
/-! what a mend does -/
abbrev plM (x : MendS) : Plc := (x.Player, x.Week)
abbrev plL (x : LineS) : Plc := (x.Player, x.Week)
theorem gv_step (n : Int) (G : GrS) (x : MendS) (p : Plc) (s : Str) : gv (mdStep n G x) p s = if x.At ≤ n ∧ p = plM x ∧ s = x.Stat then x.Count else gv G p s := by
 unfold mdStep gv
 by_cases h : n < x.At
 ·rw [if_pos h, if_neg (by omega)]
 ·rw [if_neg h, alk_put]
  by_cases hp : p = plM x
  ·rw [if_pos hp]
   show sv (mdPut x _) s = _
   rw [sv_put, hp]
   by_cases hs : s = x.Stat
   ·rw [if_pos hs, if_pos ⟨by omega, rfl, hs⟩]
   ·rw [if_neg hs, if_neg (fun e => hs e.2.2)]
  ·rw [if_neg hp, if_neg (fun e => hp e.2.1)]
theorem gd_step (n : Int) (G : GrS) (x : MendS) (p : Plc) : (alk p (mdStep n G x)).isSome = true ↔ (alk p G).isSome = true ∨ (x.At ≤ n ∧ p = plM x) := by
 unfold mdStep
 by_cases h : n < x.At
 ·rw [if_pos h]
  constructor
  ·exact .inl
  ·rintro (h' | ⟨h', _⟩)
   ·exact h'
   ·omega
 ·rw [if_neg h, alk_put]
  by_cases hp : p = plM x
  ·rw [if_pos hp]; simp; exact .inr ⟨by omega, hp⟩
  ·rw [if_neg hp]
   constructor
   ·exact .inl
   ·rintro (h' | ⟨_, h'⟩)
    ·exact h'
    ·exact absurd h' hp
def hitS (m : List MendS) (n : Int) (p : Plc) (s : Str) : Prop := ∃ x ∈ m, x.At ≤ n ∧ p = plM x ∧ s = x.Stat
theorem gv_go_ne {n : Int} {p : Plc} {s : Str} : ∀ (m : List MendS) (G : GrS), ¬ hitS m n p s → gv (mdGo G m n) p s = gv G p s
 | [], G, _ => rfl
 | x :: m, G, h => by
   have h1 := gv_go_ne m (mdStep n G x) (fun ⟨y, hy, e⟩ => h ⟨y, List.mem_cons_of_mem _ hy, e⟩)
   show gv (mdGo (mdStep n G x) m n) p s = _
   rw [h1, gv_step, if_neg (fun e => h ⟨x, List.mem_cons_self, e⟩)]
theorem gv_go_same {n : Int} : ∀ (m : List MendS) (G H : GrS), (∀ p s, ¬ hitS m n p s → gv G p s = gv H p s) → ∀ p s, gv (mdGo G m n) p s = gv (mdGo H m n) p s
 | [], G, H, h, p, s => h p s (fun ⟨_, hx, _⟩ => by cases hx)
 | x :: m, G, H, h, p, s => by
   refine gv_go_same m (mdStep n G x) (mdStep n H x) (fun p s hh => ?_) p s
   rw [gv_step, gv_step]
   by_cases e : x.At ≤ n ∧ p = plM x ∧ s = x.Stat
   ·rw [if_pos e, if_pos e]
   ·rw [if_neg e, if_neg e]
    refine h p s ?_
    rintro ⟨y, hy, hy'⟩
    rcases List.mem_cons.1 hy with rfl | hy
    ·exact e hy'
    ·exact hh ⟨y, hy, hy'⟩
theorem gd_go {n : Int} {p : Plc} : ∀ (m : List MendS) (G : GrS), (alk p (mdGo G m n)).isSome = true ↔ (alk p G).isSome = true ∨ ∃ x ∈ m, x.At ≤ n ∧ p = plM x
 | [], G => by simp [mdGo]
 | x :: m, G => by
   have ih := gd_go (n := n) (p := p) m (mdStep n G x)
   show (alk p (mdGo (mdStep n G x) m n)).isSome = true ↔ _
   rw [ih, gd_step]
   constructor
   ·rintro ((h | h) | ⟨y, hy, h⟩)
    ·exact .inl h
    ·exact .inr ⟨x, List.mem_cons_self, h⟩
    ·exact .inr ⟨y, List.mem_cons_of_mem _ hy, h⟩
   ·rintro (h | ⟨y, hy, h⟩)
    ·exact .inl (.inl h)
    ·rcases List.mem_cons.1 hy with rfl | hy
     ·exact .inl (.inr h)
     ·exact .inr ⟨y, hy, h⟩
/-! lines as such a map -/
abbrev lnA (l : List LineS) : GrS := l.map fun y => (plL y, y.Stats)
theorem lnMap_eq {l : List LineS} (h : (l.map plL).Nodup) : lnMap l = lnA l := by
 have key : ∀ (l : List LineS) (G : GrS), (l.map plL).Nodup → (∀ y ∈ l, alk (plL y) G = none) → l.foldl lnPutS G = G ++ lnA l := fun l => by
  induction l with
  | nil => intro G _ _; simp
  | cons x l ih =>
    intro G hn hG
    obtain ⟨h1, h2⟩ := List.nodup_cons.1 (by simpa using hn : (plL x :: l.map plL).Nodup)
    have e : lnPutS G x = G ++ [(plL x, x.Stats)] := aput_new (hG x List.mem_cons_self)
    rw [List.foldl_cons, e, ih _ h2]
    ·simp
    ·intro y hy
     rw [alk_app, hG y (List.mem_cons_of_mem _ hy)]
     have : plL y ≠ plL x := fun e => h1 (e ▸ List.mem_map_of_mem hy)
     simp [alk, this]
 have h1 := key l [] h (fun y _ => rfl)
 exact h1
theorem wk_nodup {l : List LineS} (h : l.Pairwise fun a b => byWk a b < 0) : (l.map plL).Nodup := by
 refine List.pairwise_map.2 (h.imp fun {a b} hab e => ?_)
 have := byWk_zero.2 ⟨congrArg Prod.fst e, congrArg Prod.snd e⟩
 omega
theorem nm_nodup {l : List StatS} (h : l.Pairwise fun a b => byNm a b < 0) : (l.map (·.Name)).Nodup := by
 refine List.pairwise_map.2 (h.imp fun {a b} hab e => ?_)
 have : byNm a b = 0 := cmpS_zero.2 e
 omega
theorem stats_ok {l : List StatS} (h : statsE l = 0) : StOk l := by
 obtain ⟨_, h2, h3⟩ := statsE_ok h
 exact ⟨nm_nodup h3, fun x hx => (statFault_ok.1 (h2 x hx)).2.2⟩
theorem line_stats {l : List LineS} (h : linesFE l = 0) {x : LineS} (hx : x ∈ l) : StOk x.Stats := stats_ok (lineFault_ok.1 ((linesFE_ok h).2.1 x hx)).2.2
theorem line_names {l : List LineS} (h : linesFE l = 0) : ∀ x ∈ l, (x.Stats.map (·.Name)).Nodup := fun _ hx => (line_stats h hx).nd
theorem lnMap_ok {l : List LineS} (h : linesFE l = 0) : GSOk (lnMap l) := by
 have hn := wk_nodup (linesFE_ok h).2.2
 refine ⟨lnMap_nodup l, fun q hq => ?_⟩
 rw [lnMap_eq hn] at hq
 obtain ⟨y, hy, rfl⟩ := List.mem_map.1 hq
 exact line_stats h hy
/-! what the mended lines are -/
structure GVal (G : GrS) : Prop where
 pl : ∀ q ∈ G, key q.1.1 = true ∧ weekB q.1.2 = true
 st : ∀ q ∈ G, ∀ s ∈ q.2, key s.Name = true ∧ (-100000 ≤ s.Count ∧ s.Count ≤ 100000)
theorem GVal.step {n : Int} {G : GrS} {x : MendS} (h : GVal G) (hx : mendFault x = 0) : GVal (mdStep n G x) := by
 obtain ⟨k1, k2, k3, k4, _⟩ := mendFault_ok hx
 unfold mdStep; split
 ·exact h
 ·refine ⟨fun q hq => ?_, fun q hq s hs => ?_⟩
  ·rcases mem_aput hq with rfl | hq
   ·exact ⟨k1, k3⟩
   ·exact h.pl q hq
  ·rcases mem_aput hq with rfl | hq
   ·unfold mdPut at hs
    rcases List.mem_append.1 hs with hs | hs
    ·have h1 := (List.mem_filter.1 hs).1
     cases ha : alk (x.Player, x.Week) G with
     | none => rw [ha] at h1; cases h1
     | some l => rw [ha] at h1; exact h.st _ (alk_of_mem ha) s h1
    ·split at hs
     ·rw [List.mem_singleton.1 hs]; exact ⟨k2, k4⟩
     ·cases hs
   ·exact h.st q hq s hs
theorem GVal.go {n : Int} : ∀ {m : List MendS} {G : GrS}, GVal G → (∀ x ∈ m, mendFault x = 0) → GVal (mdGo G m n)
 | [], _, h, _ => h
 | x :: m, _, h, hm => GVal.go (m := m) (h.step (hm x List.mem_cons_self)) fun y hy => hm y (List.mem_cons_of_mem _ hy)
theorem lnMap_val {l : List LineS} (h : linesFE l = 0) : GVal (lnMap l) := by
 have hn := wk_nodup (linesFE_ok h).2.2
 rw [lnMap_eq hn]
 refine ⟨fun q hq => ?_, fun q hq s hs => ?_⟩
 ·obtain ⟨y, hy, rfl⟩ := List.mem_map.1 hq
  obtain ⟨a1, a2, _⟩ := lineFault_ok.1 ((linesFE_ok h).2.1 y hy)
  exact ⟨a1, a2⟩
 ·obtain ⟨y, hy, rfl⟩ := List.mem_map.1 hq
  obtain ⟨_, _, a3⟩ := lineFault_ok.1 ((linesFE_ok h).2.1 y hy)
  obtain ⟨b1, b2, _⟩ := statFault_ok.1 ((statsE_ok a3).2.1 s hs)
  exact ⟨b1, b2⟩
theorem sort_strict {l : List StatS} (h : (l.map (·.Name)).Nodup) : (isort byNm l).Pairwise fun a b => byNm a b < 0 := by
 have h1 := isort_sorted byNm_cmp (l := l) (fun _ _ => trivial)
 have h2 : ((isort byNm l).map (·.Name)).Nodup := ((isort_perm byNm l).map _).nodup_iff.2 h
 refine (h1.and (List.pairwise_map.1 h2)).imp fun {a b} hab => ?_
 have h3 : byNm a b ≠ 0 := fun e => hab.2 (cmpS_zero.1 e)
 omega
theorem lines_strict {G : GrS} (h : ANodup G) : (isort byWk (G.map mdLine)).Pairwise fun a b => byWk a b < 0 := by
 have h1 := isort_sorted byWk_cmp (l := G.map mdLine) (fun _ _ => trivial)
 have h2 : (isort byWk (G.map mdLine)).Nodup := (isort_perm byWk _).nodup_iff.2 (mdLine_inj h)
 refine (List.Pairwise.and_mem.1 (h1.and h2)).imp fun {a b} hab => ?_
 have h3 : byWk a b ≠ 0 := fun e => hab.2.2.2 (mdLine_eq h ((isort_mem _).1 hab.1) ((isort_mem _).1 hab.2.1) e)
 omega
theorem mdL_right {a : List LineS} {m : List MendS} {n : Int} (ha : linesFE a = 0) (hm : mendsE m = 0) (h40 : GLen 40 (mdMap a m n)) (hmany : (mdMap a m n).length ≤ 30000) : linesFE (mdL a m n) = 0 := by
 have hG : GSOk (mdMap a m n) := (lnMap_ok ha).go
 have hV : GVal (mdMap a m n) := (lnMap_val ha).go (mendsE_ok hm).2.1
 refine linesFE_of (by unfold mdL; rw [isort_len, List.length_map]; exact hmany) (fun y hy => ?_) (lines_strict hG.nd)
 unfold mdL at hy
 rw [isort_mem] at hy
 obtain ⟨q, hq, rfl⟩ := List.mem_map.1 hy
 have hq2 := hG.ok q hq
 obtain ⟨k1, k2⟩ := hV.pl q hq
 refine lineFault_ok.2 ⟨k1, k2, statsE_of (by show (isort byNm q.2).length ≤ 40; rw [isort_len]; exact h40 q hq) (fun s hs => ?_) (sort_strict hq2.nd)⟩
 have hs' : s ∈ q.2 := (isort_mem _).1 hs
 obtain ⟨k3, k4⟩ := hV.st q hq s hs'
 exact statFault_ok.2 ⟨k3, k4, hq2.nz s hs'⟩
theorem alk_mdL {a : List LineS} {m : List MendS} {n : Int} (p : Plc) : alk p (lnMap (mdL a m n)) = (alk p (mdMap a m n)).map (isort byNm) := by
 have hn : ANodup (mdMap a m n) := mdMap_nodup a m n
 have h1 : (lnA (mdL a m n)).Perm ((mdMap a m n).map fun q => (q.1, isort byNm q.2)) := by
  unfold mdL lnA
  have h2 := (isort_perm byWk ((mdMap a m n).map mdLine)).map fun y : LineS => (plL y, y.Stats)
  rw [List.map_map] at h2
  exact h2
 have h3 : ANodup ((mdMap a m n).map fun q => (q.1, isort byNm q.2)) := ANodup.map _ hn
 rw [lnMap_eq (l := mdL a m n) (wk_nodup (lines_strict hn)), alk_perm h1 h3, alk_map]
theorem gv_mdL {a : List LineS} {m : List MendS} {n : Int} (hG : GSOk (mdMap a m n)) (p : Plc) (s : Str) : gv (lnMap (mdL a m n)) p s = gv (mdMap a m n) p s := by
 unfold gv
 rw [alk_mdL]
 cases hq : alk p (mdMap a m n) with
 | none => rfl
 | some l => exact sv_perm (hG.ok _ (alk_of_mem hq)).nd (isort_perm byNm l) s
theorem again_same {a : List LineS} {m : List MendS} {n : Int} (ha : linesFE a = 0) :
 (∀ p, (alk p (mdMap (mdL a m n) m n)).isSome = true ↔ (alk p (mdMap a m n)).isSome = true) ∧ ∀ p s, gv (mdMap (mdL a m n) m n) p s = gv (mdMap a m n) p s := by
 have hG : GSOk (mdMap a m n) := (lnMap_ok ha).go
 refine ⟨fun p => ?_, fun p s => ?_⟩
 ·have h0 : (alk p (lnMap (mdL a m n))).isSome = true ↔ (alk p (mdMap a m n)).isSome = true := by rw [alk_mdL]; simp
  unfold mdMap at *
  rw [gd_go, h0, gd_go]
  constructor
  ·rintro ((h | h) | h)
   ·exact .inl h
   ·exact .inr h
   ·exact .inr h
  ·rintro (h | h)
   ·exact .inl (.inl h)
   ·exact .inr h
 ·refine gv_go_same m _ _ (fun p s hh => ?_) p s
  rw [gv_mdL hG]
  exact gv_go_ne m _ hh
theorem mdL_again {a : List LineS} {m : List MendS} {n : Int} (ha : linesFE a = 0) (hx : linesFE (mdL a m n) = 0) : mdL (mdL a m n) m n = mdL a m n := by
 have hG : GSOk (mdMap a m n) := (lnMap_ok ha).go
 have hH : GSOk (mdMap (mdL a m n) m n) := (lnMap_ok hx).go
 obtain ⟨h1, h2⟩ := again_same (m := m) (n := n) ha
 exact g_sort hH hG h1 h2
theorem again_len {a : List LineS} {m : List MendS} {n : Int} {b : Nat} (ha : linesFE a = 0) (hx : linesFE (mdL a m n) = 0) (hb : GLen b (mdMap a m n)) : GLen b (mdMap (mdL a m n) m n) := fun q hq => by
 have hG : GSOk (mdMap a m n) := (lnMap_ok ha).go
 have hH : GSOk (mdMap (mdL a m n) m n) := (lnMap_ok hx).go
 obtain ⟨h1, h2⟩ := again_same (m := m) (n := n) ha
 have h3 := (alk_mem hH.nd (x := q.1) (v := q.2)).1 hq
 obtain ⟨l', h4⟩ := Option.isSome_iff_exists.1 ((h1 q.1).1 (by rw [h3]; rfl))
 have h5 := st_perm (hH.ok _ hq) (hG.ok _ (alk_of_mem h4)) fun s => by
  have := h2 q.1 s
  unfold gv at this
  rw [h3, h4] at this
  exact this
 rw [h5.length_eq]
 exact hb _ (alk_of_mem h4)
/-! counts -/
theorem cnRow_get (x : LineS) (k : Cnt) : ∀ (l : List StatS) (C : CnS), (l.map (·.Name)).Nodup → alk k (cnRow x C l) = if (k.1, k.2.1) = plL x then (alk k.2.2 (stA l)).or (alk k C) else alk k C
 | [], C, _ => by
   show alk k C = _
   split <;> simp [alk]
 | s :: l, C, hn => by
   obtain ⟨h1, h2⟩ := List.nodup_cons.1 (by simpa using hn : (s.Name :: l.map (·.Name)).Nodup)
   have ih := cnRow_get x k l (cnStat x C s) h2
   show alk k (cnRow x (cnStat x C s) l) = _
   rw [ih]
   have hc : alk k (cnStat x C s) = if k = (x.Player, x.Week, s.Name) then some s.Count else alk k C := alk_put _ _ _ _
   rw [hc]
   obtain ⟨kp, kw, ks⟩ := k
   by_cases hp : (kp, kw) = plL x
   ·rw [if_pos hp, if_pos hp]
    have e1 : kp = x.Player := congrArg Prod.fst hp
    have e2 : kw = x.Week := congrArg Prod.snd hp
    by_cases hs : ks = s.Name
    ·have : alk ks (stA l) = none := by rw [alk_none, hs, List.map_map]; exact h1
     rw [if_pos (by rw [e1, e2, hs])]
     simp only [this, Option.none_or]
     simp [alk, hs]
    ·rw [if_neg (fun e => hs (congrArg (fun q : Cnt => q.2.2) e))]
     simp [alk, hs]
   ·rw [if_neg hp, if_neg hp, if_neg (fun e => hp (Prod.ext (congrArg (fun q : Cnt => q.1) e) (congrArg (fun q : Cnt => q.2.1) e)))]
theorem cnL_get {l : List LineS} (hn : (l.map plL).Nodup) (hs : ∀ x ∈ l, (x.Stats.map (·.Name)).Nodup) (k : Cnt) : alk k (cnL l) = (alk (k.1, k.2.1) (lnA l)).bind fun st => alk k.2.2 (stA st) := by
 have key : ∀ (l : List LineS) (C : CnS), (l.map plL).Nodup → (∀ x ∈ l, (x.Stats.map (·.Name)).Nodup) → alk k (l.foldl cnLine C) = ((alk (k.1, k.2.1) (lnA l)).bind fun st => alk k.2.2 (stA st)).or (alk k C) := fun l => by
  induction l with
  | nil => intro C _ _; simp [alk]
  | cons x l ih =>
    intro C hn hs
    obtain ⟨h1, h2⟩ := List.nodup_cons.1 (by simpa using hn : (plL x :: l.map plL).Nodup)
    rw [List.foldl_cons, ih _ h2 (fun y hy => hs y (List.mem_cons_of_mem _ hy))]
    have hr : alk k (cnLine C x) = _ := cnRow_get x k x.Stats C (hs x List.mem_cons_self)
    rw [hr]
    show _ = ((alk (k.1, k.2.1) ((plL x, x.Stats) :: lnA l)).bind _).or _
    simp only [alk]
    by_cases hp : (k.1, k.2.1) = plL x
    ·have : alk (k.1, k.2.1) (lnA l) = none := by rw [alk_none, hp, List.map_map]; exact h1
     rw [if_pos hp, if_pos hp, this]; simp
    ·rw [if_neg hp, if_neg hp]
 have := key l [] hn hs
 unfold cnL
 rw [this]; simp [alk]
theorem cntOf_gv {l : List LineS} (h : linesFE l = 0) (k : Cnt) : cntOf l k = gv (lnMap l) (k.1, k.2.1) k.2.2 := by
 have hn := wk_nodup (linesFE_ok h).2.2
 unfold cntOf gv sv
 rw [cnL_get hn (line_names h), lnMap_eq hn]
 cases alk (k.1, k.2.1) (lnA l) <;> rfl
theorem cnL_keys {l : List LineS} {k : Cnt} (h : k ∈ (cnL l).map (·.1)) : ∃ y ∈ l, y.Player = k.1 ∧ y.Week = k.2.1 ∧ ∃ s ∈ y.Stats, s.Name = k.2.2 := by
 have row : ∀ (x : LineS) (r : List StatS) (C : CnS), k ∈ (cnRow x C r).map (·.1) → k ∈ C.map (·.1) ∨ (x.Player = k.1 ∧ x.Week = k.2.1 ∧ ∃ s ∈ r, s.Name = k.2.2) := fun x r => by
  induction r with
  | nil => intro C h; exact .inl h
  | cons s r ih =>
    intro C h
    rcases ih (cnStat x C s) h with h' | ⟨a1, a2, t, ht, a3⟩
    ·rcases aput_keys.1 h' with e | h'
     ·right; rw [e]; exact ⟨rfl, rfl, s, List.mem_cons_self, rfl⟩
     ·exact .inl h'
    ·exact .inr ⟨a1, a2, t, List.mem_cons_of_mem _ ht, a3⟩
 have key : ∀ (l : List LineS) (C : CnS), k ∈ (l.foldl cnLine C).map (·.1) → k ∈ C.map (·.1) ∨ ∃ y ∈ l, y.Player = k.1 ∧ y.Week = k.2.1 ∧ ∃ s ∈ y.Stats, s.Name = k.2.2 := fun l => by
  induction l with
  | nil => intro C h; exact .inl h
  | cons x l ih =>
    intro C h
    rcases ih (cnLine C x) h with h' | ⟨y, hy, e⟩
    ·rcases row x x.Stats C h' with h' | e
     ·exact .inl h'
     ·exact .inr ⟨x, List.mem_cons_self, e⟩
    ·exact .inr ⟨y, List.mem_cons_of_mem _ hy, e⟩
 rcases key l [] h with h' | h'
 ·cases h'
 ·exact h'
theorem key_ok {l : List LineS} (h : linesFE l = 0) {k : Cnt} (hk : k ∈ (cnL l).map (·.1)) : key k.1 = true ∧ weekB k.2.1 = true ∧ key k.2.2 = true := by
 obtain ⟨y, hy, e1, e2, s, hs, e3⟩ := cnL_keys hk
 obtain ⟨a1, a2, a3⟩ := lineFault_ok.1 ((linesFE_ok h).2.1 y hy)
 obtain ⟨b1, _⟩ := statFault_ok.1 ((statsE_ok a3).2.1 s hs)
 rw [← e1, ← e2, ← e3]; exact ⟨a1, a2, b1⟩
abbrev mendsAt (n : Int) (t : TurnedS) (z : MendS) : Bool := z.Player == t.Player && z.Week == t.Week && z.Stat == t.Stat && decide (z.At ≤ n)
theorem mend_law {a : List LineS} {m : List MendS} {n : Int} (ha : linesFE a = 0) (hx : linesFE (mdL a m n) = 0) {t : TurnedS} (ht : t ∈ dfL a (mdL a m n)) :
 (key t.Player = true ∧ weekB t.Week = true ∧ key t.Stat = true) ∧ cntOf (mdL a m n) (t.Player, t.Week, t.Stat) = t.Now ∧ m.any (mendsAt n t) = true := by
 obtain ⟨h1, h2, h3, h4⟩ := dfL_is ht
 refine ⟨?_, h3.symm, ?_⟩
 ·rcases merA_keys.1 h1 with h | h
  ·exact key_ok ha h
  ·exact key_ok hx h
 ·refine Classical.byContradiction fun hno => ?_
  have hh : ¬ hitS m n (t.Player, t.Week) t.Stat := by
   rintro ⟨z, hz, e1, e2, e3⟩
   refine hno (List.any_eq_true.2 ⟨z, hz, ?_⟩)
   have e4 : t.Player = z.Player := congrArg Prod.fst e2
   have e5 : t.Week = z.Week := congrArg Prod.snd e2
   simp [mendsAt, e4, e5, e3, e1]
  have hG : GSOk (mdMap a m n) := (lnMap_ok ha).go
  rw [cntOf_gv ha] at h2
  rw [cntOf_gv hx, gv_mdL hG] at h3
  have h5 := gv_go_ne m (lnMap a) hh
  exact h4 (by rw [h2, h3]; exact h5.symm)
theorem mended_ok {l : List LineS} {m : List MendS} {n : Int} (h1 : linesFE l = 0) (h2 : mendsE m = 0) (hn : moment n = true) : MendedL l m n = mdL l m n ∧ MendedE l m n = 0 := by
 have hz : orI [linesFE l, mendsE m] = 0 := by rw [h1, h2]; rfl
 exact ⟨by rw [MendedL, if_neg (by simp [hz]), if_pos hn], by rw [MendedE, if_neg (by simp [hz]), if_pos hn]⟩
theorem once_law {a : List LineS} {m : List MendS} {n : Int} (ha : linesFE a = 0) (hm0 : mendsE m = 0) (hl : a.length ≤ 6) (hs : ∀ x ∈ a, x.Stats.length ≤ 4) (hm : m.length ≤ 24) (hn : moment n = true) :
 ∃ X, (MendedL a m n = X ∧ MendedE a m n = 0) ∧ (MendedL X m n = X ∧ MendedE X m n = 0) ∧ linesFE X = 0 ∧ (X.length ≤ 1000 ∧ ∀ x ∈ X, x.Stats.length ≤ 100) ∧ (linesFE a = 0 → GLen 40 (mdMap a m n)) ∧ (linesFE X = 0 → GLen 40 (mdMap X m n)) ∧
  ∀ t ∈ dfL a X, (CountE X t.Player t.Week t.Stat = 0 ∧ CountV X t.Player t.Week t.Stat = t.Now) ∧ m.any (mendsAt n t) = true := by
 have h28 : GLen 28 (mdMap a m n) := (mdGo_len m n (lnMap_len hs)).up (by omega)
 have hmany := mdMap_many a m n
 have hx : linesFE (mdL a m n) = 0 := mdL_right ha hm0 (h28.up (by decide)) (by omega)
 obtain ⟨e1, e2⟩ := mended_ok ha hm0 hn
 obtain ⟨e3, e4⟩ := mended_ok hx hm0 hn
 refine ⟨mdL a m n, ⟨e1, e2⟩, ⟨by rw [e3]; exact mdL_again ha hx, e4⟩, hx, ⟨by unfold mdL; rw [isort_len, List.length_map]; omega, fun y hy => ?_⟩, fun _ => h28.up (by decide), fun _ => (again_len ha hx h28).up (by decide), fun t ht => ?_⟩
 ·unfold mdL at hy
  rw [isort_mem] at hy
  obtain ⟨q, hq, rfl⟩ := List.mem_map.1 hy
  have := h28 q hq
  show (isort byNm q.2).length ≤ 100
  rw [isort_len]; omega
 ·obtain ⟨⟨k1, k2, k3⟩, h2, h3⟩ := mend_law ha hx ht
  refine ⟨⟨?_, ?_⟩, h3⟩
  ·unfold CountE; rw [if_neg (by simp [hx]), k1, k2, k3]; rfl
  ·unfold CountV; rw [if_neg (by simp [hx]), k1, k2, k3]; exact h2
end Go.HL
end
section
namespace Go.HL
open Go.Proofs Go.Shelf
variable {P : Program}
theorem con_clone [Tracks] {ρ : Ren} (L : SlLaysW.n5 P ρ) {b : Nat} {l : List (HVal × HVal)} : Con P (ρ.f 5) [.raw (.map (some b))] [.map b l] fun x M' => ∃ b', x = .raw (.map (some b')) ∧ M' = [.map b' l, .map b l] := by
 intro I F w args ha hs
 obtain ⟨u, rfl, hu⟩ := ha.one
 obtain rfl := hu.raw_inv
 obtain ⟨es, clk, h1, h2, h3⟩ := hs.obj (.map b l) (by simp)
 refine (AnyW.maps_Clone L b es clk w h1).mono ?_
 rintro _ w' ⟨rfl, rfl⟩
 refine ⟨_, _, _, I, rfl, .refl I, ⟨w.heap.size, rfl, rfl⟩, .raw _ rfl, ?_⟩
 exact hs.new_own (.map es clk) (.map w.heap.size l) rfl ⟨es, clk, by simp [push], h2, h3⟩
end Go.HL
end
section
namespace Go.HL
end Go.HL
end
section
namespace Go.HL
section
variable {P : Program}
theorem VL.takeL {I : Imm} {cs : List HVal} {vs : List Value} (h : VL I cs vs) (n : Nat) : VL I (cs.take n) (vs.take n) := by
 refine ⟨by rw [List.length_take, List.length_take, h.1], fun j c v h1 h2 => ?_⟩
 have hj := lt_of_get h1
 rw [List.length_take] at hj
 rw [List.getElem?_take_of_lt (by omega)] at h1 h2
 exact h.2 j c v h1 h2
theorem VL.dropL {I : Imm} {cs : List HVal} {vs : List Value} (h : VL I cs vs) (n : Nat) : VL I (cs.drop n) (vs.drop n) := by
 refine ⟨by rw [List.length_drop, List.length_drop, h.1], fun j c v h1 h2 => ?_⟩
 rw [List.getElem?_drop] at h1 h2
 exact h.2 _ c v h1 h2
theorem eqHL_append : ∀ {a b c d : List HVal}, a.length = b.length → eqHL (a ++ c) (b ++ d) = (eqHL a b && eqHL c d)
 | [], [], _, _, _ => by simp [eqHL]
 | [], _ :: _, _, _, h => by simp at h
 | _ :: _, [], _, _, h => by simp at h
 | x :: a, y :: b, c, d, h => by
   rw [List.cons_append, List.cons_append, eqHL, eqHL, eqHL_append (a := a) (b := b) (by simpa using h), Bool.and_assoc]
theorem run_equalIn_st [Tracks] {t : TypeId} {fs : List (Nat × Nat)} {s by' : Nat} {z : Value} (hf : Fits P t (.struct fs) s by' z) (hq : EqOk P t) {I : Imm} {xs ys : Array Value} {cs ds : List HVal} (hx : VL I cs xs.toList) (hy : VL I ds ys.toList)
 (hk : kinds P fs 0 cs ds) (n : Nat) (w : World) : (Op.equalIn (n + 2) t (.agg xs) (.agg ys)).run P w = .ok (eqHL cs ds) w := by
 obtain ⟨gs, h1, h2⟩ := hf.structD
 have h3 : P.fieldsOf t = gs := by simp [Program.fieldsOf, h1]
 have hn := hq.names
 rw [h3] at hn
 rw [run_equalIn_struct w (n + 1) t xs ys (by rw [h3]; exact h1) hq.held, h3]
 have := run_eqFields (P := P) hx hy n w gs.toList 0 (fun f hf => by have := List.all_eq_true.1 hn f hf; simpa using this) (by rw [h2]; exact hk)
 simpa using this
theorem run_part_st [Tracks] {t : TypeId} {gs : List (Nat × Nat)} {s by' : Nat} {z : Value} (hf : Fits P t (.struct gs) s by' z) {cs : Array Value} {o : Nat} (w : World) : (part t cs o).run P w = .ok (.agg (cs.extract o (o + s))) w := by
 simp [part, hf.run_isAgg, hf.run_sizeOf, TD.isAgg]
theorem extract_list (xs : Array Value) (o s : Nat) : (xs.extract o (o + s)).toList = (xs.toList.drop o).take s := by
 rw [Array.toList_extract, List.extract_eq_take_drop, Nat.add_sub_cancel_left]
end
section
variable {P : Program} {e : Env} {dst : Option Tmp} {ty : TypeId} {pos : String} {af : Array Edge} {g : Option (Nat × Bool)}
end
end Go.HL
end
section
namespace Go.HL
section
variable {P : Program}
/-- A struct's fields, each a struct of single cells or a single cell. -/
def kindsM (P : Program) : List (Nat × Nat) → Nat → List HVal → List HVal → Prop
 | [], _, cs, ds => cs = [] ∧ ds = []
 | f :: fs, k, cs, ds => f.1 = k ∧ ((∃ gs s by' z, Fits P f.2 (.struct gs) s by' z ∧ EqOk P f.2 ∧ s ≤ cs.length ∧ s ≤ ds.length ∧ kinds P gs 0 (cs.take s) (ds.take s) ∧ kindsM P fs (k + s) (cs.drop s) (ds.drop s)) ∨
    ∃ d s by' z a b r r', cs = a :: r ∧ ds = b :: r' ∧ Fits P f.2 d s by' z ∧ sameKind d a b = true ∧ kindsM P fs (k + 1) r r')
theorem run_eqFieldsM [Tracks] {I : Imm} {xs ys : Array Value} {cs ds : List HVal} (hx : VL I cs xs.toList) (hy : VL I ds ys.toList) (n : Nat) (w : World) :
 ∀ (fs : List Field) (k : Nat), (∀ f ∈ fs, f.name ≠ "_") → kindsM P (fs.map fun f => (f.offset, f.type)) k (cs.drop k) (ds.drop k) → (Op.eqFields (n + 2) xs ys fs).run P w = .ok (eqHL (cs.drop k) (ds.drop k)) w
 | [], k, _, hk => by
   obtain ⟨h1, h2⟩ := hk
   rw [h1, h2]
   simp [Op.eqFields, eqHL]
 | f :: fs, k, hn, hk => by
   obtain ⟨h1, hk⟩ := hk
   simp only at h1
   rcases hk with ⟨gs, s, by', z, h2, hq, l1, l2, h3, h4⟩ | ⟨d, s, by', z, a, b, r, r', hc, hd, h2, h3, h4⟩
   ·simp only at h2 hq
    rw [List.drop_drop, List.drop_drop] at h4
    have ih := run_eqFieldsM hx hy n w fs (k + s) (fun f hf => hn f (by simp [hf])) h4
    subst h1
    have e1 : VL I ((cs.drop f.offset).take s) (xs.extract f.offset (f.offset + s)).toList := by rw [extract_list]; exact (hx.dropL _).takeL _
    have e2 : VL I ((ds.drop f.offset).take s) (ys.extract f.offset (f.offset + s)).toList := by rw [extract_list]; exact (hy.dropL _).takeL _
    have he := run_equalIn_st h2 hq e1 e2 h3 n w
    have hs : eqHL (cs.drop f.offset) (ds.drop f.offset) = (eqHL ((cs.drop f.offset).take s) ((ds.drop f.offset).take s) && eqHL (cs.drop (f.offset + s)) (ds.drop (f.offset + s))) := by
     rw [← List.drop_drop (l := cs), ← List.drop_drop (l := ds), ← eqHL_append (by rw [List.length_take, List.length_take]; omega), List.take_append_drop, List.take_append_drop]
    simp only [Op.eqFields]
    rw [if_pos (hn f (by simp))]
    simp only [Sem.run_bind, run_part_st h2, Result.andThen_ok, he]
    rw [hs]
    cases hq : eqHL ((cs.drop f.offset).take s) ((ds.drop f.offset).take s) with
    | true => simp only [Bool.not_true, Bool.false_eq_true, if_false, ih, Bool.true_and]
    | false => simp only [Bool.not_false, if_true, Sem.run_pure, Bool.false_and]
   ·simp only at h2
    have ha : cs[k]? = some a := by have := congrArg (fun l : List HVal => l[0]?) hc; simpa using this
    have hb : ds[k]? = some b := by have := congrArg (fun l : List HVal => l[0]?) hd; simpa using this
    obtain ⟨u, hu, hu'⟩ := hx.get ha
    obtain ⟨v, hv, hv'⟩ := hy.get hb
    have hr : cs.drop (k + 1) = r := by rw [← List.drop_drop (i := 1), hc]; rfl
    have hr' : ds.drop (k + 1) = r' := by rw [← List.drop_drop (i := 1), hd]; rfl
    have ih := run_eqFieldsM hx hy n w fs (k + 1) (fun f hf => hn f (by simp [hf])) (by rw [hr, hr']; exact h4)
    subst h1
    have p1 := run_part h2 (sameKind_agg h3) (cs := xs) (o := f.offset) (by simpa using hu) w
    have p2 := run_part h2 (sameKind_agg h3) (cs := ys) (o := f.offset) (by simpa using hv) w
    have he := run_equal_scalar h2 h3 hu' hv' (n + 1) w
    simp only [Op.eqFields]
    rw [if_pos (hn f (by simp))]
    simp only [Sem.run_bind, p1, p2, Result.andThen_ok, he]
    rw [hc, hd, eqHL, ← hr, ← hr']
    cases hq : eqH a b with
    | true => simp only [Bool.not_true, Bool.false_eq_true, if_false, ih, Bool.true_and]
    | false => simp only [Bool.not_false, if_true, Sem.run_pure, Bool.false_and]
theorem run_equal_structM [Tracks] {t : TypeId} {fs : List (Nat × Nat)} {s by' : Nat} {z : Value} (hf : Fits P t (.struct fs) s by' z) (hq : EqOk P t) {I : Imm} {xs ys : Array Value} {cs ds : List HVal} (hx : VL I cs xs.toList) (hy : VL I ds ys.toList)
 (hk : kindsM P fs 0 cs ds) (w : World) : (Op.equal t (.agg xs) (.agg ys)).run P w = .ok (eqHL cs ds) w := by
 obtain ⟨gs, h1, h2⟩ := hf.structD
 have h3 : P.fieldsOf t = gs := by simp [Program.fieldsOf, h1]
 have hn := hq.names
 rw [h3] at hn
 have h : ∀ n, (Op.equalIn (n + 3) t (.agg xs) (.agg ys)).run P w = .ok (eqHL cs ds) w := fun n => by
  rw [run_equalIn_struct w (n + 2) t xs ys (by rw [h3]; exact h1) hq.held, h3]
  have := run_eqFieldsM (P := P) hx hy n w gs.toList 0 (fun f hf => by have := List.all_eq_true.1 hn f hf; simpa using this) (by rw [h2]; exact hk)
  simpa using this
 exact h 9997
/-- A struct of single cells as a key, at any depth that is left. -/
theorem run_check_st {t : TypeId} {fs : List (Nat × Nat)} {s by' : Nat} {z : Value} (hf : Fits P t (.struct fs) s by' z) (hq : EqOk P t) {I : Imm} {xs : Array Value} {cs : List HVal} (hx : VL I cs xs.toList) (hk : kinds P fs 0 cs cs) (em : Bool) (n : Nat) (w : World) :
 (Instr.checkKey em (n + 2) t (.agg xs)).run P w = .ok () w := by
 haveI : Tracks := ⟨true⟩
 obtain ⟨gs, h1, h2⟩ := hf.structD
 have hn : ∀ f ∈ gs.toList, f.name ≠ "_" := fun f hf => by
  have := hq.names
  rw [show P.fieldsOf t = gs by simp [Program.fieldsOf, h1]] at this
  have := List.all_eq_true.1 this f hf; simpa using this
 have each := each_field (P := P) hx em n w gs.toList 0 (by rw [h2]; exact hk)
 rw [show n + 2 = (n + 1) + 1 from rfl, Instr.checkKey]
 simp only [Sem.run_bind, run_underlying h1, Result.andThen_ok]
 rw [← Array.forIn_toList]
 clear h1 h2
 generalize gs.toList = L at each hn
 induction L with
 | nil => simp
 | cons f L ih =>
   obtain ⟨a, p1, p2⟩ := each f (by simp)
   have hn1 := hn f (by simp)
   simp only [List.forIn_cons, Sem.run_bind, hn1, ne_eq, not_false_eq_true, if_true, Result.andThen_ok, p1, p2, Sem.run_pure]
   exact ih (fun y hy => each y (by simp [hy])) (fun y hy => hn y (by simp [hy]))
theorem each_fieldM {I : Imm} {xs : Array Value} {cs : List HVal} (hx : VL I cs xs.toList) (em : Bool) (n : Nat) (w : World) :
 ∀ (fs : List Field) (k : Nat), kindsM P (fs.map fun f => (f.offset, f.type)) k (cs.drop k) (cs.drop k) → ∀ f ∈ fs, ∃ a, (part f.type xs f.offset).run P w = .ok a w ∧ (Instr.checkKey em (n + 2) f.type a).run P w = .ok () w
 | [], k, _, f, hf => by simp at hf
 | g :: fs, k, hk, f, hf => by
   haveI : Tracks := ⟨true⟩
   obtain ⟨h1, hk⟩ := hk
   simp only at h1
   rcases hk with ⟨gs, s, by', z, h2, hq, l1, l2, h3, h4⟩ | ⟨d, s, by', z, a, b, r, r', hc, hd, h2, h3, h4⟩
   ·rw [List.drop_drop] at h4
    rcases List.mem_cons.1 hf with rfl | hf
    ·subst h1
     have e1 : VL I ((cs.drop f.offset).take s) (xs.extract f.offset (f.offset + s)).toList := by rw [extract_list]; exact (hx.dropL _).takeL _
     exact ⟨_, run_part_st h2 w, run_check_st h2 hq e1 h3 em n w⟩
    ·exact each_fieldM hx em n w fs (k + s) h4 f hf
   ·have ha : cs[k]? = some a := by have := congrArg (fun l : List HVal => l[0]?) hc; simpa using this
    have hr : cs.drop (k + 1) = r := by rw [← List.drop_drop (i := 1), hc]; rfl
    have hab : a = b ∧ r = r' := by rw [hc] at hd; simpa using hd
    obtain ⟨rfl, rfl⟩ := hab
    rcases List.mem_cons.1 hf with rfl | hf
    ·obtain ⟨u, hu, hu'⟩ := hx.get ha
     exact ⟨u, run_part h2 (sameKind_agg h3) (by rw [h1]; simpa using hu) w, run_check_scalar h2 h3 hu' em (n + 1) w⟩
    ·exact each_fieldM hx em n w fs (k + 1) (by rw [hr]; exact h4) f hf
theorem keyOk_structM {κ : Type} [DecidableEq κ] {kt : TypeId} {fs : List (Nat × Nat)} {s by' : Nat} {z : Value} {cs : κ → List HVal} (hf : Fits P kt (.struct fs) s by' z) (hq : EqOk P kt) (hk : ∀ x y, kindsM P fs 0 (cs x) (cs y))
 (he : ∀ x y, eqHL (cs x) (cs y) = decide (x = y)) (hs : ∀ x, scal (cs x) = true) : KeyOk P kt (fun x => .agg (cs x)) := by
 haveI : Tracks := ⟨true⟩
 obtain ⟨gs, h1, h2⟩ := hf.structD
 have hn : ∀ f ∈ gs.toList, f.name ≠ "_" := fun f hf => by
  have := hq.names
  rw [show P.fieldsOf kt = gs by simp [Program.fieldsOf, h1]] at this
  have := List.all_eq_true.1 this f hf; simpa using this
 refine ⟨fun I x v b w hv => ?_, fun I x y u v w hu hv => ?_, fun I x v es w hv hes => run_findKey_eq w (by rw [h1]) v es, fun I x u v hu hv => ?_⟩
 ·obtain ⟨xs, rfl, hx⟩ := hv.agg_inv
  have each := each_fieldM (P := P) hx b 9997 w gs.toList 0 (by rw [h2]; exact hk x x)
  rw [show (10000 : Nat) = 9999 + 1 from rfl, Instr.checkKey]
  simp only [Sem.run_bind, run_underlying h1, Result.andThen_ok]
  rw [← Array.forIn_toList]
  clear h1 h2
  generalize gs.toList = L at each hn
  induction L with
  | nil => simp
  | cons f L ih =>
    obtain ⟨a, p1, p2⟩ := each f (by simp)
    have hn1 := hn f (by simp)
    simp only [List.forIn_cons, Sem.run_bind, hn1, ne_eq, not_false_eq_true, if_true, Result.andThen_ok, p1, p2, Sem.run_pure]
    exact ih (fun y hy => each y (by simp [hy])) (fun y hy => hn y (by simp [hy]))
 ·obtain ⟨xs, rfl, hx⟩ := hu.agg_inv
  obtain ⟨ys, rfl, hy⟩ := hv.agg_inv
  rw [run_equal_structM hf hq hx hy (hk x y) w, he]
 ·obtain ⟨xs, rfl, hx⟩ := hu.agg_inv
  obtain ⟨ys, rfl, hy⟩ := hv.agg_inv
  obtain ⟨e1, e2⟩ := scal_same (hs x) hx hy
  have e3 : xs = ys := by have := congrArg List.toArray e1; simpa using this
  subst e3
  show Instr.sameBits (9999 + 1) _ _ = true
  simp only [Instr.sameBits, beq_self_eq_true, Bool.true_and, List.all_eq_true]
  intro p hp
  have h9 : ∀ (l : List Value) (p : Value × Value), p ∈ l.zip l → p.1 ∈ l ∧ p.1 = p.2 := fun l => by
   induction l with
   | nil => intro p hp; simp at hp
   | cons a l ih =>
     intro p hp
     simp only [List.zip_cons_cons, List.mem_cons] at hp
     rcases hp with rfl | hp
     ·exact ⟨by simp, rfl⟩
     ·exact ⟨by simp [(ih p hp).1], (ih p hp).2⟩
  obtain ⟨q1, q2⟩ := h9 _ p hp
  obtain ⟨u, v⟩ := p
  simp only at q1 q2
  subst q2
  exact e2 u q1 9999
end
end Go.HL
end
section
namespace Go.Proofs.YtkamelfigfbfiaaGreatDoor
open Go.HL
set_option maxRecDepth 100000
set_option linter.unusedVariables false
set_option linter.unusedSimpArgs false
theorem eq131 [Tracks] : EqOk Tryz.prog 131 := ⟨by kernel_rfl, by kernel_rfl, by kernel_rfl⟩
theorem ok129 [Tracks] : KeyOk Tryz.prog 129 ePlc := keyOk_struct (cs := fun x : Plc => hcells (ePlc x)) ty129 eq129 (fun x y => ⟨rfl, ⟨_, _, _, _, ty9, rfl⟩, rfl, ⟨_, _, _, _, ty3, rfl⟩, trivial⟩)
 (fun x y => by obtain ⟨a, b⟩ := x; obtain ⟨c, d⟩ := y; show (_ && (_ && true)) = _; rw [Bool.eq_iff_iff]; simp [eqH, Prod.mk.injEq]) (fun x => rfl)
theorem ok131 [Tracks] : KeyOk Tryz.prog 131 eCnt := keyOk_structM (cs := fun x : Cnt => hcells (eCnt x)) ty131 eq131
 (fun x y => ⟨rfl, .inl ⟨_, _, _, _, ty129, eq129, Nat.le_of_ble_eq_true rfl, Nat.le_of_ble_eq_true rfl, ⟨rfl, ⟨_, _, _, _, ty9, rfl⟩, rfl, ⟨_, _, _, _, ty3, rfl⟩, trivial⟩, rfl, .inr ⟨_, _, _, _, _, _, _, _, rfl, rfl, ty9, rfl, rfl, rfl⟩⟩⟩)
 (fun x y => by obtain ⟨a, b, e⟩ := x; obtain ⟨c, d, f⟩ := y; show (_ && (_ && (_ && true))) = _; rw [Bool.eq_iff_iff]; simp [eqH, Prod.mk.injEq]) (fun x => rfl)

/-- slices.SortFunc -/
theorem c_sort_Line [Tracks] {c : LineS → LineS → Int} (hO : Go.Sort.SWO (Go.Proofs.ltOf c)) {g : FuncId} (hg : Callable Tryz.prog g) {cap : List HVal} (hc : ∀ x y, @ConP trackOn Tryz.prog g (eLine x :: eLine y :: cap) (.int .i64 (c x y))) {l : List LineS} (hl : l.length ≤ 1000000) {v : Value} :
 Con Tryz.prog 97 [.raw v, .fn (.func g) [] cap] [.arr v 3 (l.map eLine)] fun x M' => ∃ l' : List LineS, x = .tup [] ∧ l'.Perm l ∧ l'.Pairwise (fun a b => ¬ c b a < 0) ∧ M' = [.arr v 3 (l'.map eLine)] :=
 con_sortf (e := eLine) Tryz.g97 (Tryz.isAgg63) (Tryz.sizeOf63) (fun _ => rfl) (fun _ => rfl) (fun _ => rfl) hO hg hc hl

/-- slices.SortFunc -/
theorem c_sort_Turned [Tracks] {c : TurnedS → TurnedS → Int} (hO : Go.Sort.SWO (Go.Proofs.ltOf c)) {g : FuncId} (hg : Callable Tryz.prog g) {cap : List HVal} (hc : ∀ x y, @ConP trackOn Tryz.prog g (eTurned x :: eTurned y :: cap) (.int .i64 (c x y))) {l : List TurnedS} (hl : l.length ≤ 1000000) {v : Value} :
 Con Tryz.prog 100 [.raw v, .fn (.func g) [] cap] [.arr v 5 (l.map eTurned)] fun x M' => ∃ l' : List TurnedS, x = .tup [] ∧ l'.Perm l ∧ l'.Pairwise (fun a b => ¬ c b a < 0) ∧ M' = [.arr v 5 (l'.map eTurned)] :=
 con_sortf (e := eTurned) Tryz.g100 (Tryz.isAgg53) (Tryz.sizeOf53) (fun _ => rfl) (fun _ => rfl) (fun _ => rfl) hO hg hc hl

/-- slices.IndexFunc[[]benchwarmer/api.Stat,benchwarmer/api.Stat] -/
theorem c_slices_IndexFunc_api_Stat_api_Stat [Tracks] {l : List StatS} {fid : FuncId} {caps : List HVal} {p : StatS → Bool} (hca : Callable Tryz.prog fid) (hp : ∀ x, ConP Tryz.prog fid ([eStat x] ++ caps) (.bool (p x))) (hl : l.length ≤ 1000000) : ConP Tryz.prog 174 [.slice 2 (l.map eStat), .fn (.func fid) [] caps] (.int .i64 (idxF p l 0)) := by
 refine Con.of_body Tryz.func174 rfl Tryz.ntmps174 rfl rfl ?_
 refine hw_reg ?_
 refine dp rfl (pop_assign rfl) ?_
 refine dn ?_
 refine hw_seq ?_
 refine hw_reg ?_
 refine dp rfl (pop_move rfl) ?_
 refine dp rfl (pop_lenm ty61 rfl) ?_
 refine dp rfl (pop_move rfl) ?_
 refine dn ?_
 refine hw_block ?_
 refine hw_loopw [4, 5, 8, 9, 10, 11, 12, 13, 14, 15, 16, 17, 18] (fun (k : Nat) => [(8, .int .i64 k)]) (fun (k : Nat) => []) (fun (k : Nat) => k ≤ l.length ∧ (idxF p l 0 = idxF p (l.drop k) k)) (fun (k : Nat) => l.length - k) (0) ?_ ?_ ?_ ?_
 ·exact ⟨Nat.zero_le _, rfl⟩
 ·exact ⟨rfl, trivial⟩
 ·exact List.Perm.refl _
 ·intro k hinv
  obtain ⟨hk, hg⟩ := hinv
  refine hw_reg ?_
  refine dp rfl (pop_lss rfl rfl) ?_
  refine dn ?_
  refine hw_seq ?_
  refine hw_cond rfl (fun h1 => ?_) (fun h2 => ?_)
  ·try simp at h1
   obtain ⟨x, hx⟩ : ∃ x, l[k]? = some x := ⟨_, List.getElem?_eq_getElem h1⟩
   have hdx := drop_cons hx
   rw [hdx] at hg
   refine hw_skip ?_
   refine seqQ_n ?_
   refine hw_seq ?_
   refine hw_block ?_
   refine hw_reg ?_
   refine dp rfl (pop_move rfl) ?_
   refine dp rfl (pop_assign rfl) ?_
   refine dn ?_
   refine hw_reg ?_
   refine dp rfl (pop_move rfl) ?_
   refine dp rfl (pop_move rfl) ?_
   refine dp rfl (pop_move rfl) ?_
   refine dp rfl (pop_idx ty61 ty121 rfl rfl rfl (by first | assumption | simp_all)) ?_
   refine dp rfl (pop_loadw ty121 rfl rfl rfl rfl) ?_
   refine dp rfl (pop_callv hca rfl rfl (WeakL.refl _) (hp _)) ?_
   refine dn ?_
   refine hw_cond rfl (fun h3 => ?_) (fun h4 => ?_)
   ·try simp at h3
    refine hw_reg ?_
    refine dp rfl (pop_move rfl) ?_
    refine dp rfl (pop_assign rfl) ?_
    refine dn ?_
    refine hw_ret ?_
    refine ret_p rfl ?_
    show HVal.int .i64 _ = _
    first | (rw [hg]; rfl) | (rw [hg]; simp_all [idxF])
   ·try simp at h4
    refine hw_skip ?_
    refine blockQ_n ?_
    refine seqQ_n ?_
    refine hw_reg1 ?_
    refine dp rfl (pop_add64 rfl rfl (by omega) (by omega)) ?_
    refine dp rfl (pop_move rfl) ?_
    refine dn ?_
    refine ⟨k + 1, ?_, ?_, ⟨rfl, trivial⟩, (by repeat (first | exact keeps_refl | refine keeps_upd rfl ?_ | refine keeps_loop rfl rfl ?_)), List.Perm.refl _⟩
    ·refine ⟨by omega, ?_⟩
     rw [hg, idxF, if_neg (by simp_all)]; rfl
    ·dsimp only; omega
  ·try simp at h2
   have hnk : l.length ≤ k := by omega
   obtain rfl : k = l.length := by omega
   rw [drop_all (Nat.le_refl _)] at hg
   refine hw_exit ?_
   refine seqQ_x ?_
   refine loopQ_x ?_
   refine blockQ_eq ?_
   refine seqQ_n ?_
   refine hw_reg ?_
   refine dp rfl (pop_assign rfl) ?_
   refine dn ?_
   refine hw_ret ?_
   refine ret_p rfl ?_
   show HVal.int .i64 _ = _
   first | (rw [hg]; rfl) | (rw [hg]; simp_all [idxF])

/-- slices.Clone[[]benchwarmer/api.Stat,benchwarmer/api.Stat] -/
theorem c_slices_Clone_api_Stat_api_Stat [Tracks] {l : List StatS} (hl : l.length ≤ 1000000) : ConA Tryz.prog 129 [.slice 2 (l.map eStat)] 2 (l.map eStat) := by
 refine Con.of_body Tryz.func129 rfl Tryz.ntmps129 rfl rfl ?_
 refine hw_reg ?_
 refine dp rfl (pop_assign rfl) ?_
 refine dn ?_
 refine hw_seq ?_
 refine hw_reg ?_
 refine dp rfl (pop_move rfl) ?_
 refine de rfl (eop_eqnil ty61 rfl rfl fun b4 hb4 => ?_)
 refine dn ?_
 refine hw_cond rfl (fun h1 => ?_) (fun h2 => ?_)
 ·try simp at h1
  refine hw_reg ?_
  refine dp rfl (pop_assign rfl) ?_
  refine dn ?_
  refine hw_ret ?_
  first | exact ret_a rfl rfl | exact ret_g (Ghost.arr_nil 2) rfl ⟨_, rfl, by simp_all⟩
 ·try simp at h2
  refine hw_skip ?_
  refine seqQ_n ?_
  refine hw_reg ?_
  refine de rfl (eop_mk0 ty61 ty121 fun v5 => ?_)
  refine dp rfl (pop_move rfl) ?_
  refine de rfl (eop_append (i := 0) ty61 ty121 rfl rfl rfl rfl rfl (by simp [flat, hcells]) (by first | omega | (simp; omega)) fun v7 => ?_)
  refine dp rfl (pop_assign rfl) ?_
  refine dn ?_
  refine hw_ret ?_
  first | exact ret_a rfl rfl | exact ret_g (Ghost.arr_nil 2) rfl ⟨_, rfl, by simp_all⟩

/-- slices.DeleteFunc[[]benchwarmer/api.Stat,benchwarmer/api.Stat] -/
theorem c_slices_DeleteFunc_api_Stat_api_Stat [Tracks] {l : List StatS} {fid : FuncId} {caps : List HVal} {p : StatS → Bool} {v : Value} (hca : Callable Tryz.prog fid) (hp : ∀ x, ConP Tryz.prog fid ([eStat x] ++ caps) (.bool (p x))) (hl : l.length ≤ 1000000) : Con Tryz.prog 130 [.raw v, .fn (.func fid) [] caps] [.arr v 2 (l.map eStat)] (fun x M' => ∃ u, x = .raw u ∧ M' = [.arr u 2 ((l.filter (fun x => !p x)).map eStat)]) := by
 refine Con.of_body Tryz.func130 rfl Tryz.ntmps130 rfl rfl ?_
 refine hw_reg ?_
 refine dp rfl (pop_assign rfl) ?_
 refine dn ?_
 refine hw_reg ?_
 refine dp rfl (pop_move rfl) ?_
 refine dp rfl (pop_move rfl) ?_
 refine de rfl (eop_callb (hs' := [.slice 2 (l.map eStat), .fn (.func fid) [] caps]) ca174 rfl ⟨.arr (i := 0) rfl, .weak (Weak.refl _), trivial⟩ (c_slices_IndexFunc_api_Stat_api_Stat (p := p) hca hp hl) rfl ?_)
 refine dp rfl (pop_assign rfl) ?_
 refine dn ?_
 refine hw_seq ?_
 refine hw_reg ?_
 refine dp rfl (pop_move rfl) ?_
 refine dp rfl (pop_eql rfl rfl) ?_
 refine dn ?_
 refine hw_cond rfl (fun h1 => ?_) (fun h2 => ?_)
 ·try simp at h1
  refine hw_reg ?_
  refine dp rfl (pop_move rfl) ?_
  refine dp rfl (pop_assign rfl) ?_
  refine dn ?_
  refine hw_ret ?_
  first
  | (refine ret_q rfl ⟨_, rfl, ?_⟩
     rw [idxF_none p l 0 (by omega) h1]
     done)
  | (refine ret_q rfl ⟨_, rfl, ?_⟩
     rw [List.take_length, ← List.map_take, hend]; rfl)
 ·try simp at h2
  refine hw_skip ?_
  refine seqQ_n ?_
  refine hw_seq ?_
  obtain ⟨i0, hi0, hil, ⟨x0, hx0, hp0⟩, hb0⟩ := idxF_found p l 0 (by omega) h2
  rw [Int.zero_add] at hi0
  obtain ⟨hD0, hn0⟩ := DelInv.start (p := p) hil hx0 hp0 hb0
  refine hw_arrc (i := 0) rfl (fun h0 he => ?_) (fun b off cap hv hcap => ?_)
  ·exfalso; have := congrArg List.length he; simp at this; subst this; simp at hil
  rw [List.length_map] at hv hcap
  subst hv
  refine hw_reg ?_
  refine dp rfl (pop_move rfl) ?_
  refine dp rfl (pop_eq (pop_add64 rfl rfl (by rw [hi0]; omega) (by rw [hi0]; omega)) (congrArg _ (by rw [hi0]))) ?_
  refine dp rfl (pop_assign rfl) ?_
  refine dn ?_
  refine hw_block ?_
  refine hw_loopw2 [5, 6, 7, 16, 17, 18, 19, 20, 21, 22, 23, 24, 25, 26, 27, 28, 29, 30, 31, 32, 33, 34, 35] (fun (j : Nat) (D : List StatS) => [(6, .int .i64 (j : Int)), (5, .int .i64 (((l.take j).filter (fun x => !p x)).length : Int))]) (fun (j : Nat) (D : List StatS) => [.arr (.slice (some ⟨b, off, none⟩) l.length cap) 2 (D.map eStat)]) (fun (j : Nat) (D : List StatS) => DelInv p l j D) (fun (j : Nat) (D : List StatS) => l.length - j) (i0 + 1) (l) ?_ ?_ ?_ ?_
  ·exact hD0
  ·exact ⟨rfl, some_int (by rw [hn0, hi0]), trivial⟩
  ·exact List.Perm.refl _
  ·intro j D hD
   have hlt0 := hD.lt
   have hle0 := hD.len
   refine hw_seq ?_
   refine hw_reg ?_
   refine dp rfl (pop_move rfl) ?_
   refine dp rfl (pop_move rfl) ?_
   first
   | refine de rfl (eop_lenm (i := 0) ty61 rfl rfl ?_)
   | refine de rfl (eop_lenm (i := 1) ty61 rfl rfl ?_)
   | refine de rfl (eop_lenm (i := 2) ty61 rfl rfl ?_)
   | refine de rfl (eop_lenm (i := 3) ty61 rfl rfl ?_)
   refine dp rfl (pop_lss rfl rfl) ?_
   refine dn ?_
   refine hw_cond rfl (fun h3 => ?_) (fun h4 => ?_)
   ·try simp at h3
    obtain ⟨x, hx⟩ : ∃ x, l[j]? = some x := ⟨_, List.getElem?_eq_getElem (by omega)⟩
    refine hw_skip ?_
    refine seqQ_n ?_
    refine hw_seq ?_
    refine hw_block ?_
    refine hw_reg ?_
    refine dp rfl (pop_move rfl) ?_
    refine dp rfl (pop_move rfl) ?_
    refine dp rfl (pop_idxraw (j := j) ty61 ty121 rfl rfl rfl (by omega)) ?_
    refine de rfl (eop_load_elw (i := 0) (j := j) ty121 rfl rfl rfl (hD.get hx) rfl rfl rfl ?_)
    refine de rfl (eop_alloc ty121 rfl fun b7 => ?_)
    refine de0 (eop_storew ty121 rfl rfl rfl rfl rfl ?_)
    refine dn ?_
    refine hw_ghost (Ghost.fc0 7 rfl) ?_
    refine hw_reg ?_
    refine dp rfl (pop_move rfl) ?_
    refine dp rfl (pop_loadw ty121 rfl rfl rfl rfl) ?_
    refine dp rfl (pop_callv hca rfl rfl (WeakL.refl _) (hp _)) ?_
    refine dp rfl (pop_not rfl) ?_
    refine dn ?_
    refine hw_cond rfl (fun h5 => ?_) (fun h6 => ?_)
    ·try simp at h5
     refine hw_reg ?_
     refine dp rfl (pop_move rfl) ?_
     refine dp rfl (pop_move rfl) ?_
     refine dp rfl (pop_loadw ty121 rfl rfl rfl rfl) ?_
     refine dp rfl (pop_idxraw (j := ((l.take j).filter (fun x => !p x)).length) ty61 ty121 rfl rfl rfl (by have := hD.lt; omega)) ?_
     refine de0 (eop_store_elw (i := 0) (j := ((l.take j).filter (fun x => !p x)).length) (y := D[((l.take j).filter (fun x => !p x)).length]'(by have := hD.lt; have := hD.len; omega)) (y' := x) ty121 rfl rfl rfl rfl (List.getElem?_eq_getElem _) rfl rfl rfl ?_)
     refine dn ?_
     refine hw_reg1 ?_
     refine dp rfl (pop_move rfl) ?_
     refine dp rfl (pop_add64 rfl rfl (by omega) (by have := hD.lt; omega)) ?_
     refine dp rfl (pop_assign rfl) ?_
     refine dn ?_
     refine blockQ_n ?_
     refine seqQ_n ?_
     refine hw_reg1 ?_
     refine dp rfl (pop_move rfl) ?_
     refine dp rfl (pop_add64 rfl rfl (by omega) (by omega)) ?_
     refine dp rfl (pop_assign rfl) ?_
     refine dn ?_
     first
     | exact ⟨j + 1, _, (hD.keep hx (by simp_all)).1, by dsimp only; omega, ⟨rfl, some_int (by rw [(hD.keep hx (by simp_all)).2]; rfl), trivial⟩, (by repeat (first | exact keeps_refl | refine keeps_upd rfl ?_ | refine keeps_loop rfl rfl ?_)), List.Perm.refl _⟩
     | exact ⟨j + 1, _, (hD.skip hx (by simp_all)).1, by dsimp only; omega, ⟨rfl, some_int (by rw [(hD.skip hx (by simp_all)).2]), trivial⟩, (by repeat (first | exact keeps_refl | refine keeps_upd rfl ?_ | refine keeps_loop rfl rfl ?_)), List.Perm.refl _⟩
    ·try simp at h6
     refine hw_skip ?_
     refine blockQ_n ?_
     refine seqQ_n ?_
     refine hw_reg1 ?_
     refine dp rfl (pop_move rfl) ?_
     refine dp rfl (pop_add64 rfl rfl (by omega) (by omega)) ?_
     refine dp rfl (pop_assign rfl) ?_
     refine dn ?_
     first
     | exact ⟨j + 1, _, (hD.keep hx (by simp_all)).1, by dsimp only; omega, ⟨rfl, some_int (by rw [(hD.keep hx (by simp_all)).2]; rfl), trivial⟩, (by repeat (first | exact keeps_refl | refine keeps_upd rfl ?_ | refine keeps_loop rfl rfl ?_)), List.Perm.refl _⟩
     | exact ⟨j + 1, _, (hD.skip hx (by simp_all)).1, by dsimp only; omega, ⟨rfl, some_int (by rw [(hD.skip hx (by simp_all)).2]), trivial⟩, (by repeat (first | exact keeps_refl | refine keeps_upd rfl ?_ | refine keeps_loop rfl rfl ?_)), List.Perm.refl _⟩
   ·try simp at h4
    obtain rfl : j = l.length := by have := hD.jle; omega
    have hend := hD.done
    refine hw_exit ?_
    refine seqQ_x ?_
    refine loopQ2_x ?_
    refine blockQ_eq ?_
    refine seqQ_n ?_
    refine hw_reg ?_
    refine dp rfl (pop_move rfl) ?_
    refine dp rfl (pop_move rfl) ?_
    refine dp rfl (pop_slraw (l := ((l.take l.length).filter (fun x => !p x)).length) ty61 ty121 rfl ⟨_, _, rfl, rfl⟩ rfl (by omega) (by omega) hcap) ?_
    refine de0 (eop_clear_at (i := 0) (m := ((l.take l.length).filter (fun x => !p x)).length) (((l.take l.length).filter (fun x => !p x)).length) ty61 ty121 rfl rfl rfl (slOff_or (by omega) hcap) rfl (by omega) (Nat.le_refl _) (by rw [List.length_map, hD.len]; omega) ?_)
    refine dn ?_
    refine hw_reg ?_
    refine dp rfl (pop_move rfl) ?_
    refine dp rfl (pop_move rfl) ?_
    refine dp rfl (pop_slraw0 (h := ((l.take l.length).filter (fun x => !p x)).length) ty61 ty121 rfl ⟨_, _, rfl, rfl⟩ (by omega)) ?_
    refine dp rfl (pop_assign rfl) ?_
    refine dn ?_
    refine hw_ret ?_
    first
    | (refine ret_q rfl ⟨_, rfl, ?_⟩
       rw [idxF_none p l 0 (by omega) h1]
       done)
    | (refine ret_q rfl ⟨_, rfl, ?_⟩
       rw [List.take_length, ← List.map_take, hend]; rfl)

/-- benchwarmer/play.byVersion -/
theorem c_play_byVersion [Tracks] {a b : MendS}  : ConP Tryz.prog 85 [eMend a, eMend b] (.int .i64 (byVer a b)) := by
 refine Con.of_body Tryz.func85 rfl Tryz.ntmps85 rfl rfl ?_
 refine hw_reg ?_
 refine dp rfl (pop_box rfl rfl) ?_
 refine dp rfl (pop_box rfl rfl) ?_
 refine dp rfl (pop_assign rfl) ?_
 refine dn ?_
 refine hw_draw (fun _ => True) [] mixed ?_
 refine ahp 0 rfl rfl (by kernel_rfl) (by kernel_rfl) (pop_fieldAddr ty69 rfl ty9 (by decide) rfl) ?_
 refine ahp 1 rfl rfl (by kernel_rfl) (by kernel_rfl) (pop_load ty9 rfl rfl rfl) ?_
 refine ahp 2 rfl rfl (by kernel_rfl) (by kernel_rfl) (pop_fieldAddr ty69 rfl ty9 (by decide) rfl) ?_
 refine ahp 3 rfl rfl (by kernel_rfl) (by kernel_rfl) (pop_load ty9 rfl rfl rfl) ?_
 refine ahp 4 rfl rfl (by kernel_rfl) (by kernel_rfl) (pop_call ca103 rfl (WeakL.refl _) c_strings_Compare) ?_
 refine ahp 5 rfl rfl (by kernel_rfl) (by kernel_rfl) (pop_fieldAddr ty69 rfl ty3 (by decide) rfl) ?_
 refine ahp 6 rfl rfl (by kernel_rfl) (by kernel_rfl) (pop_load ty3 rfl rfl rfl) ?_
 refine ahp 7 rfl rfl (by kernel_rfl) (by kernel_rfl) (pop_fieldAddr ty69 rfl ty3 (by decide) rfl) ?_
 refine ahp 8 rfl rfl (by kernel_rfl) (by kernel_rfl) (pop_load ty3 rfl rfl rfl) ?_
 refine ahp 9 rfl rfl (by kernel_rfl) (by kernel_rfl) (pop_call ca104 rfl (WeakL.refl _) c_cmp_Compare_int) ?_
 refine ahp 10 rfl rfl (by kernel_rfl) (by kernel_rfl) (pop_fieldAddr ty69 rfl ty9 (by decide) rfl) ?_
 refine ahp 11 rfl rfl (by kernel_rfl) (by kernel_rfl) (pop_load ty9 rfl rfl rfl) ?_
 refine ahp 12 rfl rfl (by kernel_rfl) (by kernel_rfl) (pop_fieldAddr ty69 rfl ty9 (by decide) rfl) ?_
 refine ahp 13 rfl rfl (by kernel_rfl) (by kernel_rfl) (pop_load ty9 rfl rfl rfl) ?_
 refine ahp 14 rfl rfl (by kernel_rfl) (by kernel_rfl) (pop_call ca103 rfl (WeakL.refl _) c_strings_Compare) ?_
 refine ahp 15 rfl rfl (by kernel_rfl) (by kernel_rfl) (pop_fieldAddr ty69 rfl ty3 (by decide) rfl) ?_
 refine ahp 16 rfl rfl (by kernel_rfl) (by kernel_rfl) (pop_load ty3 rfl rfl rfl) ?_
 refine ahp 17 rfl rfl (by kernel_rfl) (by kernel_rfl) (pop_fieldAddr ty69 rfl ty3 (by decide) rfl) ?_
 refine ahp 18 rfl rfl (by kernel_rfl) (by kernel_rfl) (pop_load ty3 rfl rfl rfl) ?_
 refine ahp 19 rfl rfl (by kernel_rfl) (by kernel_rfl) (pop_call ca104 rfl (WeakL.refl _) c_cmp_Compare_int) ?_
 refine ahp 20 rfl rfl (by kernel_rfl) (by kernel_rfl) (pop_buildSlice (hs := [_, _, _, _]) ty22 ty3 rfl rfl (by decide) (by decide) rfl) ?_
 refine ahp 21 rfl rfl (by kernel_rfl) (by kernel_rfl) (pop_call ca102 rfl (WeakL.refl _) (c_cmp_Or_int (l := [_, _, _, _]) (by simp))) ?_
 refine ahp 22 rfl rfl (by kernel_rfl) (by kernel_rfl) (pop_assign rfl) ?_
 refine ahz (by kernel_rfl) ?_
 refine hw_ret ?_
 refine ret_p rfl ?_
 rfl

/-- benchwarmer/play.byWeek -/
theorem c_play_byWeek [Tracks] {a b : LineS}  : ConP Tryz.prog 82 [eLine a, eLine b] (.int .i64 (byWk a b)) := by
 refine Con.of_body Tryz.func82 rfl Tryz.ntmps82 rfl rfl ?_
 refine hw_reg ?_
 refine dp rfl (pop_box rfl rfl) ?_
 refine dp rfl (pop_box rfl rfl) ?_
 refine dp rfl (pop_assign rfl) ?_
 refine dn ?_
 refine hw_draw (fun _ => True) [] mixed ?_
 refine ahp 0 rfl rfl (by kernel_rfl) (by kernel_rfl) (pop_fieldAddr ty63 rfl ty9 (by decide) rfl) ?_
 refine ahp 1 rfl rfl (by kernel_rfl) (by kernel_rfl) (pop_load ty9 rfl rfl rfl) ?_
 refine ahp 2 rfl rfl (by kernel_rfl) (by kernel_rfl) (pop_fieldAddr ty63 rfl ty9 (by decide) rfl) ?_
 refine ahp 3 rfl rfl (by kernel_rfl) (by kernel_rfl) (pop_load ty9 rfl rfl rfl) ?_
 refine ahp 4 rfl rfl (by kernel_rfl) (by kernel_rfl) (pop_call ca103 rfl (WeakL.refl _) c_strings_Compare) ?_
 refine ahp 5 rfl rfl (by kernel_rfl) (by kernel_rfl) (pop_fieldAddr ty63 rfl ty3 (by decide) rfl) ?_
 refine ahp 6 rfl rfl (by kernel_rfl) (by kernel_rfl) (pop_load ty3 rfl rfl rfl) ?_
 refine ahp 7 rfl rfl (by kernel_rfl) (by kernel_rfl) (pop_fieldAddr ty63 rfl ty3 (by decide) rfl) ?_
 refine ahp 8 rfl rfl (by kernel_rfl) (by kernel_rfl) (pop_load ty3 rfl rfl rfl) ?_
 refine ahp 9 rfl rfl (by kernel_rfl) (by kernel_rfl) (pop_call ca104 rfl (WeakL.refl _) c_cmp_Compare_int) ?_
 refine ahp 10 rfl rfl (by kernel_rfl) (by kernel_rfl) (pop_buildSlice (hs := [_, _]) ty22 ty3 rfl rfl (by decide) (by decide) rfl) ?_
 refine ahp 11 rfl rfl (by kernel_rfl) (by kernel_rfl) (pop_call ca102 rfl (WeakL.refl _) (c_cmp_Or_int (l := [_, _]) (by simp))) ?_
 refine ahp 12 rfl rfl (by kernel_rfl) (by kernel_rfl) (pop_assign rfl) ?_
 refine ahz (by kernel_rfl) ?_
 refine hw_ret ?_
 refine ret_p rfl ?_
 rfl

/-- benchwarmer/play.differ$1 -/
theorem c_play_differ_1 [Tracks] {a b : TurnedS}  : ConP Tryz.prog 136 [eTurned a, eTurned b] (.int .i64 (byTu a b)) := by
 refine Con.of_body Tryz.func136 rfl Tryz.ntmps136 rfl rfl ?_
 refine hw_reg ?_
 refine dp rfl (pop_box rfl rfl) ?_
 refine dp rfl (pop_box rfl rfl) ?_
 refine dp rfl (pop_assign rfl) ?_
 refine dn ?_
 refine hw_draw (fun _ => True) [] mixed ?_
 refine ahp 0 rfl rfl (by kernel_rfl) (by kernel_rfl) (pop_fieldAddr ty53 rfl ty9 (by decide) rfl) ?_
 refine ahp 1 rfl rfl (by kernel_rfl) (by kernel_rfl) (pop_load ty9 rfl rfl rfl) ?_
 refine ahp 2 rfl rfl (by kernel_rfl) (by kernel_rfl) (pop_fieldAddr ty53 rfl ty9 (by decide) rfl) ?_
 refine ahp 3 rfl rfl (by kernel_rfl) (by kernel_rfl) (pop_load ty9 rfl rfl rfl) ?_
 refine ahp 4 rfl rfl (by kernel_rfl) (by kernel_rfl) (pop_call ca103 rfl (WeakL.refl _) c_strings_Compare) ?_
 refine ahp 5 rfl rfl (by kernel_rfl) (by kernel_rfl) (pop_fieldAddr ty53 rfl ty3 (by decide) rfl) ?_
 refine ahp 6 rfl rfl (by kernel_rfl) (by kernel_rfl) (pop_load ty3 rfl rfl rfl) ?_
 refine ahp 7 rfl rfl (by kernel_rfl) (by kernel_rfl) (pop_fieldAddr ty53 rfl ty3 (by decide) rfl) ?_
 refine ahp 8 rfl rfl (by kernel_rfl) (by kernel_rfl) (pop_load ty3 rfl rfl rfl) ?_
 refine ahp 9 rfl rfl (by kernel_rfl) (by kernel_rfl) (pop_call ca104 rfl (WeakL.refl _) c_cmp_Compare_int) ?_
 refine ahp 10 rfl rfl (by kernel_rfl) (by kernel_rfl) (pop_fieldAddr ty53 rfl ty9 (by decide) rfl) ?_
 refine ahp 11 rfl rfl (by kernel_rfl) (by kernel_rfl) (pop_load ty9 rfl rfl rfl) ?_
 refine ahp 12 rfl rfl (by kernel_rfl) (by kernel_rfl) (pop_fieldAddr ty53 rfl ty9 (by decide) rfl) ?_
 refine ahp 13 rfl rfl (by kernel_rfl) (by kernel_rfl) (pop_load ty9 rfl rfl rfl) ?_
 refine ahp 14 rfl rfl (by kernel_rfl) (by kernel_rfl) (pop_call ca103 rfl (WeakL.refl _) c_strings_Compare) ?_
 refine ahp 15 rfl rfl (by kernel_rfl) (by kernel_rfl) (pop_buildSlice (hs := [_, _, _]) ty22 ty3 rfl rfl (by decide) (by decide) rfl) ?_
 refine ahp 16 rfl rfl (by kernel_rfl) (by kernel_rfl) (pop_call ca102 rfl (WeakL.refl _) (c_cmp_Or_int (l := [_, _, _]) (by simp))) ?_
 refine ahp 17 rfl rfl (by kernel_rfl) (by kernel_rfl) (pop_assign rfl) ?_
 refine ahz (by kernel_rfl) ?_
 refine hw_ret ?_
 refine ret_p rfl ?_
 rfl

/-- benchwarmer/play.CheckMends -/
theorem c_play_CheckMends [Tracks] {m : List MendS} (hl : m.length ≤ 1000000) : ConP Tryz.prog 33 [eMends m] (.int .i64 (mendsE m)) := by
 refine Con.of_body Tryz.func33 rfl Tryz.ntmps33 rfl rfl ?_
 refine hw_reg ?_
 refine dp rfl (pop_assign rfl) ?_
 refine dn ?_
 refine hw_seq ?_
 refine hw_reg ?_
 refine dp rfl (pop_move rfl) ?_
 refine dp rfl (pop_lenm ty46 rfl) ?_
 refine dp rfl (pop_gtr rfl rfl) ?_
 refine dn ?_
 refine hw_cond rfl (fun h1 => ?_) (fun h2 => ?_)
 ·try simp at h1
  refine hw_reg ?_
  refine dp rfl (pop_assign rfl) ?_
  refine dn ?_
  refine hw_ret ?_
  refine ret_p rfl ?_
  show HVal.int .i64 _ = _
  first
  | (rw [mendsE, if_pos (by omega)]; done)
  | (rw [mendsE, if_neg (by omega), hg]; rfl)
  | (refine congrArg _ (mends_bad (c := 5) (by omega) hg (by decide) ?_)
     rw [mendFault, if_pos]
     simp_all
     done)
  | (refine congrArg _ (mends_bad (c := 1) (by omega) hg (by decide) ?_)
     rw [mendFault, if_neg, if_pos]
     all_goals simp_all
     done)
  | (refine congrArg _ (mends_ord (by omega) hg ?_ ?_ ?_)
     ·rw [mendFault, if_neg, if_neg] <;> simp_all
     ·simp_all
     ·simp_all)
 ·try simp at h2
  refine hw_skip ?_
  refine seqQ_n ?_
  refine hw_seq ?_
  refine hw_reg ?_
  refine dp rfl (pop_move rfl) ?_
  refine dp rfl (pop_lenm ty46 rfl) ?_
  refine dp rfl (pop_move rfl) ?_
  refine dn ?_
  refine hw_block ?_
  refine hw_loopw (2 :: 3 :: 4 :: 10 :: 11 :: 12 :: 13 :: 14 :: 15 :: 16 :: 17 :: 18 :: 19 :: 20 :: 21 :: 22 :: 23 :: 24 :: 25 :: 26 :: 27 :: 28 :: 29 :: 30 :: 31 :: 32 :: 33 :: 34 :: 35 :: 36 :: 37 :: 38 :: 39 :: 40 :: 41 :: 42 :: 43 :: 44 :: 45 :: 46 :: 47 :: 48 :: 49 :: 50 :: 51 :: 52 :: 53 :: 54 :: 55 :: 56 :: 57 :: 58 :: 59 :: 60 :: 61 :: 62 :: 63 :: 64 :: 65 :: 66 :: []) (fun (k : Nat) => [(10, .int .i64 k)]) (fun (k : Nat) => []) (fun (k : Nat) => k ≤ m.length ∧ (chkGo mendFault byVer mend0 m 0 m = chkGo mendFault byVer mend0 m k (m.drop k))) (fun (k : Nat) => m.length - k) (0) ?_ ?_ ?_ ?_
  ·exact ⟨Nat.zero_le _, rfl⟩
  ·exact ⟨rfl, trivial⟩
  ·exact List.Perm.refl _
  ·intro k hinv
   obtain ⟨hk, hg⟩ := hinv
   refine hw_reg ?_
   refine dp rfl (pop_lss rfl rfl) ?_
   refine dn ?_
   refine hw_seq ?_
   refine hw_cond rfl (fun h3 => ?_) (fun h4 => ?_)
   ·try simp at h3
    obtain ⟨x, hx⟩ : ∃ x, m[k]? = some x := ⟨_, List.getElem?_eq_getElem h3⟩
    have hdx := drop_cons hx
    rw [hdx] at hg
    refine hw_skip ?_
    refine seqQ_n ?_
    refine hw_seq ?_
    refine hw_block ?_
    refine hw_reg ?_
    refine dp rfl (pop_move rfl) ?_
    refine dp rfl (pop_idx ty46 ty69 rfl rfl rfl (by first | assumption | simp_all)) ?_
    refine dp rfl (pop_loadw ty69 rfl rfl rfl rfl) ?_
    refine de rfl (eop_alloc ty69 rfl fun b4 => ?_)
    refine dp rfl (pop_assign rfl) ?_
    refine de0 (eop_storew ty69 rfl rfl rfl rfl rfl ?_)
    refine dn ?_
    refine hw_ghost (Ghost.fc0 4 rfl) ?_
    refine hw_block ?_
    refine hw_reg ?_
    refine dp rfl (pop_fieldAddr ty69 rfl ty9 (by decide) rfl) ?_
    refine dp rfl (pop_load ty9 rfl rfl rfl) ?_
    refine dp rfl (pop_call ca80 rfl (WeakL.refl _) c_base_Key) ?_
    refine dp rfl (pop_not rfl) ?_
    refine dp rfl (pop_move rfl) ?_
    refine dg rfl rfl (fun hc => ⟨_, OpenTo.refl _, pop_fieldAddr ty69 rfl ty9 (by decide) rfl⟩) ?_
    refine dg rfl rfl (fun hc => ⟨_, OpenTo.upd (t := 21) rfl (by first | exact hc | simp_all) (OpenTo.refl _), pop_load ty9 rfl rfl rfl⟩) ?_
    refine dg rfl rfl (fun hc => ⟨_, OpenTo.upd (t := 22) rfl (by first | exact hc | simp_all) (OpenTo.refl _), pop_call ca80 rfl (WeakL.refl _) c_base_Key⟩) ?_
    refine dg rfl rfl (fun hc => ⟨_, OpenTo.upd (t := 23) rfl (by first | exact hc | simp_all) (OpenTo.refl _), pop_not rfl⟩) ?_
    refine dp rfl (pop_picko rfl (.inl rfl) (.inr ⟨_, rfl, fun h => by simp_all⟩)) ?_
    refine dp rfl (pop_move rfl) ?_
    refine dg rfl rfl (fun hc => ⟨_, OpenTo.refl _, pop_fieldAddr ty69 rfl ty9 (by decide) rfl⟩) ?_
    refine dg rfl rfl (fun hc => ⟨_, OpenTo.upd (t := 27) rfl (by first | exact hc | simp_all) (OpenTo.refl _), pop_load ty9 rfl rfl rfl⟩) ?_
    refine dg rfl rfl (fun hc => ⟨_, OpenTo.upd (t := 28) rfl (by first | exact hc | simp_all) (OpenTo.refl _), pop_call ca80 rfl (WeakL.refl _) c_base_Key⟩) ?_
    refine dg rfl rfl (fun hc => ⟨_, OpenTo.upd (t := 29) rfl (by first | exact hc | simp_all) (OpenTo.refl _), pop_not rfl⟩) ?_
    refine dp rfl (pop_picko rfl (.inl rfl) (.inr ⟨_, rfl, fun h => by simp_all⟩)) ?_
    refine dp rfl (pop_assign rfl) ?_
    refine dn ?_
    refine hw_cond rfl (fun h5 => ?_) (fun h6 => ?_)
    ·try simp at h5
     refine hw_reg ?_
     refine dp rfl (pop_assign rfl) ?_
     refine dn ?_
     refine hw_ret ?_
     refine ret_p rfl ?_
     show HVal.int .i64 _ = _
     first
     | (rw [mendsE, if_pos (by omega)]; done)
     | (rw [mendsE, if_neg (by omega), hg]; rfl)
     | (refine congrArg _ (mends_bad (c := 5) (by omega) hg (by decide) ?_)
        rw [mendFault, if_pos]
        simp_all
        done)
     | (refine congrArg _ (mends_bad (c := 1) (by omega) hg (by decide) ?_)
        rw [mendFault, if_neg, if_pos]
        all_goals simp_all
        done)
     | (refine congrArg _ (mends_ord (by omega) hg ?_ ?_ ?_)
        ·rw [mendFault, if_neg, if_neg] <;> simp_all
        ·simp_all
        ·simp_all)
    ·try simp at h6
     refine hw_reg ?_
     refine dp rfl (pop_fieldAddr ty69 rfl ty3 (by decide) rfl) ?_
     refine dp rfl (pop_load ty3 rfl rfl rfl) ?_
     refine dp rfl (pop_call ca72 rfl (WeakL.refl _) c_base_Week) ?_
     refine dp rfl (pop_not rfl) ?_
     refine dp rfl (pop_move rfl) ?_
     refine dg rfl rfl (fun hc => ⟨_, OpenTo.refl _, pop_fieldAddr ty69 rfl ty3 (by decide) rfl⟩) ?_
     refine dg rfl rfl (fun hc => ⟨_, OpenTo.upd (t := 38) rfl (by first | exact hc | simp_all) (OpenTo.refl _), pop_load ty3 rfl rfl rfl⟩) ?_
     refine dg rfl rfl (fun hc => ⟨_, OpenTo.upd (t := 39) rfl (by first | exact hc | simp_all) (OpenTo.refl _), pop_call ca61 rfl (WeakL.refl _) c_base_Out⟩) ?_
     refine dp rfl (pop_picko rfl (.inl rfl) (.inr ⟨_, rfl, fun h => by simp_all⟩)) ?_
     refine dp rfl (pop_move rfl) ?_
     refine dg rfl rfl (fun hc => ⟨_, OpenTo.refl _, pop_fieldAddr ty69 rfl ty3 (by decide) rfl⟩) ?_
     refine dg rfl rfl (fun hc => ⟨_, OpenTo.upd (t := 43) rfl (by first | exact hc | simp_all) (OpenTo.refl _), pop_load ty3 rfl rfl rfl⟩) ?_
     refine dg rfl rfl (fun hc => ⟨_, OpenTo.upd (t := 44) rfl (by first | exact hc | simp_all) (OpenTo.refl _), pop_call ca73 rfl (WeakL.refl _) c_base_Moment⟩) ?_
     refine dg rfl rfl (fun hc => ⟨_, OpenTo.upd (t := 45) rfl (by first | exact hc | simp_all) (OpenTo.refl _), pop_not rfl⟩) ?_
     refine dp rfl (pop_picko rfl (.inl rfl) (.inr ⟨_, rfl, fun h => by simp_all⟩)) ?_
     refine dp rfl (pop_move rfl) ?_
     refine dg rfl rfl (fun hc => ⟨_, OpenTo.refl _, pop_fieldAddr ty69 rfl ty3 (by decide) rfl⟩) ?_
     refine dg rfl rfl (fun hc => ⟨_, OpenTo.upd (t := 49) rfl (by first | exact hc | simp_all) (OpenTo.refl _), pop_load ty3 rfl rfl rfl⟩) ?_
     refine dg rfl rfl (fun hc => ⟨_, OpenTo.upd (t := 50) rfl (by first | exact hc | simp_all) (OpenTo.refl _), pop_call ca61 rfl (WeakL.refl _) c_base_Out⟩) ?_
     refine dp rfl (pop_picko rfl (.inl rfl) (.inr ⟨_, rfl, fun h => by simp_all⟩)) ?_
     refine dp rfl (pop_assign rfl) ?_
     refine dn ?_
     refine hw_cond rfl (fun h7 => ?_) (fun h8 => ?_)
     ·try simp at h7
      refine hw_reg ?_
      refine dp rfl (pop_assign rfl) ?_
      refine dn ?_
      refine hw_ret ?_
      refine ret_p rfl ?_
      show HVal.int .i64 _ = _
      first
      | (rw [mendsE, if_pos (by omega)]; done)
      | (rw [mendsE, if_neg (by omega), hg]; rfl)
      | (refine congrArg _ (mends_bad (c := 5) (by omega) hg (by decide) ?_)
         rw [mendFault, if_pos]
         simp_all
         done)
      | (refine congrArg _ (mends_bad (c := 1) (by omega) hg (by decide) ?_)
         rw [mendFault, if_neg, if_pos]
         all_goals simp_all
         done)
      | (refine congrArg _ (mends_ord (by omega) hg ?_ ?_ ?_)
         ·rw [mendFault, if_neg, if_neg] <;> simp_all
         ·simp_all
         ·simp_all)
     ·try simp at h8
      refine hw_draw (fun _ => True) [] mixed ?_
      refine ahp 0 rfl rfl (by kernel_rfl) (by kernel_rfl) (pop_move rfl) ?_
      refine ahp 1 rfl rfl (by kernel_rfl) (by kernel_rfl) (pop_gtr rfl rfl) ?_
      refine ahp 2 rfl rfl (by kernel_rfl) (by kernel_rfl) (pop_move rfl) ?_
      refine ahg 3 rfl rfl (by kernel_rfl) (by kernel_rfl) rfl (fun hc => ⟨_, OpenTo.refl _, pop_loadw ty69 rfl rfl rfl rfl⟩) ?_
      refine ahg 4 rfl rfl (by kernel_rfl) (by kernel_rfl) rfl (fun hc => ⟨_, OpenTo.refl _, pop_move rfl⟩) ?_
      refine ahg 5 rfl rfl (by kernel_rfl) (by kernel_rfl) rfl (fun hc => ⟨_, OpenTo.refl _, pop_move rfl⟩) ?_
      refine ahg 6 rfl rfl (by kernel_rfl) (by kernel_rfl) rfl (fun hc => by have hq := hc; (try simp at hq); exact ⟨_, OpenTo.upd (t := 59) rfl (by first | exact hc | simp_all) (OpenTo.refl _), pop_sub64 rfl rfl (by omega) (by omega)⟩) ?_
      refine ahg 7 rfl rfl (by kernel_rfl) (by kernel_rfl) rfl (fun hc => by have hq := hc; (try simp at hq); exact ⟨_, OpenTo.upd (t := 60) rfl (by first | exact hc | simp_all) (OpenTo.upd (t := 58) rfl (by first | exact hc | simp_all) (OpenTo.refl _)), pop_idx (j := k - 1) (a := m.getD (k - 1) mend0) ty46 ty69 rfl rfl (by omega) (getD_some (by omega))⟩) ?_
      refine ahg 8 rfl rfl (by kernel_rfl) (by kernel_rfl) rfl (fun hc => ⟨_, OpenTo.upd (t := 61) rfl (by first | exact hc | simp_all) (OpenTo.refl _), pop_loadw ty69 rfl rfl rfl rfl⟩) ?_
      refine ahg 9 rfl rfl (by kernel_rfl) (by kernel_rfl) rfl (fun hc => ⟨_, OpenTo.upd (t := 62) rfl (by first | exact hc | simp_all) (OpenTo.upd (t := 57) rfl (by first | exact hc | simp_all) (OpenTo.refl _)), pop_call ca85 rfl (WeakL.refl _) c_play_byVersion⟩) ?_
      refine ahg 10 rfl rfl (by kernel_rfl) (by kernel_rfl) rfl (fun hc => ⟨_, OpenTo.upd (t := 63) rfl (by first | exact hc | simp_all) (OpenTo.refl _), pop_leq rfl rfl⟩) ?_
      refine ahp 11 rfl rfl (by kernel_rfl) (by kernel_rfl) (pop_picko rfl (.inr ⟨_, rfl, fun h => by simp_all⟩) (.inl rfl)) ?_
      refine ahp 12 rfl rfl (by kernel_rfl) (by kernel_rfl) (pop_assign rfl) ?_
      refine ahz (by kernel_rfl) ?_
      refine hw_cond rfl (fun h9 => ?_) (fun h10 => ?_)
      ·try simp at h9
       refine hw_reg ?_
       refine dp rfl (pop_assign rfl) ?_
       refine dn ?_
       refine hw_ret ?_
       refine ret_p rfl ?_
       show HVal.int .i64 _ = _
       first
       | (rw [mendsE, if_pos (by omega)]; done)
       | (rw [mendsE, if_neg (by omega), hg]; rfl)
       | (refine congrArg _ (mends_bad (c := 5) (by omega) hg (by decide) ?_)
          rw [mendFault, if_pos]
          simp_all
          done)
       | (refine congrArg _ (mends_bad (c := 1) (by omega) hg (by decide) ?_)
          rw [mendFault, if_neg, if_pos]
          all_goals simp_all
          done)
       | (refine congrArg _ (mends_ord (by omega) hg ?_ ?_ ?_)
          ·rw [mendFault, if_neg, if_neg] <;> simp_all
          ·simp_all
          ·simp_all)
      ·try simp at h10
       refine hw_skip ?_
       refine blockQ_n ?_
       refine blockQ_n ?_
       refine seqQ_n ?_
       refine hw_reg1 ?_
       refine dp rfl (pop_add64 rfl rfl (by omega) (by omega)) ?_
       refine dp rfl (pop_move rfl) ?_
       refine dn ?_
       refine ⟨k + 1, ?_, ?_, ⟨rfl, trivial⟩, (by repeat (first | exact keeps_refl | refine keeps_upd rfl ?_ | refine keeps_loop rfl rfl ?_)), List.Perm.refl _⟩
       ·refine ⟨by omega, ?_⟩
        rw [hg, chkGo_ne (by rw [mendFault, if_neg (by simp_all), if_neg (by simp_all)]) (by intro hk0; simp_all; try omega)]
       ·dsimp only; omega
   ·try simp at h4
    have hnk : m.length ≤ k := by omega
    obtain rfl : k = m.length := by omega
    rw [drop_all (Nat.le_refl _)] at hg
    refine hw_exit ?_
    refine seqQ_x ?_
    refine loopQ_x ?_
    refine blockQ_eq ?_
    refine seqQ_n ?_
    refine hw_reg ?_
    refine dp rfl (pop_assign rfl) ?_
    refine dn ?_
    refine hw_ret ?_
    refine ret_p rfl ?_
    show HVal.int .i64 _ = _
    first
    | (rw [mendsE, if_pos (by omega)]; done)
    | (rw [mendsE, if_neg (by omega), hg]; rfl)
    | (refine congrArg _ (mends_bad (c := 5) (by omega) hg (by decide) ?_)
       rw [mendFault, if_pos]
       simp_all
       done)
    | (refine congrArg _ (mends_bad (c := 1) (by omega) hg (by decide) ?_)
       rw [mendFault, if_neg, if_pos]
       all_goals simp_all
       done)
    | (refine congrArg _ (mends_ord (by omega) hg ?_ ?_ ?_)
       ·rw [mendFault, if_neg, if_neg] <;> simp_all
       ·simp_all
       ·simp_all)

/-- benchwarmer/play.statsFault -/
theorem c_play_statsFault [Tracks] {l : List StatS} (hl : l.length ≤ 1000000) : ConP Tryz.prog 81 [eStats l] (.int .i64 (statsE l)) := by
 refine Con.of_body Tryz.func81 rfl Tryz.ntmps81 rfl rfl ?_
 refine hw_reg ?_
 refine dp rfl (pop_assign rfl) ?_
 refine dn ?_
 refine hw_seq ?_
 refine hw_reg ?_
 refine dp rfl (pop_move rfl) ?_
 refine dp rfl (pop_lenm ty61 rfl) ?_
 refine dp rfl (pop_gtr rfl rfl) ?_
 refine dn ?_
 refine hw_cond rfl (fun h1 => ?_) (fun h2 => ?_)
 ·try simp at h1
  refine hw_reg ?_
  refine dp rfl (pop_assign rfl) ?_
  refine dn ?_
  refine hw_ret ?_
  refine ret_p rfl ?_
  show HVal.int .i64 _ = _
  first
  | (rw [statsE, if_pos (by omega)]; done)
  | (rw [statsE, if_neg (by omega), hg]; rfl)
  | (refine congrArg _ (stats_bad (c := 5) (by omega) hg (by decide) ?_)
     rw [statFault, if_pos]
     simp_all
     done)
  | (refine congrArg _ (stats_bad (c := 1) (by omega) hg (by decide) ?_)
     rw [statFault, if_neg, if_pos]
     all_goals simp_all
     done)
  | (refine congrArg _ (stats_ord (by omega) hg ?_ ?_ ?_)
     ·rw [statFault, if_neg, if_neg] <;> simp_all
     ·simp_all
     ·simp_all)
 ·try simp at h2
  refine hw_skip ?_
  refine seqQ_n ?_
  refine hw_seq ?_
  refine hw_reg ?_
  refine dp rfl (pop_move rfl) ?_
  refine dp rfl (pop_lenm ty61 rfl) ?_
  refine dp rfl (pop_move rfl) ?_
  refine dn ?_
  refine hw_block ?_
  refine hw_loopw [2, 3, 4, 10, 11, 12, 13, 14, 15, 16, 17, 18, 19, 20, 21, 22, 23, 24, 25, 26, 27, 28, 29, 30, 31, 32, 33, 34, 35, 36, 37, 38, 39, 40, 41, 42, 43] (fun (k : Nat) => [(10, .int .i64 k)]) (fun (k : Nat) => []) (fun (k : Nat) => k ≤ l.length ∧ (chkGo statFault byNm stat0 l 0 l = chkGo statFault byNm stat0 l k (l.drop k))) (fun (k : Nat) => l.length - k) (0) ?_ ?_ ?_ ?_
  ·exact ⟨Nat.zero_le _, rfl⟩
  ·exact ⟨rfl, trivial⟩
  ·exact List.Perm.refl _
  ·intro k hinv
   obtain ⟨hk, hg⟩ := hinv
   refine hw_reg ?_
   refine dp rfl (pop_lss rfl rfl) ?_
   refine dn ?_
   refine hw_seq ?_
   refine hw_cond rfl (fun h3 => ?_) (fun h4 => ?_)
   ·try simp at h3
    obtain ⟨x, hx⟩ : ∃ x, l[k]? = some x := ⟨_, List.getElem?_eq_getElem h3⟩
    have hdx := drop_cons hx
    rw [hdx] at hg
    refine hw_skip ?_
    refine seqQ_n ?_
    refine hw_seq ?_
    refine hw_block ?_
    refine hw_reg ?_
    refine dp rfl (pop_move rfl) ?_
    refine dp rfl (pop_idx ty61 ty121 rfl rfl rfl (by first | assumption | simp_all)) ?_
    refine dp rfl (pop_loadw ty121 rfl rfl rfl rfl) ?_
    refine de rfl (eop_alloc ty121 rfl fun b4 => ?_)
    refine dp rfl (pop_assign rfl) ?_
    refine de0 (eop_storew ty121 rfl rfl rfl rfl rfl ?_)
    refine dn ?_
    refine hw_ghost (Ghost.fc0 4 rfl) ?_
    refine hw_block ?_
    refine hw_reg ?_
    refine dp rfl (pop_fieldAddr ty121 rfl ty9 (by decide) rfl) ?_
    refine dp rfl (pop_load ty9 rfl rfl rfl) ?_
    refine dp rfl (pop_call ca80 rfl (WeakL.refl _) c_base_Key) ?_
    refine dp rfl (pop_not rfl) ?_
    refine dp rfl (pop_assign rfl) ?_
    refine dn ?_
    refine hw_cond rfl (fun h5 => ?_) (fun h6 => ?_)
    ·try simp at h5
     refine hw_reg ?_
     refine dp rfl (pop_assign rfl) ?_
     refine dn ?_
     refine hw_ret ?_
     refine ret_p rfl ?_
     show HVal.int .i64 _ = _
     first
     | (rw [statsE, if_pos (by omega)]; done)
     | (rw [statsE, if_neg (by omega), hg]; rfl)
     | (refine congrArg _ (stats_bad (c := 5) (by omega) hg (by decide) ?_)
        rw [statFault, if_pos]
        simp_all
        done)
     | (refine congrArg _ (stats_bad (c := 1) (by omega) hg (by decide) ?_)
        rw [statFault, if_neg, if_pos]
        all_goals simp_all
        done)
     | (refine congrArg _ (stats_ord (by omega) hg ?_ ?_ ?_)
        ·rw [statFault, if_neg, if_neg] <;> simp_all
        ·simp_all
        ·simp_all)
    ·try simp at h6
     refine hw_reg ?_
     refine dp rfl (pop_fieldAddr ty121 rfl ty3 (by decide) rfl) ?_
     refine dp rfl (pop_load ty3 rfl rfl rfl) ?_
     refine dp rfl (pop_call ca61 rfl (WeakL.refl _) c_base_Out) ?_
     refine dp rfl (pop_move rfl) ?_
     refine dg rfl rfl (fun hc => ⟨_, OpenTo.refl _, pop_fieldAddr ty121 rfl ty3 (by decide) rfl⟩) ?_
     refine dg rfl rfl (fun hc => ⟨_, OpenTo.upd (t := 25) rfl (by first | exact hc | simp_all) (OpenTo.refl _), pop_load ty3 rfl rfl rfl⟩) ?_
     refine dg rfl rfl (fun hc => ⟨_, OpenTo.upd (t := 26) rfl (by first | exact hc | simp_all) (OpenTo.refl _), pop_eql rfl rfl⟩) ?_
     refine dp rfl (pop_picko rfl (.inl rfl) (.inr ⟨_, rfl, fun h => by simp_all⟩)) ?_
     refine dp rfl (pop_assign rfl) ?_
     refine dn ?_
     refine hw_cond rfl (fun h7 => ?_) (fun h8 => ?_)
     ·try simp at h7
      refine hw_reg ?_
      refine dp rfl (pop_assign rfl) ?_
      refine dn ?_
      refine hw_ret ?_
      refine ret_p rfl ?_
      show HVal.int .i64 _ = _
      first
      | (rw [statsE, if_pos (by omega)]; done)
      | (rw [statsE, if_neg (by omega), hg]; rfl)
      | (refine congrArg _ (stats_bad (c := 5) (by omega) hg (by decide) ?_)
         rw [statFault, if_pos]
         simp_all
         done)
      | (refine congrArg _ (stats_bad (c := 1) (by omega) hg (by decide) ?_)
         rw [statFault, if_neg, if_pos]
         all_goals simp_all
         done)
      | (refine congrArg _ (stats_ord (by omega) hg ?_ ?_ ?_)
         ·rw [statFault, if_neg, if_neg] <;> simp_all
         ·simp_all
         ·simp_all)
     ·try simp at h8
      refine hw_draw (fun _ => True) [] mixed ?_
      refine ahp 0 rfl rfl (by kernel_rfl) (by kernel_rfl) (pop_move rfl) ?_
      refine ahp 1 rfl rfl (by kernel_rfl) (by kernel_rfl) (pop_gtr rfl rfl) ?_
      refine ahp 2 rfl rfl (by kernel_rfl) (by kernel_rfl) (pop_move rfl) ?_
      refine ahg 3 rfl rfl (by kernel_rfl) (by kernel_rfl) rfl (fun hc => ⟨_, OpenTo.refl _, pop_fieldAddr ty121 rfl ty9 (by decide) rfl⟩) ?_
      refine ahg 4 rfl rfl (by kernel_rfl) (by kernel_rfl) rfl (fun hc => ⟨_, OpenTo.upd (t := 33) rfl (by first | exact hc | simp_all) (OpenTo.refl _), pop_load ty9 rfl rfl rfl⟩) ?_
      refine ahg 5 rfl rfl (by kernel_rfl) (by kernel_rfl) rfl (fun hc => ⟨_, OpenTo.refl _, pop_move rfl⟩) ?_
      refine ahg 6 rfl rfl (by kernel_rfl) (by kernel_rfl) rfl (fun hc => ⟨_, OpenTo.refl _, pop_move rfl⟩) ?_
      refine ahg 7 rfl rfl (by kernel_rfl) (by kernel_rfl) rfl (fun hc => by have hq := hc; (try simp at hq); exact ⟨_, OpenTo.upd (t := 36) rfl (by first | exact hc | simp_all) (OpenTo.refl _), pop_sub64 rfl rfl (by omega) (by omega)⟩) ?_
      refine ahg 8 rfl rfl (by kernel_rfl) (by kernel_rfl) rfl (fun hc => by have hq := hc; (try simp at hq); exact ⟨_, OpenTo.upd (t := 37) rfl (by first | exact hc | simp_all) (OpenTo.upd (t := 35) rfl (by first | exact hc | simp_all) (OpenTo.refl _)), pop_idx (j := k - 1) (a := l.getD (k - 1) stat0) ty61 ty121 rfl rfl (by omega) (getD_some (by omega))⟩) ?_
      refine ahg 9 rfl rfl (by kernel_rfl) (by kernel_rfl) rfl (fun hc => ⟨_, OpenTo.upd (t := 38) rfl (by first | exact hc | simp_all) (OpenTo.refl _), pop_fieldAddr ty121 rfl ty9 (by decide) rfl⟩) ?_
      refine ahg 10 rfl rfl (by kernel_rfl) (by kernel_rfl) rfl (fun hc => ⟨_, OpenTo.upd (t := 39) rfl (by first | exact hc | simp_all) (OpenTo.refl _), pop_load ty9 rfl rfl rfl⟩) ?_
      refine ahg 11 rfl rfl (by kernel_rfl) (by kernel_rfl) rfl (fun hc => ⟨_, OpenTo.upd (t := 40) rfl (by first | exact hc | simp_all) (OpenTo.upd (t := 34) rfl (by first | exact hc | simp_all) (OpenTo.refl _)), pop_leqs rfl rfl⟩) ?_
      refine ahp 12 rfl rfl (by kernel_rfl) (by kernel_rfl) (pop_picko rfl (.inr ⟨_, rfl, fun h => by simp_all⟩) (.inl rfl)) ?_
      refine ahp 13 rfl rfl (by kernel_rfl) (by kernel_rfl) (pop_assign rfl) ?_
      refine ahz (by kernel_rfl) ?_
      refine hw_cond rfl (fun h9 => ?_) (fun h10 => ?_)
      ·try simp at h9
       refine hw_reg ?_
       refine dp rfl (pop_assign rfl) ?_
       refine dn ?_
       refine hw_ret ?_
       refine ret_p rfl ?_
       show HVal.int .i64 _ = _
       first
       | (rw [statsE, if_pos (by omega)]; done)
       | (rw [statsE, if_neg (by omega), hg]; rfl)
       | (refine congrArg _ (stats_bad (c := 5) (by omega) hg (by decide) ?_)
          rw [statFault, if_pos]
          simp_all
          done)
       | (refine congrArg _ (stats_bad (c := 1) (by omega) hg (by decide) ?_)
          rw [statFault, if_neg, if_pos]
          all_goals simp_all
          done)
       | (refine congrArg _ (stats_ord (by omega) hg ?_ ?_ ?_)
          ·rw [statFault, if_neg, if_neg] <;> simp_all
          ·simp_all
          ·simp_all)
      ·try simp at h10
       refine hw_skip ?_
       refine blockQ_n ?_
       refine blockQ_n ?_
       refine seqQ_n ?_
       refine hw_reg1 ?_
       refine dp rfl (pop_add64 rfl rfl (by omega) (by omega)) ?_
       refine dp rfl (pop_move rfl) ?_
       refine dn ?_
       refine ⟨k + 1, ?_, ?_, ⟨rfl, trivial⟩, (by repeat (first | exact keeps_refl | refine keeps_upd rfl ?_ | refine keeps_loop rfl rfl ?_)), List.Perm.refl _⟩
       ·refine ⟨by omega, ?_⟩
        rw [hg, stats_next (by rw [statFault, if_neg (by simp_all), if_neg (by simp_all)]) (by intro hk0; simp_all)]
       ·dsimp only; omega
   ·try simp at h4
    have hnk : l.length ≤ k := by omega
    obtain rfl : k = l.length := by omega
    rw [drop_all (Nat.le_refl _)] at hg
    refine hw_exit ?_
    refine seqQ_x ?_
    refine loopQ_x ?_
    refine blockQ_eq ?_
    refine seqQ_n ?_
    refine hw_reg ?_
    refine dp rfl (pop_assign rfl) ?_
    refine dn ?_
    refine hw_ret ?_
    refine ret_p rfl ?_
    show HVal.int .i64 _ = _
    first
    | (rw [statsE, if_pos (by omega)]; done)
    | (rw [statsE, if_neg (by omega), hg]; rfl)
    | (refine congrArg _ (stats_bad (c := 5) (by omega) hg (by decide) ?_)
       rw [statFault, if_pos]
       simp_all
       done)
    | (refine congrArg _ (stats_bad (c := 1) (by omega) hg (by decide) ?_)
       rw [statFault, if_neg, if_pos]
       all_goals simp_all
       done)
    | (refine congrArg _ (stats_ord (by omega) hg ?_ ?_ ?_)
       ·rw [statFault, if_neg, if_neg] <;> simp_all
       ·simp_all
       ·simp_all)

/-- benchwarmer/play.CheckLines -/
theorem c_play_CheckLines [Tracks] {l : List LineS} (hl : l.length ≤ 1000000) (hL : ∀ x ∈ l, x.Stats.length ≤ 1000000) : ConP Tryz.prog 26 [eLines l] (.int .i64 (linesFE l)) := by
 refine Con.of_body Tryz.func26 rfl Tryz.ntmps26 rfl rfl ?_
 refine hw_reg ?_
 refine dp rfl (pop_assign rfl) ?_
 refine dn ?_
 refine hw_seq ?_
 refine hw_reg ?_
 refine dp rfl (pop_move rfl) ?_
 refine dp rfl (pop_lenm ty54 rfl) ?_
 refine dp rfl (pop_gtr rfl rfl) ?_
 refine dn ?_
 refine hw_cond rfl (fun h1 => ?_) (fun h2 => ?_)
 ·try simp at h1
  refine hw_reg ?_
  refine dp rfl (pop_assign rfl) ?_
  refine dn ?_
  refine hw_ret ?_
  refine ret_p rfl ?_
  show HVal.int .i64 _ = _
  first
  | (rw [linesFE, if_pos (by omega)]; done)
  | (rw [linesFE, if_neg (by omega), hg]; rfl)
  | (refine congrArg _ (lines_bad (c := 5) (by omega) hg (by decide) ?_)
     rw [lineFault, if_pos]
     simp_all
     done)
  | (refine congrArg _ (lines_bad (c := 1) (by omega) hg (by decide) ?_)
     rw [lineFault, if_neg, if_pos]
     all_goals simp_all
     done)
  | (refine congrArg _ (lines_bad (c := statsE x.Stats) (by omega) hg ?_ ?_)
     ·simp_all
     ·rw [lineFault, if_neg, if_neg] <;> simp_all)
  | (refine congrArg _ (lines_ord (by omega) hg ?_ ?_ ?_)
     ·rw [lineFault, if_neg, if_neg] <;> simp_all
     ·simp_all
     ·simp_all)
 ·try simp at h2
  refine hw_skip ?_
  refine seqQ_n ?_
  refine hw_seq ?_
  refine hw_reg ?_
  refine dp rfl (pop_move rfl) ?_
  refine dp rfl (pop_lenm ty54 rfl) ?_
  refine dp rfl (pop_move rfl) ?_
  refine dn ?_
  refine hw_block ?_
  refine hw_loopw [2, 3, 4, 5, 11, 12, 13, 14, 15, 16, 17, 18, 19, 20, 21, 22, 23, 24, 25, 26, 27, 28, 29, 30, 31, 32, 33, 34, 35, 36, 37, 38, 39, 40, 41, 42, 43, 44] (fun (k : Nat) => [(11, .int .i64 k)]) (fun (k : Nat) => []) (fun (k : Nat) => k ≤ l.length ∧ (chkGo lineFault byWk line0 l 0 l = chkGo lineFault byWk line0 l k (l.drop k))) (fun (k : Nat) => l.length - k) (0) ?_ ?_ ?_ ?_
  ·exact ⟨Nat.zero_le _, rfl⟩
  ·exact ⟨rfl, trivial⟩
  ·exact List.Perm.refl _
  ·intro k hinv
   obtain ⟨hk, hg⟩ := hinv
   refine hw_reg ?_
   refine dp rfl (pop_lss rfl rfl) ?_
   refine dn ?_
   refine hw_seq ?_
   refine hw_cond rfl (fun h3 => ?_) (fun h4 => ?_)
   ·try simp at h3
    obtain ⟨x, hx⟩ : ∃ x, l[k]? = some x := ⟨_, List.getElem?_eq_getElem h3⟩
    have hdx := drop_cons hx
    rw [hdx] at hg
    refine hw_skip ?_
    refine seqQ_n ?_
    refine hw_seq ?_
    refine hw_block ?_
    refine hw_reg ?_
    refine dp rfl (pop_move rfl) ?_
    refine dp rfl (pop_idx ty54 ty63 rfl rfl rfl (by first | assumption | simp_all)) ?_
    refine dp rfl (pop_loadw ty63 rfl rfl rfl rfl) ?_
    refine de rfl (eop_alloc ty63 rfl fun b4 => ?_)
    refine dp rfl (pop_assign rfl) ?_
    refine de0 (eop_storew ty63 rfl rfl rfl rfl rfl ?_)
    refine dn ?_
    refine hw_ghost (Ghost.fc0 4 rfl) ?_
    refine hw_seq ?_
    refine hw_block ?_
    refine hw_reg ?_
    refine dp rfl (pop_fieldAddr ty63 rfl ty9 (by decide) rfl) ?_
    refine dp rfl (pop_load ty9 rfl rfl rfl) ?_
    refine dp rfl (pop_call ca80 rfl (WeakL.refl _) c_base_Key) ?_
    refine dp rfl (pop_not rfl) ?_
    refine dp rfl (pop_assign rfl) ?_
    refine dn ?_
    refine hw_cond rfl (fun h5 => ?_) (fun h6 => ?_)
    ·try simp at h5
     refine hw_reg ?_
     refine dp rfl (pop_assign rfl) ?_
     refine dn ?_
     refine hw_ret ?_
     refine ret_p rfl ?_
     show HVal.int .i64 _ = _
     first
     | (rw [linesFE, if_pos (by omega)]; done)
     | (rw [linesFE, if_neg (by omega), hg]; rfl)
     | (refine congrArg _ (lines_bad (c := 5) (by omega) hg (by decide) ?_)
        rw [lineFault, if_pos]
        simp_all
        done)
     | (refine congrArg _ (lines_bad (c := 1) (by omega) hg (by decide) ?_)
        rw [lineFault, if_neg, if_pos]
        all_goals simp_all
        done)
     | (refine congrArg _ (lines_bad (c := statsE x.Stats) (by omega) hg ?_ ?_)
        ·simp_all
        ·rw [lineFault, if_neg, if_neg] <;> simp_all)
     | (refine congrArg _ (lines_ord (by omega) hg ?_ ?_ ?_)
        ·rw [lineFault, if_neg, if_neg] <;> simp_all
        ·simp_all
        ·simp_all)
    ·try simp at h6
     refine hw_reg ?_
     refine dp rfl (pop_fieldAddr ty63 rfl ty3 (by decide) rfl) ?_
     refine dp rfl (pop_load ty3 rfl rfl rfl) ?_
     refine dp rfl (pop_call ca72 rfl (WeakL.refl _) c_base_Week) ?_
     refine dp rfl (pop_not rfl) ?_
     refine dp rfl (pop_assign rfl) ?_
     refine dn ?_
     refine hw_cond rfl (fun h7 => ?_) (fun h8 => ?_)
     ·try simp at h7
      refine hw_reg ?_
      refine dp rfl (pop_assign rfl) ?_
      refine dn ?_
      refine hw_ret ?_
      refine ret_p rfl ?_
      show HVal.int .i64 _ = _
      first
      | (rw [linesFE, if_pos (by omega)]; done)
      | (rw [linesFE, if_neg (by omega), hg]; rfl)
      | (refine congrArg _ (lines_bad (c := 5) (by omega) hg (by decide) ?_)
         rw [lineFault, if_pos]
         simp_all
         done)
      | (refine congrArg _ (lines_bad (c := 1) (by omega) hg (by decide) ?_)
         rw [lineFault, if_neg, if_pos]
         all_goals simp_all
         done)
      | (refine congrArg _ (lines_bad (c := statsE x.Stats) (by omega) hg ?_ ?_)
         ·simp_all
         ·rw [lineFault, if_neg, if_neg] <;> simp_all)
      | (refine congrArg _ (lines_ord (by omega) hg ?_ ?_ ?_)
         ·rw [lineFault, if_neg, if_neg] <;> simp_all
         ·simp_all
         ·simp_all)
     ·try simp at h8
      refine hw_skip ?_
      refine blockQ_n ?_
      refine seqQ_n ?_
      refine hw_seq ?_
      refine hw_reg ?_
      refine dp rfl (pop_fieldAddr ty63 rfl ty61 (by decide) rfl) ?_
      refine dp rfl (pop_load ty61 rfl rfl rfl) ?_
      refine dp rfl (pop_call ca81 rfl (WeakL.refl _) (c_play_statsFault (l := x.Stats) (hL x (List.mem_of_getElem? hx)))) ?_
      refine dp rfl (pop_assign rfl) ?_
      refine dn ?_
      refine hw_reg ?_
      refine dp rfl (pop_move rfl) ?_
      refine dp rfl (pop_neq rfl rfl) ?_
      refine dn ?_
      refine hw_cond rfl (fun h9 => ?_) (fun h10 => ?_)
      ·try simp at h9
       refine hw_reg ?_
       refine dp rfl (pop_move rfl) ?_
       refine dp rfl (pop_assign rfl) ?_
       refine dn ?_
       refine hw_ret ?_
       refine ret_p rfl ?_
       show HVal.int .i64 _ = _
       first
       | (rw [linesFE, if_pos (by omega)]; done)
       | (rw [linesFE, if_neg (by omega), hg]; rfl)
       | (refine congrArg _ (lines_bad (c := 5) (by omega) hg (by decide) ?_)
          rw [lineFault, if_pos]
          simp_all
          done)
       | (refine congrArg _ (lines_bad (c := 1) (by omega) hg (by decide) ?_)
          rw [lineFault, if_neg, if_pos]
          all_goals simp_all
          done)
       | (refine congrArg _ (lines_bad (c := statsE x.Stats) (by omega) hg ?_ ?_)
          ·simp_all
          ·rw [lineFault, if_neg, if_neg] <;> simp_all)
       | (refine congrArg _ (lines_ord (by omega) hg ?_ ?_ ?_)
          ·rw [lineFault, if_neg, if_neg] <;> simp_all
          ·simp_all
          ·simp_all)
      ·try simp at h10
       refine hw_skip ?_
       refine seqQ_n ?_
       refine hw_draw (fun _ => True) [] mixed ?_
       refine ahp 0 rfl rfl (by kernel_rfl) (by kernel_rfl) (pop_move rfl) ?_
       refine ahp 1 rfl rfl (by kernel_rfl) (by kernel_rfl) (pop_gtr rfl rfl) ?_
       refine ahp 2 rfl rfl (by kernel_rfl) (by kernel_rfl) (pop_move rfl) ?_
       refine ahg 3 rfl rfl (by kernel_rfl) (by kernel_rfl) rfl (fun hc => ⟨_, OpenTo.refl _, pop_loadw ty63 rfl rfl rfl rfl⟩) ?_
       refine ahg 4 rfl rfl (by kernel_rfl) (by kernel_rfl) rfl (fun hc => ⟨_, OpenTo.refl _, pop_move rfl⟩) ?_
       refine ahg 5 rfl rfl (by kernel_rfl) (by kernel_rfl) rfl (fun hc => ⟨_, OpenTo.refl _, pop_move rfl⟩) ?_
       refine ahg 6 rfl rfl (by kernel_rfl) (by kernel_rfl) rfl (fun hc => by have hq := hc; (try simp at hq); exact ⟨_, OpenTo.upd (t := 37) rfl (by first | exact hc | simp_all) (OpenTo.refl _), pop_sub64 rfl rfl (by omega) (by omega)⟩) ?_
       refine ahg 7 rfl rfl (by kernel_rfl) (by kernel_rfl) rfl (fun hc => by have hq := hc; (try simp at hq); exact ⟨_, OpenTo.upd (t := 38) rfl (by first | exact hc | simp_all) (OpenTo.upd (t := 36) rfl (by first | exact hc | simp_all) (OpenTo.refl _)), pop_idx (j := k - 1) (a := l.getD (k - 1) line0) ty54 ty63 rfl rfl (by omega) (getD_some (by omega))⟩) ?_
       refine ahg 8 rfl rfl (by kernel_rfl) (by kernel_rfl) rfl (fun hc => ⟨_, OpenTo.upd (t := 39) rfl (by first | exact hc | simp_all) (OpenTo.refl _), pop_loadw ty63 rfl rfl rfl rfl⟩) ?_
       refine ahg 9 rfl rfl (by kernel_rfl) (by kernel_rfl) rfl (fun hc => ⟨_, OpenTo.upd (t := 40) rfl (by first | exact hc | simp_all) (OpenTo.upd (t := 35) rfl (by first | exact hc | simp_all) (OpenTo.refl _)), pop_call ca82 rfl (WeakL.refl _) c_play_byWeek⟩) ?_
       refine ahg 10 rfl rfl (by kernel_rfl) (by kernel_rfl) rfl (fun hc => ⟨_, OpenTo.upd (t := 41) rfl (by first | exact hc | simp_all) (OpenTo.refl _), pop_leq rfl rfl⟩) ?_
       refine ahp 11 rfl rfl (by kernel_rfl) (by kernel_rfl) (pop_picko rfl (.inr ⟨_, rfl, fun h => by simp_all⟩) (.inl rfl)) ?_
       refine ahz (by kernel_rfl) ?_
       refine hw_cond rfl (fun h11 => ?_) (fun h12 => ?_)
       ·try simp at h11
        refine hw_reg ?_
        refine dp rfl (pop_assign rfl) ?_
        refine dn ?_
        refine hw_ret ?_
        refine ret_p rfl ?_
        show HVal.int .i64 _ = _
        first
        | (rw [linesFE, if_pos (by omega)]; done)
        | (rw [linesFE, if_neg (by omega), hg]; rfl)
        | (refine congrArg _ (lines_bad (c := 5) (by omega) hg (by decide) ?_)
           rw [lineFault, if_pos]
           simp_all
           done)
        | (refine congrArg _ (lines_bad (c := 1) (by omega) hg (by decide) ?_)
           rw [lineFault, if_neg, if_pos]
           all_goals simp_all
           done)
        | (refine congrArg _ (lines_bad (c := statsE x.Stats) (by omega) hg ?_ ?_)
           ·simp_all
           ·rw [lineFault, if_neg, if_neg] <;> simp_all)
        | (refine congrArg _ (lines_ord (by omega) hg ?_ ?_ ?_)
           ·rw [lineFault, if_neg, if_neg] <;> simp_all
           ·simp_all
           ·simp_all)
       ·try simp at h12
        refine hw_skip ?_
        refine blockQ_n ?_
        refine seqQ_n ?_
        refine hw_reg1 ?_
        refine dp rfl (pop_add64 rfl rfl (by omega) (by omega)) ?_
        refine dp rfl (pop_move rfl) ?_
        refine dn ?_
        refine ⟨k + 1, ?_, ?_, ⟨rfl, trivial⟩, (by repeat (first | exact keeps_refl | refine keeps_upd rfl ?_ | refine keeps_loop rfl rfl ?_)), List.Perm.refl _⟩
        ·refine ⟨by omega, ?_⟩
         rw [hg, chkGo_ne (by rw [lineFault, if_neg (by simp_all), if_neg (by simp_all)]; simp_all) (by intro hk0; simp_all; try omega)]
        ·dsimp only; omega
   ·try simp at h4
    have hnk : l.length ≤ k := by omega
    obtain rfl : k = l.length := by omega
    rw [drop_all (Nat.le_refl _)] at hg
    refine hw_exit ?_
    refine seqQ_x ?_
    refine loopQ_x ?_
    refine blockQ_eq ?_
    refine seqQ_n ?_
    refine hw_reg ?_
    refine dp rfl (pop_assign rfl) ?_
    refine dn ?_
    refine hw_ret ?_
    refine ret_p rfl ?_
    show HVal.int .i64 _ = _
    first
    | (rw [linesFE, if_pos (by omega)]; done)
    | (rw [linesFE, if_neg (by omega), hg]; rfl)
    | (refine congrArg _ (lines_bad (c := 5) (by omega) hg (by decide) ?_)
       rw [lineFault, if_pos]
       simp_all
       done)
    | (refine congrArg _ (lines_bad (c := 1) (by omega) hg (by decide) ?_)
       rw [lineFault, if_neg, if_pos]
       all_goals simp_all
       done)
    | (refine congrArg _ (lines_bad (c := statsE x.Stats) (by omega) hg ?_ ?_)
       ·simp_all
       ·rw [lineFault, if_neg, if_neg] <;> simp_all)
    | (refine congrArg _ (lines_ord (by omega) hg ?_ ?_ ?_)
       ·rw [lineFault, if_neg, if_neg] <;> simp_all
       ·simp_all
       ·simp_all)

/-- benchwarmer/play.mended$1 -/
theorem c_play_mended_1 [Tracks] {s : StatS} {x : MendS}  : ConP Tryz.prog 131 [eStat s, .vptr (hcells (eMend x)) 0] (.bool (s.Name == x.Stat)) := by
 refine Con.of_body Tryz.func131 rfl Tryz.ntmps131 rfl rfl ?_
 refine hw_reg ?_
 refine dp rfl (pop_box rfl rfl) ?_
 refine dp rfl (pop_assign rfl) ?_
 refine dn ?_
 refine hw_reg ?_
 refine dp rfl (pop_fieldAddr ty121 rfl ty9 (by decide) rfl) ?_
 refine dp rfl (pop_load ty9 rfl rfl rfl) ?_
 refine dp rfl (pop_fieldAddr ty69 rfl ty9 (by decide) rfl) ?_
 refine dp rfl (pop_load ty9 rfl rfl rfl) ?_
 refine dp rfl (pop_eqls rfl rfl) ?_
 refine dp rfl (pop_assign rfl) ?_
 refine dn ?_
 refine hw_ret ?_
 refine ret_p rfl ?_
 rfl

set_option maxHeartbeats 2000000 in
/-- benchwarmer/play.mended -/
theorem c_play_mended [Tracks] {l : List LineS} {m : List MendS} {n : Int} (hl : l.length ≤ 1000) (hm : m.length ≤ 100) (hL : ∀ x ∈ l, x.Stats.length ≤ 1000) (hs : ∀ x ∈ l, (x.Stats.map (·.Name)).Nodup) (h40 : GLen 40 (mdMap l m n)) : ConP Tryz.prog 76 [eLines l, eMends m, .int .i64 n] (.tup [eLines (mdL l m n), .int .i64 0]) := by
 refine Con.of_body Tryz.func76 rfl Tryz.ntmps76 rfl rfl ?_
 refine hw_reg ?_
 refine dp rfl (pop_assign rfl) ?_
 refine dp rfl (pop_assign rfl) ?_
 refine dn ?_
 refine hw_reg ?_
 refine de rfl (eop_makeMap fun m18 => ?_)
 refine dp rfl (pop_assign rfl) ?_
 refine dn ?_
 refine hw_ghost (Ghost.of_eq (M' := [.map m18 (kk ePlc (em fG ([] : GrV)))] ++ grpK 2 eStat ([] : GrV)) rfl) ?_
 refine hw_seq ?_
 refine hw_reg ?_
 refine dp rfl (pop_move rfl) ?_
 refine dp rfl (pop_lenm ty54 rfl) ?_
 refine dp rfl (pop_move rfl) ?_
 refine dn ?_
 refine hw_block ?_
 refine hw_loopw2 [10, 21, 22, 23, 24, 25, 26, 27, 28, 29, 30, 31, 32, 33, 34] (fun (k : Nat) (G : GrV) => [(21, .int .i64 k)]) (fun (k : Nat) (G : GrV) => [.map m18 (kk ePlc (em fG G))] ++ grpK 2 eStat G) (fun (k : Nat) (G : GrV) => k ≤ l.length ∧ (ANodup G ∧ conV G = lnMap (l.take k))) (fun (k : Nat) (G : GrV) => l.length - k) (0) ([]) ?_ ?_ ?_ ?_
 ·exact ⟨Nat.zero_le _, ANodup.nil, rfl⟩
 ·exact ⟨rfl, trivial⟩
 ·exact perm_eq rfl
 ·intro k G hinv
  obtain ⟨hk, ⟨hn, hc⟩⟩ := hinv
  refine hw_reg ?_
  refine dp rfl (pop_lss rfl rfl) ?_
  refine dn ?_
  refine hw_seq ?_
  refine hw_cond rfl (fun h1 => ?_) (fun h2 => ?_)
  ·try simp at h1
   obtain ⟨x, hx⟩ : ∃ x, l[k]? = some x := ⟨_, List.getElem?_eq_getElem h1⟩
   have hdx := drop_cons hx
   refine hw_skip ?_
   refine seqQ_n ?_
   refine hw_seq ?_
   refine hw_block ?_
   refine hw_reg ?_
   refine dp rfl (pop_idx ty54 ty63 rfl rfl rfl (by first | assumption | simp_all)) ?_
   refine dp rfl (pop_loadw ty63 rfl rfl rfl rfl) ?_
   refine de rfl (eop_alloc ty63 rfl fun b10 => ?_)
   refine de0 (eop_storew ty63 rfl rfl rfl rfl rfl ?_)
   refine dn ?_
   refine hw_ghost (Ghost.fc0 10 rfl) ?_
   refine hw_draw1 (fun _ => True) [] mixed ?_
   refine ahp 0 rfl rfl (by kernel_rfl) (by kernel_rfl) (pop_move rfl) ?_
   refine ahp 1 rfl rfl (by kernel_rfl) (by kernel_rfl) ((by first | exact pop_fieldAddr ty63 rfl ty9 (by decide) rfl | exact pop_fieldAddr_raw ty63 rfl ty9 (by decide) rfl)) ?_
   refine ahp 2 rfl rfl (by kernel_rfl) (by kernel_rfl) (pop_load ty9 rfl rfl rfl) ?_
   refine ahp 3 rfl rfl (by kernel_rfl) (by kernel_rfl) ((by first | exact pop_fieldAddr ty63 rfl ty3 (by decide) rfl | exact pop_fieldAddr_raw ty63 rfl ty3 (by decide) rfl)) ?_
   refine ahp 4 rfl rfl (by kernel_rfl) (by kernel_rfl) (pop_load ty3 rfl rfl rfl) ?_
   refine ahp 5 rfl rfl (by kernel_rfl) (by kernel_rfl) (pop_build (cs := [_, _]) ty129 pl129 rfl) ?_
   refine ahp 6 rfl rfl (by kernel_rfl) (by kernel_rfl) ((by first | exact pop_fieldAddr ty63 rfl ty61 (by decide) rfl | exact pop_fieldAddr_raw ty63 rfl ty61 (by decide) rfl)) ?_
   refine ahp 7 rfl rfl (by kernel_rfl) (by kernel_rfl) (pop_load ty61 rfl rfl rfl) ?_
   refine ahe 8 rfl (by kernel_rfl) ?_
   refine hop_e rfl (eop_calla ca129 rfl (WeakL.refl _) (c_slices_Clone_api_Stat_api_Stat (l := x.Stats) (Nat.le_trans (hL x (List.mem_of_getElem? hx)) (by decide))) fun v33 => ?_)
   refine ⟨fun _ => .inl trivial, ?_⟩
   refine ahe 9 rfl (by kernel_rfl) ?_
   refine hop_e0 (EOp.post_ghost (eop_updatekA (i := 1) (s := (x.Player, x.Week)) (f := fG) (L := G) (v := (v33, x.Stats)) ty183 ok129 rfl rfl rfl rfl ⟨_, grpK_over (A := [.map m18 (kk ePlc (em fG (aput (x.Player, x.Week) (v33, x.Stats) G)))]) (s := (x.Player, x.Week)) (v := v33) (l := x.Stats) hn, ?_⟩))
   refine ⟨fun _ => .inl trivial, ?_⟩
   refine ahz (by kernel_rfl) ?_
   refine blockQ_n ?_
   refine seqQ_n ?_
   refine hw_reg1 ?_
   refine dp rfl (pop_add64 rfl rfl (by omega) (by omega)) ?_
   refine dp rfl (pop_move rfl) ?_
   refine dn ?_
   exact ⟨k + 1, aput (x.Player, x.Week) (v33, x.Stats) G, ⟨by omega, hn.put, by rw [conV_put, hc, lnMap_snoc hx]⟩, by dsimp only; omega, ⟨rfl, trivial⟩, (by repeat (first | exact keeps_refl | refine keeps_upd rfl ?_ | refine keeps_loop rfl rfl ?_)), perm_eq rfl⟩
  ·try simp at h2
   have hnk : l.length ≤ k := by omega
   obtain rfl : k = l.length := by omega
   rw [List.take_length] at hc
   refine hw_exit ?_
   refine seqQ_x ?_
   refine loopQ2_x ?_
   refine blockQ_eq ?_
   refine seqQ_n ?_
   refine hw_seq ?_
   refine hw_reg ?_
   refine dp rfl (pop_move rfl) ?_
   refine dp rfl (pop_lenm ty46 rfl) ?_
   refine dp rfl (pop_move rfl) ?_
   refine dn ?_
   refine hw_block ?_
   refine hw_loopw2 [12, 13, 14, 37, 38, 39, 40, 41, 42, 43, 44, 45, 46, 47, 48, 49, 50, 51, 52, 53, 54, 55, 56, 57, 58, 59, 60, 61, 62, 63, 64, 65, 66, 67, 68, 69] (fun (k : Nat) (G : GrV) => [(37, .int .i64 k)]) (fun (k : Nat) (G : GrV) => [.map m18 (kk ePlc (em fG G))] ++ grpK 2 eStat G) (fun (k : Nat) (G : GrV) => k ≤ m.length ∧ (ANodup G ∧ conV G = mdGo (lnMap l) (m.take k) n)) (fun (k : Nat) (G : GrV) => m.length - k) (0) (G) ?_ ?_ ?_ ?_
   ·exact ⟨Nat.zero_le _, hn, hc⟩
   ·exact ⟨rfl, trivial⟩
   ·exact perm_eq rfl
   ·intro k G hinv
    obtain ⟨hk, ⟨hn, hc⟩⟩ := hinv
    refine hw_reg ?_
    refine dp rfl (pop_lss rfl rfl) ?_
    refine dn ?_
    refine hw_seq ?_
    refine hw_cond rfl (fun h3 => ?_) (fun h4 => ?_)
    ·try simp at h3
     obtain ⟨x, hx⟩ : ∃ x, m[k]? = some x := ⟨_, List.getElem?_eq_getElem h3⟩
     have hdx := drop_cons hx
     refine hw_skip ?_
     refine seqQ_n ?_
     refine hw_seq ?_
     refine hw_block ?_
     refine hw_reg ?_
     refine dp rfl (pop_idx ty46 ty69 rfl rfl rfl (by first | assumption | simp_all)) ?_
     refine dp rfl (pop_loadw ty69 rfl rfl rfl rfl) ?_
     refine de rfl (eop_alloc ty69 rfl fun b12 => ?_)
     refine de0 (eop_storew ty69 rfl rfl rfl rfl rfl ?_)
     refine dn ?_
     refine hw_ghost (Ghost.fc0 12 rfl) ?_
     refine hw_seq ?_
     refine hw_reg ?_
     refine dp rfl ((by first | exact pop_fieldAddr ty69 rfl ty3 (by decide) rfl | exact pop_fieldAddr_raw ty69 rfl ty3 (by decide) rfl)) ?_
     refine dp rfl (pop_load ty3 rfl rfl rfl) ?_
     refine dp rfl (pop_move rfl) ?_
     refine dp rfl (pop_gtr rfl rfl) ?_
     refine dn ?_
     refine hw_cond rfl (fun h5 => ?_) (fun h6 => ?_)
     ·try simp at h5
      refine hw_exit ?_
      refine seqQ_x ?_
      refine blockQ_eq ?_
      refine seqQ_n ?_
      refine hw_reg1 ?_
      refine dp rfl (pop_add64 rfl rfl (by omega) (by omega)) ?_
      refine dp rfl (pop_move rfl) ?_
      refine dn ?_
      exact ⟨k + 1, G, ⟨by omega, hn, by rw [mdGo_snoc hx, mdStep, if_pos (by omega)]; exact hc⟩, by dsimp only; omega, ⟨rfl, trivial⟩, (by repeat (first | exact keeps_refl | refine keeps_upd rfl ?_ | refine keeps_loop rfl rfl ?_)), perm_eq rfl⟩
     ·try simp at h6
      refine hw_skip ?_
      refine seqQ_n ?_
      refine hw_reg ?_
      refine dp rfl ((by first | exact pop_fieldAddr ty69 rfl ty9 (by decide) rfl | exact pop_fieldAddr_raw ty69 rfl ty9 (by decide) rfl)) ?_
      refine dp rfl (pop_load ty9 rfl rfl rfl) ?_
      refine dp rfl ((by first | exact pop_fieldAddr ty69 rfl ty3 (by decide) rfl | exact pop_fieldAddr_raw ty69 rfl ty3 (by decide) rfl)) ?_
      refine dp rfl (pop_load ty3 rfl rfl rfl) ?_
      refine dp rfl (pop_build (cs := [_, _]) ty129 pl129 rfl) ?_
      refine de rfl (eop_alloc ty129 rfl fun b13 => ?_)
      refine de0 (eop_storew ty129 rfl rfl rfl rfl rfl ?_)
      refine dn ?_
      refine hw_ghost (Ghost.fc0 13 rfl) ?_
      have hgl := md_glen (n := n) hL hm hc (x.Player, x.Week)
      refine hw_ghost (Ghost.grpK_take (A := [.map m18 (kk ePlc (em fG G))]) (G := G) (G' := G) (s := (x.Player, x.Week)) hn rfl) ?_
      refine hw_reg ?_
      refine dp rfl (pop_move rfl) ?_
      refine dp rfl (pop_loadw ty129 rfl rfl rfl rfl) ?_
      refine de rfl (eop_lookupkA (i := 1) (s := (x.Player, x.Week)) (z0 := gZ StatS) ty183 ok129 ty61 rfl rfl rfl rfl ?_)
      refine dp rfl (pop_makeFunc rfl rfl) ?_
      refine de rfl (eop_callx (i := 0) ca130 rfl (WeakL.refl _) rfl (c_slices_DeleteFunc_api_Stat_api_Stat (l := gLK (x.Player, x.Week) G) (p := fun s => s.Name == x.Stat) ca131 (fun _ => c_play_mended_1) (by omega)) ?_)
      rintro _ _ ⟨u54, rfl, rfl⟩
      refine dp rfl (pop_assign rfl) ?_
      refine dn ?_
      refine hw_join [14, 55, 56, 57, 58, 59, 60, 61, 62, 63, 64, 65] (fun (w : Value) => [(14, .raw w)]) (fun (w : Value) => .arr w 2 ((mdPut x (gLK (x.Player, x.Week) G)).map eStat) :: ([.map m18 (kk ePlc (em fG G))] ++ grpK 2 eStat (G.filter fun q => decide (q.1 ≠ (x.Player, x.Week))))) (fun (w : Value) => True) ?_ ?_
      ·skip
       refine hw_reg ?_
       refine dp rfl ((by first | exact pop_fieldAddr ty69 rfl ty3 (by decide) rfl | exact pop_fieldAddr_raw ty69 rfl ty3 (by decide) rfl)) ?_
       refine dp rfl (pop_load ty3 rfl rfl rfl) ?_
       refine dp rfl (pop_neq rfl rfl) ?_
       refine dn ?_
       refine hw_cond rfl (fun h7 => ?_) (fun h8 => ?_)
       ·try simp at h7
        refine hw_reg1 ?_
        refine dp rfl (pop_move rfl) ?_
        refine dp rfl ((by first | exact pop_fieldAddr ty69 rfl ty9 (by decide) rfl | exact pop_fieldAddr_raw ty69 rfl ty9 (by decide) rfl)) ?_
        refine dp rfl (pop_load ty9 rfl rfl rfl) ?_
        refine dp rfl ((by first | exact pop_fieldAddr ty69 rfl ty3 (by decide) rfl | exact pop_fieldAddr_raw ty69 rfl ty3 (by decide) rfl)) ?_
        refine dp rfl (pop_load ty3 rfl rfl rfl) ?_
        refine dp rfl (pop_build (cs := [_, _]) ty121 pl121 rfl) ?_
        refine dp rfl (pop_buildSlice (hs := [_]) ty61 ty121 rfl rfl (by decide) (by decide) rfl) ?_
        refine de rfl (eop_append (i := 0) ty61 ty121 rfl rfl rfl rfl rfl (by simp [flat, hcells]) (by have := mdDel_len x (gLK (x.Player, x.Week) G); unfold mdDel at this; simp only [List.length_map, List.length_cons, List.length_nil]; omega) fun v65 => ?_)
        refine dp rfl (pop_assign rfl) ?_
        refine dn ?_
        exact ⟨v65, trivial, ⟨rfl, trivial⟩, (by repeat (first | exact keeps_refl | refine keeps_upd rfl ?_ | refine keeps_loop rfl rfl ?_)), perm_eq (by rw [mdPut, if_pos (by assumption), List.map_append]; rfl)⟩
       ·try simp at h8
        refine hw_skip ?_
        exact ⟨u54, trivial, ⟨rfl, trivial⟩, (by repeat (first | exact keeps_refl | refine keeps_upd rfl ?_ | refine keeps_loop rfl rfl ?_)), perm_eq (by rw [mdPut, if_neg (by simp_all), List.append_nil]; rfl)⟩
      ·intro w _
       refine hw_reg1 ?_
       refine dp rfl (pop_move rfl) ?_
       refine dp rfl (pop_loadw ty129 rfl rfl rfl rfl) ?_
       refine dp rfl (pop_move rfl) ?_
       refine de0 (EOp.post_perm (eop_updatekA (i := 1) (s := (x.Player, x.Week)) (f := fG) (L := G) (v := (w, mdPut x (gLK (x.Player, x.Week) G))) ty183 ok129 rfl rfl rfl rfl ⟨_, grpK_put (A := [.map m18 (kk ePlc (em fG (aput (x.Player, x.Week) (w, mdPut x (gLK (x.Player, x.Week) G)) G)))]) (s := (x.Player, x.Week)) (v := w) (l := mdPut x (gLK (x.Player, x.Week) G)) hn, ?_⟩))
       refine dn ?_
       refine blockQ_n ?_
       refine seqQ_n ?_
       refine hw_reg1 ?_
       refine dp rfl (pop_add64 rfl rfl (by omega) (by omega)) ?_
       refine dp rfl (pop_move rfl) ?_
       refine dn ?_
       exact ⟨k + 1, aput (x.Player, x.Week) (w, mdPut x (gLK (x.Player, x.Week) G)) G, ⟨by omega, hn.put, by rw [mdGo_snoc hx, ← hc, mdStep_go (n := n) (by omega)]⟩, by dsimp only; omega, ⟨rfl, trivial⟩, (by repeat (first | exact keeps_refl | refine keeps_upd rfl ?_ | refine keeps_loop rfl rfl ?_)), perm_eq rfl⟩
    ·try simp at h4
     have hnk : m.length ≤ k := by omega
     obtain rfl : k = m.length := by omega
     rw [List.take_length] at hc
     refine hw_exit ?_
     refine seqQ_x ?_
     refine loopQ2_x ?_
     refine blockQ_eq ?_
     refine seqQ_n ?_
     refine hw_seq ?_
     have hGl := md_many hl hm hc
     have hkl : (kk ePlc (em fG G)).length = G.length := by simp [kk]
     refine hw_reg ?_
     refine dp rfl (pop_move rfl) ?_
     first
     | refine de rfl (eop_maplen (i := 0) ty183 rfl rfl ?_)
     | refine de rfl (eop_maplen (i := 1) ty183 rfl rfl ?_)
     | refine de rfl (eop_maplen (i := 2) ty183 rfl rfl ?_)
     | refine de rfl (eop_maplen (i := 3) ty183 rfl rfl ?_)
     refine dp rfl (pop_gtr rfl rfl) ?_
     refine dn ?_
     refine hw_cond rfl (fun h9 => ?_) (fun h9 => ?_)
     ·exfalso
      try simp at h9
      omega
     ·try simp at h9
      refine hw_skip ?_
      refine seqQ_n ?_
      refine hw_reg ?_
      refine dp rfl (pop_assign rfl) ?_
      refine dn ?_
      refine hw_ghost (Ghost.arr_nil 3) ?_
      refine hw_seq ?_
      refine hw_reg ?_
      refine dp rfl (pop_move rfl) ?_
      refine de rfl (eop_range (i := 1) ty183 rfl rfl fun r => ?_)
      refine dn ?_
      refine hw_block ?_
      refine hw_loopw3 [6, 7, 15, 16, 17, 75, 76, 77, 78, 79, 80, 81, 82, 83, 84, 85, 86, 87, 88, 89, 90, 91, 92, 93] (fun (vis : List Nat) (E : List (Plc × (Value × List StatS))) (u : Value) => [(15, .raw u)]) (fun (vis : List Nat) (E : List (Plc × (Value × List StatS))) (u : Value) => [.arr u 3 ((E.map gLine).map eLine), .iter r m18 (kk ePlc (em fG G)) vis] ++ grpK 2 eStat (restK G (E.map (·.1)))) (fun (vis : List Nat) (E : List (Plc × (Value × List StatS))) (u : Value) => VisOk (G) vis E ∧ (True)) (fun (vis : List Nat) (E : List (Plc × (Value × List StatS))) (u : Value) => (G).length - vis.length) ([]) ([]) (.slice none 0 0) ?_ ?_ ?_ ?_
      ·exact ⟨VisOk.nil _, trivial⟩
      ·exact ⟨rfl, trivial⟩
      ·exact perm_eq (by simp only [List.map_nil, restK_nil]; rfl)
      ·intro vis E u hinv
       obtain ⟨hvis, -⟩ := hinv
       refine hw_reg ?_
       refine de rfl (eop_nextA (i := 1) (L := G) (enc := (fun p : Plc × (Value × List StatS) => (ePlc p.1, fG p.2))) rfl rfl (kk_em _ _ _) hvis.nd hvis.lt fun cb R vis' hnx => ?_)
       refine dp rfl (pop_extract rfl rfl) ?_
       refine dn ?_
       refine hw_seq ?_
       refine hw_cond rfl (fun h10 => ?_) (fun h11 => ?_)
       ·try simp at h10
        obtain ⟨j, q, hq, hj, rfl⟩ := hnx.t h10
        have hroom := hvis.room hq hj
        have hstep := hvis.step hq hj
        have hqm := List.mem_of_getElem? hq
        refine hw_skip ?_
        refine seqQ_n ?_
        refine hw_block ?_
        refine hw_reg ?_
        refine de rfl (eop_entryA (i := 1) (L := G) (enc := (fun p : Plc × (Value × List StatS) => (ePlc p.1, fG p.2))) rfl rfl (kk_em _ _ _) hq ?_)
        refine dp rfl (pop_extract rfl rfl) ?_
        refine dp rfl (pop_extract rfl rfl) ?_
        refine de rfl (eop_alloc ty129 rfl fun b16 => ?_)
        refine de0 (eop_storew ty129 rfl rfl rfl rfl rfl ?_)
        refine dp rfl (pop_assign rfl) ?_
        refine dn ?_
        refine hw_ghost (Ghost.fc0 16 rfl) ?_
        have hqa : alk q.1 G = some q.2 := (alk_mem hn).1 hqm
        have hqx : q.1 ∉ E.map (·.1) := alk_none.1 (hvis.fresh hn hq hj)
        obtain ⟨gv1, gl1⟩ := gK_of hqa
        have hq40 := md_q40 h40 hc hqm
        have hqn := md_qn hs hc hqm
        refine hw_ghost (Ghost.grpK_take (A := [.arr u 3 ((E.map gLine).map eLine), .iter r m18 (kk ePlc (em fG G)) (vis ++ [j])]) (G := restK G (E.map (·.1))) (G' := G) (s := q.1) (restK_nodup hn) (restK_alk hqx)) ?_
        rw [restK_snoc, gv1, gl1]
        refine hw_seq ?_
        refine hw_reg ?_
        refine dp rfl (pop_move rfl) ?_
        refine de rfl (eop_lenm (i := 0) (es := q.2.2) ty61 rfl rfl ?_)
        refine dp rfl (pop_gtr rfl rfl) ?_
        refine dn ?_
        refine hw_cond rfl (fun h12 => ?_) (fun h12 => ?_)
        ·exfalso
         try simp at h12
         omega
        ·try simp at h12
         refine hw_skip ?_
         refine seqQ_n ?_
         refine hw_reg ?_
         refine dp rfl (pop_move rfl) ?_
         refine de rfl (eop_callf (M1 := [.arr q.2.1 2 (q.2.2.map eStat)]) (R := _) ca132 rfl (WeakL.refl _) (List.Perm.refl _) (c_sort_Stat (c := byNm) (swo_cmp byNm_cmp) ca133 (fun _ _ => @c_play_byName trackOn _ _) (l := q.2.2) (by omega)) ?_)
         rintro _ _ ⟨l', rfl, hp', hw', rfl⟩
         obtain rfl := stat_sorted hqn hp' hw'
         refine dn ?_
         refine hw_ghost (Ghost.fa 17 (i := 0) rfl rfl) ?_
         refine hw_reg1 ?_
         refine dp rfl (pop_move rfl) ?_
         refine dp rfl ((by first | exact pop_fieldAddr ty129 rfl ty9 (by decide) rfl | exact pop_fieldAddr_raw ty129 rfl ty9 (by decide) rfl)) ?_
         refine dp rfl (pop_load ty9 rfl rfl rfl) ?_
         refine dp rfl ((by first | exact pop_fieldAddr ty129 rfl ty3 (by decide) rfl | exact pop_fieldAddr_raw ty129 rfl ty3 (by decide) rfl)) ?_
         refine dp rfl (pop_load ty3 rfl rfl rfl) ?_
         refine dp rfl (pop_move rfl) ?_
         refine dp rfl (pop_build (cs := [_, _, _]) ty63 pl63 rfl) ?_
         refine dp rfl (pop_buildSlice (hs := [_]) ty54 ty63 rfl rfl (by decide) (by decide) rfl) ?_
         refine de rfl (eop_append (i := 0) ty54 ty63 rfl rfl rfl rfl rfl (by simp [flat, hcells]) (by have := hvis.len; simp only [List.length_map, List.length_cons, List.length_nil]; omega) fun v93 => ?_)
         refine dp rfl (pop_assign rfl) ?_
         refine dn ?_
         refine blockQ_n ?_
         exact ⟨_, E ++ [q], v93, ⟨hstep, trivial⟩, by dsimp only; rw [List.length_append]; simp only [List.length_cons, List.length_nil]; omega, ⟨rfl, trivial⟩, (by repeat (first | exact keeps_refl | refine keeps_upd rfl ?_ | refine keeps_loop rfl rfl ?_)), perm_eq (by dsimp only; simp only [List.map_append, List.map_cons, List.map_nil]; rfl)⟩
       ·try simp at h11
        obtain ⟨rfl, hlen⟩ := hnx.f h11
        have hEp := hvis.done hlen
        refine hw_exit ?_
        refine seqQ_x ?_
        refine loopQ3_x ?_
        refine blockQ_eq ?_
        refine seqQ_n ?_
        have hr0 : restK G (E.map (·.1)) = [] := restK_all (fun q hq => List.mem_map_of_mem (hEp.mem_iff.2 hq))
        rw [hr0]
        refine hw_ghost (Ghost.iterOver (i := 1) rfl) ?_
        refine hw_ghost (Ghost.of_eq (M' := [.arr u 3 ((E.map gLine).map eLine), .map m18 (kk ePlc (em fG G))]) rfl) ?_
        refine hw_reg ?_
        refine dp rfl (pop_move rfl) ?_
        refine de rfl (eop_callf (M1 := [.arr u 3 ((E.map gLine).map eLine)]) (R := [.map m18 (kk ePlc (em fG G))]) ca97 rfl (WeakL.refl _) (List.Perm.refl _) (c_sort_Line (c := byWk) (swo_cmp byWk_cmp) ca82 (fun _ _ => @c_play_byWeek trackOn _ _) (l := E.map gLine) (by have := hEp.length_eq; simp only [List.length_map]; omega)) ?_)
        rintro _ _ ⟨l', rfl, hp', hw', rfl⟩
        obtain rfl := mdL_of hc hEp hp' hw'
        refine dn ?_
        refine hw_ghost (Ghost.only (i := 0) rfl) ?_
        refine hw_reg ?_
        refine dp rfl (pop_move rfl) ?_
        refine dp rfl (pop_assign rfl) ?_
        refine dp rfl (pop_assign rfl) ?_
        refine dn ?_
        refine hw_ret ?_
        exact ret_fa (M := []) 6 rfl rfl rfl

/-- benchwarmer/play.Mended -/
theorem c_play_Mended [Tracks] {l : List LineS} {m : List MendS} {n : Int} (hl : l.length ≤ 1000) (hm : m.length ≤ 100) (hL : ∀ x ∈ l, x.Stats.length ≤ 1000) (h40 : linesFE l = 0 → GLen 40 (mdMap l m n)) : ConP Tryz.prog 22 [eLines l, eMends m, .int .i64 n] (.tup [eLines (MendedL l m n), .int .i64 (MendedE l m n)]) := by
 refine Con.of_body Tryz.func22 rfl Tryz.ntmps22 rfl rfl ?_
 refine hw_reg ?_
 refine dp rfl (pop_assign rfl) ?_
 refine dp rfl (pop_assign rfl) ?_
 refine dn ?_
 refine hw_seq ?_
 refine hw_reg ?_
 refine dp rfl (pop_move rfl) ?_
 refine dp rfl (pop_call ca26 rfl (WeakL.refl _) (c_play_CheckLines (l := l) (by omega) (fun x hx => Nat.le_trans (hL x hx) (by decide)))) ?_
 refine dp rfl (pop_move rfl) ?_
 refine dp rfl (pop_call ca33 rfl (WeakL.refl _) (c_play_CheckMends (m := m) (by omega))) ?_
 refine dp rfl (pop_buildSlice (hs := [_, _]) ty136 ty31 rfl rfl (by decide) (by decide) rfl) ?_
 refine dp rfl (pop_call ca65 rfl (WeakL.refl _) (c_base_First (l := [_, _]) (by simp))) ?_
 refine dp rfl (pop_assign rfl) ?_
 refine dn ?_
 refine hw_reg ?_
 refine dp rfl (pop_move rfl) ?_
 refine dp rfl (pop_neq rfl rfl) ?_
 refine dn ?_
 refine hw_cond rfl (fun h1 => ?_) (fun h2 => ?_)
 ·try simp at h1
  refine hw_reg ?_
  refine dp rfl (pop_move rfl) ?_
  refine dp rfl (pop_assign rfl) ?_
  refine dp rfl (pop_assign rfl) ?_
  refine dn ?_
  refine hw_ret ?_
  first
  | exact ret_w rfl (weak_tup2 (by rw [MendedL, if_pos (by simpa using h1)]; exact weak_nil 3) (by rw [MendedE, if_pos (by simpa using h1)]; exact Weak.refl _))
  | exact ret_w rfl (weak_tup2 (by rw [MendedL, if_neg (by simpa using h2), if_neg (by simp_all)]; exact weak_nil 3) (by rw [MendedE, if_neg (by simpa using h2), if_neg (by simp_all)]; exact Weak.refl _))
  | (refine ret_p rfl ?_
     rw [MendedL, MendedE, if_neg (by simpa using h2), if_pos (by simp_all), if_neg (by simpa using h2), if_pos (by simp_all)])
 ·try simp at h2
  refine hw_skip ?_
  refine seqQ_n ?_
  refine hw_seq ?_
  refine hw_reg ?_
  refine dp rfl (pop_move rfl) ?_
  refine dp rfl (pop_call ca73 rfl (WeakL.refl _) c_base_Moment) ?_
  refine dp rfl (pop_not rfl) ?_
  refine dn ?_
  refine hw_cond rfl (fun h3 => ?_) (fun h4 => ?_)
  ·try simp at h3
   refine hw_reg ?_
   refine dp rfl (pop_assign rfl) ?_
   refine dp rfl (pop_assign rfl) ?_
   refine dn ?_
   refine hw_ret ?_
   first
   | exact ret_w rfl (weak_tup2 (by rw [MendedL, if_pos (by simpa using h1)]; exact weak_nil 3) (by rw [MendedE, if_pos (by simpa using h1)]; exact Weak.refl _))
   | exact ret_w rfl (weak_tup2 (by rw [MendedL, if_neg (by simpa using h2), if_neg (by simp_all)]; exact weak_nil 3) (by rw [MendedE, if_neg (by simpa using h2), if_neg (by simp_all)]; exact Weak.refl _))
   | (refine ret_p rfl ?_
      rw [MendedL, MendedE, if_neg (by simpa using h2), if_pos (by simp_all), if_neg (by simpa using h2), if_pos (by simp_all)])
  ·try simp at h4
   refine hw_skip ?_
   refine seqQ_n ?_
   refine hw_reg ?_
   refine dp rfl (pop_move rfl) ?_
   refine dp rfl (pop_move rfl) ?_
   refine dp rfl (pop_move rfl) ?_
   refine dp rfl (pop_call ca76 rfl (WeakL.refl _) (c_play_mended (l := l) (m := m) (n := n) hl hm hL (line_names (or2z h2).1) (h40 (or2z h2).1))) ?_
   refine dp rfl (pop_extract rfl rfl) ?_
   refine dp rfl (pop_extract rfl rfl) ?_
   refine dp rfl (pop_assign rfl) ?_
   refine dp rfl (pop_assign rfl) ?_
   refine dn ?_
   refine hw_ret ?_
   first
   | exact ret_w rfl (weak_tup2 (by rw [MendedL, if_pos (by simpa using h1)]; exact weak_nil 3) (by rw [MendedE, if_pos (by simpa using h1)]; exact Weak.refl _))
   | exact ret_w rfl (weak_tup2 (by rw [MendedL, if_neg (by simpa using h2), if_neg (by simp_all)]; exact weak_nil 3) (by rw [MendedE, if_neg (by simpa using h2), if_neg (by simp_all)]; exact Weak.refl _))
   | (refine ret_p rfl ?_
      rw [MendedL, MendedE, if_neg (by simpa using h2), if_pos (by simp_all), if_neg (by simpa using h2), if_pos (by simp_all)])

/-- benchwarmer/play.counts -/
theorem c_play_counts [Tracks] {l : List LineS} (hl : l.length ≤ 1000) (hL : ∀ x ∈ l, x.Stats.length ≤ 1000) : Con Tryz.prog 83 [eLines l] [] (fun x M' => ∃ b, x = .raw (.map (some b)) ∧ M' = [.map b (kk eCnt (em (HVal.int .i64) (cnL l)))]) := by
 refine Con.of_body Tryz.func83 rfl Tryz.ntmps83 rfl rfl ?_
 refine hw_reg ?_
 refine dp rfl (pop_assign rfl) ?_
 refine dn ?_
 refine hw_reg ?_
 refine de rfl (eop_makeMap fun m8 => ?_)
 refine dp rfl (pop_assign rfl) ?_
 refine dn ?_
 refine hw_seq ?_
 refine hw_reg ?_
 refine dp rfl (pop_move rfl) ?_
 refine dp rfl (pop_lenm ty54 rfl) ?_
 refine dp rfl (pop_move rfl) ?_
 refine dn ?_
 refine hw_block ?_
 refine hw_loopw [5, 7, 11, 12, 13, 14, 15, 16, 17, 18, 19, 20, 21, 22, 23, 24, 25, 26, 27, 28, 29, 30, 31, 32, 33, 34] (fun (k : Nat) => [(11, .int .i64 k)]) (fun (k : Nat) => [.map m8 (kk eCnt (em (HVal.int .i64) (cnL (l.take k))))]) (fun (k : Nat) => k ≤ l.length ∧ (True)) (fun (k : Nat) => l.length - k) (0) ?_ ?_ ?_ ?_
 ·exact ⟨Nat.zero_le _, trivial⟩
 ·exact ⟨rfl, trivial⟩
 ·exact perm_eq rfl
 ·intro k hinv
  obtain ⟨hk, -⟩ := hinv
  refine hw_reg ?_
  refine dp rfl (pop_lss rfl rfl) ?_
  refine dn ?_
  refine hw_seq ?_
  refine hw_cond rfl (fun h1 => ?_) (fun h2 => ?_)
  ·try simp at h1
   obtain ⟨x, hx⟩ : ∃ x, l[k]? = some x := ⟨_, List.getElem?_eq_getElem h1⟩
   have hdx := drop_cons hx
   have hsl := hL x (List.mem_of_getElem? hx)
   refine hw_skip ?_
   refine seqQ_n ?_
   refine hw_seq ?_
   refine hw_block ?_
   refine hw_reg ?_
   refine dp rfl (pop_idx ty54 ty63 rfl rfl rfl (by first | assumption | simp_all)) ?_
   refine dp rfl (pop_loadw ty63 rfl rfl rfl rfl) ?_
   refine de rfl (eop_alloc ty63 rfl fun b5 => ?_)
   refine de0 (eop_storew ty63 rfl rfl rfl rfl rfl ?_)
   refine dn ?_
   refine hw_ghost (Ghost.fc0 5 rfl) ?_
   refine hw_reg ?_
   refine dp rfl (pop_fieldAddr ty63 rfl ty61 (by decide) rfl) ?_
   refine dp rfl (pop_load ty61 rfl rfl rfl) ?_
   refine dp rfl (pop_lenm ty61 rfl) ?_
   refine dp rfl (pop_move rfl) ?_
   refine dn ?_
   refine hw_block ?_
   refine hw_loopw [7, 18, 19, 20, 21, 22, 23, 24, 25, 26, 27, 28, 29, 30, 31, 32, 33] (fun (j : Nat) => [(18, .int .i64 j)]) (fun (j : Nat) => [.map m8 (kk eCnt (em (HVal.int .i64) (cnRow x (cnL (l.take k)) (x.Stats.take j))))]) (fun (j : Nat) => j ≤ x.Stats.length ∧ (True)) (fun (j : Nat) => x.Stats.length - j) (0) ?_ ?_ ?_ ?_
   ·exact ⟨Nat.zero_le _, trivial⟩
   ·exact ⟨rfl, trivial⟩
   ·exact perm_eq rfl
   ·intro j hinv
    obtain ⟨hj, -⟩ := hinv
    refine hw_reg ?_
    refine dp rfl (pop_lss rfl rfl) ?_
    refine dn ?_
    refine hw_seq ?_
    refine hw_cond rfl (fun h3 => ?_) (fun h4 => ?_)
    ·try simp at h3
     obtain ⟨s, hs⟩ : ∃ s, x.Stats[j]? = some s := ⟨_, List.getElem?_eq_getElem h3⟩
     have hds := drop_cons hs
     refine hw_skip ?_
     refine seqQ_n ?_
     refine hw_seq ?_
     refine hw_block ?_
     refine hw_reg ?_
     refine dp rfl (pop_idx ty61 ty121 rfl rfl rfl (by first | assumption | simp_all)) ?_
     refine dp rfl (pop_loadw ty121 rfl rfl rfl rfl) ?_
     refine de rfl (eop_alloc ty121 rfl fun b7 => ?_)
     refine de0 (eop_storew ty121 rfl rfl rfl rfl rfl ?_)
     refine dn ?_
     refine hw_ghost (Ghost.fc0 7 rfl) ?_
     refine hw_reg1 ?_
     refine dp rfl (pop_move rfl) ?_
     refine dp rfl (pop_fieldAddr ty63 rfl ty9 (by decide) rfl) ?_
     refine dp rfl (pop_load ty9 rfl rfl rfl) ?_
     refine dp rfl (pop_fieldAddr ty63 rfl ty3 (by decide) rfl) ?_
     refine dp rfl (pop_load ty3 rfl rfl rfl) ?_
     refine dp rfl (pop_build (cs := [_, _]) ty129 pl129 rfl) ?_
     refine dp rfl (pop_fieldAddr ty121 rfl ty9 (by decide) rfl) ?_
     refine dp rfl (pop_load ty9 rfl rfl rfl) ?_
     refine dp rfl (pop_build (cs := [_, _, _]) ty131 pl131 rfl) ?_
     refine dp rfl (pop_fieldAddr ty121 rfl ty3 (by decide) rfl) ?_
     refine dp rfl (pop_load ty3 rfl rfl rfl) ?_
     refine de0 (eop_updatekA (i := 0) (s := (x.Player, x.Week, s.Name)) (v := s.Count) ty126 ok131 rfl rfl rfl rfl ?_)
     refine dn ?_
     refine blockQ_n ?_
     refine seqQ_n ?_
     refine hw_reg1 ?_
     refine dp rfl (pop_add64 rfl rfl (by omega) (by omega)) ?_
     refine dp rfl (pop_move rfl) ?_
     refine dn ?_
     exact ⟨j + 1, ⟨by omega, trivial⟩, by dsimp only; omega, ⟨rfl, trivial⟩, (by repeat (first | exact keeps_refl | refine keeps_upd rfl ?_ | refine keeps_loop rfl rfl ?_)), perm_eq (by dsimp only; rw [cnRow_snoc hs]; rfl)⟩
    ·try simp at h4
     have hnj : x.Stats.length ≤ j := by omega
     obtain rfl : j = x.Stats.length := by omega
     rw [List.take_length]
     refine hw_exit ?_
     refine seqQ_x ?_
     refine loopQ_x ?_
     refine blockQ_eq ?_
     refine blockQ_n ?_
     refine seqQ_n ?_
     refine hw_reg1 ?_
     refine dp rfl (pop_add64 rfl rfl (by omega) (by omega)) ?_
     refine dp rfl (pop_move rfl) ?_
     refine dn ?_
     exact ⟨k + 1, ⟨by omega, trivial⟩, by dsimp only; omega, ⟨rfl, trivial⟩, (by repeat (first | exact keeps_refl | refine keeps_upd rfl ?_ | refine keeps_loop rfl rfl ?_)), perm_eq (by dsimp only; rw [cnL_snoc hx])⟩
  ·try simp at h2
   have hnk : l.length ≤ k := by omega
   obtain rfl : k = l.length := by omega
   rw [List.take_length]
   refine hw_exit ?_
   refine seqQ_x ?_
   refine loopQ_x ?_
   refine blockQ_eq ?_
   refine seqQ_n ?_
   refine hw_reg ?_
   refine dp rfl (pop_move rfl) ?_
   refine dp rfl (pop_assign rfl) ?_
   refine dn ?_
   refine hw_ret ?_
   exact ret_q rfl ⟨_, rfl, rfl⟩

theorem c_clone_counts [Tracks] {b : Nat} {l : List (HVal × HVal)} : Con Tryz.prog 134 [.raw (.map (some b))] [.map b l] fun x M' => ∃ b', x = .raw (.map (some b')) ∧ M' = [.map b' l, .map b l] :=
 con_clone Tryz.g134

/-- maps.Copy[map[benchwarmer/play.count]int,map[benchwarmer/play.count]int,benchwarmer/play.count,int] -/
theorem c_copy_counts [Tracks] {bd bs : Nat} {D0 S : List (Cnt × Int)} (hS : S.length ≤ 1000000) : Con Tryz.prog 135 [.raw (.map (some bd)), .raw (.map (some bs))] [.map bd (kk eCnt (em (HVal.int .i64) D0)), .map bs (kk eCnt (em (HVal.int .i64) S))] (fun x M' => ∃ E, x = .tup [] ∧ E.Perm S ∧ M' = [.map bd (kk eCnt (em (HVal.int .i64) (merA D0 E))), .map bs (kk eCnt (em (HVal.int .i64) S))]) := by
 refine Con.of_body Tryz.func135 rfl Tryz.ntmps135 rfl rfl ?_
 refine hw_reg ?_
 refine dp rfl (pop_move rfl) ?_
 refine de rfl (eop_range (i := 1) ty126 rfl rfl fun r => ?_)
 refine dn ?_
 refine hw_block ?_
 refine hw_loopw2 [4, 5, 8, 9, 10, 11, 12, 13, 14, 15] (fun (vis : List Nat) (E : List (Cnt × Int)) => []) (fun (vis : List Nat) (E : List (Cnt × Int)) => [.map bd (kk eCnt (em (HVal.int .i64) (merA D0 E))), .iter r bs (kk eCnt (em (HVal.int .i64) S)) vis]) (fun (vis : List Nat) (E : List (Cnt × Int)) => VisOk (S) vis E ∧ (True)) (fun (vis : List Nat) (E : List (Cnt × Int)) => (S).length - vis.length) ([]) ([]) ?_ ?_ ?_ ?_
 ·exact ⟨VisOk.nil _, trivial⟩
 ·exact trivial
 ·exact perm_eq rfl
 ·intro vis E hinv
  obtain ⟨hvis, -⟩ := hinv
  refine hw_reg ?_
  refine de rfl (eop_nextA (i := 1) (L := S) (enc := (fun p : Cnt × Int => (eCnt p.1, HVal.int .i64 p.2))) rfl rfl (kk_em _ _ _) hvis.nd hvis.lt fun cb R vis' hnx => ?_)
  refine dp rfl (pop_extract rfl rfl) ?_
  refine dn ?_
  refine hw_seq ?_
  refine hw_cond rfl (fun h1 => ?_) (fun h2 => ?_)
  ·try simp at h1
   obtain ⟨j, q, hq, hj, rfl⟩ := hnx.t h1
   have hroom := hvis.room hq hj
   have hstep := hvis.step hq hj
   have hqm := List.mem_of_getElem? hq
   refine hw_skip ?_
   refine seqQ_n ?_
   refine hw_block ?_
   refine hw_reg ?_
   refine de rfl (eop_entryA (i := 1) (L := S) (enc := (fun p : Cnt × Int => (eCnt p.1, HVal.int .i64 p.2))) rfl rfl (kk_em _ _ _) hq ?_)
   refine dp rfl (pop_extract rfl rfl) ?_
   refine dp rfl (pop_extract rfl rfl) ?_
   refine de rfl (eop_alloc ty131 rfl fun b4 => ?_)
   refine de0 (eop_storew ty131 rfl rfl rfl rfl rfl ?_)
   refine dp rfl (pop_assign rfl) ?_
   refine dn ?_
   refine hw_ghost (Ghost.fc0 4 rfl) ?_
   refine hw_reg1 ?_
   refine dp rfl (pop_move rfl) ?_
   refine dp rfl (pop_loadw ty131 rfl rfl rfl rfl) ?_
   refine dp rfl (pop_move rfl) ?_
   refine de0 (eop_updatekA (i := 0) (s := q.1) (v := q.2) ty126 ok131 rfl rfl rfl rfl ?_)
   refine dn ?_
   refine blockQ_n ?_
   exact ⟨_, E ++ [q], ⟨hstep, trivial⟩, by dsimp only; rw [List.length_append]; simp only [List.length_cons, List.length_nil]; omega, trivial, (by repeat (first | exact keeps_refl | refine keeps_upd rfl ?_ | refine keeps_loop rfl rfl ?_)), perm_eq (by dsimp only; rw [merA_snoc]; rfl)⟩
  ·try simp at h2
   obtain ⟨rfl, hlen⟩ := hnx.f h2
   have hEp := hvis.done hlen
   refine hw_exit ?_
   refine seqQ_x ?_
   refine loopQ2_x ?_
   refine blockQ_eq ?_
   exact ret_g (Ghost.iterOver (i := 1) rfl) rfl ⟨E, rfl, hEp, rfl⟩

set_option maxHeartbeats 2000000 in
/-- benchwarmer/play.differ -/
theorem c_play_differ [Tracks] {a b : List LineS} (hla : a.length ≤ 1000) (hLa : ∀ x ∈ a, x.Stats.length ≤ 100) (hlb : b.length ≤ 1000) (hLb : ∀ x ∈ b, x.Stats.length ≤ 100) : ConP Tryz.prog 77 [eLines a, eLines b] (eTurneds (dfL a b)) := by
 have hka := cnL_many hLa
 have hkb := cnL_many hLb
 refine Con.of_body Tryz.func77 rfl Tryz.ntmps77 rfl rfl ?_
 refine hw_reg ?_
 refine dp rfl (pop_assign rfl) ?_
 refine dn ?_
 refine hw_reg ?_
 refine dp rfl (pop_move rfl) ?_
 refine de rfl (eop_callf (M1 := []) (R := []) ca83 rfl (WeakL.refl _) (List.Perm.refl _) (c_play_counts (l := a) hla (fun x hx => Nat.le_trans (hLa x hx) (by decide))) ?_)
 rintro _ _ ⟨b11, rfl, rfl⟩
 refine dp rfl (pop_move rfl) ?_
 refine de rfl (eop_callf (M1 := []) (R := [.map b11 (kk eCnt (em (HVal.int .i64) (cnL a)))]) ca83 rfl (WeakL.refl _) (List.Perm.refl _) (c_play_counts (l := b) hlb (fun x hx => Nat.le_trans (hLb x hx) (by decide))) ?_)
 rintro _ _ ⟨b13, rfl, rfl⟩
 refine dp rfl (pop_assign rfl) ?_
 refine dp rfl (pop_assign rfl) ?_
 refine dn ?_
 refine hw_reg ?_
 refine dp rfl (pop_move rfl) ?_
 refine de rfl (eop_callf (M1 := [.map b11 (kk eCnt (em (HVal.int .i64) (cnL a)))]) (R := [.map b13 (kk eCnt (em (HVal.int .i64) (cnL b)))]) ca134 rfl (WeakL.refl _) (List.Perm.swap _ _ _) c_clone_counts ?_)
 rintro _ _ ⟨b15, rfl, rfl⟩
 refine dp rfl (pop_assign rfl) ?_
 refine dn ?_
 refine hw_reg ?_
 refine dp rfl (pop_move rfl) ?_
 refine dp rfl (pop_move rfl) ?_
 refine de rfl (eop_callf (M1 := [.map b15 (kk eCnt (em (HVal.int .i64) (cnL a))), .map b13 (kk eCnt (em (HVal.int .i64) (cnL b)))]) (R := [.map b11 (kk eCnt (em (HVal.int .i64) (cnL a)))]) ca135 rfl (WeakL.refl _) (List.Perm.cons _ (List.Perm.swap _ _ _)) (c_copy_counts (D0 := cnL a) (S := cnL b) (by omega)) ?_)
 rintro _ _ ⟨E0, rfl, hE0, rfl⟩
 refine dn ?_
 have hDl := merA_len E0 (cnL a)
 have hE0l := hE0.length_eq
 generalize hD : merA (cnL a) E0 = D at hDl ⊢
 refine hw_reg ?_
 refine dp rfl (pop_assign rfl) ?_
 refine dn ?_
 refine hw_ghost (Ghost.arr_nil 5) ?_
 refine hw_seq ?_
 refine hw_reg ?_
 refine dp rfl (pop_move rfl) ?_
 refine de rfl (eop_range (i := 1) ty126 rfl rfl fun r => ?_)
 refine dn ?_
 refine hw_block ?_
 refine hw_loopw3 [8, 9, 21, 22, 23, 24, 25, 26, 27, 28, 29, 30, 31, 32, 33, 34, 35, 36, 37, 38, 39, 40, 41, 42, 43, 44, 45, 46, 47, 48, 49] (fun (vis : List Nat) (E : List (Cnt × Int)) (u : Value) => [(8, .raw u)]) (fun (vis : List Nat) (E : List (Cnt × Int)) (u : Value) => [.arr u 5 (((E.map (·.1)).filterMap (dfT a b)).map eTurned), .iter r b15 (kk eCnt (em (HVal.int .i64) D)) vis, .map b13 (kk eCnt (em (HVal.int .i64) (cnL b))), .map b11 (kk eCnt (em (HVal.int .i64) (cnL a)))]) (fun (vis : List Nat) (E : List (Cnt × Int)) (u : Value) => VisOk (D) vis E ∧ (True)) (fun (vis : List Nat) (E : List (Cnt × Int)) (u : Value) => (D).length - vis.length) ([]) ([]) (.slice none 0 0) ?_ ?_ ?_ ?_
 ·exact ⟨VisOk.nil _, trivial⟩
 ·exact ⟨rfl, trivial⟩
 ·exact perm_eq rfl
 ·intro vis E u hinv
  obtain ⟨hvis, -⟩ := hinv
  refine hw_reg ?_
  refine de rfl (eop_nextA (i := 1) (L := D) (enc := (fun p : Cnt × Int => (eCnt p.1, HVal.int .i64 p.2))) rfl rfl (kk_em _ _ _) hvis.nd hvis.lt fun cb R vis' hnx => ?_)
  refine dp rfl (pop_extract rfl rfl) ?_
  refine dn ?_
  refine hw_seq ?_
  refine hw_cond rfl (fun h1 => ?_) (fun h2 => ?_)
  ·try simp at h1
   obtain ⟨j, q, hq, hj, rfl⟩ := hnx.t h1
   have hroom := hvis.room hq hj
   have hstep := hvis.step hq hj
   have hqm := List.mem_of_getElem? hq
   refine hw_skip ?_
   refine seqQ_n ?_
   refine hw_block ?_
   refine hw_reg ?_
   refine de rfl (eop_entryA (i := 1) (L := D) (enc := (fun p : Cnt × Int => (eCnt p.1, HVal.int .i64 p.2))) rfl rfl (kk_em _ _ _) hq ?_)
   refine dp rfl (pop_extract rfl rfl) ?_
   refine de rfl (eop_alloc ty131 rfl fun b9 => ?_)
   refine de0 (eop_storew ty131 rfl rfl rfl rfl rfl ?_)
   refine dn ?_
   refine hw_ghost (Ghost.fc0 9 rfl) ?_
   refine hw_draw (fun M => M = [.arr u 5 (((E.map (·.1)).filterMap (dfT a b)).map eTurned), .iter r b15 (kk eCnt (em (HVal.int .i64) D)) (vis ++ [j]), .map b13 (kk eCnt (em (HVal.int .i64) (cnL b))), .map b11 (kk eCnt (em (HVal.int .i64) (cnL a)))]) [2, 5] mixed ?_
   refine ahp 0 rfl rfl (by kernel_rfl) (by kernel_rfl) (pop_move rfl) ?_
   refine ahp 1 rfl rfl (by kernel_rfl) (by kernel_rfl) (pop_loadw ty131 rfl rfl rfl rfl) ?_
   refine ahl 2 rfl rfl (by kernel_rfl) (by kernel_rfl) (by simp) rfl (fun M hM => by
   subst hM
   exact eop_lookupkA (i := 3) (s := q.1) (z0 := (0 : Int)) (f := (HVal.int .i64)) ty126 ok131 ty3 rfl rfl rfl rfl ⟨rfl, rfl⟩) ?_
   refine ahp 3 rfl rfl (by kernel_rfl) (by kernel_rfl) (pop_move rfl) ?_
   refine ahp 4 rfl rfl (by kernel_rfl) (by kernel_rfl) (pop_loadw ty131 rfl rfl rfl rfl) ?_
   refine ahl 5 rfl rfl (by kernel_rfl) (by kernel_rfl) (by simp) rfl (fun M hM => by
   subst hM
   exact eop_lookupkA (i := 2) (s := q.1) (z0 := (0 : Int)) (f := (HVal.int .i64)) ty126 ok131 ty3 rfl rfl rfl rfl ⟨rfl, rfl⟩) ?_
   refine ahp 6 rfl rfl (by kernel_rfl) (by kernel_rfl) (pop_neq rfl rfl) ?_
   refine ahz (by kernel_rfl) ?_
   refine hw_cond rfl (fun h3 => ?_) (fun h4 => ?_)
   ·try simp at h3
    refine hw_draw1 (fun M => ∃ a0 : MObj, M = [a0, .iter r b15 (kk eCnt (em (HVal.int .i64) D)) (vis ++ [j]), .map b13 (kk eCnt (em (HVal.int .i64) (cnL b))), .map b11 (kk eCnt (em (HVal.int .i64) (cnL a)))]) [11, 14] mixed ?_
    refine ahp 0 rfl rfl (by kernel_rfl) (by kernel_rfl) (pop_move rfl) ?_
    refine ahp 1 rfl rfl (by kernel_rfl) (by kernel_rfl) ((by first | exact pop_fieldAddr ty131 rfl ty129 (by decide) rfl | exact pop_fieldAddr_raw ty131 rfl ty129 (by decide) rfl)) ?_
    refine ahp 2 rfl rfl (by kernel_rfl) (by kernel_rfl) ((by first | exact pop_fieldAddr ty129 rfl ty9 (by decide) rfl | exact pop_fieldAddr_raw ty129 rfl ty9 (by decide) rfl)) ?_
    refine ahp 3 rfl rfl (by kernel_rfl) (by kernel_rfl) (pop_load ty9 rfl rfl rfl) ?_
    refine ahp 4 rfl rfl (by kernel_rfl) (by kernel_rfl) ((by first | exact pop_fieldAddr ty131 rfl ty129 (by decide) rfl | exact pop_fieldAddr_raw ty131 rfl ty129 (by decide) rfl)) ?_
    refine ahp 5 rfl rfl (by kernel_rfl) (by kernel_rfl) ((by first | exact pop_fieldAddr ty129 rfl ty3 (by decide) rfl | exact pop_fieldAddr_raw ty129 rfl ty3 (by decide) rfl)) ?_
    refine ahp 6 rfl rfl (by kernel_rfl) (by kernel_rfl) (pop_load ty3 rfl rfl rfl) ?_
    refine ahp 7 rfl rfl (by kernel_rfl) (by kernel_rfl) ((by first | exact pop_fieldAddr ty131 rfl ty9 (by decide) rfl | exact pop_fieldAddr_raw ty131 rfl ty9 (by decide) rfl)) ?_
    refine ahp 8 rfl rfl (by kernel_rfl) (by kernel_rfl) (pop_load ty9 rfl rfl rfl) ?_
    refine ahp 9 rfl rfl (by kernel_rfl) (by kernel_rfl) (pop_move rfl) ?_
    refine ahp 10 rfl rfl (by kernel_rfl) (by kernel_rfl) (pop_loadw ty131 rfl rfl rfl rfl) ?_
    refine ahl 11 rfl rfl (by kernel_rfl) (by kernel_rfl) (by simp) ⟨_, rfl⟩ (fun M hM => by
   obtain ⟨a0, rfl⟩ := hM
   exact eop_lookupkA (i := 3) (s := q.1) (z0 := (0 : Int)) (f := (HVal.int .i64)) ty126 ok131 ty3 rfl rfl rfl rfl ⟨rfl, rfl⟩) ?_
    refine ahp 12 rfl rfl (by kernel_rfl) (by kernel_rfl) (pop_move rfl) ?_
    refine ahp 13 rfl rfl (by kernel_rfl) (by kernel_rfl) (pop_loadw ty131 rfl rfl rfl rfl) ?_
    refine ahl 14 rfl rfl (by kernel_rfl) (by kernel_rfl) (by simp) ⟨_, rfl⟩ (fun M hM => by
   obtain ⟨a0, rfl⟩ := hM
   exact eop_lookupkA (i := 2) (s := q.1) (z0 := (0 : Int)) (f := (HVal.int .i64)) ty126 ok131 ty3 rfl rfl rfl rfl ⟨rfl, rfl⟩) ?_
    refine ahp 15 rfl rfl (by kernel_rfl) (by kernel_rfl) (pop_build (cs := [_, _, _, _, _]) ty53 pl53 rfl) ?_
    refine ahp 16 rfl rfl (by kernel_rfl) (by kernel_rfl) (pop_buildSlice (hs := [_]) ty49 ty53 rfl rfl (by decide) (by decide) rfl) ?_
    refine ahe 17 rfl (by kernel_rfl) ?_
    refine hop_e rfl (eop_append (i := 0) ty49 ty53 rfl rfl rfl rfl rfl (by simp [flat, hcells]) (by have h8 := dfT_len a b E; have h9 := hvis.len; simp only [List.length_map, List.length_cons, List.length_nil]; omega) fun v49 => ?_)
    refine ⟨fun _ => .inl ⟨_, rfl⟩, ?_⟩
    refine ahp 18 rfl rfl (by kernel_rfl) (by kernel_rfl) (pop_assign rfl) ?_
    refine ahz (by kernel_rfl) ?_
    refine blockQ_n ?_
    exact ⟨_, E ++ [q], v49, ⟨hstep, trivial⟩, by dsimp only; rw [List.length_append]; simp only [List.length_cons, List.length_nil]; omega, ⟨rfl, trivial⟩, (by repeat (first | exact keeps_refl | refine keeps_upd rfl ?_ | refine keeps_loop rfl rfl ?_)), perm_eq (by dsimp only; rw [dfT_snoc, dfT_yes (by assumption)]; simp only [Option.toList, List.map_append, List.map_cons, List.map_nil, List.append_nil]; rfl)⟩
   ·try simp at h4
    refine hw_skip ?_
    refine blockQ_n ?_
    exact ⟨_, E ++ [q], u, ⟨hstep, trivial⟩, by dsimp only; rw [List.length_append]; simp only [List.length_cons, List.length_nil]; omega, ⟨rfl, trivial⟩, (by repeat (first | exact keeps_refl | refine keeps_upd rfl ?_ | refine keeps_loop rfl rfl ?_)), perm_eq (by dsimp only; rw [dfT_snoc, dfT_no (by assumption)]; simp only [Option.toList, List.map_append, List.map_cons, List.map_nil, List.append_nil]; rfl)⟩
  ·try simp at h2
   obtain ⟨rfl, hlen⟩ := hnx.f h2
   have hEp := hvis.done hlen
   refine hw_exit ?_
   refine seqQ_x ?_
   refine loopQ3_x ?_
   refine blockQ_eq ?_
   refine seqQ_n ?_
   refine hw_ghost (Ghost.iterOver (i := 1) rfl) ?_
   refine hw_ghost (Ghost.of_eq (M' := [.arr u 5 (((E.map (·.1)).filterMap (dfT a b)).map eTurned), .map b15 (kk eCnt (em (HVal.int .i64) D)), .map b13 (kk eCnt (em (HVal.int .i64) (cnL b))), .map b11 (kk eCnt (em (HVal.int .i64) (cnL a)))]) rfl) ?_
   refine hw_reg ?_
   refine dp rfl (pop_move rfl) ?_
   refine de rfl (eop_callf (M1 := [.arr u 5 (((E.map (·.1)).filterMap (dfT a b)).map eTurned)]) (R := _) ca100 rfl (WeakL.refl _) (List.Perm.refl _) (c_sort_Turned (c := byTu) (swo_cmp byTu_cmp) ca136 (fun _ _ => @c_play_differ_1 trackOn _ _) (l := ((E.map (·.1)).filterMap (dfT a b))) (by have := dfT_len a b E; have := hEp.length_eq; omega)) ?_)
   rintro _ _ ⟨l', rfl, hp', hw', rfl⟩
   obtain rfl := dfL_of ((hEp.map _).trans (by rw [← hD]; exact merA_perm (cnL_nodup a) hE0)) hp' hw'
   refine dn ?_
   refine hw_ghost (Ghost.only (i := 0) rfl) ?_
   refine hw_reg ?_
   refine dp rfl (pop_move rfl) ?_
   refine dp rfl (pop_assign rfl) ?_
   refine dn ?_
   refine hw_ret ?_
   exact ret_fa (M := []) 4 rfl rfl rfl

/-- benchwarmer/play.Differ -/
theorem c_play_Differ [Tracks] {a b : List LineS} (hla : a.length ≤ 1000) (hLa : ∀ x ∈ a, x.Stats.length ≤ 100) (hlb : b.length ≤ 1000) (hLb : ∀ x ∈ b, x.Stats.length ≤ 100) : ConP Tryz.prog 23 [eLines a, eLines b] (.tup [eTurneds (if orI [linesFE a, linesFE b] ≠ 0 then [] else dfL a b), .int .i64 (orI [linesFE a, linesFE b])]) := by
 refine Con.of_body Tryz.func23 rfl Tryz.ntmps23 rfl rfl ?_
 refine hw_reg ?_
 refine dp rfl (pop_assign rfl) ?_
 refine dp rfl (pop_assign rfl) ?_
 refine dn ?_
 refine hw_seq ?_
 refine hw_reg ?_
 refine dp rfl (pop_move rfl) ?_
 refine dp rfl (pop_call ca26 rfl (WeakL.refl _) (c_play_CheckLines (l := a) (by omega) (fun x hx => Nat.le_trans (hLa x hx) (by decide)))) ?_
 refine dp rfl (pop_move rfl) ?_
 refine dp rfl (pop_call ca26 rfl (WeakL.refl _) (c_play_CheckLines (l := b) (by omega) (fun x hx => Nat.le_trans (hLb x hx) (by decide)))) ?_
 refine dp rfl (pop_buildSlice (hs := [_, _]) ty136 ty31 rfl rfl (by decide) (by decide) rfl) ?_
 refine dp rfl (pop_call ca65 rfl (WeakL.refl _) (c_base_First (l := [_, _]) (by simp))) ?_
 refine dp rfl (pop_assign rfl) ?_
 refine dn ?_
 refine hw_reg ?_
 refine dp rfl (pop_move rfl) ?_
 refine dp rfl (pop_neq rfl rfl) ?_
 refine dn ?_
 refine hw_cond rfl (fun h1 => ?_) (fun h2 => ?_)
 ·try simp at h1
  refine hw_reg ?_
  refine dp rfl (pop_move rfl) ?_
  refine dp rfl (pop_assign rfl) ?_
  refine dp rfl (pop_assign rfl) ?_
  refine dn ?_
  refine hw_ret ?_
  first
  | exact ret_w rfl (weak_tup2 (by rw [if_pos (by simpa using h1)]; exact weak_nil 5) (Weak.refl _))
  | (refine ret_p rfl ?_
     have hz : orI [linesFE a, linesFE b] = 0 := by simpa using h2
     rw [if_neg (by simpa using h2), hz]; rfl)
 ·try simp at h2
  refine hw_skip ?_
  refine seqQ_n ?_
  refine hw_reg ?_
  refine dp rfl (pop_move rfl) ?_
  refine dp rfl (pop_move rfl) ?_
  refine dp rfl (pop_call ca77 rfl (WeakL.refl _) (c_play_differ hla hLa hlb hLb)) ?_
  refine dp rfl (pop_assign rfl) ?_
  refine dp rfl (pop_assign rfl) ?_
  refine dn ?_
  refine hw_ret ?_
  first
  | exact ret_w rfl (weak_tup2 (by rw [if_pos (by simpa using h1)]; exact weak_nil 5) (Weak.refl _))
  | (refine ret_p rfl ?_
     have hz : orI [linesFE a, linesFE b] = 0 := by simpa using h2
     rw [if_neg (by simpa using h2), hz]; rfl)

/-- benchwarmer/play.Count -/
theorem c_play_Count [Tracks] {l : List LineS} {p : Str} {w : Int} {s : Str} (hl : l.length ≤ 1000) (hL : ∀ x ∈ l, x.Stats.length ≤ 1000) : ConP Tryz.prog 27 [eLines l, .str p, .int .i64 w, .str s] (.tup [.int .i64 (CountV l p w s), .int .i64 (CountE l p w s)]) := by
 refine Con.of_body Tryz.func27 rfl Tryz.ntmps27 rfl rfl ?_
 refine hw_reg ?_
 refine dp rfl (pop_assign rfl) ?_
 refine dp rfl (pop_assign rfl) ?_
 refine dn ?_
 refine hw_seq ?_
 refine hw_reg ?_
 refine dp rfl (pop_move rfl) ?_
 refine dp rfl (pop_call ca26 rfl (WeakL.refl _) (c_play_CheckLines (l := l) (by omega) (fun x hx => Nat.le_trans (hL x hx) (by decide)))) ?_
 refine dp rfl (pop_assign rfl) ?_
 refine dn ?_
 refine hw_reg ?_
 refine dp rfl (pop_move rfl) ?_
 refine dp rfl (pop_neq rfl rfl) ?_
 refine dn ?_
 refine hw_cond rfl (fun h1 => ?_) (fun h2 => ?_)
 ·try simp at h1
  refine hw_reg ?_
  refine dp rfl (pop_move rfl) ?_
  refine dp rfl (pop_assign rfl) ?_
  refine dp rfl (pop_assign rfl) ?_
  refine dn ?_
  refine hw_ret ?_
  refine ret_g Ghost.clear rfl ⟨?_, rfl⟩
  show HVal.tup [.int .i64 _, .int .i64 _] = _
  unfold CountV CountE cntOf
  simp_all
 ·try simp at h2
  refine hw_skip ?_
  refine seqQ_n ?_
  refine hw_seq ?_
  refine hw_block ?_
  refine hw_reg ?_
  refine dp rfl (pop_move rfl) ?_
  refine dp rfl (pop_call ca80 rfl (WeakL.refl _) c_base_Key) ?_
  refine dp rfl (pop_not rfl) ?_
  refine dp rfl (pop_assign rfl) ?_
  refine dn ?_
  refine hw_cond rfl (fun h3 => ?_) (fun h4 => ?_)
  ·try simp at h3
   refine hw_reg ?_
   refine dp rfl (pop_assign rfl) ?_
   refine dp rfl (pop_assign rfl) ?_
   refine dn ?_
   refine hw_ret ?_
   refine ret_g Ghost.clear rfl ⟨?_, rfl⟩
   show HVal.tup [.int .i64 _, .int .i64 _] = _
   unfold CountV CountE cntOf
   simp_all
  ·try simp at h4
   refine hw_reg ?_
   refine dp rfl (pop_move rfl) ?_
   refine dp rfl (pop_call ca72 rfl (WeakL.refl _) c_base_Week) ?_
   refine dp rfl (pop_not rfl) ?_
   refine dp rfl (pop_assign rfl) ?_
   refine dn ?_
   refine hw_cond rfl (fun h5 => ?_) (fun h6 => ?_)
   ·try simp at h5
    refine hw_reg ?_
    refine dp rfl (pop_assign rfl) ?_
    refine dp rfl (pop_assign rfl) ?_
    refine dn ?_
    refine hw_ret ?_
    refine ret_g Ghost.clear rfl ⟨?_, rfl⟩
    show HVal.tup [.int .i64 _, .int .i64 _] = _
    unfold CountV CountE cntOf
    simp_all
   ·try simp at h6
    refine hw_reg ?_
    refine dp rfl (pop_move rfl) ?_
    refine dp rfl (pop_call ca80 rfl (WeakL.refl _) c_base_Key) ?_
    refine dp rfl (pop_not rfl) ?_
    refine dp rfl (pop_assign rfl) ?_
    refine dn ?_
    refine hw_cond rfl (fun h7 => ?_) (fun h8 => ?_)
    ·try simp at h7
     refine hw_reg ?_
     refine dp rfl (pop_assign rfl) ?_
     refine dp rfl (pop_assign rfl) ?_
     refine dn ?_
     refine hw_ret ?_
     refine ret_g Ghost.clear rfl ⟨?_, rfl⟩
     show HVal.tup [.int .i64 _, .int .i64 _] = _
     unfold CountV CountE cntOf
     simp_all
    ·try simp at h8
     refine hw_skip ?_
     refine blockQ_n ?_
     refine seqQ_n ?_
     refine hw_reg ?_
     refine dp rfl (pop_move rfl) ?_
     refine de rfl (eop_callf (M1 := []) (R := []) ca83 rfl (WeakL.refl _) (List.Perm.refl _) (c_play_counts (l := l) hl hL) ?_)
     rintro _ _ ⟨b29, rfl, rfl⟩
     refine dp rfl (pop_move rfl) ?_
     refine dp rfl (pop_move rfl) ?_
     refine dp rfl (pop_build (cs := [_, _]) ty129 pl129 rfl) ?_
     refine dp rfl (pop_move rfl) ?_
     refine dp rfl (pop_build (cs := [_, _, _]) ty131 pl131 rfl) ?_
     refine de rfl (eop_lookupkA (i := 0) (s := (p, w, s)) (z0 := (0 : Int)) (f := (HVal.int .i64)) ty126 ok131 ty3 rfl rfl rfl rfl ?_)
     refine dp rfl (pop_assign rfl) ?_
     refine dp rfl (pop_assign rfl) ?_
     refine dn ?_
     refine hw_ret ?_
     refine ret_g Ghost.clear rfl ⟨?_, rfl⟩
     show HVal.tup [.int .i64 _, .int .i64 _] = _
     unfold CountV CountE cntOf
     simp_all
end Go.Proofs.YtkamelfigfbfiaaGreatDoor
end
section
namespace Go.HL
section
variable {κ : Type}
/-- The inner maps by the outer key: block and entries. -/
abbrev GrM (κ : Type) := List (Str × (Nat × List (κ × Int)))
end
end Go.HL
end
section
namespace Go.HL
section
variable {P : Program} {e : Env} {dst : Option Tmp} {ty : TypeId} {pos : String} {af : Array Edge} {g : Option (Nat × Bool)} {M : List MObj} {K : HVal → List MObj → Prop}
end
end Go.HL
end
section
namespace Go.HL
variable {P : Program}
open Go.Sort Go.Proofs
end Go.HL
end
section
namespace Go.HL
end Go.HL
end
section
namespace Go.HL
theorem Cmp.lt_trans {α : Type} {c : α → α → Int} {s : α → Prop} (h : Cmp c s) {x y z : α} (hx : s x) (hy : s y) (hz : s z) (h1 : c x y < 0) (h2 : c y z < 0) : c x z < 0 := by
 rcases Int.lt_or_le (c x z) 0 with q | q
 ·exact q
 ·exfalso
  have a1 := h.flip y z hy hz
  have a2 := h.flip z x hz hx
  have hzx : c z x ≤ 0 := by
   rcases Int.lt_or_le 0 (c z x) with r | r
   ·have := h.flip x z hx hz; omega
   ·exact r
  have := h.trans z x y hz hx hy hzx (by omega)
  omega
theorem cmpS_lt_trans {a b c : Str} (h1 : cmpS a b ≤ 0) (h2 : cmpS b c ≤ 0) (h : cmpS a c = 0) : cmpS a b = 0 ∧ cmpS b c = 0 := by
 have e := cmpS_zero.1 h
 subst e
 rw [cmpS_flip b a] at *
 omega
end Go.HL
end
section
namespace Go.HL
/-- The sums of one player. -/
def inner {κ : Type} (c : List ((Str × κ) × Int)) (s : Str) : List (κ × Int) := (c.filter fun e => e.1.1 == s).map fun e => (e.1.2, e.2)
theorem inner_put {κ : Type} [DecidableEq κ] (s : Str) (st : κ) (v : Int) (s' : Str) : ∀ c : List ((Str × κ) × Int), inner (aput (s, st) v c) s' = if s' = s then aput st v (inner c s) else inner c s'
 | [] => by
   by_cases e : s' = s
   ·subst e; simp [inner, aput]
   ·have : ¬ s = s' := fun q => e q.symm
    simp [inner, aput, e, this]
 | p :: r => by
   have ih := inner_put s st v s' r
   obtain ⟨⟨a, b⟩, w⟩ := p
   simp only [aput, Prod.mk.injEq]
   by_cases h1 : s = a
   ·subst h1
    by_cases h2 : st = b
    ·subst h2
     rw [if_pos ⟨rfl, rfl⟩]
     by_cases e : s' = s
     ·subst e; simp [inner, aput]
     ·have : ¬ s = s' := fun q => e q.symm
      simp [inner, e, this]
    ·rw [if_neg (fun q => h2 q.2)]
     by_cases e : s' = s
     ·subst e
      rw [if_pos rfl] at ih ⊢
      simp only [inner, List.filter_cons, beq_self_eq_true, if_true, List.map_cons, aput, if_neg h2] at ih ⊢
      rw [ih]
     ·have : ¬ s = s' := fun q => e q.symm
      rw [if_neg e] at ih ⊢
      simp only [inner, List.filter_cons, beq_iff_eq, if_neg this] at ih ⊢
      exact ih
   ·rw [if_neg (fun q => h1 q.1)]
    by_cases e : s' = s
    ·subst e
     have : ¬ a = s' := fun q => h1 q.symm
     rw [if_pos rfl] at ih ⊢
     simp only [inner, List.filter_cons, beq_iff_eq, if_neg this] at ih ⊢
     exact ih
    ·rw [if_neg e] at ih ⊢
     by_cases h3 : a = s'
     ·simp only [inner, List.filter_cons, beq_iff_eq, if_pos h3, List.map_cons] at ih ⊢
      rw [ih]
     ·simp only [inner, List.filter_cons, beq_iff_eq, if_neg h3] at ih ⊢
      exact ih
end Go.HL
end
section
namespace Go.HL
end Go.HL
end
section
namespace Go.HL
def byOf (a b : Of2) : Int := orI [cmpS a.1 b.1, cmpS a.2 b.2]
theorem byOf_eq (a b : Of2) : byOf a b = if cmpS a.1 b.1 ≠ 0 then cmpS a.1 b.1 else cmpS a.2 b.2 := by unfold byOf; rw [orI2]
theorem byOf_flip (a b : Of2) : byOf a b = -byOf b a := by
 unfold byOf
 rw [cmpS_flip a.1, cmpS_flip a.2, orI_flip]
theorem byOf_cmp : Cmp byOf (fun _ => True) where
 flip x y _ _ := by rw [byOf_flip x y]; omega
 trans x y z _ _ _ h1 h2 := by
  rw [byOf_eq] at *
  have k1 : cmpS x.1 y.1 ≤ 0 := by split at h1 <;> omega
  have k2 : cmpS y.1 z.1 ≤ 0 := by split at h2 <;> omega
  have k3 := cmpS_trans k1 k2
  split
  ·exact k3
  ·rename_i hz
   have hz' : cmpS x.1 z.1 = 0 := by simpa using hz
   obtain ⟨e1, e2⟩ := cmpS_lt_trans k1 k2 hz'
   rw [if_neg (by simp [e1])] at h1
   rw [if_neg (by simp [e2])] at h2
   exact cmpS_trans h1 h2
def OLt (a b : Of2) : Prop := byOf a b < 0
/-- The sums of each source: who told, and what they count. -/
structure DisS where
 S : List Str
 c : List ((Str × Of2) × Int)
def disKey (p : Play) : Str × Of2 := (p.Source, (p.Player, p.Stat))
def disPut (q : DisS) (p : Play) : List ((Str × Of2) × Int) := aput (disKey p) ((alk (disKey p) q.c).getD 0 + p.Count) q.c
end Go.HL
end
section
namespace Go.HL
theorem aput_keys' {α : Type} {s : Str} {v : α} : ∀ {G : List (Str × α)}, (aput s v G).map (·.1) = sadd s (G.map (·.1))
 | [] => by simp [aput, sadd]
 | p :: r => by
   have ih := aput_keys' (s := s) (v := v) (G := r)
   simp only [aput]
   by_cases h : s = p.1
   ·rw [if_pos h]
    unfold sadd
    rw [if_pos (by simp [h])]
    simp [h]
   ·rw [if_neg h, List.map_cons, ih]
    unfold sadd
    by_cases hc : (r.map (·.1)).contains s = true
    ·rw [if_pos hc, if_pos (by simp at hc ⊢; exact .inr hc)]; rfl
    ·rw [if_neg hc, if_neg (by simp at hc ⊢; exact ⟨h, hc⟩)]; rfl
theorem aput_mem' {α : Type} {s : Str} {v : α} {p : Str × α} : ∀ {G : List (Str × α)}, ANodup G → p ∈ aput s v G → p = (s, v) ∨ (p ∈ G ∧ p.1 ≠ s)
 | [], _, h => by simp [aput] at h; exact .inl h
 | q :: r, hn, h => by
   have h1 := List.nodup_cons.1 hn
   simp only [aput] at h
   by_cases hs : s = q.1
   ·rw [if_pos hs] at h
    rcases List.mem_cons.1 h with h | h
    ·exact .inl h
    ·refine .inr ⟨List.mem_cons_of_mem _ h, fun e => h1.1 ?_⟩
     show q.1 ∈ r.map (·.1)
     rw [← hs, ← e]; exact List.mem_map_of_mem h
   ·rw [if_neg hs] at h
    rcases List.mem_cons.1 h with h | h
    ·subst h; exact .inr ⟨by simp, fun e => hs e.symm⟩
    ·rcases aput_mem' h1.2 h with e | e
     ·exact .inl e
     ·exact .inr ⟨List.mem_cons_of_mem _ e.1, e.2⟩
section
variable {κ : Type}
/-- The maps of maps hold the flat sums. -/
structure GrOk (S : List Str) (c : List ((Str × κ) × Int)) (G : GrM κ) : Prop where
 keys : G.map (·.1) = S
 nodup : S.Nodup
 val : ∀ p ∈ G, p.2.2 = inner c p.1
 inS : ∀ e ∈ c, e.1.1 ∈ S
theorem GrOk.anodup {S : List Str} {c : List ((Str × κ) × Int)} {G : GrM κ} (h : GrOk S c G) : ANodup G := by unfold ANodup; rw [h.keys]; exact h.nodup
theorem GrOk.nil : GrOk ([] : List Str) ([] : List ((Str × κ) × Int)) [] := ⟨rfl, List.nodup_nil, (fun p h => by cases h), (fun e h => by cases h)⟩
theorem GrOk.get {S : List Str} {c : List ((Str × κ) × Int)} {G : GrM κ} (h : GrOk S c G) {s : Str} {b : Nat} {L : List (κ × Int)} (hq : alk s G = some (b, L)) : L = inner c s := h.val _ (alk_of_mem hq)
theorem GrOk.none {S : List Str} {c : List ((Str × κ) × Int)} {G : GrM κ} (h : GrOk S c G) {s : Str} : alk s G = none ↔ s ∉ S := by rw [alk_none, h.keys]
theorem inner_nil {S : List Str} {c : List ((Str × κ) × Int)} {s : Str} (h : ∀ e ∈ c, e.1.1 ∈ S) (hs : s ∉ S) : inner c s = [] := by
 unfold inner
 rw [List.map_eq_nil_iff, List.filter_eq_nil_iff]
 intro e he hq
 exact hs ((eq_of_beq hq) ▸ h e he)
theorem GrOk.add {S : List Str} {c : List ((Str × κ) × Int)} {G : GrM κ} (h : GrOk S c G) {s : Str} (b : Nat) (hs : alk s G = Option.none) : GrOk (sadd s S) c (aput s (b, []) G) := by
 have hn := h.none.1 hs
 refine ⟨by rw [aput_keys', h.keys], sadd_nodup h.nodup, fun p hp => ?_, fun e he => mem_sadd.2 (.inr (h.inS e he))⟩
 rcases aput_mem' h.anodup hp with rfl | ⟨hp, _⟩
 ·exact (inner_nil h.inS hn).symm
 ·exact h.val p hp
variable [DecidableEq κ]
theorem GrOk.put {S : List Str} {c : List ((Str × κ) × Int)} {G : GrM κ} (h : GrOk S c G) {s : Str} {b : Nat} {L : List (κ × Int)} (hq : alk s G = some (b, L)) (k : κ) (v : Int) : GrOk S (aput (s, k) v c) (aput s (b, aput k v L) G) := by
 have hs : s ∈ S := by
  refine Decidable.not_not.1 fun hn => ?_
  have := h.none.2 hn
  rw [this] at hq; cases hq
 refine ⟨?_, h.nodup, fun p hp => ?_, fun e he => ?_⟩
 ·rw [aput_keys', h.keys]
  unfold sadd
  rw [if_pos (by simpa using hs)]
 ·rw [inner_put]
  rcases aput_mem' h.anodup hp with rfl | ⟨hp, hne⟩
  ·rw [if_pos rfl, ← h.get hq]
  ·rw [if_neg hne]; exact h.val p hp
 ·rcases mem_aput he with rfl | he
  ·exact hs
  ·exact h.inS e he
end
end Go.HL
end
section
namespace Go.HL
end Go.HL
end
section
namespace Go.HL
/-- A list without the things that equal the one before (p ahead of the first). -/
def uniqO (p : Option Of2) : List Of2 → List Of2
 | [] => []
 | x :: r => if p = some x then uniqO (some x) r else x :: uniqO (some x) r
theorem OLt.trans {a b c : Of2} (h1 : OLt a b) (h2 : OLt b c) : OLt a c := byOf_cmp.lt_trans trivial trivial trivial h1 h2
end Go.HL
end
section
namespace Go.HL
/-- The plays of the sources that count. -/
def keptB (l : List Play) (trust : List Str) (n : Int) (x : Play) : Bool := decide (srcOf l trust n x.Match = some x.Source)
def kept (l : List Play) (trust : List Str) (n : Int) : List Play := l.filter (keptB l trust n)
end Go.HL
end
section
namespace Go.HL
structure ChkIs (q : ChkS) (l : List Play) : Prop where
 sn : q.S.Nodup
 s : ∀ s, s ∈ q.S ↔ ∃ x ∈ l, x.Source = s
 wn : ANodup q.W
 w : ∀ m, m ∈ q.W.map (·.1) ↔ ∃ x ∈ l, x.Match = m
 wv : ∀ m v, alk m q.W = some v → ∃ x ∈ l, x.Match = m ∧ x.Week = v
 c : q.c = false ↔ ∀ x ∈ l, ∀ y ∈ l, x.Match = y.Match → x.Week = y.Week
theorem ChkIs.step {q : ChkS} {l : List Play} (h : ChkIs q l) (p : Play) : ChkIs (chkStep q p) (l ++ [p]) where
 sn := sadd_nodup h.sn
 s s := by
  show s ∈ sadd p.Source q.S ↔ _
  rw [mem_sadd, h.s]
  constructor
  ·rintro (rfl | ⟨x, hx, e⟩)
   ·exact ⟨p, by simp, rfl⟩
   ·exact ⟨x, List.mem_append_left _ hx, e⟩
  ·rintro ⟨x, hx, e⟩
   rcases List.mem_append.1 hx with hx | hx
   ·exact .inr ⟨x, hx, e⟩
   ·rw [List.mem_singleton.1 hx] at e; exact .inl e.symm
 wn := h.wn.put
 w m := by
  show m ∈ (aput p.Match p.Week q.W).map (·.1) ↔ _
  rw [aput_keys, h.w]
  constructor
  ·rintro (rfl | ⟨x, hx, e⟩)
   ·exact ⟨p, by simp, rfl⟩
   ·exact ⟨x, List.mem_append_left _ hx, e⟩
  ·rintro ⟨x, hx, e⟩
   rcases List.mem_append.1 hx with hx | hx
   ·exact .inr ⟨x, hx, e⟩
   ·rw [List.mem_singleton.1 hx] at e; exact .inl e.symm
 wv m v hv := by
  have hv' : alk m (aput p.Match p.Week q.W) = some v := hv
  rw [alk_put] at hv'
  by_cases e : m = p.Match
  ·rw [if_pos e] at hv'; cases hv'
   exact ⟨p, by simp, e.symm, rfl⟩
  ·rw [if_neg e] at hv'
   obtain ⟨x, hx, e1⟩ := h.wv m v hv'
   exact ⟨x, List.mem_append_left _ hx, e1⟩
 c := by
  show (q.c || ((alk p.Match q.W).isSome && ((alk p.Match q.W).getD 0 != p.Week))) = false ↔ _
  rw [Bool.or_eq_false_iff, h.c]
  constructor
  ·rintro ⟨h1, h2⟩
   have hp : ∀ x ∈ l, x.Match = p.Match → x.Week = p.Week := fun x hx e => by
    have hk : p.Match ∈ q.W.map (·.1) := (h.w _).2 ⟨x, hx, e⟩
    have hne : ¬ alk p.Match q.W = none := by rw [alk_none]; exact fun z => z hk
    obtain ⟨v, hv⟩ := Option.ne_none_iff_exists'.1 hne
    rw [hv] at h2
    simp at h2
    obtain ⟨y, hy, e1, e2⟩ := h.wv _ _ hv
    rw [h1 x hx y hy (by rw [e, e1]), e2, h2]
   intro x hx y hy e
   rcases List.mem_append.1 hx with hx | hx <;> rcases List.mem_append.1 hy with hy | hy
   ·exact h1 x hx y hy e
   ·rw [List.mem_singleton.1 hy] at e ⊢; exact hp x hx e
   ·rw [List.mem_singleton.1 hx] at e ⊢; exact (hp y hy e.symm).symm
   ·rw [List.mem_singleton.1 hx, List.mem_singleton.1 hy]
  ·intro hall
   refine ⟨fun x hx y hy e => hall x (List.mem_append_left _ hx) y (List.mem_append_left _ hy) e, ?_⟩
   cases hv : alk p.Match q.W with
   | none => rfl
   | some v =>
     obtain ⟨y, hy, e1, e2⟩ := h.wv _ _ hv
     have := hall y (List.mem_append_left _ hy) p (by simp) e1
     simp
     rw [← e2, this]
end Go.HL
end
section
namespace Go.HL
end Go.HL
end
section
namespace Go.HL
instance : DecidableEq PairS := fun a b => by
 obtain ⟨x, y⟩ := a; obtain ⟨u, v⟩ := b
 exact if h : x = u ∧ y = v then isTrue (by rw [h.1, h.2]) else isFalse fun e => by cases e; exact h ⟨rfl, rfl⟩
end Go.HL
end
section
namespace Go.Proofs.YtkamelfigfbfiaaGreatDoor
open Go.HL
set_option maxRecDepth 100000
set_option linter.unusedVariables false
set_option linter.unusedSimpArgs false
/-- benchwarmer/benchref1.WeekFault -/
theorem c_benchref1_WeekFault [Tracks] {n : Int}  : ConP Tryz.prog 43 [.int .i64 n] (.int .i64 (if weekB n then 0 else 1)) := by
 refine Con.of_body Tryz.func43 rfl Tryz.ntmps43 rfl rfl ?_
 refine hw_reg ?_
 refine dp rfl (pop_assign rfl) ?_
 refine dn ?_
 refine hw_reg ?_
 refine dp rfl (pop_move rfl) ?_
 refine dp rfl (pop_call ca92 rfl (WeakL.refl _) c_benchref1_SpanFault) ?_
 refine dp rfl (pop_assign rfl) ?_
 refine dn ?_
 refine hw_ret ?_
 refine ret_p rfl ?_
 show HVal.int .i64 _ = _
 unfold weekB
 cases out n 1 60 <;> rfl

end Go.Proofs.YtkamelfigfbfiaaGreatDoor
end
section
namespace Go.HL
/-! mends as they are made up -/
def GoodMd (x : MendS) : Prop := Sh x.Player ∧ Sh x.Stat ∧ Sh x.By
structure GoodMds (k : List MendS) : Prop where
 len : k.length ≤ 24
 all : ∀ x ∈ k, GoodMd x
def mp3 : List Str := [[97, 110, 110], [98, 101, 97], [122, 111, 101]]
def ms2 : List Str := [[103, 111, 97, 108], [112, 97, 115, 115]]
theorem mp3_sh : ∀ s ∈ mp3, Sh s := fun s hs => by
 simp [mp3] at hs; rcases hs with rfl | rfl | rfl <;> (unfold Sh; simp)
theorem ms2_sh : ∀ s ∈ ms2, Sh s := fun s hs => by
 simp [ms2] at hs; rcases hs with rfl | rfl <;> (unfold Sh; simp)
theorem GLok.mono {α : Type} {P : α → Prop} {n n' m m' : Nat} {q : GL α} (h : GLok P n m q) (hn : n ≤ n') (hm : m ≤ m') : GLok P n' m' q := ⟨Nat.le_trans h.len hn, h.all, Nat.le_trans h.a hm⟩
/-! the lines of plays, with mends -/
end Go.HL
end
section
namespace Go.Proofs.YtkamelfigfbfiaaGreatDoor
open Go.HL
set_option maxRecDepth 100000
set_option linter.unusedVariables false
set_option linter.unusedSimpArgs false
/-- benchwarmer/benchref1.byMend -/
theorem c_benchref1_byMend [Tracks] {a b : MendS}  : ConP Tryz.prog 69 [eMend a, eMend b] (.int .i64 (byVer a b)) := by
 refine Con.of_body Tryz.func69 rfl Tryz.ntmps69 rfl rfl ?_
 refine hw_reg ?_
 refine dp rfl (pop_box rfl rfl) ?_
 refine dp rfl (pop_box rfl rfl) ?_
 refine dp rfl (pop_assign rfl) ?_
 refine dn ?_
 refine hw_draw (fun _ => True) [] mixed ?_
 refine ahp 0 rfl rfl (by kernel_rfl) (by kernel_rfl) (pop_fieldAddr ty69 rfl ty9 (by decide) rfl) ?_
 refine ahp 1 rfl rfl (by kernel_rfl) (by kernel_rfl) (pop_load ty9 rfl rfl rfl) ?_
 refine ahp 2 rfl rfl (by kernel_rfl) (by kernel_rfl) (pop_fieldAddr ty69 rfl ty9 (by decide) rfl) ?_
 refine ahp 3 rfl rfl (by kernel_rfl) (by kernel_rfl) (pop_load ty9 rfl rfl rfl) ?_
 refine ahp 4 rfl rfl (by kernel_rfl) (by kernel_rfl) (pop_call ca103 rfl (WeakL.refl _) c_strings_Compare) ?_
 refine ahp 5 rfl rfl (by kernel_rfl) (by kernel_rfl) (pop_fieldAddr ty69 rfl ty3 (by decide) rfl) ?_
 refine ahp 6 rfl rfl (by kernel_rfl) (by kernel_rfl) (pop_load ty3 rfl rfl rfl) ?_
 refine ahp 7 rfl rfl (by kernel_rfl) (by kernel_rfl) (pop_fieldAddr ty69 rfl ty3 (by decide) rfl) ?_
 refine ahp 8 rfl rfl (by kernel_rfl) (by kernel_rfl) (pop_load ty3 rfl rfl rfl) ?_
 refine ahp 9 rfl rfl (by kernel_rfl) (by kernel_rfl) (pop_call ca104 rfl (WeakL.refl _) c_cmp_Compare_int) ?_
 refine ahp 10 rfl rfl (by kernel_rfl) (by kernel_rfl) (pop_fieldAddr ty69 rfl ty9 (by decide) rfl) ?_
 refine ahp 11 rfl rfl (by kernel_rfl) (by kernel_rfl) (pop_load ty9 rfl rfl rfl) ?_
 refine ahp 12 rfl rfl (by kernel_rfl) (by kernel_rfl) (pop_fieldAddr ty69 rfl ty9 (by decide) rfl) ?_
 refine ahp 13 rfl rfl (by kernel_rfl) (by kernel_rfl) (pop_load ty9 rfl rfl rfl) ?_
 refine ahp 14 rfl rfl (by kernel_rfl) (by kernel_rfl) (pop_call ca103 rfl (WeakL.refl _) c_strings_Compare) ?_
 refine ahp 15 rfl rfl (by kernel_rfl) (by kernel_rfl) (pop_fieldAddr ty69 rfl ty3 (by decide) rfl) ?_
 refine ahp 16 rfl rfl (by kernel_rfl) (by kernel_rfl) (pop_load ty3 rfl rfl rfl) ?_
 refine ahp 17 rfl rfl (by kernel_rfl) (by kernel_rfl) (pop_fieldAddr ty69 rfl ty3 (by decide) rfl) ?_
 refine ahp 18 rfl rfl (by kernel_rfl) (by kernel_rfl) (pop_load ty3 rfl rfl rfl) ?_
 refine ahp 19 rfl rfl (by kernel_rfl) (by kernel_rfl) (pop_call ca104 rfl (WeakL.refl _) c_cmp_Compare_int) ?_
 refine ahp 20 rfl rfl (by kernel_rfl) (by kernel_rfl) (pop_buildSlice (hs := [_, _, _, _]) ty22 ty3 rfl rfl (by decide) (by decide) rfl) ?_
 refine ahp 21 rfl rfl (by kernel_rfl) (by kernel_rfl) (pop_call ca102 rfl (WeakL.refl _) (c_cmp_Or_int (l := [_, _, _, _]) (by simp))) ?_
 refine ahp 22 rfl rfl (by kernel_rfl) (by kernel_rfl) (pop_assign rfl) ?_
 refine ahz (by kernel_rfl) ?_
 refine hw_ret ?_
 refine ret_p rfl ?_
 rfl

/-- benchwarmer/benchref1.MendsFault -/
theorem c_benchref1_MendsFault [Tracks] {m : List MendS} (hl : m.length ≤ 1000000) (hgm : ∀ x ∈ m, GoodMd x) : ConP Tryz.prog 18 [eMends m] (.int .i64 (mendsE m)) := by
 refine Con.of_body Tryz.func18 rfl Tryz.ntmps18 rfl rfl ?_
 refine hw_reg ?_
 refine dp rfl (pop_assign rfl) ?_
 refine dn ?_
 refine hw_seq ?_
 refine hw_reg ?_
 refine dp rfl (pop_move rfl) ?_
 refine dp rfl (pop_lenm ty46 rfl) ?_
 refine dp rfl (pop_gtr rfl rfl) ?_
 refine dn ?_
 refine hw_cond rfl (fun h1 => ?_) (fun h2 => ?_)
 ·try simp at h1
  refine hw_reg ?_
  refine dp rfl (pop_assign rfl) ?_
  refine dn ?_
  refine hw_ret ?_
  refine ret_p rfl ?_
  show HVal.int .i64 _ = _
  first
  | (rw [mendsE, if_pos (by omega)]; done)
  | (rw [mendsE, if_neg (by omega), hg]; rfl)
  | (refine congrArg _ (mends_bad (c := 5) (by omega) hg (by decide) ?_)
     rw [mendFault, if_pos]
     simp_all
     done)
  | (refine congrArg _ (mends_bad (c := 1) (by omega) hg (by decide) ?_)
     rw [mendFault, if_neg, if_pos]
     all_goals simp_all
     done)
  | (have f1 := byVer_cmp.flip x (m.getD (k - 1) mend0) trivial trivial
     have f2 := byVer_cmp.flip (m.getD (k - 1) mend0) x trivial trivial
     refine congrArg _ (mends_ord (by omega) hg ?_ ?_ ?_)
     ·rw [mendFault, if_neg, if_neg] <;> simp_all
     ·simp_all
     ·simp_all; omega)
 ·try simp at h2
  refine hw_skip ?_
  refine seqQ_n ?_
  refine hw_seq ?_
  refine hw_reg ?_
  refine dp rfl (pop_move rfl) ?_
  refine dp rfl (pop_lenm ty46 rfl) ?_
  refine dp rfl (pop_move rfl) ?_
  refine dn ?_
  refine hw_block ?_
  refine hw_loopw (2 :: 3 :: 4 :: 10 :: 11 :: 12 :: 13 :: 14 :: 15 :: 16 :: 17 :: 18 :: 19 :: 20 :: 21 :: 22 :: 23 :: 24 :: 25 :: 26 :: 27 :: 28 :: 29 :: 30 :: 31 :: 32 :: 33 :: 34 :: 35 :: 36 :: 37 :: 38 :: 39 :: 40 :: 41 :: 42 :: 43 :: 44 :: 45 :: 46 :: 47 :: 48 :: 49 :: 50 :: 51 :: 52 :: 53 :: 54 :: 55 :: 56 :: 57 :: 58 :: 59 :: 60 :: 61 :: 62 :: 63 :: 64 :: 65 :: 66 :: 67 :: 68 :: []) (fun (k : Nat) => [(10, .int .i64 k)]) (fun (k : Nat) => []) (fun (k : Nat) => k ≤ m.length ∧ (chkGo mendFault byVer mend0 m 0 m = chkGo mendFault byVer mend0 m k (m.drop k))) (fun (k : Nat) => m.length - k) (0) ?_ ?_ ?_ ?_
  ·exact ⟨Nat.zero_le _, rfl⟩
  ·exact ⟨rfl, trivial⟩
  ·exact List.Perm.refl _
  ·intro k hinv
   obtain ⟨hk, hg⟩ := hinv
   refine hw_reg ?_
   refine dp rfl (pop_lss rfl rfl) ?_
   refine dn ?_
   refine hw_seq ?_
   refine hw_cond rfl (fun h3 => ?_) (fun h4 => ?_)
   ·try simp at h3
    obtain ⟨x, hx⟩ : ∃ x, m[k]? = some x := ⟨_, List.getElem?_eq_getElem h3⟩
    have hdx := drop_cons hx
    rw [hdx] at hg
    refine hw_skip ?_
    refine seqQ_n ?_
    refine hw_seq ?_
    refine hw_block ?_
    refine hw_reg ?_
    refine dp rfl (pop_move rfl) ?_
    refine dp rfl (pop_idx ty46 ty69 rfl rfl rfl (by first | assumption | simp_all)) ?_
    refine dp rfl (pop_loadw ty69 rfl rfl rfl rfl) ?_
    refine de rfl (eop_alloc ty69 rfl fun b4 => ?_)
    refine dp rfl (pop_assign rfl) ?_
    refine de0 (eop_storew ty69 rfl rfl rfl rfl rfl ?_)
    refine dn ?_
    refine hw_ghost (Ghost.fc0 4 rfl) ?_
    refine hw_block ?_
    refine hw_reg ?_
    refine dp rfl (pop_fieldAddr ty69 rfl ty9 (by decide) rfl) ?_
    refine dp rfl (pop_load ty9 rfl rfl rfl) ?_
    refine dp rfl (pop_call ca52 rfl (WeakL.refl _) (c_benchref1_Key (hgm x (List.mem_of_getElem? hx)).1)) ?_
    refine dp rfl (pop_not rfl) ?_
    refine dp rfl (pop_move rfl) ?_
    refine dg rfl rfl (fun hc => ⟨_, OpenTo.refl _, pop_fieldAddr ty69 rfl ty9 (by decide) rfl⟩) ?_
    refine dg rfl rfl (fun hc => ⟨_, OpenTo.upd (t := 21) rfl (by first | exact hc | simp_all) (OpenTo.refl _), pop_load ty9 rfl rfl rfl⟩) ?_
    refine dg rfl rfl (fun hc => ⟨_, OpenTo.upd (t := 22) rfl (by first | exact hc | simp_all) (OpenTo.refl _), pop_call ca52 rfl (WeakL.refl _) (c_benchref1_Key (hgm x (List.mem_of_getElem? hx)).2.1)⟩) ?_
    refine dg rfl rfl (fun hc => ⟨_, OpenTo.upd (t := 23) rfl (by first | exact hc | simp_all) (OpenTo.refl _), pop_not rfl⟩) ?_
    refine dp rfl (pop_picko rfl (.inl rfl) (.inr ⟨_, rfl, fun h => by simp_all⟩)) ?_
    refine dp rfl (pop_move rfl) ?_
    refine dg rfl rfl (fun hc => ⟨_, OpenTo.refl _, pop_fieldAddr ty69 rfl ty9 (by decide) rfl⟩) ?_
    refine dg rfl rfl (fun hc => ⟨_, OpenTo.upd (t := 27) rfl (by first | exact hc | simp_all) (OpenTo.refl _), pop_load ty9 rfl rfl rfl⟩) ?_
    refine dg rfl rfl (fun hc => ⟨_, OpenTo.upd (t := 28) rfl (by first | exact hc | simp_all) (OpenTo.refl _), pop_call ca52 rfl (WeakL.refl _) (c_benchref1_Key (hgm x (List.mem_of_getElem? hx)).2.2)⟩) ?_
    refine dg rfl rfl (fun hc => ⟨_, OpenTo.upd (t := 29) rfl (by first | exact hc | simp_all) (OpenTo.refl _), pop_not rfl⟩) ?_
    refine dp rfl (pop_picko rfl (.inl rfl) (.inr ⟨_, rfl, fun h => by simp_all⟩)) ?_
    refine dp rfl (pop_assign rfl) ?_
    refine dn ?_
    refine hw_cond rfl (fun h5 => ?_) (fun h6 => ?_)
    ·try simp at h5
     refine hw_reg ?_
     refine dp rfl (pop_assign rfl) ?_
     refine dn ?_
     refine hw_ret ?_
     refine ret_p rfl ?_
     show HVal.int .i64 _ = _
     first
     | (rw [mendsE, if_pos (by omega)]; done)
     | (rw [mendsE, if_neg (by omega), hg]; rfl)
     | (refine congrArg _ (mends_bad (c := 5) (by omega) hg (by decide) ?_)
        rw [mendFault, if_pos]
        simp_all
        done)
     | (refine congrArg _ (mends_bad (c := 1) (by omega) hg (by decide) ?_)
        rw [mendFault, if_neg, if_pos]
        all_goals simp_all
        done)
     | (have f1 := byVer_cmp.flip x (m.getD (k - 1) mend0) trivial trivial
        have f2 := byVer_cmp.flip (m.getD (k - 1) mend0) x trivial trivial
        refine congrArg _ (mends_ord (by omega) hg ?_ ?_ ?_)
        ·rw [mendFault, if_neg, if_neg] <;> simp_all
        ·simp_all
        ·simp_all; omega)
    ·try simp at h6
     refine hw_reg ?_
     refine dp rfl (pop_fieldAddr ty69 rfl ty3 (by decide) rfl) ?_
     refine dp rfl (pop_load ty3 rfl rfl rfl) ?_
     refine dp rfl (pop_call ca43 rfl (WeakL.refl _) c_benchref1_WeekFault) ?_
     refine dp rfl (pop_neq rfl rfl) ?_
     refine dp rfl (pop_move rfl) ?_
     refine dg rfl rfl (fun hc => ⟨_, OpenTo.refl _, pop_fieldAddr ty69 rfl ty3 (by decide) rfl⟩) ?_
     refine dg rfl rfl (fun hc => ⟨_, OpenTo.upd (t := 38) rfl (by first | exact hc | simp_all) (OpenTo.refl _), pop_load ty3 rfl rfl rfl⟩) ?_
     refine dg rfl rfl (fun hc => ⟨_, OpenTo.upd (t := 39) rfl (by first | exact hc | simp_all) (OpenTo.refl _), pop_call ca53 rfl (WeakL.refl _) c_benchref1_in⟩) ?_
     refine dg rfl rfl (fun hc => ⟨_, OpenTo.upd (t := 40) rfl (by first | exact hc | simp_all) (OpenTo.refl _), pop_not rfl⟩) ?_
     refine dp rfl (pop_picko rfl (.inl rfl) (.inr ⟨_, rfl, fun h => by simp_all⟩)) ?_
     refine dp rfl (pop_move rfl) ?_
     refine dg rfl rfl (fun hc => ⟨_, OpenTo.refl _, pop_fieldAddr ty69 rfl ty3 (by decide) rfl⟩) ?_
     refine dg rfl rfl (fun hc => ⟨_, OpenTo.upd (t := 44) rfl (by first | exact hc | simp_all) (OpenTo.refl _), pop_load ty3 rfl rfl rfl⟩) ?_
     refine dg rfl rfl (fun hc => ⟨_, OpenTo.upd (t := 45) rfl (by first | exact hc | simp_all) (OpenTo.refl _), pop_call ca38 rfl (WeakL.refl _) c_benchref1_MomentFault⟩) ?_
     refine dg rfl rfl (fun hc => ⟨_, OpenTo.upd (t := 46) rfl (by first | exact hc | simp_all) (OpenTo.refl _), pop_neq rfl rfl⟩) ?_
     refine dp rfl (pop_picko rfl (.inl rfl) (.inr ⟨_, rfl, fun h => by simp_all⟩)) ?_
     refine dp rfl (pop_move rfl) ?_
     refine dg rfl rfl (fun hc => ⟨_, OpenTo.refl _, pop_fieldAddr ty69 rfl ty3 (by decide) rfl⟩) ?_
     refine dg rfl rfl (fun hc => ⟨_, OpenTo.upd (t := 50) rfl (by first | exact hc | simp_all) (OpenTo.refl _), pop_load ty3 rfl rfl rfl⟩) ?_
     refine dg rfl rfl (fun hc => ⟨_, OpenTo.upd (t := 51) rfl (by first | exact hc | simp_all) (OpenTo.refl _), pop_call ca53 rfl (WeakL.refl _) c_benchref1_in⟩) ?_
     refine dg rfl rfl (fun hc => ⟨_, OpenTo.upd (t := 52) rfl (by first | exact hc | simp_all) (OpenTo.refl _), pop_not rfl⟩) ?_
     refine dp rfl (pop_picko rfl (.inl rfl) (.inr ⟨_, rfl, fun h => by simp_all⟩)) ?_
     refine dp rfl (pop_assign rfl) ?_
     refine dn ?_
     refine hw_cond rfl (fun h7 => ?_) (fun h8 => ?_)
     ·try simp at h7
      refine hw_reg ?_
      refine dp rfl (pop_assign rfl) ?_
      refine dn ?_
      refine hw_ret ?_
      refine ret_p rfl ?_
      show HVal.int .i64 _ = _
      first
      | (rw [mendsE, if_pos (by omega)]; done)
      | (rw [mendsE, if_neg (by omega), hg]; rfl)
      | (refine congrArg _ (mends_bad (c := 5) (by omega) hg (by decide) ?_)
         rw [mendFault, if_pos]
         simp_all
         done)
      | (refine congrArg _ (mends_bad (c := 1) (by omega) hg (by decide) ?_)
         rw [mendFault, if_neg, if_pos]
         all_goals simp_all
         done)
      | (have f1 := byVer_cmp.flip x (m.getD (k - 1) mend0) trivial trivial
         have f2 := byVer_cmp.flip (m.getD (k - 1) mend0) x trivial trivial
         refine congrArg _ (mends_ord (by omega) hg ?_ ?_ ?_)
         ·rw [mendFault, if_neg, if_neg] <;> simp_all
         ·simp_all
         ·simp_all; omega)
     ·try simp at h8
      refine hw_draw (fun _ => True) [] mixed ?_
      refine ahp 0 rfl rfl (by kernel_rfl) (by kernel_rfl) (pop_move rfl) ?_
      refine ahp 1 rfl rfl (by kernel_rfl) (by kernel_rfl) (pop_gtr rfl rfl) ?_
      refine ahp 2 rfl rfl (by kernel_rfl) (by kernel_rfl) (pop_move rfl) ?_
      refine ahg 3 rfl rfl (by kernel_rfl) (by kernel_rfl) rfl (fun hc => ⟨_, OpenTo.refl _, pop_move rfl⟩) ?_
      refine ahg 4 rfl rfl (by kernel_rfl) (by kernel_rfl) rfl (fun hc => ⟨_, OpenTo.refl _, pop_move rfl⟩) ?_
      refine ahg 5 rfl rfl (by kernel_rfl) (by kernel_rfl) rfl (fun hc => by have hq := hc; (try simp at hq); exact ⟨_, OpenTo.upd (t := 60) rfl (by first | exact hc | simp_all) (OpenTo.refl _), pop_sub64 rfl rfl (by omega) (by omega)⟩) ?_
      refine ahg 6 rfl rfl (by kernel_rfl) (by kernel_rfl) rfl (fun hc => by have hq := hc; (try simp at hq); exact ⟨_, OpenTo.upd (t := 61) rfl (by first | exact hc | simp_all) (OpenTo.upd (t := 59) rfl (by first | exact hc | simp_all) (OpenTo.refl _)), pop_idx (j := k - 1) (a := m.getD (k - 1) mend0) ty46 ty69 rfl rfl (by omega) (getD_some (by omega))⟩) ?_
      refine ahg 7 rfl rfl (by kernel_rfl) (by kernel_rfl) rfl (fun hc => ⟨_, OpenTo.upd (t := 62) rfl (by first | exact hc | simp_all) (OpenTo.refl _), pop_loadw ty69 rfl rfl rfl rfl⟩) ?_
      refine ahg 8 rfl rfl (by kernel_rfl) (by kernel_rfl) rfl (fun hc => ⟨_, OpenTo.refl _, pop_loadw ty69 rfl rfl rfl rfl⟩) ?_
      refine ahg 9 rfl rfl (by kernel_rfl) (by kernel_rfl) rfl (fun hc => ⟨_, OpenTo.upd (t := 64) rfl (by first | exact hc | simp_all) (OpenTo.upd (t := 63) rfl (by first | exact hc | simp_all) (OpenTo.refl _)), pop_call ca69 rfl (WeakL.refl _) c_benchref1_byMend⟩) ?_
      refine ahg 10 rfl rfl (by kernel_rfl) (by kernel_rfl) rfl (fun hc => ⟨_, OpenTo.upd (t := 65) rfl (by first | exact hc | simp_all) (OpenTo.refl _), pop_geq rfl rfl⟩) ?_
      refine ahp 11 rfl rfl (by kernel_rfl) (by kernel_rfl) (pop_picko rfl (.inr ⟨_, rfl, fun h => by simp_all⟩) (.inl rfl)) ?_
      refine ahp 12 rfl rfl (by kernel_rfl) (by kernel_rfl) (pop_assign rfl) ?_
      refine ahz (by kernel_rfl) ?_
      refine hw_cond rfl (fun h9 => ?_) (fun h10 => ?_)
      ·try simp at h9
       refine hw_reg ?_
       refine dp rfl (pop_assign rfl) ?_
       refine dn ?_
       refine hw_ret ?_
       refine ret_p rfl ?_
       show HVal.int .i64 _ = _
       first
       | (rw [mendsE, if_pos (by omega)]; done)
       | (rw [mendsE, if_neg (by omega), hg]; rfl)
       | (refine congrArg _ (mends_bad (c := 5) (by omega) hg (by decide) ?_)
          rw [mendFault, if_pos]
          simp_all
          done)
       | (refine congrArg _ (mends_bad (c := 1) (by omega) hg (by decide) ?_)
          rw [mendFault, if_neg, if_pos]
          all_goals simp_all
          done)
       | (have f1 := byVer_cmp.flip x (m.getD (k - 1) mend0) trivial trivial
          have f2 := byVer_cmp.flip (m.getD (k - 1) mend0) x trivial trivial
          refine congrArg _ (mends_ord (by omega) hg ?_ ?_ ?_)
          ·rw [mendFault, if_neg, if_neg] <;> simp_all
          ·simp_all
          ·simp_all; omega)
      ·try simp at h10
       refine hw_skip ?_
       refine blockQ_n ?_
       refine blockQ_n ?_
       refine seqQ_n ?_
       refine hw_reg1 ?_
       refine dp rfl (pop_add64 rfl rfl (by omega) (by omega)) ?_
       refine dp rfl (pop_move rfl) ?_
       refine dn ?_
       refine ⟨k + 1, ?_, ?_, ⟨rfl, trivial⟩, (by repeat (first | exact keeps_refl | refine keeps_upd rfl ?_ | refine keeps_loop rfl rfl ?_)), List.Perm.refl _⟩
       ·refine ⟨by omega, ?_⟩
        rw [hg, chkGo_ne (by rw [mendFault, if_neg (by simp_all), if_neg (by simp_all)]) (by intro hk0; have := byVer_cmp.flip x (m.getD (k - 1) mend0) trivial trivial; have := byVer_cmp.flip (m.getD (k - 1) mend0) x trivial trivial; simp_all; try omega)]
       ·dsimp only; omega
   ·try simp at h4
    have hnk : m.length ≤ k := by omega
    obtain rfl : k = m.length := by omega
    rw [drop_all (Nat.le_refl _)] at hg
    refine hw_exit ?_
    refine seqQ_x ?_
    refine loopQ_x ?_
    refine blockQ_eq ?_
    refine seqQ_n ?_
    refine hw_reg ?_
    refine dp rfl (pop_assign rfl) ?_
    refine dn ?_
    refine hw_ret ?_
    refine ret_p rfl ?_
    show HVal.int .i64 _ = _
    first
    | (rw [mendsE, if_pos (by omega)]; done)
    | (rw [mendsE, if_neg (by omega), hg]; rfl)
    | (refine congrArg _ (mends_bad (c := 5) (by omega) hg (by decide) ?_)
       rw [mendFault, if_pos]
       simp_all
       done)
    | (refine congrArg _ (mends_bad (c := 1) (by omega) hg (by decide) ?_)
       rw [mendFault, if_neg, if_pos]
       all_goals simp_all
       done)
    | (have f1 := byVer_cmp.flip x (m.getD (k - 1) mend0) trivial trivial
       have f2 := byVer_cmp.flip (m.getD (k - 1) mend0) x trivial trivial
       refine congrArg _ (mends_ord (by omega) hg ?_ ?_ ?_)
       ·rw [mendFault, if_neg, if_neg] <;> simp_all
       ·simp_all
       ·simp_all; omega)
end Go.Proofs.YtkamelfigfbfiaaGreatDoor
end
section
namespace Go.HL
section
variable {κ : Type}
end
end Go.HL
end
section
namespace Go.HL
structure DisOk (q : DisS) (n : Nat) : Prop where
 c : ANodup q.c
 S : q.S.Nodup
 k : ∀ s ∈ q.S, s.length ≤ 40
 cl : q.c.length ≤ n
 Sl : q.S.length ≤ n
 bd : ∀ e ∈ q.c, -(100000 * (n : Int)) ≤ e.2 ∧ e.2 ≤ 100000 * (n : Int)
theorem DisOk.val {q : DisS} {n : Nat} (h : DisOk q n) (s : Str × Of2) : -(100000 * (n : Int)) ≤ (alk s q.c).getD 0 ∧ (alk s q.c).getD 0 ≤ 100000 * (n : Int) := by
 cases hq : alk s q.c with
 | none => simp; omega
 | some v => exact h.bd _ (alk_of_mem hq)
theorem DisOk.sput {q : DisS} {n : Nat} (h : DisOk q n) {p : Play} (hp : playFault p = 0) : DisOk ⟨sadd p.Source q.S, q.c⟩ (n + 1) := by
 refine ⟨h.c, sadd_nodup h.S, fun s hs => ?_, by have := h.cl; dsimp only; omega, Nat.le_trans (sadd_le _ _) (by have := h.Sl; omega), fun e he => by have := h.bd e he; omega⟩
 rcases mem_sadd.1 hs with rfl | hs
 ·exact key_len (playFault_ok hp).1
 ·exact h.k s hs
theorem DisOk.put {q : DisS} {n : Nat} (h : DisOk q n) {p : Play} (hp : playFault p = 0) : DisOk ⟨sadd p.Source q.S, disPut q p⟩ (n + 1) := by
 have hs := h.sput hp
 obtain ⟨_, _, _, _, _, hb, _⟩ := playFault_ok hp
 have hv := h.val (disKey p)
 refine ⟨h.c.put, hs.S, hs.k, Nat.le_trans (aput_le _ _ _) (by have := h.cl; omega), hs.Sl, fun e he => ?_⟩
 rcases mem_aput he with rfl | he
 ·dsimp only; omega
 ·have := h.bd e he; omega
end Go.HL
end
section
namespace Go.HL
section
variable {P : Program} {e : Env} {dst : Option Tmp} {ty : TypeId} {pos : String} {af : Array Edge} {g : Option (Nat × Bool)}
end
section
variable {P : Program} {n : Nat} {e e' : Env} {M M' : List MObj} {Q Q' : Exit → Env → List MObj → Prop} {c c' : Code}
def LoopW4 {α β γ δ : Type} (e : Env) (ks : List Nat) (W : α → β → γ → δ → List (Nat × HVal)) (MM : α → β → γ → δ → List MObj) (Iv : α → β → γ → δ → Prop) (μ : α → β → γ → δ → Nat) (x : α) (y : β) (u : γ) (v : δ) (Q : Exit → Env → List MObj → Prop) : Exit → Env → List MObj → Prop
 | .normal, e', M => ∃ j k l m, Iv j k l m ∧ μ j k l m < μ x y u v ∧ HoldsW e' (W j k l m) ∧ Keeps ks e e' ∧ M.Perm (MM j k l m)
 | z, e', M => Q z e' M
theorem loopQ4_x {α β γ δ : Type} {e0 : Env} {ks : List Nat} {W : α → β → γ → δ → List (Nat × HVal)} {MM : α → β → γ → δ → List MObj} {Iv : α → β → γ → δ → Prop} {μ : α → β → γ → δ → Nat} {x : α} {y : β} {u : γ} {v : δ} {id : Nat} (h : Q (.exit id) e M) :
 LoopW4 e0 ks W MM Iv μ x y u v Q (.exit id) e M := h
theorem hw_loopw4 [Tracks] {α β γ δ : Type} (ks : List Nat) (W : α → β → γ → δ → List (Nat × HVal)) (MM : α → β → γ → δ → List MObj) (Iv : α → β → γ → δ → Prop) (μ : α → β → γ → δ → Nat) (x : α) (y : β) (u : γ) (v : δ) (h0 : Iv x y u v) (hW : HoldsW e (W x y u v)) (hM : M.Perm (MM x y u v))
 (hb : ∀ x y u v, Iv x y u v → HWp P n c (loopE e ks (W x y u v)) (MM x y u v) (LoopW4 e ks W MM Iv μ x y u v Q)) : HWp P n (.loop c) e M Q := by
 refine hw_loopw (ι := α × β × γ × δ) ks (fun p => W p.1 p.2.1 p.2.2.1 p.2.2.2) (fun p => MM p.1 p.2.1 p.2.2.1 p.2.2.2) (fun p => Iv p.1 p.2.1 p.2.2.1 p.2.2.2) (fun p => μ p.1 p.2.1 p.2.2.1 p.2.2.2) (x, y, u, v) h0 hW hM fun p hp => hw_mono (hb p.1 p.2.1 p.2.2.1 p.2.2.2 hp) ?_
 intro z e1 M1 hq
 cases z with
 | normal => obtain ⟨j, k, l, m, h⟩ := hq; exact ⟨(j, k, l, m), h⟩
 | _ => exact hq
end
end Go.HL
end
section
namespace Go.HL
end Go.HL
end
section
namespace Go.HL
theorem uniqO_snoc (x : Of2) : ∀ (A : List Of2) (p : Option Of2), uniqO p (A ++ [x]) = uniqO p A ++ if (A.getLast?.or p) = some x then [] else [x]
 | [], p => by
   by_cases h : p = some x <;> simp [uniqO, h]
 | y :: A, p => by
   have ih := uniqO_snoc x A (some y)
   have e : ((y :: A).getLast?.or p) = (A.getLast?.or (some y)) := by
    cases A with
    | nil => simp
    | cons z A => simp [List.getLast?_cons_cons, List.getLast?_cons]
   simp only [List.cons_append, uniqO]
   rw [e, ih]
   split <;> simp
theorem uniqO_step {l : List Of2} {k : Nat} {x y : Of2} (hx : l[k]? = some x) (hy : l[k - 1]? = some y) (h0 : 0 < k) : uniqO none (l.take (k + 1)) = uniqO none (l.take k) ++ if x = y then [] else [x] := by
 have hk := lt_of_get hx
 rw [take_snoc' hx, uniqO_snoc]
 have e : ((l.take k).getLast?.or none) = some y := by
  rw [List.getLast?_eq_getElem?, List.length_take, Nat.min_eq_left (by omega), List.getElem?_take_of_lt (by omega), hy]; rfl
 rw [e]
 by_cases h : x = y
 ·rw [if_pos h, if_pos (by rw [h])]
 ·rw [if_neg h, if_neg (by simpa using fun q : y = x => h q.symm)]
structure CmpO (l : List Of2) (j : Nat) (D : List Of2) : Prop where
 len : D.length = l.length
 lo : D.take (uniqO none (l.take j)).length = uniqO none (l.take j)
 lt : (uniqO none (l.take j)).length < j
 hi : ∀ i, j ≤ i + 1 → D[i]? = l[i]?
theorem CmpO.start {l : List Of2} {k : Nat} {x y : Of2} (hx : l[k]? = some x) (hy : l[k - 1]? = some y) (h0 : 0 < k) (e : x = y) (h : uniqO none (l.take k) = l.take k) : CmpO l (k + 1) l ∧ (uniqO none (l.take (k + 1))).length = k := by
 have hk := lt_of_get hx
 have h1 : uniqO none (l.take (k + 1)) = l.take k := by rw [uniqO_step hx hy h0, if_pos e, h]; simp
 have h2 : (l.take k).length = k := by rw [List.length_take]; omega
 exact ⟨⟨rfl, by rw [h1, h2], by rw [h1, h2]; omega, fun _ _ => rfl⟩, by rw [h1, h2]⟩
theorem CmpO.same {l D : List Of2} {j : Nat} (h : CmpO l j D) {x y : Of2} (hx : l[j]? = some x) (hy : l[j - 1]? = some y) (e : x = y) : CmpO l (j + 1) D ∧ (uniqO none (l.take (j + 1))).length = (uniqO none (l.take j)).length := by
 have h0 := h.lt
 have h1 : uniqO none (l.take (j + 1)) = uniqO none (l.take j) := by rw [uniqO_step hx hy (by omega), if_pos e]; simp
 exact ⟨⟨h.len, by rw [h1]; exact h.lo, by rw [h1]; omega, fun i hi => h.hi i (by omega)⟩, by rw [h1]⟩
end Go.HL
end
section
namespace Go.HL
theorem eqStats_refl : ∀ l : List StatS, eqSts eStat l l = true
 | [] => rfl
 | a :: r => by simp [eqSts, eqSt, eqStats_refl r, hcells, eqHL, eqH]
def byLn (a b : LineS) : Int := orI [cmpS a.Player b.Player, cmpI a.Week b.Week]
theorem byLn_refl (x : LineS) : byLn x x = 0 := by
 unfold byLn; rw [orI2, if_neg (by simp [cmpS_zero]), cmpI_zero]
end Go.HL
end
section
namespace Go.Proofs.YtkamelfigfbfiaaGreatDoor
open Go.HL
set_option maxRecDepth 100000
set_option linter.unusedVariables false
set_option linter.unusedSimpArgs false
end Go.Proofs.YtkamelfigfbfiaaGreatDoor
end
section
namespace Go.Proofs.YtkamelfigfbfiaaGreatDoor
open Go.HL
set_option maxRecDepth 100000
set_option linter.unusedVariables false
set_option linter.unusedSimpArgs false
set_option maxHeartbeats 4000000 in
/-- (*benchwarmer/benchmake.Stream).Mends -/
theorem c_benchmake_Stream_Mends [Tracks] {b : Nat} {l : List Int} {a : Nat}  (ha : a ≤ 700000) : Con Tryz.prog 17 [pAt b] [St b l a] (fun x M' => ∃ k a', x = eMends k ∧ GoodMds k ∧ a' ≤ a + 100 ∧ M' = [St b l a']) := by
 refine Con.of_body Tryz.func17 rfl Tryz.ntmps17 rfl rfl ?_
 refine hw_reg ?_
 refine dp rfl (pop_assign rfl) ?_
 refine dn ?_
 refine hw_reg ?_
 refine dp rfl (pop_assign rfl) ?_
 refine dn ?_
 refine hw_ghost (Ghost.arr_nil 7) ?_
 refine hw_seq ?_
 refine hw_reg ?_
 refine dp rfl (pop_buildSlice (hs := [_, _, _]) ty36 ty9 rfl rfl (by decide) (by decide) rfl) ?_
 refine dp rfl (pop_lenm (f := HVal.str) (l := mp3) ty36 rfl) ?_
 refine dp rfl (pop_move rfl) ?_
 refine dn ?_
 refine hw_block ?_
 refine hw_loopw2 [3, 5, 6, 8, 9, 13, 14, 15, 16, 17, 18, 19, 20, 21, 22, 23, 24, 25, 26, 27, 28, 29, 30, 31, 32, 33, 34, 35, 36, 37, 38, 39, 40, 41, 42, 43, 44, 45, 46, 47, 48] (fun (k : Nat) (q : GL MendS) => [(13, .int .i64 k), (3, .raw q.u)]) (fun (k : Nat) (q : GL MendS) => [St b l q.a, .arr q.u 7 (q.out.map eMend)]) (fun (k : Nat) (q : GL MendS) => k ≤ mp3.length ∧ (GLok GoodMd (8 * k) (a + 24 * k) q)) (fun (k : Nat) (q : GL MendS) => mp3.length - k) (0) (⟨.slice none 0 0, [], a⟩) ?_ ?_ ?_ ?_
 ·exact ⟨by decide, ⟨by simp, by simp, by dsimp only; omega⟩⟩
 ·exact ⟨rfl, rfl, trivial⟩
 ·repeat (first | exact List.Perm.nil | refine permTo 0 rfl ?_ | refine permTo 1 rfl ?_ | refine permTo 2 rfl ?_ | refine permTo 3 rfl ?_ | (refine permToE 0 rfl ?hq ?_; (case hq => simp [setL, hcells]; done)) | (refine permToE 1 rfl ?hq ?_; (case hq => simp [setL, hcells]; done)) | (refine permToE 2 rfl ?hq ?_; (case hq => simp [setL, hcells]; done)) | (refine permToE 3 rfl ?hq ?_; (case hq => simp [setL, hcells]; done)) | fail)
 ·intro k q hinv
  obtain ⟨hk, hq⟩ := hinv
  have hk3 : mp3.length = 3 := rfl
  obtain ⟨u, out, a2⟩ := q
  obtain ⟨g1, g2, g3⟩ := id hq
  dsimp only at g1 g2 g3
  refine hw_reg ?_
  refine dp rfl (pop_lss rfl rfl) ?_
  refine dn ?_
  refine hw_seq ?_
  refine hw_cond rfl (fun h1 => ?_) (fun h2 => ?_)
  ·try simp at h1
   obtain ⟨x, hx⟩ : ∃ x, mp3[k]? = some x := ⟨_, List.getElem?_eq_getElem h1⟩
   have hdx := drop_cons hx
   refine hw_skip ?_
   refine seqQ_n ?_
   refine hw_seq ?_
   refine hw_block ?_
   refine hw_reg ?_
   refine dp rfl (pop_idx (f := HVal.str) (l := mp3) (j := k) (a := x) ty36 ty9 rfl rfl rfl hx) ?_
   refine dp rfl (pop_load ty9 rfl rfl rfl) ?_
   refine dp rfl (pop_assign rfl) ?_
   refine dn ?_
   refine hw_reg ?_
   refine dp rfl (pop_assign rfl) ?_
   refine dn ?_
   refine hw_block ?_
   refine hw_loopw2 [3, 6, 8, 9, 17, 18, 19, 20, 21, 22, 23, 24, 25, 26, 27, 28, 29, 30, 31, 32, 33, 34, 35, 36, 37, 38, 39, 40, 41, 42, 43, 44, 45, 46, 47] (fun (w : Nat) (q2 : GL MendS) => [(6, .int .i64 ((w : Int) + 1)), (3, .raw q2.u)]) (fun (w : Nat) (q2 : GL MendS) => [St b l q2.a, .arr q2.u 7 (q2.out.map eMend)]) (fun (w : Nat) (q2 : GL MendS) => w ≤ 2 ∧ GLok GoodMd (8 * k + 4 * w) (a + 24 * k + 12 * w) q2) (fun (w : Nat) (q2 : GL MendS) => 2 - w) (0) (⟨u, out, a2⟩) ?_ ?_ ?_ ?_
   ·exact ⟨by omega, hq.mono (by omega) (by omega)⟩
   ·exact ⟨some_int (by omega), rfl, trivial⟩
   ·repeat (first | exact List.Perm.nil | refine permTo 0 rfl ?_ | refine permTo 1 rfl ?_ | refine permTo 2 rfl ?_ | refine permTo 3 rfl ?_ | (refine permToE 0 rfl ?hq ?_; (case hq => simp [setL, hcells]; done)) | (refine permToE 1 rfl ?hq ?_; (case hq => simp [setL, hcells]; done)) | (refine permToE 2 rfl ?hq ?_; (case hq => simp [setL, hcells]; done)) | (refine permToE 3 rfl ?hq ?_; (case hq => simp [setL, hcells]; done)) | fail)
   ·intro w q2 hinv
    obtain ⟨hw, hq2⟩ := hinv
    obtain ⟨u, out, a2⟩ := q2
    obtain ⟨g1, g2, g3⟩ := id hq2
    dsimp only at g1 g2 g3
    refine hw_seq ?_
    refine hw_reg ?_
    refine dp rfl (pop_move rfl) ?_
    refine dp rfl (pop_leq rfl rfl) ?_
    refine dn ?_
    refine hw_cond rfl (fun h3 => ?_) (fun h4 => ?_)
    ·try simp at h3
     refine hw_skip ?_
     refine seqQ_n ?_
     refine hw_seq ?_
     refine hw_block ?_
     refine hw_reg ?_
     refine dp rfl (pop_buildSlice (hs := [_, _]) ty36 ty9 rfl rfl (by decide) (by decide) rfl) ?_
     refine dp rfl (pop_lenm (f := HVal.str) (l := ms2) ty36 rfl) ?_
     refine dp rfl (pop_move rfl) ?_
     refine dn ?_
     refine hw_block ?_
     refine hw_loopw2 [3, 8, 9, 23, 24, 25, 26, 27, 28, 29, 30, 31, 32, 33, 34, 35, 36, 37, 38, 39, 40, 41, 42, 43, 44, 45, 46, 47] (fun (j : Nat) (q3 : GL MendS) => [(23, .int .i64 j), (3, .raw q3.u)]) (fun (j : Nat) (q3 : GL MendS) => [St b l q3.a, .arr q3.u 7 (q3.out.map eMend)]) (fun (j : Nat) (q3 : GL MendS) => j ≤ ms2.length ∧ (GLok GoodMd (8 * k + 4 * w + 2 * j) (a + 24 * k + 12 * w + 6 * j) q3)) (fun (j : Nat) (q3 : GL MendS) => ms2.length - j) (0) (⟨u, out, a2⟩) ?_ ?_ ?_ ?_
     ·exact ⟨by decide, hq2.mono (by omega) (by omega)⟩
     ·exact ⟨rfl, rfl, trivial⟩
     ·repeat (first | exact List.Perm.nil | refine permTo 0 rfl ?_ | refine permTo 1 rfl ?_ | refine permTo 2 rfl ?_ | refine permTo 3 rfl ?_ | (refine permToE 0 rfl ?hq ?_; (case hq => simp [setL, hcells]; done)) | (refine permToE 1 rfl ?hq ?_; (case hq => simp [setL, hcells]; done)) | (refine permToE 2 rfl ?hq ?_; (case hq => simp [setL, hcells]; done)) | (refine permToE 3 rfl ?hq ?_; (case hq => simp [setL, hcells]; done)) | fail)
     ·intro j q3 hinv
      obtain ⟨hj, hq3⟩ := hinv
      have hj2 : ms2.length = 2 := rfl
      obtain ⟨u, out, a2⟩ := q3
      obtain ⟨g1, g2, g3⟩ := id hq3
      dsimp only at g1 g2 g3
      refine hw_reg ?_
      refine dp rfl (pop_lss rfl rfl) ?_
      refine dn ?_
      refine hw_seq ?_
      refine hw_cond rfl (fun h5 => ?_) (fun h6 => ?_)
      ·try simp at h5
       obtain ⟨z, hz⟩ : ∃ z, ms2[j]? = some z := ⟨_, List.getElem?_eq_getElem h5⟩
       have hdz := drop_cons hz
       refine hw_skip ?_
       refine seqQ_n ?_
       refine hw_seq ?_
       refine hw_block ?_
       refine hw_reg ?_
       refine dp rfl (pop_idx (f := HVal.str) (l := ms2) (j := j) (a := z) ty36 ty9 rfl rfl rfl hz) ?_
       refine dp rfl (pop_load ty9 rfl rfl rfl) ?_
       refine dp rfl (pop_assign rfl) ?_
       refine dn ?_
       refine hw_reg ?_
       refine dp rfl (pop_assign rfl) ?_
       refine dn ?_
       refine hw_block ?_
       refine hw_loopw2 [3, 9, 27, 28, 29, 30, 31, 32, 33, 34, 35, 36, 37, 38, 39, 40, 41, 42, 43, 44, 45, 46] (fun (v : Nat) (q4 : GL MendS) => [(9, .int .i64 ((v : Int) + 1)), (3, .raw q4.u)]) (fun (v : Nat) (q4 : GL MendS) => [St b l q4.a, .arr q4.u 7 (q4.out.map eMend)]) (fun (v : Nat) (q4 : GL MendS) => v ≤ 2 ∧ GLok GoodMd (8 * k + 4 * w + 2 * j + v) (a + 24 * k + 12 * w + 6 * j + 3 * v) q4) (fun (v : Nat) (q4 : GL MendS) => 2 - v) (0) (⟨u, out, a2⟩) ?_ ?_ ?_ ?_
       ·exact ⟨by omega, hq3.mono (by omega) (by omega)⟩
       ·exact ⟨some_int (by omega), rfl, trivial⟩
       ·repeat (first | exact List.Perm.nil | refine permTo 0 rfl ?_ | refine permTo 1 rfl ?_ | refine permTo 2 rfl ?_ | refine permTo 3 rfl ?_ | (refine permToE 0 rfl ?hq ?_; (case hq => simp [setL, hcells]; done)) | (refine permToE 1 rfl ?hq ?_; (case hq => simp [setL, hcells]; done)) | (refine permToE 2 rfl ?hq ?_; (case hq => simp [setL, hcells]; done)) | (refine permToE 3 rfl ?hq ?_; (case hq => simp [setL, hcells]; done)) | fail)
       ·intro v q4 hinv
        obtain ⟨hv, hq4⟩ := hinv
        obtain ⟨u, out, a2⟩ := q4
        obtain ⟨g1, g2, g3⟩ := id hq4
        dsimp only at g1 g2 g3
        refine hw_seq ?_
        refine hw_reg ?_
        refine dp rfl (pop_move rfl) ?_
        refine dp rfl (pop_leq rfl rfl) ?_
        refine dn ?_
        refine hw_cond rfl (fun h7 => ?_) (fun h8 => ?_)
        ·try simp at h7
         refine hw_skip ?_
         refine seqQ_n ?_
         refine hw_seq ?_
         refine hw_block ?_
         refine hw_reg ?_
         refine dp rfl (pop_move rfl) ?_
         first
         | refine de rfl (eop_callx (i := 0) ca49 rfl (WeakL.refl _) rfl (c_benchmake_Stream_Flip (by first | assumption | omega | (simp; omega) | simp_all) (by first | assumption | omega | (simp; omega) | simp_all)) ?_)
         | refine de rfl (eop_callx (i := 1) ca49 rfl (WeakL.refl _) rfl (c_benchmake_Stream_Flip (by first | assumption | omega | (simp; omega) | simp_all) (by first | assumption | omega | (simp; omega) | simp_all)) ?_)
         | refine de rfl (eop_callx (i := 2) ca49 rfl (WeakL.refl _) rfl (c_benchmake_Stream_Flip (by first | assumption | omega | (simp; omega) | simp_all) (by first | assumption | omega | (simp; omega) | simp_all)) ?_)
         | refine de rfl (eop_callx (i := 3) ca49 rfl (WeakL.refl _) rfl (c_benchmake_Stream_Flip (by first | assumption | omega | (simp; omega) | simp_all) (by first | assumption | omega | (simp; omega) | simp_all)) ?_)
         rintro _ _ ⟨y32, rfl, rfl⟩
         refine dn ?_
         refine hw_cond rfl (fun h9 => ?_) (fun h10 => ?_)
         ·try simp at h9
          refine hw_reg1 ?_
          refine dp rfl (pop_move rfl) ?_
          refine dp rfl (pop_move rfl) ?_
          refine dp rfl (pop_move rfl) ?_
          refine dp rfl (pop_move rfl) ?_
          refine dp rfl (pop_move rfl) ?_
          refine dp rfl (pop_buildSlice (hs := [_, _, _]) ty22 ty3 rfl rfl (by decide) (by decide) rfl) ?_
          first
          | refine de rfl (eop_callx (i := 0) ca32 rfl (WeakL.refl _) rfl (c_benchmake_Stream_Pick (L := [_, _, _]) (by first | assumption | omega | (simp; omega) | simp_all) (by first | assumption | omega | (simp; omega) | simp_all) (by first | assumption | omega | (simp; omega) | simp_all)) ?_)
          | refine de rfl (eop_callx (i := 1) ca32 rfl (WeakL.refl _) rfl (c_benchmake_Stream_Pick (L := [_, _, _]) (by first | assumption | omega | (simp; omega) | simp_all) (by first | assumption | omega | (simp; omega) | simp_all) (by first | assumption | omega | (simp; omega) | simp_all)) ?_)
          | refine de rfl (eop_callx (i := 2) ca32 rfl (WeakL.refl _) rfl (c_benchmake_Stream_Pick (L := [_, _, _]) (by first | assumption | omega | (simp; omega) | simp_all) (by first | assumption | omega | (simp; omega) | simp_all) (by first | assumption | omega | (simp; omega) | simp_all)) ?_)
          | refine de rfl (eop_callx (i := 3) ca32 rfl (WeakL.refl _) rfl (c_benchmake_Stream_Pick (L := [_, _, _]) (by first | assumption | omega | (simp; omega) | simp_all) (by first | assumption | omega | (simp; omega) | simp_all) (by first | assumption | omega | (simp; omega) | simp_all)) ?_)
          rintro _ _ ⟨y39, rfl, hy39, rfl⟩
          refine dp rfl (pop_move rfl) ?_
          refine dp rfl (pop_buildSlice (hs := [_, _, _]) ty22 ty3 rfl rfl (by decide) (by decide) rfl) ?_
          first
          | refine de rfl (eop_callx (i := 0) ca32 rfl (WeakL.refl _) rfl (c_benchmake_Stream_Pick (L := [_, _, _]) (by first | assumption | omega | (simp; omega) | simp_all) (by first | assumption | omega | (simp; omega) | simp_all) (by first | assumption | omega | (simp; omega) | simp_all)) ?_)
          | refine de rfl (eop_callx (i := 1) ca32 rfl (WeakL.refl _) rfl (c_benchmake_Stream_Pick (L := [_, _, _]) (by first | assumption | omega | (simp; omega) | simp_all) (by first | assumption | omega | (simp; omega) | simp_all) (by first | assumption | omega | (simp; omega) | simp_all)) ?_)
          | refine de rfl (eop_callx (i := 2) ca32 rfl (WeakL.refl _) rfl (c_benchmake_Stream_Pick (L := [_, _, _]) (by first | assumption | omega | (simp; omega) | simp_all) (by first | assumption | omega | (simp; omega) | simp_all) (by first | assumption | omega | (simp; omega) | simp_all)) ?_)
          | refine de rfl (eop_callx (i := 3) ca32 rfl (WeakL.refl _) rfl (c_benchmake_Stream_Pick (L := [_, _, _]) (by first | assumption | omega | (simp; omega) | simp_all) (by first | assumption | omega | (simp; omega) | simp_all) (by first | assumption | omega | (simp; omega) | simp_all)) ?_)
          rintro _ _ ⟨y42, rfl, hy42, rfl⟩
          refine dp rfl (pop_move rfl) ?_
          refine dp rfl (pop_build (cs := [_, _, _, _, _, _, _]) ty69 pl69 rfl) ?_
          refine dp rfl (pop_buildSlice (hs := [_]) ty46 ty69 rfl rfl (by decide) (by decide) rfl) ?_
          refine de rfl (eop_append (i := 1) ty46 ty69 rfl rfl rfl rfl rfl (by simp [flat, hcells, ofVal, ofVal1]) (by simp; omega) fun v46 => ?_)
          refine dp rfl (pop_assign rfl) ?_
          refine dn ?_
          refine blockQ_n ?_
          refine seqQ_n ?_
          refine hw_reg1 ?_
          refine dp rfl (pop_move rfl) ?_
          refine dp rfl (pop_add64 rfl rfl (by omega) (by omega)) ?_
          refine dp rfl (pop_assign rfl) ?_
          refine dn ?_
          exact ⟨v + 1, ⟨v46, out ++ [(⟨x, (w : Int) + 1, z, y39, y42, (v : Int) + 1, [98, 111, 115, 115]⟩ : MendS)], a2 + 1 + 1 + 1⟩, ⟨by omega, hq4.add (x := (⟨x, (w : Int) + 1, z, y39, y42, (v : Int) + 1, [98, 111, 115, 115]⟩ : MendS)) ⟨mp3_sh x (List.mem_of_getElem? hx), ms2_sh z (List.mem_of_getElem? hz), by unfold Sh; simp⟩ (by omega)⟩, by dsimp only; omega, ⟨some_int (by omega), rfl, trivial⟩, (by repeat (first | exact keeps_refl | refine keeps_upd rfl ?_ | refine keeps_loop rfl rfl ?_)), perm_eq (by dsimp only; rw [List.map_append]; rfl)⟩
         ·try simp at h10
          refine hw_skip ?_
          refine blockQ_n ?_
          refine seqQ_n ?_
          refine hw_reg1 ?_
          refine dp rfl (pop_move rfl) ?_
          refine dp rfl (pop_add64 rfl rfl (by omega) (by omega)) ?_
          refine dp rfl (pop_assign rfl) ?_
          refine dn ?_
          exact ⟨v + 1, ⟨u, out, a2 + 1⟩, ⟨by omega, hq4.same (by omega)⟩, by dsimp only; omega, ⟨some_int (by omega), rfl, trivial⟩, (by repeat (first | exact keeps_refl | refine keeps_upd rfl ?_ | refine keeps_loop rfl rfl ?_)), by repeat (first | exact List.Perm.nil | refine permTo 0 rfl ?_ | refine permTo 1 rfl ?_ | refine permTo 2 rfl ?_ | refine permTo 3 rfl ?_ | (refine permToE 0 rfl ?hq ?_; (case hq => simp [setL, hcells]; done)) | (refine permToE 1 rfl ?hq ?_; (case hq => simp [setL, hcells]; done)) | (refine permToE 2 rfl ?hq ?_; (case hq => simp [setL, hcells]; done)) | (refine permToE 3 rfl ?hq ?_; (case hq => simp [setL, hcells]; done)) | fail)⟩
        ·try simp at h8
         refine hw_exit ?_
         refine seqQ_x ?_
         refine loopQ2_x ?_
         refine blockQ_eq ?_
         refine blockQ_n ?_
         refine seqQ_n ?_
         refine hw_reg1 ?_
         refine dp rfl (pop_add64 rfl rfl (by omega) (by omega)) ?_
         refine dp rfl (pop_move rfl) ?_
         refine dn ?_
         exact ⟨j + 1, ⟨u, out, a2⟩, ⟨by omega, hq4.mono (by omega) (by omega)⟩, by dsimp only; omega, ⟨rfl, rfl, trivial⟩, (by repeat (first | exact keeps_refl | refine keeps_upd rfl ?_ | refine keeps_loop rfl rfl ?_)), by repeat (first | exact List.Perm.nil | refine permTo 0 rfl ?_ | refine permTo 1 rfl ?_ | refine permTo 2 rfl ?_ | refine permTo 3 rfl ?_ | (refine permToE 0 rfl ?hq ?_; (case hq => simp [setL, hcells]; done)) | (refine permToE 1 rfl ?hq ?_; (case hq => simp [setL, hcells]; done)) | (refine permToE 2 rfl ?hq ?_; (case hq => simp [setL, hcells]; done)) | (refine permToE 3 rfl ?hq ?_; (case hq => simp [setL, hcells]; done)) | fail)⟩
      ·try simp at h6
       have hnj : ms2.length ≤ j := by omega
       obtain rfl : j = ms2.length := by omega
       refine hw_exit ?_
       refine seqQ_x ?_
       refine loopQ2_x ?_
       refine blockQ_eq ?_
       refine blockQ_n ?_
       refine seqQ_n ?_
       refine hw_reg1 ?_
       refine dp rfl (pop_move rfl) ?_
       refine dp rfl (pop_add64 rfl rfl (by omega) (by omega)) ?_
       refine dp rfl (pop_assign rfl) ?_
       refine dn ?_
       exact ⟨w + 1, ⟨u, out, a2⟩, ⟨by omega, hq3.mono (by omega) (by omega)⟩, by dsimp only; omega, ⟨some_int (by omega), rfl, trivial⟩, (by repeat (first | exact keeps_refl | refine keeps_upd rfl ?_ | refine keeps_loop rfl rfl ?_)), by repeat (first | exact List.Perm.nil | refine permTo 0 rfl ?_ | refine permTo 1 rfl ?_ | refine permTo 2 rfl ?_ | refine permTo 3 rfl ?_ | (refine permToE 0 rfl ?hq ?_; (case hq => simp [setL, hcells]; done)) | (refine permToE 1 rfl ?hq ?_; (case hq => simp [setL, hcells]; done)) | (refine permToE 2 rfl ?hq ?_; (case hq => simp [setL, hcells]; done)) | (refine permToE 3 rfl ?hq ?_; (case hq => simp [setL, hcells]; done)) | fail)⟩
    ·try simp at h4
     refine hw_exit ?_
     refine seqQ_x ?_
     refine loopQ2_x ?_
     refine blockQ_eq ?_
     refine blockQ_n ?_
     refine seqQ_n ?_
     refine hw_reg1 ?_
     refine dp rfl (pop_add64 rfl rfl (by omega) (by omega)) ?_
     refine dp rfl (pop_move rfl) ?_
     refine dn ?_
     exact ⟨k + 1, ⟨u, out, a2⟩, ⟨by omega, hq2.mono (by omega) (by omega)⟩, by dsimp only; omega, ⟨rfl, rfl, trivial⟩, (by repeat (first | exact keeps_refl | refine keeps_upd rfl ?_ | refine keeps_loop rfl rfl ?_)), by repeat (first | exact List.Perm.nil | refine permTo 0 rfl ?_ | refine permTo 1 rfl ?_ | refine permTo 2 rfl ?_ | refine permTo 3 rfl ?_ | (refine permToE 0 rfl ?hq ?_; (case hq => simp [setL, hcells]; done)) | (refine permToE 1 rfl ?hq ?_; (case hq => simp [setL, hcells]; done)) | (refine permToE 2 rfl ?hq ?_; (case hq => simp [setL, hcells]; done)) | (refine permToE 3 rfl ?hq ?_; (case hq => simp [setL, hcells]; done)) | fail)⟩
  ·try simp at h2
   have hnk : mp3.length ≤ k := by omega
   obtain rfl : k = mp3.length := by omega
   refine hw_exit ?_
   refine seqQ_x ?_
   refine loopQ2_x ?_
   refine blockQ_eq ?_
   refine seqQ_n ?_
   refine hw_join (10 :: 49 :: 50 :: 51 :: 52 :: 53 :: 54 :: 55 :: 56 :: 57 :: 58 :: 59 :: 60 :: 61 :: 62 :: 63 :: 64 :: 65 :: 66 :: 67 :: 68 :: 69 :: 70 :: 71 :: 72 :: 73 :: 74 :: 75 :: 76 :: 77 :: 78 :: 79 :: 80 :: 81 :: 82 :: 83 :: 84 :: 85 :: 86 :: 87 :: 88 :: 89 :: 90 :: 91 :: 92 :: 93 :: 94 :: 95 :: 96 :: 97 :: 98 :: 99 :: 100 :: 101 :: 102 :: 103 :: 104 :: 105 :: 106 :: 107 :: []) (fun (q5 : List MendS × Nat) => []) (fun (q5 : List MendS × Nat) => [St b l q5.2, .arr u 7 (q5.1.map eMend)]) (fun (q5 : List MendS × Nat) => q5.1.length ≤ 24 ∧ (∀ x ∈ q5.1, GoodMd x) ∧ q5.2 ≤ a + 100) ?_ ?_
   ·skip
    refine hw_reg ?_
    refine dp rfl (pop_move rfl) ?_
    first
    | refine de rfl (eop_lenm (i := 0) ty46 rfl rfl ?_)
    | refine de rfl (eop_lenm (i := 1) ty46 rfl rfl ?_)
    | refine de rfl (eop_lenm (i := 2) ty46 rfl rfl ?_)
    | refine de rfl (eop_lenm (i := 3) ty46 rfl rfl ?_)
    refine dp rfl (pop_gtr rfl rfl) ?_
    refine dp rfl (pop_move rfl) ?_
    refine dg rfl rfl (fun hc => ⟨_, OpenTo.refl _, pop_move rfl⟩) ?_
    refine dgx (fun x M' => ∃ (y : Bool) (a3 : Nat), x = .bool y ∧ a3 ≤ a2 + 1 ∧ M' = [St b l a3, .arr u 7 (out.map eMend)]) rfl rfl (fun hc => ⟨_, false, a2, rfl, by omega, rfl⟩) (fun hc => ⟨_, OpenTo.upd (t := 53) rfl (by first | exact hc | simp_all) (OpenTo.refl _), eop_callx (i := 0) ca49 rfl (WeakL.refl _) rfl (c_benchmake_Stream_Flip (a := a2) (by omega) (by omega)) (fun h M' hh => by
     obtain ⟨y, h1, h2⟩ := hh
     exact ⟨y, a2 + 1, h1, by omega, by rw [h2]; rfl⟩)⟩) ?_
    rintro _ _ ⟨y, a3, rfl, ha3, rfl⟩
    refine dp rfl (pop_picko rfl (.inr ⟨_, rfl, fun h => by simp_all⟩) (.inl rfl)) ?_
    refine dn ?_
    refine hw_cond rfl (fun h11 => ?_) (fun h12 => ?_)
    ·try simp at h11
     have ho0 : 0 < out.length := by simp_all
     refine hw_arrc (i := 1) rfl (fun h0 he => ?_) (fun ob off cap hv hcap => ?_)
     ·exfalso; have := congrArg List.length he; simp at this; subst this; simp at ho0
     subst hv
     refine hw_reg ?_
     refine dp rfl (pop_move rfl) ?_
     refine dp rfl (pop_move rfl) ?_
     refine dp rfl (pop_move rfl) ?_
     first
     | refine de rfl (eop_lenm (i := 0) ty46 rfl rfl ?_)
     | refine de rfl (eop_lenm (i := 1) ty46 rfl rfl ?_)
     | refine de rfl (eop_lenm (i := 2) ty46 rfl rfl ?_)
     | refine de rfl (eop_lenm (i := 3) ty46 rfl rfl ?_)
     first
     | refine de rfl (eop_callx (i := 0) ca50 rfl (WeakL.refl _) rfl (c_benchmake_Stream_Next (by first | assumption | omega | (simp; omega) | simp_all) (by first | assumption | omega | (simp; omega) | simp_all)) ?_)
     | refine de rfl (eop_callx (i := 1) ca50 rfl (WeakL.refl _) rfl (c_benchmake_Stream_Next (by first | assumption | omega | (simp; omega) | simp_all) (by first | assumption | omega | (simp; omega) | simp_all)) ?_)
     | refine de rfl (eop_callx (i := 2) ca50 rfl (WeakL.refl _) rfl (c_benchmake_Stream_Next (by first | assumption | omega | (simp; omega) | simp_all) (by first | assumption | omega | (simp; omega) | simp_all)) ?_)
     | refine de rfl (eop_callx (i := 3) ca50 rfl (WeakL.refl _) rfl (c_benchmake_Stream_Next (by first | assumption | omega | (simp; omega) | simp_all) (by first | assumption | omega | (simp; omega) | simp_all)) ?_)
     rintro _ _ ⟨y60, rfl, hy60, rfl⟩
     refine dp rfl (pop_idxraw (j := y60) ty46 ty69 rfl rfl rfl (by simp; omega)) ?_
     refine dp rfl (pop_assign rfl) ?_
     refine dn ?_
     obtain ⟨x, hx⟩ : ∃ x, out[y60]? = some x := ⟨_, List.getElem?_eq_getElem (by omega)⟩
     refine hw_draw1 (fun M => ∃ i : Nat, M[i]? = some (.arr (.slice (some ⟨ob, off, none⟩) (out.map eMend).length cap) 7 (out.map eMend))) [9, 16, 23, 30] mixed ?_
     refine ahp 0 rfl rfl (by kernel_rfl) (by kernel_rfl) (pop_move rfl) ?_
     refine ahp 1 rfl rfl (by kernel_rfl) (by kernel_rfl) (pop_move rfl) ?_
     refine ahp 2 rfl rfl (by kernel_rfl) (by kernel_rfl) (pop_move rfl) ?_
     refine ahp 3 rfl rfl (by kernel_rfl) (by kernel_rfl) (pop_move rfl) ?_
     refine ahp 4 rfl rfl (by kernel_rfl) (by kernel_rfl) (pop_move rfl) ?_
     refine ahp 5 rfl rfl (by kernel_rfl) (by kernel_rfl) (pop_move rfl) ?_
     refine ahp 6 rfl rfl (by kernel_rfl) (by kernel_rfl) (pop_move rfl) ?_
     refine ahp 7 rfl rfl (by kernel_rfl) (by kernel_rfl) ((by first | exact pop_nilCheck rfl | exact pop_nilCheck_raw rfl)) ?_
     refine ahp 8 rfl rfl (by kernel_rfl) (by kernel_rfl) ((by first | exact pop_fieldAddr ty69 rfl ty9 (by decide) rfl | exact pop_fieldAddr_raw ty69 rfl ty9 (by decide) rfl)) ?_
     refine ahl 9 rfl rfl (by kernel_rfl) (by kernel_rfl) (by simp) ⟨1, rfl⟩ (fun M hM => by obtain ⟨i, hi⟩ := hM; exact eop_load_el (i := i) (j := y60) 0 ty9 rfl (by omega) hi hx rfl rfl ⟨rfl, rfl⟩) ?_
     refine ahp 10 rfl rfl (by kernel_rfl) (by kernel_rfl) (pop_buildSlice (hs := [_, _, _]) ty36 ty9 rfl rfl (by decide) (by decide) rfl) ?_
     refine ahp 12 rfl rfl (by kernel_rfl) (by kernel_rfl) (pop_move rfl) ?_
     refine ahp 13 rfl rfl (by kernel_rfl) (by kernel_rfl) (pop_move rfl) ?_
     refine ahp 14 rfl rfl (by kernel_rfl) (by kernel_rfl) ((by first | exact pop_nilCheck rfl | exact pop_nilCheck_raw rfl)) ?_
     refine ahp 15 rfl rfl (by kernel_rfl) (by kernel_rfl) ((by first | exact pop_fieldAddr ty69 rfl ty3 (by decide) rfl | exact pop_fieldAddr_raw ty69 rfl ty3 (by decide) rfl)) ?_
     refine ahl 16 rfl rfl (by kernel_rfl) (by kernel_rfl) (by simp) ⟨1, rfl⟩ (fun M hM => by obtain ⟨i, hi⟩ := hM; exact eop_load_el (i := i) (j := y60) 1 ty3 rfl (by omega) hi hx rfl rfl ⟨rfl, rfl⟩) ?_
     refine ahp 17 rfl rfl (by kernel_rfl) (by kernel_rfl) (pop_buildSlice (hs := [_, _]) ty22 ty3 rfl rfl (by decide) (by decide) rfl) ?_
     refine ahp 19 rfl rfl (by kernel_rfl) (by kernel_rfl) (pop_move rfl) ?_
     refine ahp 20 rfl rfl (by kernel_rfl) (by kernel_rfl) (pop_move rfl) ?_
     refine ahp 21 rfl rfl (by kernel_rfl) (by kernel_rfl) ((by first | exact pop_nilCheck rfl | exact pop_nilCheck_raw rfl)) ?_
     refine ahp 22 rfl rfl (by kernel_rfl) (by kernel_rfl) ((by first | exact pop_fieldAddr ty69 rfl ty3 (by decide) rfl | exact pop_fieldAddr_raw ty69 rfl ty3 (by decide) rfl)) ?_
     refine ahl 23 rfl rfl (by kernel_rfl) (by kernel_rfl) (by simp) ⟨1, rfl⟩ (fun M hM => by obtain ⟨i, hi⟩ := hM; exact eop_load_el (i := i) (j := y60) 3 ty3 rfl (by omega) hi hx rfl rfl ⟨rfl, rfl⟩) ?_
     refine ahp 24 rfl rfl (by kernel_rfl) (by kernel_rfl) (pop_buildSlice (hs := [_, _]) ty22 ty3 rfl rfl (by decide) (by decide) rfl) ?_
     refine ahp 26 rfl rfl (by kernel_rfl) (by kernel_rfl) (pop_move rfl) ?_
     refine ahp 27 rfl rfl (by kernel_rfl) (by kernel_rfl) (pop_move rfl) ?_
     refine ahp 28 rfl rfl (by kernel_rfl) (by kernel_rfl) ((by first | exact pop_nilCheck rfl | exact pop_nilCheck_raw rfl)) ?_
     refine ahp 29 rfl rfl (by kernel_rfl) (by kernel_rfl) ((by first | exact pop_fieldAddr ty69 rfl ty3 (by decide) rfl | exact pop_fieldAddr_raw ty69 rfl ty3 (by decide) rfl)) ?_
     refine ahl 30 rfl rfl (by kernel_rfl) (by kernel_rfl) (by simp) ⟨1, rfl⟩ (fun M hM => by obtain ⟨i, hi⟩ := hM; exact eop_load_el (i := i) (j := y60) 5 ty3 rfl (by omega) hi hx rfl rfl ⟨rfl, rfl⟩) ?_
     refine ahp 31 rfl rfl (by kernel_rfl) (by kernel_rfl) (pop_buildSlice (hs := [_, _, _]) ty22 ty3 rfl rfl (by decide) (by decide) rfl) ?_
     refine ahp 33 rfl rfl (by kernel_rfl) (by kernel_rfl) (pop_move rfl) ?_
     refine ahp 34 rfl rfl (by kernel_rfl) (by kernel_rfl) (pop_buildSlice (hs := [_, _]) ty36 ty9 rfl rfl (by decide) (by decide) rfl) ?_
     refine ahe 11 rfl (by kernel_rfl) ?_
     first
     | refine hop_e rfl (eop_callx (i := 0) ca31 rfl (WeakL.refl _) rfl (c_benchmake_Stream_Some (L := [_, _, _]) (by first | assumption | omega | (simp; omega) | simp_all) (by first | assumption | omega | (simp; omega) | simp_all) (by first | assumption | omega | (simp; omega) | simp_all)) ?_)
     | refine hop_e rfl (eop_callx (i := 1) ca31 rfl (WeakL.refl _) rfl (c_benchmake_Stream_Some (L := [_, _, _]) (by first | assumption | omega | (simp; omega) | simp_all) (by first | assumption | omega | (simp; omega) | simp_all) (by first | assumption | omega | (simp; omega) | simp_all)) ?_)
     | refine hop_e rfl (eop_callx (i := 2) ca31 rfl (WeakL.refl _) rfl (c_benchmake_Stream_Some (L := [_, _, _]) (by first | assumption | omega | (simp; omega) | simp_all) (by first | assumption | omega | (simp; omega) | simp_all) (by first | assumption | omega | (simp; omega) | simp_all)) ?_)
     | refine hop_e rfl (eop_callx (i := 3) ca31 rfl (WeakL.refl _) rfl (c_benchmake_Stream_Some (L := [_, _, _]) (by first | assumption | omega | (simp; omega) | simp_all) (by first | assumption | omega | (simp; omega) | simp_all) (by first | assumption | omega | (simp; omega) | simp_all)) ?_)
     rintro _ _ ⟨y73, rfl, hy73, rfl⟩
     refine ⟨fun _ => by first | exact .inl ⟨0, rfl⟩ | exact .inl ⟨1, rfl⟩ | exact .inl ⟨2, rfl⟩ | exact .inr (by simp [Before, Region.binds]), ?_⟩
     refine ahe 18 rfl (by kernel_rfl) ?_
     first
     | refine hop_e rfl (eop_callx (i := 0) ca32 rfl (WeakL.refl _) rfl (c_benchmake_Stream_Pick (L := [_, _]) (by first | assumption | omega | (simp; omega) | simp_all) (by first | assumption | omega | (simp; omega) | simp_all) (by first | assumption | omega | (simp; omega) | simp_all)) ?_)
     | refine hop_e rfl (eop_callx (i := 1) ca32 rfl (WeakL.refl _) rfl (c_benchmake_Stream_Pick (L := [_, _]) (by first | assumption | omega | (simp; omega) | simp_all) (by first | assumption | omega | (simp; omega) | simp_all) (by first | assumption | omega | (simp; omega) | simp_all)) ?_)
     | refine hop_e rfl (eop_callx (i := 2) ca32 rfl (WeakL.refl _) rfl (c_benchmake_Stream_Pick (L := [_, _]) (by first | assumption | omega | (simp; omega) | simp_all) (by first | assumption | omega | (simp; omega) | simp_all) (by first | assumption | omega | (simp; omega) | simp_all)) ?_)
     | refine hop_e rfl (eop_callx (i := 3) ca32 rfl (WeakL.refl _) rfl (c_benchmake_Stream_Pick (L := [_, _]) (by first | assumption | omega | (simp; omega) | simp_all) (by first | assumption | omega | (simp; omega) | simp_all) (by first | assumption | omega | (simp; omega) | simp_all)) ?_)
     rintro _ _ ⟨y80, rfl, hy80, rfl⟩
     refine ⟨fun _ => by first | exact .inl ⟨0, rfl⟩ | exact .inl ⟨1, rfl⟩ | exact .inl ⟨2, rfl⟩ | exact .inr (by simp [Before, Region.binds]), ?_⟩
     refine ahe 25 rfl (by kernel_rfl) ?_
     first
     | refine hop_e rfl (eop_callx (i := 0) ca32 rfl (WeakL.refl _) rfl (c_benchmake_Stream_Pick (L := [_, _]) (by first | assumption | omega | (simp; omega) | simp_all) (by first | assumption | omega | (simp; omega) | simp_all) (by first | assumption | omega | (simp; omega) | simp_all)) ?_)
     | refine hop_e rfl (eop_callx (i := 1) ca32 rfl (WeakL.refl _) rfl (c_benchmake_Stream_Pick (L := [_, _]) (by first | assumption | omega | (simp; omega) | simp_all) (by first | assumption | omega | (simp; omega) | simp_all) (by first | assumption | omega | (simp; omega) | simp_all)) ?_)
     | refine hop_e rfl (eop_callx (i := 2) ca32 rfl (WeakL.refl _) rfl (c_benchmake_Stream_Pick (L := [_, _]) (by first | assumption | omega | (simp; omega) | simp_all) (by first | assumption | omega | (simp; omega) | simp_all) (by first | assumption | omega | (simp; omega) | simp_all)) ?_)
     | refine hop_e rfl (eop_callx (i := 3) ca32 rfl (WeakL.refl _) rfl (c_benchmake_Stream_Pick (L := [_, _]) (by first | assumption | omega | (simp; omega) | simp_all) (by first | assumption | omega | (simp; omega) | simp_all) (by first | assumption | omega | (simp; omega) | simp_all)) ?_)
     rintro _ _ ⟨y87, rfl, hy87, rfl⟩
     refine ⟨fun _ => by first | exact .inl ⟨0, rfl⟩ | exact .inl ⟨1, rfl⟩ | exact .inl ⟨2, rfl⟩ | exact .inr (by simp [Before, Region.binds]), ?_⟩
     refine ahe 32 rfl (by kernel_rfl) ?_
     first
     | refine hop_e rfl (eop_callx (i := 0) ca32 rfl (WeakL.refl _) rfl (c_benchmake_Stream_Pick (L := [_, _, _]) (by first | assumption | omega | (simp; omega) | simp_all) (by first | assumption | omega | (simp; omega) | simp_all) (by first | assumption | omega | (simp; omega) | simp_all)) ?_)
     | refine hop_e rfl (eop_callx (i := 1) ca32 rfl (WeakL.refl _) rfl (c_benchmake_Stream_Pick (L := [_, _, _]) (by first | assumption | omega | (simp; omega) | simp_all) (by first | assumption | omega | (simp; omega) | simp_all) (by first | assumption | omega | (simp; omega) | simp_all)) ?_)
     | refine hop_e rfl (eop_callx (i := 2) ca32 rfl (WeakL.refl _) rfl (c_benchmake_Stream_Pick (L := [_, _, _]) (by first | assumption | omega | (simp; omega) | simp_all) (by first | assumption | omega | (simp; omega) | simp_all) (by first | assumption | omega | (simp; omega) | simp_all)) ?_)
     | refine hop_e rfl (eop_callx (i := 3) ca32 rfl (WeakL.refl _) rfl (c_benchmake_Stream_Pick (L := [_, _, _]) (by first | assumption | omega | (simp; omega) | simp_all) (by first | assumption | omega | (simp; omega) | simp_all) (by first | assumption | omega | (simp; omega) | simp_all)) ?_)
     rintro _ _ ⟨y94, rfl, hy94, rfl⟩
     refine ⟨fun _ => by first | exact .inl ⟨0, rfl⟩ | exact .inl ⟨1, rfl⟩ | exact .inl ⟨2, rfl⟩ | exact .inr (by simp [Before, Region.binds]), ?_⟩
     refine ahe 35 rfl (by kernel_rfl) ?_
     first
     | refine hop_e rfl (eop_callx (i := 0) ca31 rfl (WeakL.refl _) rfl (c_benchmake_Stream_Some (L := [_, _]) (by first | assumption | omega | (simp; omega) | simp_all) (by first | assumption | omega | (simp; omega) | simp_all) (by first | assumption | omega | (simp; omega) | simp_all)) ?_)
     | refine hop_e rfl (eop_callx (i := 1) ca31 rfl (WeakL.refl _) rfl (c_benchmake_Stream_Some (L := [_, _]) (by first | assumption | omega | (simp; omega) | simp_all) (by first | assumption | omega | (simp; omega) | simp_all) (by first | assumption | omega | (simp; omega) | simp_all)) ?_)
     | refine hop_e rfl (eop_callx (i := 2) ca31 rfl (WeakL.refl _) rfl (c_benchmake_Stream_Some (L := [_, _]) (by first | assumption | omega | (simp; omega) | simp_all) (by first | assumption | omega | (simp; omega) | simp_all) (by first | assumption | omega | (simp; omega) | simp_all)) ?_)
     | refine hop_e rfl (eop_callx (i := 3) ca31 rfl (WeakL.refl _) rfl (c_benchmake_Stream_Some (L := [_, _]) (by first | assumption | omega | (simp; omega) | simp_all) (by first | assumption | omega | (simp; omega) | simp_all) (by first | assumption | omega | (simp; omega) | simp_all)) ?_)
     rintro _ _ ⟨y97, rfl, hy97, rfl⟩
     refine ⟨fun _ => by first | exact .inl ⟨0, rfl⟩ | exact .inl ⟨1, rfl⟩ | exact .inl ⟨2, rfl⟩ | exact .inr (by simp [Before, Region.binds]), ?_⟩
     refine ahp 36 rfl rfl (by kernel_rfl) (by kernel_rfl) ((by first | exact pop_nilCheck rfl | exact pop_nilCheck_raw rfl)) ?_
     refine ahp 37 rfl rfl (by kernel_rfl) (by kernel_rfl) ((by first | exact pop_fieldAddr ty69 rfl ty9 (by decide) rfl | exact pop_fieldAddr_raw ty69 rfl ty9 (by decide) rfl)) ?_
     refine ahe 38 rfl (by kernel_rfl) ?_
     refine hop_e0 (eop_store_arr (i := 1) (j := y60) (f := 0) (y := eMend x) (y' := eMend ⟨y73, x.Week, x.Stat, x.Count, x.At, x.Version, x.By⟩) ty9 rfl (by omega) rfl rfl (map_get hx) rfl rfl (by simp [hcells]) rfl ?_)
     refine ⟨fun _ => .inr (by simp [Before, Region.binds]), ?_⟩
     refine ahp 39 rfl rfl (by kernel_rfl) (by kernel_rfl) ((by first | exact pop_nilCheck rfl | exact pop_nilCheck_raw rfl)) ?_
     refine ahp 40 rfl rfl (by kernel_rfl) (by kernel_rfl) ((by first | exact pop_fieldAddr ty69 rfl ty3 (by decide) rfl | exact pop_fieldAddr_raw ty69 rfl ty3 (by decide) rfl)) ?_
     refine ahe 41 rfl (by kernel_rfl) ?_
     refine hop_e0 (eop_store_arr (i := 1) (j := y60) (f := 1) (y := eMend ⟨y73, x.Week, x.Stat, x.Count, x.At, x.Version, x.By⟩) (y' := eMend ⟨y73, y80, x.Stat, x.Count, x.At, x.Version, x.By⟩) ty3 rfl (by omega) rfl rfl (set_self (map_get hx)) rfl rfl (by simp [hcells]) rfl ?_)
     refine ⟨fun _ => .inr (by simp [Before, Region.binds]), ?_⟩
     refine ahp 42 rfl rfl (by kernel_rfl) (by kernel_rfl) ((by first | exact pop_nilCheck rfl | exact pop_nilCheck_raw rfl)) ?_
     refine ahp 43 rfl rfl (by kernel_rfl) (by kernel_rfl) ((by first | exact pop_fieldAddr ty69 rfl ty3 (by decide) rfl | exact pop_fieldAddr_raw ty69 rfl ty3 (by decide) rfl)) ?_
     refine ahe 44 rfl (by kernel_rfl) ?_
     refine hop_e0 (eop_store_arr (i := 1) (j := y60) (f := 3) (y := eMend ⟨y73, y80, x.Stat, x.Count, x.At, x.Version, x.By⟩) (y' := eMend ⟨y73, y80, x.Stat, y87, x.At, x.Version, x.By⟩) ty3 rfl (by omega) rfl rfl (set_self (set_self (map_get hx))) rfl rfl (by simp [hcells]) rfl ?_)
     refine ⟨fun _ => .inr (by simp [Before, Region.binds]), ?_⟩
     refine ahp 45 rfl rfl (by kernel_rfl) (by kernel_rfl) ((by first | exact pop_nilCheck rfl | exact pop_nilCheck_raw rfl)) ?_
     refine ahp 46 rfl rfl (by kernel_rfl) (by kernel_rfl) ((by first | exact pop_fieldAddr ty69 rfl ty3 (by decide) rfl | exact pop_fieldAddr_raw ty69 rfl ty3 (by decide) rfl)) ?_
     refine ahe 47 rfl (by kernel_rfl) ?_
     refine hop_e0 (eop_store_arr (i := 1) (j := y60) (f := 5) (y := eMend ⟨y73, y80, x.Stat, y87, x.At, x.Version, x.By⟩) (y' := eMend ⟨y73, y80, x.Stat, y87, x.At, y94, x.By⟩) ty3 rfl (by omega) rfl rfl (set_self (set_self (set_self (map_get hx)))) rfl rfl (by simp [hcells]) rfl ?_)
     refine ⟨fun _ => .inr (by simp [Before, Region.binds]), ?_⟩
     refine ahp 48 rfl rfl (by kernel_rfl) (by kernel_rfl) ((by first | exact pop_nilCheck rfl | exact pop_nilCheck_raw rfl)) ?_
     refine ahp 49 rfl rfl (by kernel_rfl) (by kernel_rfl) ((by first | exact pop_fieldAddr ty69 rfl ty9 (by decide) rfl | exact pop_fieldAddr_raw ty69 rfl ty9 (by decide) rfl)) ?_
     refine ahe 50 rfl (by kernel_rfl) ?_
     refine hop_e0 (eop_store_arr (i := 1) (j := y60) (f := 6) (y := eMend ⟨y73, y80, x.Stat, y87, x.At, y94, x.By⟩) (y' := eMend ⟨y73, y80, x.Stat, y87, x.At, y94, y97⟩) ty9 rfl (by omega) rfl rfl (set_self (set_self (set_self (set_self (map_get hx))))) rfl rfl (by simp [hcells]) rfl ?_)
     refine ⟨fun _ => .inr (by simp [Before, Region.binds]), ?_⟩
     refine ahz (by kernel_rfl) ?_
     exact ⟨(out.set y60 ⟨y73, y80, x.Stat, y87, x.At, y94, y97⟩, a3 + 1 + 1 + 1 + 1 + 1 + 1), ⟨by simp; omega, all_set (P := GoodMd) g2 (by
      have hgx := g2 x (List.mem_of_getElem? hx)
      exact ⟨by simp at hy73; rcases hy73 with rfl | rfl | rfl; exact hgx.1; exact nil_sh; (unfold Sh; simp), hgx.2.1, by simp at hy97; rcases hy97 with rfl | rfl <;> (unfold Sh; simp)⟩), by dsimp only; omega⟩, trivial, (by repeat (first | exact keeps_refl | refine keeps_upd rfl ?_ | refine keeps_loop rfl rfl ?_)), by repeat (first | exact List.Perm.nil | refine permTo 0 rfl ?_ | refine permTo 1 rfl ?_ | refine permTo 2 rfl ?_ | refine permTo 3 rfl ?_ | (refine permToE 0 rfl ?hq ?_; (case hq => simp [setL, hcells]; done)) | (refine permToE 1 rfl ?hq ?_; (case hq => simp [setL, hcells]; done)) | (refine permToE 2 rfl ?hq ?_; (case hq => simp [setL, hcells]; done)) | (refine permToE 3 rfl ?hq ?_; (case hq => simp [setL, hcells]; done)) | fail)⟩
    ·try simp at h12
     refine hw_skip ?_
     exact ⟨(out, a3), ⟨by dsimp only; omega, g2, by dsimp only; omega⟩, trivial, (by repeat (first | exact keeps_refl | refine keeps_upd rfl ?_ | refine keeps_loop rfl rfl ?_)), by repeat (first | exact List.Perm.nil | refine permTo 0 rfl ?_ | refine permTo 1 rfl ?_ | refine permTo 2 rfl ?_ | refine permTo 3 rfl ?_ | (refine permToE 0 rfl ?hq ?_; (case hq => simp [setL, hcells]; done)) | (refine permToE 1 rfl ?hq ?_; (case hq => simp [setL, hcells]; done)) | (refine permToE 2 rfl ?hq ?_; (case hq => simp [setL, hcells]; done)) | (refine permToE 3 rfl ?hq ?_; (case hq => simp [setL, hcells]; done)) | fail)⟩
   ·intro q5 hq5
    obtain ⟨k1, a4⟩ := q5
    dsimp only at hq5
    obtain ⟨q1, q2, q3⟩ := hq5
    refine hw_reg ?_
    refine dp rfl (pop_move rfl) ?_
    refine dp rfl (pop_assign rfl) ?_
    refine dn ?_
    refine hw_ret ?_
    exact ret_g (Ghost.fa 2 (i := 1) rfl rfl) rfl ⟨k1, a4, rfl, ⟨by omega, q2⟩, by omega, rfl⟩
end Go.Proofs.YtkamelfigfbfiaaGreatDoor
end
section
namespace Go.HL
/-- The slice in a cell of an element of an owned slice. -/
theorem Ghost.farr [Tracks] {e : Env} {M : List MObj} {i k r j : Nat} {u v : Value} {sz sz' : Nat} {es fs cs : List HVal} (hm : M[i]? = some (.arr v sz es)) (hk : (M.eraseIdx i)[k]? = some (.arr u sz' fs)) (hr : fs[r]? = some (.agg cs)) (hj : cs[j]? = some (.raw v)) :
 Ghost e M e ((M.eraseIdx i).set k (.arr u sz' (fs.set r (.agg (cs.set j (.slice sz es)))))) := fun P I F tmps w h1 hs => by
 obtain ⟨J, hl, hs', hv⟩ := (hs.pull hm).freeze_arr
 have hp := hs'.pull hk
 have hnd : (MObj.arr u sz' (fs.set r (.agg (cs.set j (.slice sz es))))).blocks.Nodup := by
  have := hp.nodup
  simp only [blocks, List.flatMap_cons] at this
  have h2 := (List.nodup_append.1 this).1
  have e1 : (MObj.arr u sz' (fs.set r (.agg (cs.set j (.slice sz es))))).blocks = (MObj.arr u sz' fs).blocks := by
   cases u <;> try rfl
   rename_i a _ _; cases a <;> rfl
  rw [e1]; exact h2
 have hbl : ∀ b ∈ (MObj.arr u sz' (fs.set r (.agg (cs.set j (.slice sz es))))).blocks, b ∈ (MObj.arr u sz' fs).blocks ∨ w.heap.size ≤ b := fun b hb => by
  left
  have e1 : (MObj.arr u sz' (fs.set r (.agg (cs.set j (.slice sz es))))).blocks = (MObj.arr u sz' fs).blocks := by
   cases u <;> try rfl
   rename_i a _ _; cases a <;> rfl
  rw [← e1]; exact hb
 refine ⟨J, hl, h1.mono hl, Sat.unpull hk (hp.change (m' := .arr u sz' (fs.set r (.agg (cs.set j (.slice sz es))))) (fun _ _ _ => rfl) hbl hnd ?_ rfl rfl rfl)⟩
 rcases hp.obj _ List.mem_cons_self with ⟨_, h0⟩ | ⟨b, off, cap, rc, el, fr, a1, a2, a3, a4, a5, a6, a7⟩
 ·rw [h0] at hr; simp at hr
 ·refine .inr ⟨b, off, cap, rc, el, fr, by rw [List.length_set]; exact a1, a2, a3, fun x hx => ?_, by rw [List.length_set]; exact a5, a6, fun i' j' e' c' v' b1 b2 b3 => ?_⟩
  ·rcases List.mem_or_eq_of_mem_set hx with hx | hx
   ·exact a4 x hx
   ·have := a4 _ (List.mem_of_getElem? hr)
    rw [hx]; simp only [hcells, List.length_set] at this ⊢; exact this
  ·by_cases hi : i' = r
   ·subst hi
    have hlt := lt_of_get hr
    rw [List.getElem?_set_self hlt] at b1
    obtain rfl := Option.some.inj b1
    simp only [hcells] at b2
    by_cases hj' : j' = j
    ·subst hj'
     have hjl := lt_of_get hj
     rw [List.getElem?_set_self hjl] at b2
     obtain rfl := Option.some.inj b2
     have := a7 i' j' _ _ v' hr hj b3
     rw [this.raw_inv]; exact hv
    ·rw [List.getElem?_set_ne (Ne.symm hj')] at b2
     exact a7 i' j' _ c' v' hr b2 b3
   ·rw [List.getElem?_set_ne (Ne.symm hi)] at b1
    exact a7 i' j' e' c' v' b1 b2 b3
/-- One after the other: the elements from n on hold their slices as owned ones. -/
theorem Ghost.fz_each [Tracks] {e : Env} {α β : Type} {A : List MObj} {u : Value} {sz sz' : Nat} {enc : α → HVal} {raw : α → Value → HVal} {st : α → List β} {eb : β → HVal} {j : Nat} {cs : α → Value → List HVal}
 (h1 : ∀ x v, raw x v = .agg (cs x v)) (h2 : ∀ x v, (cs x v)[j]? = some (.raw v)) (h3 : ∀ x v, HVal.agg ((cs x v).set j (.slice sz ((st x).map eb))) = enc x) :
 ∀ (O : List (α × Value)) (D : List α), Ghost e (A ++ .arr u sz' (D.map enc ++ O.map fun p => raw p.1 p.2) :: O.map fun p => .arr p.2 sz ((st p.1).map eb)) e (A ++ [.arr u sz' ((D ++ O.map (·.1)).map enc)])
 | [], D => by
   refine Ghost.of_eq ?_
   simp
 | p :: O, D => by
   have key := Ghost.fz_each (e := e) (A := A) (u := u) (sz := sz) (sz' := sz') h1 h2 h3 O (D ++ [p.1])
   have e9 : D ++ (p :: O).map (·.1) = (D ++ [p.1]) ++ O.map (·.1) := by simp
   rw [e9]
   refine Ghost.trans ?_ key
   have hm : (A ++ .arr u sz' (D.map enc ++ (p :: O).map fun p => raw p.1 p.2) :: (p :: O).map fun p => MObj.arr p.2 sz ((st p.1).map eb))[A.length + 1]? = some (.arr p.2 sz ((st p.1).map eb)) := by
    rw [List.getElem?_append_right (by omega)]; simp
   have he : (A ++ .arr u sz' (D.map enc ++ (p :: O).map fun p => raw p.1 p.2) :: (p :: O).map fun p => MObj.arr p.2 sz ((st p.1).map eb)).eraseIdx (A.length + 1) = A ++ .arr u sz' (D.map enc ++ (p :: O).map fun p => raw p.1 p.2) :: O.map fun p => MObj.arr p.2 sz ((st p.1).map eb) := by
    rw [List.eraseIdx_append_of_length_le (by omega)]; simp
   have hk : ((A ++ .arr u sz' (D.map enc ++ (p :: O).map fun p => raw p.1 p.2) :: (p :: O).map fun p => MObj.arr p.2 sz ((st p.1).map eb)).eraseIdx (A.length + 1))[A.length]? = some (.arr u sz' (D.map enc ++ (p :: O).map fun p => raw p.1 p.2)) := by
    rw [he]; simp
   have hr : (D.map enc ++ (p :: O).map fun p => raw p.1 p.2)[D.length]? = some (.agg (cs p.1 p.2)) := by
    rw [List.getElem?_append_right (by simp)]; simp [h1]
   have g := Ghost.farr (e := e) hm hk hr (h2 p.1 p.2)
   have e5 : ((A ++ .arr u sz' (D.map enc ++ (p :: O).map fun p => raw p.1 p.2) :: (p :: O).map fun p => MObj.arr p.2 sz ((st p.1).map eb)).eraseIdx (A.length + 1)).set A.length (.arr u sz' ((D.map enc ++ (p :: O).map fun p => raw p.1 p.2).set D.length (.agg ((cs p.1 p.2).set j (.slice sz ((st p.1).map eb)))))) = A ++ .arr u sz' ((D ++ [p.1]).map enc ++ O.map fun p => raw p.1 p.2) :: O.map fun p => MObj.arr p.2 sz ((st p.1).map eb) := by
    rw [he, h3, List.set_append_right _ _ (Nat.le_refl _)]
    simp
   rw [e5] at g
   exact g
end Go.HL
end
section
namespace Go.HL
def GoodLn (x : LineS) : Prop := Sh x.Player ∧ ∀ s ∈ x.Stats, Sh s.Name
structure GoodLns (k : List LineS) : Prop where
 len : k.length ≤ 6
 st : ∀ x ∈ k, x.Stats.length ≤ 4
 all : ∀ x ∈ k, GoodLn x
abbrev LnV := LineS × Value
abbrev rLn (p : LnV) : HVal := .agg [.str p.1.Player, .int .i64 p.1.Week, .raw p.2]
abbrev sLn (p : LnV) : MObj := .arr p.2 2 (p.1.Stats.map eStat)
structure LG where
 u : Value
 out : List LnV
 a : Nat
def GoodLV (p : LnV) : Prop := GoodLn p.1 ∧ p.1.Stats.length ≤ 3
structure LGok (n m : Nat) (q : LG) : Prop where
 len : q.out.length ≤ n
 all : ∀ p ∈ q.out, GoodLV p
 a : q.a ≤ m
theorem LGok.mono {n n' m m' : Nat} {q : LG} (h : LGok n m q) (hn : n ≤ n') (hm : m ≤ m') : LGok n' m' q := ⟨Nat.le_trans h.len hn, h.all, Nat.le_trans h.a hm⟩
theorem LGok.same {n m m' : Nat} {u : Value} {out : List LnV} {a1 a2 : Nat} (h : LGok n m ⟨u, out, a1⟩) (ha : a2 ≤ m') : LGok (n + 1) m' ⟨u, out, a2⟩ := ⟨Nat.le_succ_of_le h.len, h.all, ha⟩
theorem LGok.add {n m m' : Nat} {u u' : Value} {out : List LnV} {a1 a2 : Nat} {p : LnV} (h : LGok n m ⟨u, out, a1⟩) (hp : GoodLV p) (ha : a2 ≤ m') : LGok (n + 1) m' ⟨u', out ++ [p], a2⟩ :=
 ⟨by have := h.len; simp only [List.length_append, List.length_cons, List.length_nil] at *; omega, fun y hy => by
  rcases List.mem_append.1 hy with hy | hy
  ·exact h.all y hy
  ·rw [List.mem_singleton.1 hy]; exact hp, ha⟩
def lp3 : List Str := [[97, 110, 110], [98, 101, 97], [99, 105, 100]]
def ls3 : List Str := [[103, 111, 97, 108], [112, 97, 115, 115], [115, 97, 118, 101]]
theorem lp3_sh : ∀ s ∈ lp3, Sh s := fun s hs => by
 simp [lp3] at hs; rcases hs with rfl | rfl | rfl <;> (unfold Sh; simp)
theorem ls3_sh : ∀ s ∈ ls3, Sh s := fun s hs => by
 simp [ls3] at hs; rcases hs with rfl | rfl | rfl <;> (unfold Sh; simp)
theorem ln_norm [Tracks] {P : Program} {s m0 m1 m3 : MObj} {T : List MObj} (J : Imm) (F : List MObj) (w : World) (hs : Sat P J ((s :: m0 :: m1 :: m3 :: T) ++ F) w) : Sat P J ((s :: m3 :: (T ++ [m0])) ++ F) w := by
 have h1 : Sat P J (m1 :: (s :: m0 :: m3 :: T) ++ F) w := hs.perm (((List.perm_middle (l₁ := [s, m0]) (a := m1) (l₂ := m3 :: T))).append_right F)
 have h2 : Sat P J ((s :: m0 :: m3 :: T) ++ F) w := h1.drop
 have hp : (s :: m0 :: m3 :: T).Perm (s :: m3 :: (T ++ [m0])) := by
  refine List.Perm.cons _ ((List.Perm.swap m3 m0 T).trans (List.Perm.cons _ ?_))
  exact (List.perm_append_comm (l₁ := [m0]) (l₂ := T))
 exact h2.perm (hp.append_right F)
theorem sLn_same {O : List LnV} {i : Nat} {x n : LnV} (hx : O[i]? = some x) (h : sLn n = sLn x) : (O.set i n).map sLn = O.map sLn := by
 rw [List.map_set, h]
 refine List.ext_getElem? fun j => ?_
 by_cases hj : j = i
 ·subst hj
  have hlt := lt_of_get hx
  rw [List.getElem?_set_self (by simpa using hlt), List.getElem?_map, hx]; rfl
 ·rw [List.getElem?_set_ne (Ne.symm hj)]
end Go.HL
end
