/- Part 3 of the proof: a program logic, contracts of functions and plain facts; no conditions. -/
import Derived.Test.YtbihpphgoaflfaaGreatDoorPChancesAddUp2
import Derived.Ground.Names2Prog
import Derived.KernelRfl
import Derived.Shelf.SlIter.Collect
import Derived.Shelf.SlIter.Keys
import Derived.Shelf.SlIter.Sorted
import Derived.Shelf.SlSortCmp.NoneTotal
import Derived.Shelf.Slices.CompactI
import Derived.Shelf.Slices.CompactS
import Derived.Shelf.Slices.Delete
import Derived.Shelf.Slices.In.SortNone
import Derived.Shelf.Sort.Plain
import Derived.Shelf.SortM.Plain
import Derived.Shelf.SortM.SortNone
import Derived.Shelf.Strconv.Atoi
import Derived.Shelf.Strconv.Itoa3
import Derived.Shelf.Strings.Prefix
import Derived.Test.YtbihpphgoaflfaaGreatDoorProg
set_option linter.unusedVariables false
set_option linter.unusedSimpArgs false
section
namespace Go.HL
variable {P : Program}
open Go.Sort Go.Proofs Go.Shelf Go.RowKit
theorem grown_of_sat [Tracks] {w w' : World} {J : Imm} {M : List MObj} (hT : Tracks.on = true) (hl : Le (allI w) J) (hs : Sat P J M w') : ∃ q os, w' = grow (w.drewN q) os := by
 have hb := below_of_sat hl hs
 have hd : w.drawn ≤ w'.drawn := Nat.le_trans (hl.low hT) (hs.low hT)
 refine ⟨w'.drawn - w.drawn, w'.heap.extract w.heap.size w'.heap.size, ?_⟩
 have hh : w'.heap = w.heap ++ w'.heap.extract w.heap.size w'.heap.size := by
  apply Array.ext_getElem?
  intro i
  by_cases hi : i < w.heap.size
  ·rw [Array.getElem?_append_left hi]; exact hb.block i hi
  ·rw [Array.getElem?_append_right (by omega), Array.getElem?_extract]
   have := hb.size
   split
   ·congr 1; omega
   ·rw [Array.getElem?_eq_none (by omega)]
 have h1 := hb.os
 have h2 := hb.tape
 have h3 := hb.output
 obtain ⟨a1, a2, a3, a4, a5⟩ := w'
 obtain ⟨b1, b2, b3, b4, b5⟩ := w
 simp only at h1 h2 h3 hd hh
 subst h1 h2 h3
 simp only [grow, World.drewN, World.mk.injEq]
 exact ⟨hh, trivial, by omega, trivial, trivial⟩
theorem ConP.calls [Tracks] {f : FuncId} {hargs : List HVal} {h : HVal} (hT : Tracks.on = true) (hc : ConP P f hargs h) {w : World} (ht : TabI P (allI w)) {args : List Value} (ha : VL (allI w) hargs args) :
 Calls P f args.toArray w fun e w' => ∃ v, e = .returned v ∧ V (allI w') h v ∧ ∃ q os, w' = grow (w.drewN q) os := by
 refine (hc (allI w) [] w args ha (sat_now ht)).mono ?_
 rintro e w' ⟨v, x, M', J, rfl, hle, ⟨rfl, rfl⟩, hV, hs⟩
 exact ⟨v, rfl, hV.mono hs.le_all, grown_of_sat hT hle hs⟩
@[reducible] def trackOn : Tracks := ⟨true⟩
/-- A row of cells that reads as an element. -/
abbrev RowT {A : Type} (I : Imm) (e : A → HVal) (k : Nat) : Type := { p : A × List Value // p.2.length = k ∧ (∀ v ∈ p.2, v.oneCell' = true) ∧ VL I (hcells (e p.1)) p.2 }
theorem rows_ex [Tracks] {A : Type} {I : Imm} {e : A → HVal} {k : Nat} (hk : ∀ x, (hcells (e x)).length = k) (hf : ∀ x, flat (hcells (e x)) = true) {rc : Array Value} : ∀ (l : List A) (off : Nat), off + l.length * k ≤ rc.size →
 (∀ (i j : Nat) (x : A) (c : HVal) (v : Value), l[i]? = some x → (hcells (e x))[j]? = some c → rc[off + i * k + j]? = some v → V I c v) →
 ∃ d : List (RowT I e k), d.map (·.1.1) = l ∧ ∀ (i j : Nat) (p : RowT I e k), d[i]? = some p → j < k → rc[off + i * k + j]? = p.1.2[j]?
 | [], off, _, _ => ⟨[], rfl, fun i j p h => by simp at h⟩
 | x :: l, off, hb, hV => by
   have hb' : off + k + l.length * k ≤ rc.size := by simp [Nat.add_mul] at hb; omega
   obtain ⟨d, h1, h2⟩ := rows_ex hk hf l (off + k) hb' fun i j y c v a1 a2 a3 => hV (i + 1) j y c v (by simpa using a1) a2 (by rw [Nat.add_mul, Nat.one_mul]; rw [show off + (i * k + k) + j = off + k + i * k + j by omega]; exact a3)
   have hlen : (rc.extract off (off + k)).toList.length = k := by simp; omega
   have hg : ∀ j, j < k → (rc.extract off (off + k)).toList[j]? = rc[off + j]? := fun j hj => by
    rw [Array.getElem?_toList, Array.getElem?_extract, if_pos (by omega)]
   have hvl : VL I (hcells (e x)) (rc.extract off (off + k)).toList := ⟨by rw [hlen, hk], fun j c v a1 a2 => by
    have hj : j < k := by have := lt_of_get a1; rw [hk] at this; exact this
    rw [hg j hj] at a2
    exact hV 0 j x c v rfl a1 (by simpa using a2)⟩
   refine ⟨⟨(x, (rc.extract off (off + k)).toList), hlen, flat_one hvl (hf x), hvl⟩ :: d, by simp [h1], fun i j p hp hj => ?_⟩
   cases i with
   | zero =>
     simp only [List.getElem?_cons_zero, Option.some.injEq] at hp
     subst hp
     simp only [Nat.zero_mul, Nat.add_zero]
     exact (hg j hj).symm
   | succ i =>
     simp only [List.getElem?_cons_succ] at hp
     rw [← h2 i j p hp hj, Nat.add_mul, Nat.one_mul]
     congr 1; omega
section
variable {A : Type} {e : A → HVal} {k : Nat}
theorem sortW_get {α : Type} [Inhabited α] {enc : α → List Value} {w : World} {b off m : Nat} {dk : Array α} {os : Array Obj} {c : Nat} (hc : c < w.heap.size) (hb : c ≠ b) : (sortWorldK enc k w b off m dk os).heap[c]? = w.heap[c]? := by
 simp only [sortWorldK, grow, putRowK, putRow, mapBlock, Sort.ahead]
 rw [Array.getElem?_append_left (by simpa using hc), Array.getElem?_modify, if_neg (Ne.symm hb)]
theorem sortW_blk {α : Type} [Inhabited α] {enc : α → List Value} {w : World} {b off m : Nat} {dk : Array α} {os : Array Obj} {rc : Array Value} {el : TypeId} {fr : Nat × Nat} (hb : w.heap[b]? = some (.cells rc el fr)) :
 (sortWorldK enc k w b off m dk os).heap[b]? = some (.cells (putCells id off (flatK enc k dk) rc) el fr) := by
 have hlt : b < w.heap.size := lt_of_get' hb
 simp only [sortWorldK, grow, putRowK, putRow, mapBlock, Sort.ahead]
 rw [Array.getElem?_append_left (by simpa using hlt), Array.getElem?_modify, if_pos rfl, hb]
 rfl
where
 lt_of_get' {α : Type} {a : Array α} {i : Nat} {x : α} (h : a[i]? = some x) : i < a.size := by
  rcases Nat.lt_or_ge i a.size with h' | h'
  ·exact h'
  ·simp [Array.getElem?_eq_none h'] at h
theorem flatK_get {α : Type} [Inhabited α] {enc : α → List Value} (hk : ∀ x, (enc x).length = k) {dk : Array α} {i j : Nat} {x : α} (hx : dk[i]? = some x) (hj : j < k) : some ((flatK enc k dk)[i * k + j]!) = (enc x)[j]? := by
 have hi : i < dk.size := by
  rcases Nat.lt_or_ge i dk.size with h' | h'
  ·exact h'
  ·simp [Array.getElem?_eq_none h'] at hx
 have hle : (i + 1) * k ≤ dk.size * k := Nat.mul_le_mul_right _ hi
 rw [Nat.add_mul, Nat.one_mul] at hle
 rw [get_flatK enc k dk _ (by omega)]
 have e1 : (i * k + j) / k = i := by rw [Nat.mul_comm, Nat.mul_add_div (by omega), Nat.div_eq_of_lt hj]; rfl
 have e2 : (i * k + j) % k = j := by rw [Nat.mul_comm, Nat.mul_add_mod, Nat.mod_eq_of_lt hj]
 rw [e1, e2]
 have e3 : dk[i]! = x := by rw [getElem!_pos dk i hi]; rw [Array.getElem?_eq_getElem hi] at hx; exact Option.some.inj hx
 rw [e3]
 have hjl : j < (enc x).length := by rw [hk]; exact hj
 rw [List.getElem?_eq_getElem hjl, getElem!_pos (enc x) j hjl]
set_option maxHeartbeats 1000000 in
/-- slices.SortFunc: a permutation that is sorted. -/
theorem con_sortf [Tracks] {ρ : Ren} (L : SlLaysF0.n6 P ρ) (aE : ∀ w, (isAgg (ρ.t 24)).run P w = .ok true w) (zE : ∀ w, (Go.sizeOf (ρ.t 24)).run P w = .ok k w) (hk : ∀ x, (hcells (e x)).length = k) (ha : ∀ x, e x = .agg (hcells (e x))) (hf : ∀ x, flat (hcells (e x)) = true)
 {c : A → A → Int} (hO : SWO (ltOf c)) {g : FuncId} (hg : Callable P g) {cap : List HVal} (hc : ∀ x y, @ConP trackOn P g (e x :: e y :: cap) (.int .i64 (c x y))) {l : List A} (hl : l.length ≤ 1000000) {v : Value} :
 Con P (ρ.f 6) [.raw v, .fn (.func g) [] cap] [.arr v k (l.map e)] fun x M' => ∃ l' : List A, x = .tup [] ∧ l'.Perm l ∧ l'.Pairwise (fun a b => ¬ c b a < 0) ∧ M' = [.arr v k (l'.map e)] := by
 intro I F w args hargs hs
 obtain ⟨n1, n2⟩ := hargs
 match args, n1, n2 with
 | [u, fv], _, n2 =>
   obtain rfl : u = v := (n2 0 _ _ rfl rfl).raw_inv
   obtain ⟨f1, cb, rfl, f2, f3⟩ := (n2 1 _ _ rfl rfl).fn_inv
   have hf1 : f1 = #[] := by have := f2.1; simp at this; exact this
   subst hf1
   by_cases h0 : l = []
   ·subst h0
    have hu : ∃ p cp, u = .slice p 0 cp := by
     rcases hs.obj (.arr u k (([] : List A).map e)) (by simp) with ⟨rfl, _⟩ | ⟨b, off, cp, rc, el, fr, rfl, _⟩
     ·exact ⟨_, _, rfl⟩
     ·exact ⟨_, _, rfl⟩
    obtain ⟨p, cp, rfl⟩ := hu
    refine (AnyF.slices_SortFunc_none L p cp _ w).mono ?_
    rintro _ _ ⟨rfl, rfl⟩
    exact ⟨_, .tup [], _, I, rfl, .refl I, ⟨[], rfl, .refl _, .nil, rfl⟩, .tup (by simp) (fun j c v h _ => by simp at h), hs⟩
   ·rcases hs.obj (.arr u k (l.map e)) (by simp) with ⟨_, hn⟩ | ⟨b, off, cp, rc, el, fr, rfl, _⟩
    ·simp at hn; exact absurd hn h0
    ·rw [List.length_map] at hs ⊢
     obtain ⟨_, rc, el, fr, h2, h3, h4, h5, h6, h7⟩ := arr_some hs
     rw [List.length_map] at h5
     have hblt : b < w.heap.size := sortW_blk.lt_of_get' h2
     have hsz : off + l.length * k ≤ rc.size := by
      have : l.length * k ≤ cp * k := Nat.mul_le_mul_right _ h5.1
      omega
     obtain ⟨d, d1, d2⟩ := rows_ex (I := I) (e := e) hk hf (rc := rc) l off hsz fun i j x c v a1 a2 a3 => h7 i j (e x) c v (by simp [a1]) a2 a3
     have dl : d.length = l.length := by rw [← d1]; simp
     obtain ⟨p0, hp0⟩ : ∃ p, d[0]? = some p := ⟨_, List.getElem?_eq_getElem (by have := List.length_pos_iff.2 h0; omega)⟩
     haveI : Inhabited (RowT I e k) := ⟨p0⟩
     have hkr : ∀ x : RowT I e k, (x.1.2).length = k := fun x => x.2.1
     have hH : HoldsK (fun x : RowT I e k => x.1.2) k w b off d.toArray := fun j hj => by
      simp only [size_flatK, List.size_toArray, dl] at hj
      have hk0 : 0 < k := by rcases Nat.eq_zero_or_pos k with h | h; (subst h; simp at hj); exact h
      have hi : j / k < d.length := by rw [dl]; exact Nat.div_lt_of_lt_mul (by rw [Nat.mul_comm]; exact hj)
      have hjk := Nat.mod_lt j hk0
      have hdj : j / k * k + j % k = j := by rw [Nat.mul_comm]; exact Nat.div_add_mod j k
      have hg1 := d2 (j / k) (j % k) d[j / k] (List.getElem?_eq_getElem hi) hjk
      have hg2 := flatK_get (enc := fun x : RowT I e k => x.1.2) (k := k) hkr (dk := d.toArray) (i := j / k) (j := j % k) (x := d[j / k]) (by simp [hi]) hjk
      rw [hdj] at hg2
      constructor
      ·rw [cell_of h2]
       rw [show off + j = off + j / k * k + j % k by omega, hg1, ← hg2]; rfl
      ·simp only [World.frozen?, h2]
       have := h3 (off + j) (by omega)
       simpa using this
     have hle : ∀ (m : Nat) (dk : Array (RowT I e k)) (os : Array Obj), Le I (allI (sortWorldK (fun x : RowT I e k => x.1.2) k w b off m dk os)) := fun m dk os =>
      ⟨fun c o ho => by
       have hcb : c ≠ b := fun hh => by
        subst hh
        have := hs.apart c (by simp [blocks, MObj.blocks])
        rw [this] at ho; cases ho
       have h9 := hs.imm c o ho
       show (sortWorldK _ k w b off m dk os).heap[c]? = some o
       rw [sortW_get (sortW_blk.lt_of_get' h9) hcb]; exact h9, hs.os, hs.output, hs.tape, fun ht => Nat.le_trans (hs.low ht) (Nat.le_add_right _ _)⟩
     have hcmp : CmpLays P g cb (fun x : RowT I e k => x.1.2) k (fun x y => c x.1.1 y.1.1) b off d.toArray.size w := fun m os dk _ x y => by
      have hI := hle m dk os
      have hxa : ∀ z : RowT I e k, V (allI (sortWorldK (fun x : RowT I e k => x.1.2) k w b off m dk os)) (e z.1.1) (.agg z.1.2.toArray) := fun z => by
       rw [ha]; exact V.mk_agg (by simpa using z.2.2.2.mono hI)
      have e9 : (#[Value.agg x.1.2.toArray, .agg y.1.2.toArray] ++ cb) = (Value.agg x.1.2.toArray :: .agg y.1.2.toArray :: cb.toList).toArray := by simp
      rw [e9]
      refine (@ConP.calls P trackOn g _ _ rfl (hc x.1.1 y.1.1) _ (hs.tab.mono hI) _ (VL.cons (hxa x) (VL.cons (hxa y) (f3.mono hI)))).mono ?_
      rintro _ w' ⟨u, rfl, hu, q, os', rfl⟩
      exact ⟨by rw [hu.int_inv], q, os', rfl⟩
     have hO' : SWO (ltOf fun x y : RowT I e k => c x.1.1 y.1.1) := ⟨fun x => hO.irrefl x.1.1, fun x y z => hO.trans x.1.1 y.1.1 z.1.1, fun x y z => hO.ntrans x.1.1 y.1.1 z.1.1⟩
     have hrun := AnyQ.slices_SortFunc L k aE zE (fun x : RowT I e k => x.1.2) hkr (fun x => x.2.2.1) (fun x y => c x.1.1 y.1.1) hO' g cb b off cp d.toArray w (run_callFunc hg) hcmp hH hblt (by simp; omega)
     rw [List.size_toArray, dl] at hrun
     refine hrun.mono ?_
     rintro _ w' ⟨rfl, d', m, os, ⟨q1, _, q3⟩, q4, rfl⟩
     simp only [List.size_toArray, dl] at q1
     have q3' : d'.toList.Perm d := by
      have e1 : (d'.extract 0 l.length) = d' := by rw [← q1]; exact Array.extract_size
      have e2 : (d.toArray.extract 0 l.length) = d.toArray := by have := Array.extract_size (xs := d.toArray); rw [List.size_toArray, dl] at this; exact this
      rw [e1, e2] at q3; simpa using q3
     refine ⟨_, .tup [], [.arr (.slice (some ⟨b, off, none⟩) l.length cp) k ((d'.toList.map (·.1.1)).map e)], I, rfl, .refl I, ⟨d'.toList.map (·.1.1), rfl, by rw [← d1]; exact q3'.map _, ?_, rfl⟩, .tup (by simp) (fun j c v h _ => by simp at h), ?_⟩
     ·refine List.pairwise_iff_getElem.2 fun i j hi hj hij => ?_
      simp only [List.length_map, Array.length_toList] at hi hj
      have := q4 i j (Nat.zero_le _) hij (by omega)
      rw [getElem!_pos d' i hi, getElem!_pos d' j hj] at this
      simp only [ltOf, decide_eq_false_iff_not] at this
      simpa using this
     ·have hchg : ∀ x, x < w.heap.size → x ∉ (MObj.arr (.slice (some ⟨b, off, none⟩) l.length cp) k (l.map e)).blocks → (sortWorldK (fun x : RowT I e k => x.1.2) k w b off m d' os).heap[x]? = w.heap[x]? := fun x hx hnx => sortW_get hx fun hh => hnx (by rw [hh]; simp [MObj.blocks])
      refine hs.change (m' := .arr (.slice (some ⟨b, off, none⟩) l.length cp) k ((d'.toList.map (·.1.1)).map e)) hchg (fun x hx => .inl hx) (by simp [MObj.blocks]) ?_ rfl rfl rfl (fun _ => Nat.le_add_right _ _)
      refine .inr ⟨b, off, cp, putCells id off (flatK (fun x : RowT I e k => x.1.2) k d') rc, el, fr, by simp [q1], sortW_blk h2, by simpa [putCells] using h3, ?_, by simp [q1]; exact h5, by simpa [putCells] using h6, ?_⟩
      ·intro y hy; obtain ⟨z, _, rfl⟩ := List.mem_map.1 hy; exact hk z
      ·intro i j y z v a1 a2 a3
       rw [List.map_map, List.getElem?_map] at a1
       cases hq : d'.toList[i]? with
       | none => rw [hq] at a1; simp at a1
       | some r =>
         rw [hq] at a1
         simp only [Option.map_some, Function.comp_apply, Option.some.injEq] at a1
         subst a1
         have hj : j < k := by have := lt_of_get a2; rw [hk] at this; exact this
         have hi : i < l.length := by have := lt_of_get hq; simp at this; omega
         have hle : (i + 1) * k ≤ l.length * k := Nat.mul_le_mul_right _ hi
         rw [Nat.add_mul, Nat.one_mul] at hle
         have hr : off + i * k + j < rc.size := by omega
         rw [putCells, Array.getElem?_mapIdx, Array.getElem?_eq_getElem hr, Option.map_some, if_pos ⟨by omega, by rw [size_flatK, q1]; omega⟩] at a3
         rw [show off + i * k + j - off = i * k + j by omega] at a3
         have hg2 := flatK_get (enc := fun x : RowT I e k => x.1.2) (k := k) hkr (dk := d') (i := i) (j := j) (x := r) (by simpa using hq) hj
         rw [show (id (flatK (fun x : RowT I e k => x.1.2) k d')[i * k + j]!) = (flatK (fun x : RowT I e k => x.1.2) k d')[i * k + j]! from rfl, hg2] at a3
         exact r.2.2.2.2 j z v a2 a3
end
end Go.HL
end
section
namespace Go.HL
open Go.Proofs Go.RowKit Go.Maps Go.Sort Go.Shelf
section
variable {P : Program}
def anyR (H : Type) : Value → Option (DataW H × List MemPlace) := fun _ => some (.nil, [])
theorem map_keys {I : Imm} {w : World} {b : Nat} {α : Type} {f : α → HVal} {L : List (Str × α)} (hm : MSat I w (.map b (sk (em f L)))) :
 ∃ es clk, w.heap[b]? = some (.map es clk) ∧ BornOk es clk ∧ es.size = L.length ∧ es.toList.map (·.key) = L.map fun p => encStr p.1 := by
 obtain ⟨es, clk, h1, ⟨h2, h4⟩, h3⟩ := hm
 have hl : es.size = L.length := by rw [h2]; simp [sk]
 refine ⟨es, clk, h1, h4, hl, List.ext_getElem? fun i => ?_⟩
 rw [List.getElem?_map, List.getElem?_map]
 rcases Nat.lt_or_ge i L.length with h | h
 ·have a1 : L[i]? = some L[i] := List.getElem?_eq_getElem h
  have a2 : es[i]? = some es[i] := Array.getElem?_eq_getElem (by omega)
  have a3 : (sk (em f L))[i]? = some (.str L[i].1, f L[i].2) := by simp [sk, a1]
  have a4 := (h3 i _ _ a3 a2).1.str_inv
  rw [a1, Array.getElem?_toList, a2]
  simp only [Option.map_some, Option.some.injEq]
  rw [a4]
  try rfl
 ·rw [List.getElem?_eq_none h, List.getElem?_eq_none (by rw [Array.length_toList]; omega)]; rfl
theorem nodup_born {es : Array MapEntry} {clk : Nat} (h : BornOk es clk) : (es.toList.map (·.born)).Nodup := by
 refine List.pairwise_iff_getElem.2 fun i j hi hj hij e => ?_
 rw [List.getElem_map, List.getElem_map] at e
 rw [List.length_map, Array.length_toList] at hi hj
 have := h.2 i j es[i] es[j] (Array.getElem?_eq_getElem hi) (Array.getElem?_eq_getElem hj) (by simpa using e)
 omega
theorem owns_of_map {I : Imm} {w : World} {b : Nat} {α : Type} {f : α → HVal} {L : List (Str × α)} {k : TypeId} (hk : P.underlying k = some .string) (hm : MSat I w (.map b (sk (em f L)))) (hn : ANodup L)
 (hl : ∀ p ∈ L, p.1.length ≤ 1000000) (hs : L.length ≤ 1000000) : ∃ D : DataW Unit, w.ownsMap P k (anyR Unit) b L.length D ∧ (strKeys D).Perm (L.map (·.1)) ∧ Maps.size D = L.length := by
 obtain ⟨es, clk, h1, h2, h3, h4⟩ := map_keys hm
 have hx : ∀ x ∈ es.toList, ∃ p ∈ L, x.key = encStr p.1 := fun x hx => by
  have := List.mem_map_of_mem (f := (·.key)) hx
  rw [h4] at this
  obtain ⟨p, hp, e⟩ := List.mem_map.1 this
  exact ⟨p, hp, e.symm⟩
 have hrd : ∀ x ∈ es.toList, ∀ p ∈ L, x.key = encStr p.1 → WideElems.rd P k (anyR Unit) x = some (.string p.1, .nil) := fun x _ p hp e => by
  have := hl p hp
  have hm : maxLen = 9223372036854775807 := by rfl
  simp [WideElems.rd, keyOf, hk, e, mapKey, encStr, anyR, hm]
  rw [if_pos (by show p.1.toArray.size ≤ _; simp; omega)]
  rfl
 have hkeys : es.toList.map (fun x => strOf (WideElems.rg P k (anyR Unit) x).1) = L.map (·.1) := by
  have e2 : es.toList.map (fun x => strOf (WideElems.rg P k (anyR Unit) x).1) = (es.toList.map (·.key)).map fun v => match v with | .string s => s.data.toList | _ => [] := by
   rw [List.map_map]
   refine List.map_congr_left fun x hx' => ?_
   obtain ⟨p, hp, e⟩ := hx x hx'
   rw [WideElems.rg_of (hrd x hx' p hp e)]
   simp [e, encStr, strOf]
  rw [e2, h4, List.map_map]
  refine List.map_congr_left fun p _ => ?_
  simp [encStr]
 have hml : maxLen = 9223372036854775807 := by rfl
 refine ⟨_, ⟨es, clk, h1, ⟨by omega, ⟨fun x hx' => ?_, nodup_born h2, ?_⟩, fun x hx' => ?_⟩, by omega, rfl⟩, ?_, ?_⟩
 ·obtain ⟨i, hi⟩ := List.getElem?_of_mem hx'
  exact h2.1 i x (by simpa using hi)
 ·rw [h4]
  have : (L.map fun p => encStr p.1) = (L.map (·.1)).map encStr := by rw [List.map_map]; rfl
  rw [this]
  exact List.Pairwise.map encStr (fun a b hab e => hab (encStr_inj e)) hn
 ·obtain ⟨p, hp, e⟩ := hx x hx'
  exact ⟨_, hrd x hx' p hp e⟩
 ·show ((List.foldr DataW.insert [] _).map fun p => strOf p.1).Perm _
  rw [← hkeys]
  have := (WideShapes.sorted_perm (es.toList.map (WideElems.rg P k (anyR Unit)))).map fun p => strOf p.1
  rw [List.map_map] at this
  exact this
 ·show (List.foldr DataW.insert [] _).length = _
  rw [(WideShapes.sorted_perm _).length_eq, List.length_map, Array.length_toList, h3]
theorem con_keys [Tracks] {ρ : Ren} (L : SlLaysZ.n7 P ρ) {b : Nat} : Con P (ρ.f 7) [.raw (.map (some b))] [] fun x M' => ∃ bx, x = .fn (.func (ρ.f 10)) [] [.raw (.pointer (some ⟨bx, 0, none⟩))] ∧ M' = [.cells bx [.raw (.map (some b))]] := by
 intro I F w args ha hs
 obtain ⟨u, rfl, hu⟩ := ha.one
 obtain rfl := hu.raw_inv
 refine ((callsIn_wide (n := 1)).1 (AnyZ.keys_in L Fence.wide 1 trivial rfl (some b) w)).mono ?_
 rintro _ w' ⟨rfl, rfl⟩
 refine ⟨_, _, _, I, rfl, .refl I, ⟨w.heap.size, rfl, rfl⟩, .fn rfl rfl (fun j c v h _ => by simp at h) (fun j c v h1 h2 => ?_), ?_⟩
 ·exact (VL.cons (.raw _ rfl) VL.nil : VL I [.raw (.pointer (some ⟨w.heap.size, 0, none⟩))] [.pointer (some ⟨w.heap.size, 0, none⟩)]).2 j c v h1 (by simpa using h2)
 ·exact hs.new_own _ _ rfl ⟨#[.map (some b)], ρ.t 23, (0, 0), by simp, Free.zero _, VL.cons (.raw _ rfl) VL.nil⟩
theorem con_sorted [Tracks] (hT : Tracks.on = false) {ρ ρk : Ren} (L : SlLaysZ.n6 P ρ) (Lk : SlLaysZ.n7 P ρk) (hsort : ∀ m, AnyZ.SortsIn P ρ Fence.wide m)
 (e9 : ∀ args w, (callFunc (ρ.f 9) args).run P w = .ok (.enter (ρ.f 9) args) w) (eg : ∀ args w, (callFunc (ρk.f 10) args).run P w = .ok (.enter (ρk.f 10) args) w)
 {α : Type} {f : α → HVal} {l : List (Str × α)} (hn : ANodup l) (hl : ∀ p ∈ l, p.1.length ≤ 1000000) (hs : l.length ≤ 1000000) {b bx : Nat} :
 Con P (ρ.f 6) [.fn (.func (ρk.f 10)) [] [.raw (.pointer (some ⟨bx, 0, none⟩))]] [.cells bx [.raw (.map (some b))], .map b (sk (em f l))] fun x M' => ∃ v, x = .raw v ∧ M' = [.arr v 1 ((sortS (l.map (·.1))).map .str), .map b (sk (em f l))] := by
 intro I F w args ha hsat
 obtain ⟨u, rfl, hu⟩ := ha.one
 obtain ⟨v1, v2, rfl, hv1, hv2, hc⟩ : ∃ v1 v2, u = .func (.func (ρk.f 10)) v1 v2 ∧ v1 = #[] ∧ v2.size = 1 ∧ ∀ (j : Nat) (c : HVal) (v : Value), [HVal.raw (.pointer (some ⟨bx, 0, none⟩))][j]? = some c → v2[j]? = some v → V I c v := by
  cases hu with
  | fn h1 h2 h3 h4 => exact ⟨_, _, rfl, Array.eq_empty_of_size_eq_zero (by simpa using h1), by simpa using h2, h4⟩
 subst hv1
 obtain rfl : v2 = #[.pointer (some ⟨bx, 0, none⟩)] := by
  match v2, hv2 with
  | ⟨[y]⟩, _ => have := (hc 0 _ y rfl rfl).raw_inv; rw [this]
 obtain ⟨rc, el, fr, c1, c2, c3⟩ := hsat.obj (.cells bx [.raw (.map (some b))]) (by simp)
 have hmap := hsat.obj (.map b (sk (em f l))) (by simp)
 obtain ⟨D, d1, d2, d3⟩ := owns_of_map (k := ρk.t 26) (by exact Lk.t26) hmap hn hl hs
 have hbx : bx < w.heap.size := (Array.getElem?_eq_some_iff.1 c1).1
 have hcell : w.cell? ⟨bx, 0, none⟩ = some (.map (some b)) := by
  have := c3.1
  match rc, this, c1, c3 with
  | ⟨[y]⟩, _, c1, c3 =>
    have hy := c3.head.raw_inv
    subst hy
    simp [World.cell?, c1]
 have hseq := AnyZ.keys_gives (ρ := ρk) { Lk with } Fence.wide 2 trivial rfl (by omega) bx b l.length D w hbx hcell d1
 have cS := AnyZ.sorted_in L Fence.wide 5 trivial trivial trivial trivial rfl (by omega) (hsort _) e9 (ρk.f 10) #[.pointer (some ⟨bx, 0, none⟩)] trivial eg _ _ (by rw [d3]; exact Nat.le_trans hs (by decide)) (by rw [d3]; omega) w hseq
 refine ((callsIn_wide (n := 5)).1 cS).mono ?_
 rintro e w' ⟨v, ss, rfl, hS, hrow, hnil, hb⟩
 have hss : (ss.mergeSort fun x y => decide (x ≤ y)) = sortS (l.map (·.1)) := mergeSort_of_perm (hS.trans d2)
 rw [hss] at hrow
 have hlen : ss.length = (sortS (l.map (·.1))).length := by rw [sortS_len, (hS.trans d2).length_eq]
 have hmem : MSat I w' (.arr v 1 ((sortS (l.map (·.1))).map .str)) := by
  rcases hrow.2 with ⟨rfl, hz⟩ | ⟨gb, cap, cur, rfl, hbase, hgb, r1, r2, r3, r4⟩
  ·refine .inl ⟨rfl, ?_⟩
   have : sortS (l.map (·.1)) = [] := List.length_eq_zero_iff.1 (by omega)
   rw [this]; rfl
  ·refine .inr ⟨gb, 0, cap, cur, _, _, by rw [List.length_map, ← hlen], hgb, Free.zero _, fun e he => ?_, ⟨by rw [List.length_map]; omega, Nat.le_trans r2 (by decide)⟩, by omega, fun i j e c y h1 h2 h3 => ?_⟩
   ·obtain ⟨s, _, rfl⟩ := List.mem_map.1 he; rfl
   ·rw [List.getElem?_map] at h1
    cases hq : (sortS (l.map (·.1)))[i]? with
    | none => rw [hq] at h1; cases h1
    | some s =>
      rw [hq] at h1
      simp only [Option.map_some, Option.some.injEq] at h1
      subst h1
      have hj : j = 0 := by
       cases j with
       | zero => rfl
       | succ j => simp [hcells] at h2
      subst hj
      simp only [hcells, List.getElem?_cons_zero, Option.some.injEq] at h2
      subst h2
      have hi := lt_of_get hq
      have h4 : (cur.toList.take (ss.length * 1))[i]? = some (encStr s) := by rw [r4, List.getElem?_map, hq]; rfl
      rw [List.getElem?_take_of_lt (by omega), Array.getElem?_toList] at h4
      have e0 : 0 + i * 1 + 0 = i := by omega
      rw [e0, h4] at h3
      cases h3
      exact .str s
 have hown : ∀ k, v.ownBlock = some k → w.heap.size ≤ k ∧ k < w'.heap.size := hrow.lt
 refine ⟨v, .raw v, _, I, rfl, .refl I, ⟨v, rfl, rfl⟩, ?_, ?_⟩
 ·rcases hrow.2 with ⟨rfl, _⟩ | ⟨gb, cap, cur, rfl, _⟩
  ·exact .raw _ rfl
  ·exact .raw _ rfl
 ·refine hsat.change (m' := .arr v 1 _) (fun k hk _ => hb.block k hk) (fun k hk => .inr ?_) ?_ hmem hb.os hb.output hb.tape (fun ht => by rw [hT] at ht; cases ht)
  ·rcases hrow.2 with ⟨rfl, _⟩ | ⟨gb, cap, cur, rfl, hbase, _⟩
   ·simp [MObj.blocks] at hk
   ·simp [MObj.blocks] at hk; omega
  ·rcases hrow.2 with ⟨rfl, _⟩ | ⟨gb, cap, cur, rfl, hbase, _⟩ <;> simp [MObj.blocks]
theorem con_sortedset [Tracks] (hT : Tracks.on = false) {ρ ρk : Ren} (L : SlLaysZ.n6 P ρ) (Lk : SlLaysZ.n7 P ρk) (hsort : ∀ m, AnyZ.SortsIn P ρ Fence.wide m)
 (e9 : ∀ args w, (callFunc (ρ.f 9) args).run P w = .ok (.enter (ρ.f 9) args) w) (eg : ∀ args w, (callFunc (ρk.f 10) args).run P w = .ok (.enter (ρk.f 10) args) w)
 {S : List Str} (hn : S.Nodup) (hl : ∀ s ∈ S, s.length ≤ 1000000) (hs : S.length ≤ 1000000) {b bx : Nat} :
 Con P (ρ.f 6) [.fn (.func (ρk.f 10)) [] [.raw (.pointer (some ⟨bx, 0, none⟩))]] [.cells bx [.raw (.map (some b))], .map b (sk (mset S))] fun x M' => ∃ v, x = .raw v ∧ M' = [.arr v 1 ((sortS S).map .str), .map b (sk (mset S))] := by
 have e1 : mset S = em HVal.bool (S.map fun s => (s, true)) := by simp [mset]
 have e2 : (S.map fun s => (s, true)).map (·.1) = S := by simp [Function.comp_def]
 have := con_sorted hT L Lk hsort e9 eg (f := HVal.bool) (l := S.map fun s => (s, true)) (by unfold ANodup; rw [e2]; exact hn) (fun p hp => by obtain ⟨s, hs, rfl⟩ := List.mem_map.1 hp; exact hl s hs) (by simpa using hs) (b := b) (bx := bx)
 rw [e2, ← e1] at this
 exact this
end
end Go.HL
end
section
namespace Go.HL
variable {P : Program}
/-- A frozen map keyed by strings. -/
abbrev hsm (L : SMap) : HVal := .hmap (L.map fun p => .str p.1) (L.map (·.2))
abbrev hset (S : List (List UInt8)) : HVal := hsm (mset S)
theorem sk_fst (L : SMap) : (sk L).map (·.1) = L.map fun p => HVal.str p.1 := by simp [sk, Function.comp_def]
theorem sk_snd (L : SMap) : (sk L).map (·.2) = L.map (·.2) := by simp [sk, Function.comp_def]
section
variable {e : Env} {dst : Option Tmp} {ty : TypeId} {pos : String} {af : Array Edge} {g : Option (Nat × Bool)}
end
/-- h, seen as h' while it is only read; objects may hold others. -/
inductive Bow (M : List MObj) : HVal → HVal → Prop
 | weak {h h' : HVal} (hw : Weak h h') : Bow M h h'
 | arr {i : Nat} {v : Value} {sz : Nat} {es : List HVal} (hm : M[i]? = some (.arr v sz es)) : Bow M (.raw v) (.slice sz es)
 | cells {i b off : Nat} {cs cs' : List HVal} (hm : M[i]? = some (.cells b cs)) (hl : cs.length = cs'.length) (h : ∀ (j : Nat) (c c' : HVal), cs[j]? = some c → cs'[j]? = some c' → Bow M c c') : Bow M (.raw (.pointer (some ⟨b, off, none⟩))) (.vptr cs' off)
 | map {i b : Nat} {L : SMap} (hm : M[i]? = some (.map b (sk L))) : Bow M (.raw (.map (some b))) (hsm L)
 | vptr {off : Nat} {l l' : List HVal} (hl : l.length = l'.length) (h : ∀ (j : Nat) (c c' : HVal), l[j]? = some c → l'[j]? = some c' → Bow M c c') : Bow M (.vptr l off) (.vptr l' off)
 | fn {f : Fn} {c1 l l' : List HVal} (hl : l.length = l'.length) (h : ∀ (j : Nat) (c c' : HVal), l[j]? = some c → l'[j]? = some c' → Bow M c c') : Bow M (.fn f c1 l) (.fn f c1 l')
theorem Bow.refl {M : List MObj} {h : HVal} : Bow M h h := .weak (Weak.refl _)
theorem V.vptr_inv' {I : Imm} {cs : List HVal} {off : Nat} {v : Value} (h : V I (.vptr cs off) v) : ∃ b base rc el fr, v = .pointer (some ⟨b, base + off, none⟩) ∧ I.heap b = some (.cells rc el fr) ∧ base + cs.length ≤ rc.size ∧
 ∀ (j : Nat) (c : HVal) (v : Value), cs[j]? = some c → rc[base + j]? = some v → V I c v := by
 cases h with
 | vptr h1 h2 h3 => exact ⟨_, _, _, _, _, rfl, h1, h2, h3⟩
theorem Bow.v [Tracks] {M : List MObj} {I : Imm} {F : List MObj} {w : World} {h h' : HVal} (hb : Bow M h h') (hs : Sat P I (M ++ F) w) : ∀ {v : Value}, V I h v → V (allI w) h' v := by
 induction hb with
 | weak hw => intro v hv; exact hw _ _ (hv.mono hs.le_all)
 | arr hm => intro v hv; exact (Bor.arr hm).v hs hv
 | @cells i b off cs cs' hm hl _ ih =>
   intro v hv
   rw [hv.raw_inv]
   obtain ⟨rc, el, fr, h2, h3, h4⟩ := hs.obj _ (List.mem_append_left _ (List.mem_of_getElem? hm))
   have := V.vptr (I := allI w) (cs := cs') (off := off) (base := 0) h2 (by have := h4.1; simp at this; omega) fun j c v a1 a2 => by
    have hj := lt_of_get a1
    have hj' := List.getElem?_eq_getElem (l := cs) (i := j) (by omega)
    exact ih j _ c hj' a1 (h4.2 j _ v hj' (by simpa using a2))
   rwa [Nat.zero_add] at this
 | @map i b L hm =>
   intro v hv
   rw [hv.raw_inv]
   obtain ⟨es, clk, h1, h2, h3⟩ := hs.obj _ (List.mem_append_left _ (List.mem_of_getElem? hm))
   have hn : es.size = L.length := by simpa [sk] using h2.1
   refine .hmap (I := allI w) h1 (by simp [hn]) (by simp [hn]) (fun j c m a1 a2 => ?_) (fun j c m a1 a2 => ?_)
   ·rw [← sk_fst, List.getElem?_map] at a1
    cases hq : (sk L)[j]? with
    | none => rw [hq] at a1; simp at a1
    | some p => rw [hq] at a1; simp at a1; subst a1; exact ((h3 j p m hq a2).1).mono hs.le_all
   ·rw [← sk_snd, List.getElem?_map] at a1
    cases hq : (sk L)[j]? with
    | none => rw [hq] at a1; simp at a1
    | some p => rw [hq] at a1; simp at a1; subst a1; exact ((h3 j p m hq a2).2).mono hs.le_all
 | @vptr off l l' hl _ ih =>
   intro v hv
   obtain ⟨b, base, rc, el, fr, rfl, h1, h2, h3⟩ := hv.vptr_inv'
   refine .vptr (I := allI w) (hs.imm _ _ h1) (by omega) fun j c u a1 a2 => ?_
   have hj := lt_of_get a1
   have hj' := List.getElem?_eq_getElem (l := l) (i := j) (by omega)
   exact ih j _ c hj' a1 (h3 j _ u hj' a2)
 | @fn f c1 l l' hl _ ih =>
   intro v hv
   cases hv with
   | fn g1 g2 g3 g4 =>
     refine .fn g1 (by omega) (fun j c u a1 a2 => (g3 j c u a1 a2).mono hs.le_all) fun j c u a1 a2 => ?_
     have hj := lt_of_get a1
     have hj' := List.getElem?_eq_getElem (l := l) (i := j) (by omega)
     exact ih j _ c hj' a1 (g4 j _ u hj' a2)
end Go.HL
end
section
namespace Go.HL
variable {P : Program}
theorem EOp.fzi [Tracks] {e : Env} {M N : List MObj} {o : Oper} {K : HVal → List MObj → Prop} {sz : Nat} {es : List HVal} (i : Nat) (h : EOp P e M o fun x M' => ∃ v, x = .raw v ∧ M'[i]? = some (.arr v sz es) ∧ M'.eraseIdx i = N) (hk : K (.slice sz es) N) : EOp P e M o K := fun I F a w ho hs =>
 Oper.wp_noQ (fun _ _ ⟨v, x, M', J, h1, h2, ⟨u, h3, h4, h5⟩, h6, h7⟩ => by
  subst h3 h5
  obtain ⟨J', g1, g2, g3⟩ := (h7.pull h4).freeze_arr
  exact ⟨v, _, _, J', h1, h2.trans g1, hk, by rw [h6.raw_inv]; exact g3, g2⟩) (h I F a w ho hs)
end Go.HL
end
section
namespace Go.Proofs.YtbihpphgoaflfaaGreatDoor
open Go.HL
set_option maxRecDepth 100000
set_option linter.unusedVariables false
set_option linter.unusedSimpArgs false
/-- benchwarmer/play.undone -/
theorem c_play_undone [Tracks] {l : List Play} {n : Int} (hl : l.length ≤ 1000000) : Con Tryz.prog 124 [ePlays l, .int .i64 n] [] (fun x M' => ∃ b, x = .raw (.map (some b)) ∧ M' = [.map b (kk eNum (em HVal.bool (goneL l n)))]) := by
 refine Con.of_body Tryz.func124 rfl Tryz.ntmps124 rfl rfl ?_
 refine hw_reg ?_
 refine dp rfl (pop_assign rfl) ?_
 refine dn ?_
 refine hw_reg ?_
 refine de rfl (eop_makeMap fun m14 => ?_)
 refine dp rfl (pop_assign rfl) ?_
 refine dn ?_
 refine hw_seq ?_
 refine hw_reg ?_
 refine dp rfl (pop_move rfl) ?_
 refine dp rfl (pop_lenm ty110 rfl) ?_
 refine dp rfl (pop_move rfl) ?_
 refine dn ?_
 refine hw_block ?_
 refine hw_loopw [7, 17, 18, 19, 20, 21, 22, 23, 24, 25, 26, 27, 28, 29, 30, 31, 32] (fun (k : Nat) => [(17, .int .i64 k)]) (fun (k : Nat) => [.map m14 (kk eNum (em ePlay (numL (l.take k) n)))]) (fun (k : Nat) => k ≤ l.length ∧ (True)) (fun (k : Nat) => l.length - k) (0) ?_ ?_ ?_ ?_
 ·exact ⟨Nat.zero_le _, trivial⟩
 ·exact ⟨rfl, trivial⟩
 ·exact List.Perm.refl _
 ·intro k hinv
  obtain ⟨hk, -⟩ := hinv
  refine hw_reg ?_
  refine dp rfl (pop_lss rfl rfl) ?_
  refine dn ?_
  refine hw_seq ?_
  refine hw_cond rfl (fun h1 => ?_) (fun h2 => ?_)
  ·try simp at h1
   obtain ⟨x, hx⟩ : ∃ x, l[k]? = some x := ⟨_, List.getElem?_eq_getElem h1⟩
   have hdx := drop_cons hx
   refine hw_skip ?_
   refine seqQ_n ?_
   refine hw_seq ?_
   refine hw_block ?_
   refine hw_reg ?_
   refine dp rfl (pop_idx ty110 ty109 rfl rfl rfl (by assumption)) ?_
   refine dp rfl (pop_loadw ty109 rfl rfl rfl rfl) ?_
   refine de rfl (eop_alloc ty109 rfl fun b7 => ?_)
   refine de0 (eop_storew ty109 rfl rfl rfl rfl rfl ?_)
   refine dn ?_
   refine hw_ghost (Ghost.fc0 7 rfl) ?_
   refine hw_reg ?_
   refine dp rfl (pop_fieldAddr ty109 rfl ty3 (by decide) rfl) ?_
   refine dp rfl (pop_load ty3 rfl rfl rfl) ?_
   refine dp rfl (pop_move rfl) ?_
   refine dp rfl (pop_leq rfl rfl) ?_
   refine dn ?_
   refine hw_cond rfl (fun h3 => ?_) (fun h4 => ?_)
   ·try simp at h3
    refine hw_reg1 ?_
    refine dp rfl (pop_move rfl) ?_
    refine dp rfl (pop_fieldAddr ty109 rfl ty9 (by decide) rfl) ?_
    refine dp rfl (pop_load ty9 rfl rfl rfl) ?_
    refine dp rfl (pop_fieldAddr ty109 rfl ty3 (by decide) rfl) ?_
    refine dp rfl (pop_load ty3 rfl rfl rfl) ?_
    refine dp rfl (pop_build (cs := [_, _]) ty179 pl179 rfl) ?_
    refine dp rfl (pop_loadw ty109 rfl rfl rfl rfl) ?_
    refine de0 (eop_updatekA (i := 0) (s := (x.Source, x.No)) (v := x) ty218 ok179 rfl rfl rfl rfl ?_)
    refine dn ?_
    refine blockQ_n ?_
    refine seqQ_n ?_
    refine hw_reg1 ?_
    refine dp rfl (pop_add64 rfl rfl (by omega) (by omega)) ?_
    refine dp rfl (pop_move rfl) ?_
    refine dn ?_
    exact ⟨k + 1, ⟨by omega, trivial⟩, by dsimp only; omega, ⟨rfl, trivial⟩, (by repeat (first | exact keeps_refl | refine keeps_upd rfl ?_ | refine keeps_loop rfl rfl ?_)), perm_eq (by dsimp only; rw [numL_snoc hx, numStep, if_pos (by simpa using h3)]; try rfl)⟩
   ·try simp at h4
    refine hw_skip ?_
    refine blockQ_n ?_
    refine seqQ_n ?_
    refine hw_reg1 ?_
    refine dp rfl (pop_add64 rfl rfl (by omega) (by omega)) ?_
    refine dp rfl (pop_move rfl) ?_
    refine dn ?_
    exact ⟨k + 1, ⟨by omega, trivial⟩, by dsimp only; omega, ⟨rfl, trivial⟩, (by repeat (first | exact keeps_refl | refine keeps_upd rfl ?_ | refine keeps_loop rfl rfl ?_)), perm_eq (by dsimp only; rw [numL_snoc hx, numStep, if_neg (by simpa using h4)]; try rfl)⟩
  ·try simp at h2
   have hnk : l.length ≤ k := by omega
   obtain rfl : k = l.length := by omega
   refine hw_exit ?_
   refine seqQ_x ?_
   refine loopQ_x ?_
   refine blockQ_eq ?_
   refine seqQ_n ?_
   rw [List.take_length]
   refine hw_reg ?_
   refine de rfl (eop_makeMap fun m33 => ?_)
   refine dp rfl (pop_assign rfl) ?_
   refine dn ?_
   refine hw_seq ?_
   refine hw_reg ?_
   refine dp rfl (pop_move rfl) ?_
   refine dp rfl (pop_lenm ty110 rfl) ?_
   refine dp rfl (pop_move rfl) ?_
   refine dn ?_
   refine hw_block ?_
   refine hw_loopw [10, 11, 12, 13, 36, 37, 38, 39, 40, 41, 42, 43, 44, 45, 46, 47, 48, 49, 50, 51, 52, 53, 54, 55, 56, 57, 58, 59, 60, 61, 62, 63, 64, 65, 66, 67, 68, 69, 70, 71, 72, 73, 74, 75, 76, 77, 78, 79, 80, 81, 82, 83, 84, 85, 86, 87, 88, 89] (fun (k : Nat) => [(36, .int .i64 k)]) (fun (k : Nat) => [.map m33 (kk eNum (em HVal.bool (goneGo (numL l n) n (l.take k)))), .map m14 (kk eNum (em ePlay (numL l n)))]) (fun (k : Nat) => k ≤ l.length ∧ (True)) (fun (k : Nat) => l.length - k) (0) ?_ ?_ ?_ ?_
   ·exact ⟨Nat.zero_le _, trivial⟩
   ·exact ⟨rfl, trivial⟩
   ·exact List.Perm.refl _
   ·intro k hinv
    obtain ⟨hk, -⟩ := hinv
    refine hw_reg ?_
    refine dp rfl (pop_lss rfl rfl) ?_
    refine dn ?_
    refine hw_seq ?_
    refine hw_cond rfl (fun h5 => ?_) (fun h6 => ?_)
    ·try simp at h5
     obtain ⟨x, hx⟩ : ∃ x, l[k]? = some x := ⟨_, List.getElem?_eq_getElem h5⟩
     have hdx := drop_cons hx
     refine hw_skip ?_
     refine seqQ_n ?_
     refine hw_seq ?_
     refine hw_block ?_
     refine hw_reg ?_
     refine dp rfl (pop_idx ty110 ty109 rfl rfl rfl (by assumption)) ?_
     refine dp rfl (pop_loadw ty109 rfl rfl rfl rfl) ?_
     refine de rfl (eop_alloc ty109 rfl fun b10 => ?_)
     refine de0 (eop_storew ty109 rfl rfl rfl rfl rfl ?_)
     refine dn ?_
     refine hw_ghost (Ghost.fc0 10 rfl) ?_
     refine hw_seq ?_
     refine hw_reg ?_
     refine dp rfl (pop_fieldAddr ty109 rfl ty3 (by decide) rfl) ?_
     refine dp rfl (pop_load ty3 rfl rfl rfl) ?_
     refine dp rfl (pop_move rfl) ?_
     refine dp rfl (pop_gtr rfl rfl) ?_
     refine dp rfl (pop_move rfl) ?_
     refine dg rfl rfl (fun hc => ⟨_, OpenTo.refl _, pop_fieldAddr ty109 rfl ty3 (by decide) rfl⟩) ?_
     refine dg rfl rfl (fun hc => ⟨_, OpenTo.upd (t := 45) rfl (hc) (OpenTo.refl _), pop_load ty3 rfl rfl rfl⟩) ?_
     refine dg rfl rfl (fun hc => ⟨_, OpenTo.upd (t := 46) rfl (hc) (OpenTo.refl _), pop_eql rfl rfl⟩) ?_
     refine dp rfl (pop_picko rfl (.inl rfl) (.inr ⟨_, rfl, fun h => by simp_all⟩)) ?_
     refine dn ?_
     refine hw_cond rfl (fun h7 => ?_) (fun h8 => ?_)
     ·try simp at h7
      refine hw_exit ?_
      refine seqQ_x ?_
      refine blockQ_eq ?_
      refine seqQ_n ?_
      refine hw_reg1 ?_
      refine dp rfl (pop_add64 rfl rfl (by omega) (by omega)) ?_
      refine dp rfl (pop_move rfl) ?_
      refine dn ?_
      exact ⟨k + 1, ⟨by omega, trivial⟩, by dsimp only; omega, ⟨rfl, trivial⟩, (by repeat (first | exact keeps_refl | refine keeps_upd rfl ?_ | refine keeps_loop rfl rfl ?_)), perm_eq (by dsimp only; rw [goneGo_snoc hx, goneStep, if_pos (by simpa using h7)]; try rfl)⟩
     ·try simp at h8
      refine hw_skip ?_
      refine seqQ_n ?_
      refine hw_reg ?_
      refine dp rfl (pop_fieldAddr ty109 rfl ty9 (by decide) rfl) ?_
      refine dp rfl (pop_load ty9 rfl rfl rfl) ?_
      refine dp rfl (pop_fieldAddr ty109 rfl ty3 (by decide) rfl) ?_
      refine dp rfl (pop_load ty3 rfl rfl rfl) ?_
      refine dp rfl (pop_build (cs := [_, _]) ty179 pl179 rfl) ?_
      refine de rfl (eop_alloc ty179 rfl fun b11 => ?_)
      refine de0 (eop_storew ty179 rfl rfl rfl rfl rfl ?_)
      refine dn ?_
      refine hw_ghost (Ghost.fc0 11 rfl) ?_
      refine hw_reg ?_
      refine dp rfl (pop_move rfl) ?_
      refine dp rfl (pop_loadw ty179 rfl rfl rfl rfl) ?_
      refine de rfl (eop_lookupk2A (i := 1) (s := (x.Source, x.Undo)) (z0 := play0) ty218 ok179 ty109 rfl rfl rfl rfl ?_)
      refine dp rfl (pop_move rfl) ?_
      refine dp rfl (pop_extract rfl rfl) ?_
      refine dp rfl (pop_extract rfl rfl) ?_
      refine de rfl (eop_alloc ty109 rfl fun b12 => ?_)
      refine de0 (eop_storew ty109 rfl rfl rfl rfl rfl ?_)
      refine dp rfl (pop_assign rfl) ?_
      refine dn ?_
      refine hw_ghost (Ghost.fc0 12 rfl) ?_
      refine hw_reg ?_
      refine dp rfl (pop_move rfl) ?_
      refine dp rfl (pop_move rfl) ?_
      refine dg rfl rfl (fun hc => ⟨_, OpenTo.refl _, pop_fieldAddr ty109 rfl ty3 (by decide) rfl⟩) ?_
      refine dg rfl rfl (fun hc => ⟨_, OpenTo.upd (t := 62) rfl (hc) (OpenTo.refl _), pop_load ty3 rfl rfl rfl⟩) ?_
      refine dg rfl rfl (fun hc => ⟨_, OpenTo.upd (t := 63) rfl (hc) (OpenTo.refl _), pop_eql rfl rfl⟩) ?_
      refine dp rfl (pop_picko rfl (.inr ⟨_, rfl, fun h => by simp_all⟩) (.inl rfl)) ?_
      refine dp rfl (pop_move rfl) ?_
      refine dg rfl rfl (fun hc => ⟨_, OpenTo.refl _, pop_fieldAddr ty109 rfl ty9 (by decide) rfl⟩) ?_
      refine dg rfl rfl (fun hc => ⟨_, OpenTo.upd (t := 67) rfl (hc) (OpenTo.refl _), pop_load ty9 rfl rfl rfl⟩) ?_
      refine dg rfl rfl (fun hc => ⟨_, OpenTo.refl _, pop_fieldAddr ty109 rfl ty9 (by decide) rfl⟩) ?_
      refine dg rfl rfl (fun hc => ⟨_, OpenTo.upd (t := 69) rfl (hc) (OpenTo.refl _), pop_load ty9 rfl rfl rfl⟩) ?_
      refine dg rfl rfl (fun hc => ⟨_, OpenTo.upd (t := 70) rfl (hc) (OpenTo.upd (t := 68) rfl (hc) (OpenTo.refl _)), pop_eqls rfl rfl⟩) ?_
      refine dp rfl (pop_picko rfl (.inr ⟨_, rfl, fun h => by simp_all⟩) (.inl rfl)) ?_
      refine dp rfl (pop_move rfl) ?_
      refine dg rfl rfl (fun hc => ⟨_, OpenTo.refl _, pop_fieldAddr ty109 rfl ty9 (by decide) rfl⟩) ?_
      refine dg rfl rfl (fun hc => ⟨_, OpenTo.upd (t := 74) rfl (hc) (OpenTo.refl _), pop_load ty9 rfl rfl rfl⟩) ?_
      refine dg rfl rfl (fun hc => ⟨_, OpenTo.refl _, pop_fieldAddr ty109 rfl ty9 (by decide) rfl⟩) ?_
      refine dg rfl rfl (fun hc => ⟨_, OpenTo.upd (t := 76) rfl (hc) (OpenTo.refl _), pop_load ty9 rfl rfl rfl⟩) ?_
      refine dg rfl rfl (fun hc => ⟨_, OpenTo.upd (t := 77) rfl (hc) (OpenTo.upd (t := 75) rfl (hc) (OpenTo.refl _)), pop_eqls rfl rfl⟩) ?_
      refine dp rfl (pop_picko rfl (.inr ⟨_, rfl, fun h => by simp_all⟩) (.inl rfl)) ?_
      refine dp rfl (pop_move rfl) ?_
      refine dg rfl rfl (fun hc => ⟨_, OpenTo.refl _, pop_fieldAddr ty109 rfl ty9 (by decide) rfl⟩) ?_
      refine dg rfl rfl (fun hc => ⟨_, OpenTo.upd (t := 81) rfl (hc) (OpenTo.refl _), pop_load ty9 rfl rfl rfl⟩) ?_
      refine dg rfl rfl (fun hc => ⟨_, OpenTo.refl _, pop_fieldAddr ty109 rfl ty9 (by decide) rfl⟩) ?_
      refine dg rfl rfl (fun hc => ⟨_, OpenTo.upd (t := 83) rfl (hc) (OpenTo.refl _), pop_load ty9 rfl rfl rfl⟩) ?_
      refine dg rfl rfl (fun hc => ⟨_, OpenTo.upd (t := 84) rfl (hc) (OpenTo.upd (t := 82) rfl (hc) (OpenTo.refl _)), pop_eqls rfl rfl⟩) ?_
      refine dp rfl (pop_picko rfl (.inr ⟨_, rfl, fun h => by simp_all⟩) (.inl rfl)) ?_
      refine dn ?_
      refine hw_cond rfl (fun h9 => ?_) (fun h10 => ?_)
      ·try simp at h9
       refine hw_reg1 ?_
       refine dp rfl (pop_move rfl) ?_
       refine dp rfl (pop_loadw ty179 rfl rfl rfl rfl) ?_
       refine de0 (eop_updatekA (i := 0) (s := (x.Source, x.Undo)) (v := true) ty174 ok179 rfl rfl rfl rfl ?_)
       refine dn ?_
       refine blockQ_n ?_
       refine seqQ_n ?_
       refine hw_reg1 ?_
       refine dp rfl (pop_add64 rfl rfl (by omega) (by omega)) ?_
       refine dp rfl (pop_move rfl) ?_
       refine dn ?_
       exact ⟨k + 1, ⟨by omega, trivial⟩, by dsimp only; omega, ⟨rfl, trivial⟩, (by repeat (first | exact keeps_refl | refine keeps_upd rfl ?_ | refine keeps_loop rfl rfl ?_)), perm_eq (by dsimp only; rw [goneGo_snoc hx, goneStep, if_neg (by simp_all; try omega), if_pos (by simp_all [undoes])]; try rfl)⟩
      ·try simp at h10
       refine hw_skip ?_
       refine blockQ_n ?_
       refine seqQ_n ?_
       refine hw_reg1 ?_
       refine dp rfl (pop_add64 rfl rfl (by omega) (by omega)) ?_
       refine dp rfl (pop_move rfl) ?_
       refine dn ?_
       exact ⟨k + 1, ⟨by omega, trivial⟩, by dsimp only; omega, ⟨rfl, trivial⟩, (by repeat (first | exact keeps_refl | refine keeps_upd rfl ?_ | refine keeps_loop rfl rfl ?_)), perm_eq (by dsimp only; rw [goneGo_snoc hx, goneStep, if_neg (by simp_all; try omega), if_neg (by simp_all [undoes])]; try rfl)⟩
    ·try simp at h6
     have hnk : l.length ≤ k := by omega
     obtain rfl : k = l.length := by omega
     refine hw_exit ?_
     refine seqQ_x ?_
     refine loopQ_x ?_
     refine blockQ_eq ?_
     refine seqQ_n ?_
     rw [List.take_length]
     refine hw_ghost (Ghost.only (i := 0) rfl) ?_
     refine hw_reg ?_
     refine dp rfl (pop_move rfl) ?_
     refine dp rfl (pop_assign rfl) ?_
     refine dn ?_
     refine hw_ret ?_
     exact ret_q rfl ⟨_, rfl, rfl⟩

/-- benchwarmer/play.byName -/
theorem c_play_byName [Tracks] {a b : StatS}  : ConP Tryz.prog 170 [eStat a, eStat b] (.int .i64 (byNm a b)) := by
 refine Con.of_body Tryz.func170 rfl Tryz.ntmps170 rfl rfl ?_
 refine hw_reg ?_
 refine dp rfl (pop_box rfl rfl) ?_
 refine dp rfl (pop_box rfl rfl) ?_
 refine dp rfl (pop_assign rfl) ?_
 refine dn ?_
 refine hw_reg ?_
 refine dp rfl (pop_fieldAddr ty222 rfl ty9 (by decide) rfl) ?_
 refine dp rfl (pop_load ty9 rfl rfl rfl) ?_
 refine dp rfl (pop_fieldAddr ty222 rfl ty9 (by decide) rfl) ?_
 refine dp rfl (pop_load ty9 rfl rfl rfl) ?_
 refine dp rfl (pop_call ca63 rfl (WeakL.refl _) c_strings_Compare) ?_
 refine dp rfl (pop_assign rfl) ?_
 refine dn ?_
 refine hw_ret ?_
 refine ret_p rfl ?_
 rfl

/-- slices.SortFunc -/
theorem c_sort_Stat [Tracks] {c : StatS → StatS → Int} (hO : Go.Sort.SWO (Go.Proofs.ltOf c)) {g : FuncId} (hg : Callable Tryz.prog g) {cap : List HVal} (hc : ∀ x y, @ConP trackOn Tryz.prog g (eStat x :: eStat y :: cap) (.int .i64 (c x y))) {l : List StatS} (hl : l.length ≤ 1000000) {v : Value} :
 Con Tryz.prog 169 [.raw v, .fn (.func g) [] cap] [.arr v 2 (l.map eStat)] fun x M' => ∃ l' : List StatS, x = .tup [] ∧ l'.Perm l ∧ l'.Pairwise (fun a b => ¬ c b a < 0) ∧ M' = [.arr v 2 (l'.map eStat)] :=
 con_sortf (e := eStat) Tryz.g169 (Tryz.isAgg222) (Tryz.sizeOf222) (fun _ => rfl) (fun _ => rfl) (fun _ => rfl) hO hg hc hl

theorem sortsIn [Tracks] (m : Nat) : Go.Proofs.AnyZ.SortsIn Tryz.prog Tryz.g167_ren Fence.wide m :=
 ⟨fun blk off cap ss W hH hblk hsz => callsIn_wide.2 (AnyM.slices_Sort_string Tryz.g108 blk off cap ss W hH hblk hsz), fun p cap W => callsIn_wide.2 (AnyM.slices_Sort_string_none Tryz.g108 p cap W)⟩
theorem c_keys_168 [Tracks] {b : Nat} : Con Tryz.prog 168 [.raw (.map (some b))] [] fun x M' => ∃ bx, x = .fn (.func 198) [] [.raw (.pointer (some ⟨bx, 0, none⟩))] ∧ M' = [.cells bx [.raw (.map (some b))]] :=
 con_keys (ρ := Tryz.g168_ren) Tryz.g168
theorem c_sortedset_168 [Tracks] (hT : Tracks.on = false) {S : List Str} (hn : S.Nodup) (hl : ∀ s ∈ S, s.length ≤ 1000000) (hs : S.length ≤ 1000000) {b bx : Nat} :
 Con Tryz.prog 167 [.fn (.func 198) [] [.raw (.pointer (some ⟨bx, 0, none⟩))]] [.cells bx [.raw (.map (some b))], .map b (sk (mset S))] fun x M' => ∃ v, x = .raw v ∧ M' = [.arr v 1 ((sortS S).map .str), .map b (sk (mset S))] :=
 con_sortedset hT (ρ := Tryz.g167_ren) (ρk := Tryz.g168_ren) Tryz.g167 Tryz.g168 sortsIn (enters_of Tryz.func108 (by kernel_rfl) rfl) (enters_of Tryz.func198 (by kernel_rfl) rfl) hn hl hs

set_option maxHeartbeats 1000000 in
/-- (benchwarmer/play.counted).lines -/
theorem c_play_counted_lines [Tracks] {b0 b1 : Nat} {c : List (Of2 × Int)} {S : List Str} {week : Int} (hT : Tracks.on = false) (hn : ANodup c) (hSn : S.Nodup) (hSk : ∀ s ∈ S, s.length ≤ 40) (hc : c.length ≤ 1000000) (hSl : S.length ≤ 1000000) : Con Tryz.prog 125 [.raw (.map (some b0)), .raw (.map (some b1)), .int .i64 week] [.map b0 (kk eOf (em (HVal.int .i64) c)), .map b1 (sk (mset S))] (fun x M' => x = .tup [eLines (clinesL c S week), .int .i64 (clinesE c S)] ∧ M' = []) := by
 refine Con.of_body Tryz.func125 rfl Tryz.ntmps125 rfl rfl ?_
 refine hw_reg ?_
 refine dp rfl (pop_assign rfl) ?_
 refine dp rfl (pop_assign rfl) ?_
 refine dn ?_
 refine hw_reg ?_
 refine de rfl (eop_makeMap fun m15 => ?_)
 refine dp rfl (pop_assign rfl) ?_
 refine dn ?_
 refine hw_seq ?_
 refine hw_reg ?_
 refine dp rfl (pop_move rfl) ?_
 refine de rfl (eop_range (i := 1) ty177 rfl rfl fun r => ?_)
 refine dn ?_
 refine hw_block ?_
 refine hw_loopw3 [6, 7, 9, 10, 18, 19, 20, 21, 22, 23, 24, 25, 26, 27, 28, 29, 30, 31, 32, 33, 34, 35, 36, 37, 38, 39, 40, 41] (fun (vis : List Nat) (E : List (Of2 × Int)) (G : Grp StatS) => []) (fun (vis : List Nat) (E : List (Of2 × Int)) (G : Grp StatS) => [.map m15 (sk (em fG G)), .iter r b0 (kk eOf (em (HVal.int .i64) c)) vis, .map b1 (sk (mset S))] ++ grp 2 eStat G) (fun (vis : List Nat) (E : List (Of2 × Int)) (G : Grp StatS) => VisOk (c) vis E ∧ (GOk E G ∧ ∀ y ∈ E, out y.2 (-100000) 100000 = false)) (fun (vis : List Nat) (E : List (Of2 × Int)) (G : Grp StatS) => (c).length - vis.length) ([]) ([]) ([]) ?_ ?_ ?_ ?_
 ·exact ⟨VisOk.nil _, GOk.nil, fun y h => by cases h⟩
 ·exact trivial
 ·exact perm_eq rfl
 ·intro vis E G hinv
  obtain ⟨hvis, hG, hO⟩ := hinv
  refine hw_reg ?_
  refine de rfl (eop_nextA (i := 1) (L := c) (enc := (fun p : Of2 × Int => (eOf p.1, HVal.int .i64 p.2))) rfl rfl (kk_em _ _ _) hvis.nd hvis.lt fun cb R vis' hnx => ?_)
  refine dp rfl (pop_extract rfl rfl) ?_
  refine dn ?_
  refine hw_seq ?_
  refine hw_cond rfl (fun h1 => ?_) (fun h2 => ?_)
  ·try simp at h1
   obtain ⟨j, q, hq, hj, rfl⟩ := hnx.t h1
   have hroom := hvis.room hq hj
   have hstep := hvis.step hq hj
   have hqm := List.mem_of_getElem? hq
   refine hw_skip ?_
   refine seqQ_n ?_
   refine hw_block ?_
   refine hw_reg ?_
   refine de rfl (eop_entryA (i := 1) (L := c) (enc := (fun p : Of2 × Int => (eOf p.1, HVal.int .i64 p.2))) rfl rfl (kk_em _ _ _) hq ?_)
   refine dp rfl (pop_extract rfl rfl) ?_
   refine dp rfl (pop_extract rfl rfl) ?_
   refine de rfl (eop_alloc ty181 rfl fun b9 => ?_)
   refine de0 (eop_storew ty181 rfl rfl rfl rfl rfl ?_)
   refine dp rfl (pop_assign rfl) ?_
   refine dn ?_
   refine hw_ghost (Ghost.fc0 9 rfl) ?_
   refine hw_block ?_
   refine hw_reg ?_
   refine dp rfl (pop_move rfl) ?_
   refine dp rfl (pop_call ca38 rfl (WeakL.refl _) c_base_Out) ?_
   refine dp rfl (pop_assign rfl) ?_
   refine dn ?_
   refine hw_cond rfl (fun h3 => ?_) (fun h4 => ?_)
   ·try simp at h3
    refine hw_reg ?_
    refine dp rfl (pop_assign rfl) ?_
    refine dp rfl (pop_assign rfl) ?_
    refine dn ?_
    refine hw_ret ?_
    exact ⟨_, [], Ghost.clear, _, _, rfl, weak_tup2 (weak_nil 3) (Weak.refl _), by have hf := full_count (S := S) hqm (by simpa using h3); rw [clinesL, clinesE, hf]; rfl, rfl⟩
   ·try simp at h4
    refine hw_reg ?_
    refine dp rfl (pop_move rfl) ?_
    refine dp rfl (pop_neq rfl rfl) ?_
    refine dp rfl (pop_assign rfl) ?_
    refine dn ?_
    refine hw_cond rfl (fun h5 => ?_) (fun h6 => ?_)
    ·try simp at h5
     refine hw_ghost (Ghost.of_eq (M' := [.map m15 (sk (em fG G)), .iter r b0 (kk eOf (em (HVal.int .i64) c)) (vis ++ [j]), .map b1 (sk (mset S))] ++ grp 2 eStat G) rfl) ?_
     refine hw_draw1 (fun _ => True) [] mixed ?_
     refine ahp 0 rfl rfl (by kernel_rfl) (by kernel_rfl) (pop_move rfl) ?_
     refine ahp 1 rfl rfl (by kernel_rfl) (by kernel_rfl) ((pop_fieldAddr ty181 rfl ty9 (by decide) rfl)) ?_
     refine ahp 2 rfl rfl (by kernel_rfl) (by kernel_rfl) (pop_load ty9 rfl rfl rfl) ?_
     refine ahp 3 rfl rfl (by kernel_rfl) (by kernel_rfl) (pop_move rfl) ?_
     refine ahp 4 rfl rfl (by kernel_rfl) (by kernel_rfl) ((pop_fieldAddr ty181 rfl ty9 (by decide) rfl)) ?_
     refine ahp 5 rfl rfl (by kernel_rfl) (by kernel_rfl) (pop_load ty9 rfl rfl rfl) ?_
     refine ahp 7 rfl rfl (by kernel_rfl) (by kernel_rfl) ((pop_fieldAddr ty181 rfl ty9 (by decide) rfl)) ?_
     refine ahp 8 rfl rfl (by kernel_rfl) (by kernel_rfl) (pop_load ty9 rfl rfl rfl) ?_
     refine ahp 9 rfl rfl (by kernel_rfl) (by kernel_rfl) (pop_move rfl) ?_
     refine ahp 10 rfl rfl (by kernel_rfl) (by kernel_rfl) (pop_build (cs := [_, _]) ty222 pl222 rfl) ?_
     refine ahp 11 rfl rfl (by kernel_rfl) (by kernel_rfl) (pop_buildSlice (hs := [_]) ty115 ty222 rfl rfl (by decide) (by decide) rfl) ?_
     refine ahe 6 rfl (by kernel_rfl) ?_
     refine hop_e rfl (eop_lookupA (i := 0) (z0 := gZ StatS) ty220 ty9 ty115 rfl rfl rfl rfl ?_)
     refine ⟨fun _ => .inl trivial, ?_⟩
     refine ahe 12 rfl (by kernel_rfl) ?_
     refine hop_e rfl (eop_append_grp (A := [.map m15 (sk (em fG G)), .iter r b0 (kk eOf (em (HVal.int .i64) c)) (vis ++ [j]), .map b1 (sk (mset S))]) (G := G) (s := q.1.1) (ys := [⟨q.1.2, q.2⟩]) (eb := eStat) ty115 ty222 rfl rfl rfl rfl (by simp [flat, hcells]) (by have := rawStats_le E q.1.1; rw [← hG.raw] at this; have := hvis.len; simp only [List.length_cons, List.length_nil]; omega) fun v41 => ?_)
     refine ⟨fun _ => .inl trivial, ?_⟩
     refine ahe 13 rfl (by kernel_rfl) ?_
     refine hop_e0 (eop_updateA (i := 0) (f := fG) (L := G) (v := (v41, gL q.1.1 G ++ [⟨q.1.2, q.2⟩])) ty220 ty9 rfl rfl rfl rfl ?_)
     refine ⟨fun _ => .inl trivial, ?_⟩
     refine ahz (by kernel_rfl) ?_
     refine blockQ_n ?_
     refine blockQ_n ?_
     have hO' : ∀ y ∈ E ++ [q], out y.2 (-100000) 100000 = false := fun y hy => by
      rcases List.mem_append.1 hy with hy | hy
      ·exact hO y hy
      ·rw [List.mem_singleton.1 hy]; simpa using h4
     exact ⟨_, E ++ [q], _, ⟨hstep, hG.put (by simpa using h5) v41, hO'⟩, by dsimp only; rw [List.length_append]; simp only [List.length_cons, List.length_nil]; omega, trivial, (by repeat (first | exact keeps_refl | refine keeps_upd rfl ?_ | refine keeps_loop rfl rfl ?_)), perm_eq rfl⟩
    ·try simp at h6
     refine hw_skip ?_
     refine blockQ_n ?_
     refine blockQ_n ?_
     have hO' : ∀ y ∈ E ++ [q], out y.2 (-100000) 100000 = false := fun y hy => by
      rcases List.mem_append.1 hy with hy | hy
      ·exact hO y hy
      ·rw [List.mem_singleton.1 hy]; simpa using h4
     exact ⟨_, E ++ [q], G, ⟨hstep, hG.skip (by simpa using h6), hO'⟩, by dsimp only; rw [List.length_append]; simp only [List.length_cons, List.length_nil]; omega, trivial, (by repeat (first | exact keeps_refl | refine keeps_upd rfl ?_ | refine keeps_loop rfl rfl ?_)), perm_eq rfl⟩
  ·try simp at h2
   obtain ⟨rfl, hlen⟩ := hnx.f h2
   have hEp := hvis.done hlen
   refine hw_exit ?_
   refine seqQ_x ?_
   refine loopQ3_x ?_
   refine blockQ_eq ?_
   refine seqQ_n ?_
   refine hw_ghost (Ghost.iterOver (i := 1) rfl) ?_
   refine hw_ghost (Ghost.of_eq (M' := [.map m15 (sk (em fG G)), .map b0 (kk eOf (em (HVal.int .i64) c)), .map b1 (sk (mset S))] ++ grp 2 eStat G) rfl) ?_
   refine hw_reg ?_
   refine dp rfl (pop_assign rfl) ?_
   refine dn ?_
   refine hw_seq ?_
   refine hw_reg ?_
   refine dp rfl (pop_move rfl) ?_
   refine de rfl (eop_callf (M1 := []) (R := _) ca168 rfl (WeakL.refl _) (List.Perm.refl _) c_keys_168 ?_)
   rintro _ _ ⟨bx, rfl, rfl⟩
   refine de rfl (EOp.fzi (N := [.map b1 (sk (mset S)), .map b0 (kk eOf (em (HVal.int .i64) c))] ++ ([.map m15 (sk (em fG G))] ++ grp 2 eStat G)) (sz := 1) (es := (sortS S).map .str) 0 (eop_callf (M1 := [.cells bx [.raw (.map (some b1))], .map b1 (sk (mset S))]) (R := [.map b0 (kk eOf (em (HVal.int .i64) c))] ++ ([.map m15 (sk (em fG G))] ++ grp 2 eStat G)) ca167 rfl (WeakL.refl _) (by exact perm3) (c_sortedset_168 hT hSn (fun s hs => Nat.le_trans (hSk s hs) (by decide)) hSl) (by rintro _ _ ⟨v, rfl, rfl⟩; exact ⟨v, rfl, rfl, rfl⟩)) ?_)
   refine dp rfl (pop_lenm ty77 rfl) ?_
   refine dp rfl (pop_move rfl) ?_
   refine dn ?_
   refine hw_ghost (Ghost.suffix (R := [_, _])) ?_
   refine hw_ghost (Ghost.arr_nil 3) ?_
   have hSSl : (sortS S).length ≤ 1000000 := by rw [sortS_len]; exact hSl
   have hSS : (sortS S).Nodup := (sortS_perm S).nodup_iff.2 hSn
   refine hw_block ?_
   refine hw_loopw2 [6, 7, 11, 13, 14, 46, 47, 48, 49, 50, 51, 52, 53, 54, 55, 56, 57, 58, 59, 60, 61, 62, 63, 64, 65] (fun (k : Nat) (u : Value) => [(46, .int .i64 k), (11, .raw u)]) (fun (k : Nat) (u : Value) => [.arr u 3 (((sortS S).take k).map fun s => eLine ⟨s, week, statsOf c s⟩), .map m15 (sk (em fG G))] ++ grp 2 eStat (restG G ((sortS S).take k))) (fun (k : Nat) (u : Value) => k ≤ (sortS S).length ∧ (∀ s ∈ (sortS S).take k, ¬ 40 < (rawStats c s).length)) (fun (k : Nat) (u : Value) => (sortS S).length - k) (0) (.slice none 0 0) ?_ ?_ ?_ ?_
   ·exact ⟨Nat.zero_le _, fun s h => by simp at h⟩
   ·exact ⟨rfl, rfl, trivial⟩
   ·exact perm_eq (by simp [rest_nil])
   ·intro k u hinv
    obtain ⟨hk, hg⟩ := hinv
    refine hw_reg ?_
    refine dp rfl (pop_lss rfl rfl) ?_
    refine dn ?_
    refine hw_seq ?_
    refine hw_cond rfl (fun h7 => ?_) (fun h8 => ?_)
    ·try simp at h7
     obtain ⟨x, hx⟩ : ∃ x, (sortS S)[k]? = some x := ⟨_, List.getElem?_eq_getElem h7⟩
     have hdx := drop_cons hx
     refine hw_skip ?_
     refine seqQ_n ?_
     refine hw_seq ?_
     refine hw_block ?_
     refine hw_reg ?_
     refine dp rfl (pop_idx ty77 ty9 rfl rfl rfl (by assumption)) ?_
     refine dp rfl (pop_load ty9 rfl rfl rfl) ?_
     refine dp rfl (pop_assign rfl) ?_
     refine dn ?_
     refine hw_reg ?_
     refine dp rfl (pop_move rfl) ?_
     refine dp rfl (pop_move rfl) ?_
     refine de rfl (eop_lookupA (i := 1) (z0 := gZ StatS) ty220 ty9 ty115 rfl rfl rfl rfl ?_)
     refine dp rfl (pop_assign rfl) ?_
     refine dn ?_
     have hnx := take_notin hSS hx
     have hxS : x ∈ S := (sortS_perm S).mem_iff.1 (List.mem_of_getElem? hx)
     refine hw_ghost (Ghost.grp_take (A := [.arr u 3 (((sortS S).take k).map fun s => eLine ⟨s, week, statsOf c s⟩), .map m15 (sk (em fG G))]) (G := restG G ((sortS S).take k)) (G' := G) (s := x) (rest_nodup hG.nd) (rest_alk hnx)) ?_
     rw [rest_snoc]
     refine hw_seq ?_
     refine hw_reg ?_
     refine dp rfl (pop_move rfl) ?_
     refine de rfl (eop_lenm (i := 0) (es := gL x G) ty115 rfl rfl ?_)
     refine dp rfl (pop_gtr rfl rfl) ?_
     refine dn ?_
     refine hw_cond rfl (fun h9 => ?_) (fun h10 => ?_)
     ·try simp at h9
      refine hw_reg ?_
      refine dp rfl (pop_assign rfl) ?_
      refine dp rfl (pop_assign rfl) ?_
      refine dn ?_
      refine hw_ret ?_
      exact ⟨_, [], Ghost.clear, _, _, rfl, weak_tup2 (weak_nil 3) (Weak.refl _), by have hf := full_stats (c := c) hxS (by rw [← gL_len hEp hG]; omega); rw [clinesL, clinesE, hf]; rfl, rfl⟩
     ·try simp at h10
      refine hw_skip ?_
      refine seqQ_n ?_
      refine hw_reg ?_
      refine dp rfl (pop_move rfl) ?_
      refine de rfl (eop_callf (M1 := [.arr (gV x G) 2 ((gL x G).map eStat)]) (R := [.arr u 3 (((sortS S).take k).map fun s => eLine ⟨s, week, statsOf c s⟩), .map m15 (sk (em fG G))] ++ grp 2 eStat (restG G ((sortS S).take k ++ [x]))) ca169 rfl (WeakL.refl _) (List.Perm.refl _) (c_sort_Stat (c := byNm) (swo_cmp byNm_cmp) ca170 (fun _ _ => @c_play_byName trackOn _ _) (l := gL x G) (by have := rawStats_le c x; rw [gL_len hEp hG]; omega)) ?_)
      rintro _ _ ⟨l', rfl, hp', hw', rfl⟩
      obtain rfl := stats_sorted hEp hn hG hp' hw'
      refine dn ?_
      refine hw_ghost (Ghost.fa 14 (i := 0) rfl rfl) ?_
      refine hw_reg1 ?_
      refine dp rfl (pop_move rfl) ?_
      refine dp rfl (pop_move rfl) ?_
      refine dp rfl (pop_move rfl) ?_
      refine dp rfl (pop_move rfl) ?_
      refine dp rfl (pop_build (cs := [_, _, _]) ty117 pl117 rfl) ?_
      refine dp rfl (pop_buildSlice (hs := [_]) ty105 ty117 rfl rfl (by decide) (by decide) rfl) ?_
      refine de rfl (eop_append (i := 0) ty105 ty117 rfl rfl rfl rfl rfl (by simp [flat, hcells]) (by have := sortS_len S; simp only [List.length_map, List.length_cons, List.length_nil, List.length_take]; omega) fun v64 => ?_)
      refine dp rfl (pop_assign rfl) ?_
      refine dn ?_
      refine blockQ_n ?_
      refine seqQ_n ?_
      refine hw_reg1 ?_
      refine dp rfl (pop_add64 rfl rfl (by omega) (by omega)) ?_
      refine dp rfl (pop_move rfl) ?_
      refine dn ?_
      refine ⟨k + 1, v64, ⟨by omega, fun s hs => ?_⟩, by dsimp only; omega, ⟨rfl, rfl, trivial⟩, (by repeat (first | exact keeps_refl | refine keeps_upd rfl ?_ | refine keeps_loop rfl rfl ?_)), perm_eq (by dsimp only; rw [take_snoc' hx, List.map_append]; rfl)⟩
      rw [take_snoc' hx] at hs
      rcases List.mem_append.1 hs with hs | hs
      ·exact hg s hs
      ·rw [List.mem_singleton.1 hs, ← gL_len hEp hG]; omega
    ·try simp at h8
     have hnk : (sortS S).length ≤ k := by omega
     obtain rfl : k = (sortS S).length := by omega
     refine hw_exit ?_
     refine seqQ_x ?_
     refine loopQ2_x ?_
     refine blockQ_eq ?_
     refine seqQ_n ?_
     rw [List.take_length] at hg ⊢
     refine hw_ghost (Ghost.only (i := 0) rfl) ?_
     refine hw_reg ?_
     refine dp rfl (pop_move rfl) ?_
     refine dp rfl (pop_assign rfl) ?_
     refine dp rfl (pop_assign rfl) ?_
     refine dn ?_
     refine hw_ret ?_
     (refine ret_fa (M := []) 6 rfl rfl ?_
      have hf := full_none (c := c) (S := S) (fun y hy => hO y (hEp.mem_iff.2 hy)) (fun s hs => hg s ((sortS_perm S).mem_iff.2 hs))
      rw [clinesL, clinesE, hf]; simp [Function.comp_def, ofVal, ofVal1])

end Go.Proofs.YtbihpphgoaflfaaGreatDoor
end
section
namespace Go.Proofs.YtbihpphgoaflfaaGreatDoor
open Go.HL
set_option maxRecDepth 100000
set_option linter.unusedVariables false
set_option linter.unusedSimpArgs false
set_option maxHeartbeats 1000000 in
/-- benchwarmer/play.lines -/
theorem c_play_lines [Tracks] {l : List Play} {trust : List Str} {week n : Int} (hT : Tracks.on = false) (hl : l.length ≤ 3000) (ht : trust.length ≤ 1000000) (ok : ∀ x ∈ l, playFault x = 0) : ConP Tryz.prog 90 [ePlays l, eSs trust, .int .i64 week, .int .i64 n] (.tup [eLines (linesL l trust week n), .int .i64 (linesE l trust week n)]) := by
 refine Con.of_body Tryz.func90 rfl Tryz.ntmps90 rfl rfl ?_
 refine hw_reg ?_
 refine dp rfl (pop_assign rfl) ?_
 refine dp rfl (pop_assign rfl) ?_
 refine dn ?_
 refine hw_reg ?_
 refine dp rfl (pop_move rfl) ?_
 refine dp rfl (pop_move rfl) ?_
 refine dp rfl (pop_move rfl) ?_
 refine de rfl (eop_callf (M1 := []) (R := []) ca123 rfl (WeakL.refl _) (List.Perm.refl _) (c_play_told (l := l) (trust := trust) (n := n) (by omega) ht) ?_)
 rintro _ _ ⟨b19, O19, rfl, hn19, hO19, rfl⟩
 refine dp rfl (pop_move rfl) ?_
 refine dp rfl (pop_move rfl) ?_
 refine de rfl (eop_callf (M1 := []) (R := _) ca124 rfl (WeakL.refl _) (List.Perm.refl _) (c_play_undone (l := l) (n := n) (by omega)) ?_)
 rintro _ _ ⟨b22, rfl, rfl⟩
 refine dp rfl (pop_assign rfl) ?_
 refine dp rfl (pop_assign rfl) ?_
 refine dn ?_
 refine hw_reg ?_
 refine de rfl (eop_makeMap fun m23 => ?_)
 refine de rfl (eop_makeMap fun m24 => ?_)
 refine dp rfl (pop_assign rfl) ?_
 refine dp rfl (pop_assign rfl) ?_
 refine dn ?_
 refine hw_seq ?_
 refine hw_reg ?_
 refine dp rfl (pop_move rfl) ?_
 refine dp rfl (pop_lenm ty110 rfl) ?_
 refine dp rfl (pop_move rfl) ?_
 refine dn ?_
 refine hw_block ?_
 refine hw_loopw [15, 27, 28, 29, 30, 31, 32, 33, 34, 35, 36, 37, 38, 39, 40, 41, 42, 43, 44, 45, 46, 47, 48, 49, 50, 51, 52, 53, 54, 55, 56, 57, 58, 59, 60, 61, 62, 63, 64, 65, 66, 67, 68, 69, 70, 71, 72, 73, 74, 75, 76, 77, 78, 79] (fun (k : Nat) => [(27, .int .i64 k)]) (fun (k : Nat) => [.map m24 (kk eOf (em (HVal.int .i64) (lnGo l trust week n (l.take k)).c)), .map m23 (sk (mset (lnGo l trust week n (l.take k)).S)), .map b22 (kk eNum (em HVal.bool (goneL l n))), .map b19 (sk (em HVal.str O19))]) (fun (k : Nat) => k ≤ l.length ∧ (True)) (fun (k : Nat) => l.length - k) (0) ?_ ?_ ?_ ?_
 ·exact ⟨Nat.zero_le _, trivial⟩
 ·exact ⟨rfl, trivial⟩
 ·exact perm_eq rfl
 ·intro k hinv
  obtain ⟨hk, -⟩ := hinv
  refine hw_reg ?_
  refine dp rfl (pop_lss rfl rfl) ?_
  refine dn ?_
  refine hw_seq ?_
  refine hw_cond rfl (fun h1 => ?_) (fun h2 => ?_)
  ·try simp at h1
   obtain ⟨x, hx⟩ : ∃ x, l[k]? = some x := ⟨_, List.getElem?_eq_getElem h1⟩
   have hdx := drop_cons hx
   refine hw_skip ?_
   refine seqQ_n ?_
   refine hw_seq ?_
   refine hw_block ?_
   refine hw_reg ?_
   refine dp rfl (pop_idx ty110 ty109 rfl rfl rfl (by assumption)) ?_
   refine dp rfl (pop_loadw ty109 rfl rfl rfl rfl) ?_
   refine de rfl (eop_alloc ty109 rfl fun b15 => ?_)
   refine de0 (eop_storew ty109 rfl rfl rfl rfl rfl ?_)
   refine dn ?_
   refine hw_ghost (Ghost.fc0 15 rfl) ?_
   refine hw_seq ?_
   refine hw_reg ?_
   refine dp rfl (pop_fieldAddr ty109 rfl ty3 (by decide) rfl) ?_
   refine dp rfl (pop_load ty3 rfl rfl rfl) ?_
   refine dp rfl (pop_move rfl) ?_
   refine dp rfl (pop_gtr rfl rfl) ?_
   refine dp rfl (pop_move rfl) ?_
   refine dg rfl rfl (fun hc => ⟨_, OpenTo.refl _, pop_fieldAddr ty109 rfl ty3 (by decide) rfl⟩) ?_
   refine dg rfl rfl (fun hc => ⟨_, OpenTo.upd (t := 36) rfl (hc) (OpenTo.refl _), pop_load ty3 rfl rfl rfl⟩) ?_
   refine dg rfl rfl (fun hc => ⟨_, OpenTo.refl _, pop_move rfl⟩) ?_
   refine dg rfl rfl (fun hc => ⟨_, OpenTo.upd (t := 38) rfl (hc) (OpenTo.upd (t := 37) rfl (hc) (OpenTo.refl _)), pop_neq rfl rfl⟩) ?_
   refine dp rfl (pop_picko rfl (.inl rfl) (.inr ⟨_, rfl, fun h => by simp_all⟩)) ?_
   refine dp rfl (pop_move rfl) ?_
   refine dg rfl rfl (fun hc => ⟨_, OpenTo.refl _, pop_fieldAddr ty109 rfl ty3 (by decide) rfl⟩) ?_
   refine dg rfl rfl (fun hc => ⟨_, OpenTo.upd (t := 42) rfl (hc) (OpenTo.refl _), pop_load ty3 rfl rfl rfl⟩) ?_
   refine dg rfl rfl (fun hc => ⟨_, OpenTo.upd (t := 43) rfl (hc) (OpenTo.refl _), pop_gtr rfl rfl⟩) ?_
   refine dp rfl (pop_picko rfl (.inl rfl) (.inr ⟨_, rfl, fun h => by simp_all⟩)) ?_
   refine dp rfl (pop_move rfl) ?_
   refine dg rfl rfl (fun hc => ⟨_, OpenTo.refl _, pop_move rfl⟩) ?_
   refine dg rfl rfl (fun hc => ⟨_, OpenTo.refl _, pop_fieldAddr ty109 rfl ty9 (by decide) rfl⟩) ?_
   refine dg rfl rfl (fun hc => ⟨_, OpenTo.upd (t := 48) rfl (hc) (OpenTo.refl _), pop_load ty9 rfl rfl rfl⟩) ?_
   refine dg rfl rfl (fun hc => ⟨_, OpenTo.refl _, pop_fieldAddr ty109 rfl ty3 (by decide) rfl⟩) ?_
   refine dg rfl rfl (fun hc => ⟨_, OpenTo.upd (t := 50) rfl (hc) (OpenTo.refl _), pop_load ty3 rfl rfl rfl⟩) ?_
   refine dg rfl rfl (fun hc => ⟨_, OpenTo.upd (t := 51) rfl (hc) (OpenTo.upd (t := 49) rfl (hc) (OpenTo.refl _)), pop_build (cs := [_, _]) ty179 pl179 rfl⟩) ?_
   refine dgl rfl rfl (fun hc => ⟨_, OpenTo.upd (t := 52) rfl (hc) (OpenTo.upd (t := 47) rfl (hc) (OpenTo.refl _)), eop_lookupkA (i := 2) (s := (x.Source, x.No)) (z0 := false) ty174 ok179 ty4 rfl rfl rfl rfl ⟨rfl, rfl⟩⟩) ?_
   refine dp rfl (pop_picko rfl (.inl rfl) (.inr ⟨_, rfl, fun h => by simp_all⟩)) ?_
   refine dp rfl (pop_move rfl) ?_
   refine dg rfl rfl (fun hc => ⟨_, OpenTo.refl _, pop_move rfl⟩) ?_
   refine dg rfl rfl (fun hc => ⟨_, OpenTo.refl _, pop_fieldAddr ty109 rfl ty9 (by decide) rfl⟩) ?_
   refine dg rfl rfl (fun hc => ⟨_, OpenTo.upd (t := 57) rfl (hc) (OpenTo.refl _), pop_load ty9 rfl rfl rfl⟩) ?_
   refine dgl rfl rfl (fun hc => ⟨_, OpenTo.upd (t := 58) rfl (hc) (OpenTo.upd (t := 56) rfl (hc) (OpenTo.refl _)), eop_lookupA (i := 3) (z0 := ([] : Str)) ty172 ty9 ty9 rfl rfl rfl rfl ⟨rfl, rfl⟩⟩) ?_
   refine dg rfl rfl (fun hc => ⟨_, OpenTo.refl _, pop_fieldAddr ty109 rfl ty9 (by decide) rfl⟩) ?_
   refine dg rfl rfl (fun hc => ⟨_, OpenTo.upd (t := 60) rfl (hc) (OpenTo.refl _), pop_load ty9 rfl rfl rfl⟩) ?_
   refine dg rfl rfl (fun hc => ⟨_, OpenTo.upd (t := 61) rfl (hc) (OpenTo.upd (t := 59) rfl (hc) (OpenTo.refl _)), pop_neqs rfl rfl⟩) ?_
   refine dp rfl (pop_picko rfl (.inl rfl) (.inr ⟨_, rfl, fun h => by simp_all⟩)) ?_
   refine dn ?_
   refine hw_cond rfl (fun h3 => ?_) (fun h4 => ?_)
   ·try simp at h3
    refine hw_exit ?_
    refine seqQ_x ?_
    refine blockQ_eq ?_
    refine seqQ_n ?_
    refine hw_reg1 ?_
    refine dp rfl (pop_add64 rfl rfl (by omega) (by omega)) ?_
    refine dp rfl (pop_move rfl) ?_
    refine dn ?_
    exact ⟨k + 1, ⟨by omega, trivial⟩, by dsimp only; omega, ⟨rfl, trivial⟩, (by repeat (first | exact keeps_refl | refine keeps_upd rfl ?_ | refine keeps_loop rfl rfl ?_)), perm_eq (by dsimp only; rw [lnGo_snoc hx, lnStep, if_neg (by rw [inLine_f hO19 h3]; simp)])⟩
   ·try simp at h4
    refine hw_skip ?_
    refine seqQ_n ?_
    refine hw_reg ?_
    refine dp rfl (pop_move rfl) ?_
    refine dp rfl (pop_fieldAddr ty109 rfl ty9 (by decide) rfl) ?_
    refine dp rfl (pop_load ty9 rfl rfl rfl) ?_
    refine de0 (eop_update_set (i := 1) ty167 ty9 rfl rfl rfl rfl ?_)
    refine dn ?_
    have hpx := ok x (List.mem_of_getElem? hx)
    obtain ⟨_, _, _, _, _, hcb, _⟩ := playFault_ok hpx
    have hlk := ln_ok (l := l) (m := l.take k) (trust := trust) (week := week) (n := n) (fun y hy => ok y (List.mem_of_mem_take hy))
    have hvb := hlk.val (x.Player, x.Stat)
    have hlt : ((l.take k).length : Int) ≤ 3000 := by rw [List.length_take]; omega
    refine hw_draw1 (fun M => M = [MObj.map m24 (kk eOf (em (HVal.int .i64) (lnGo l trust week n (l.take k)).c)), MObj.map m23 (sk (mset (sadd x.Player (lnGo l trust week n (l.take k)).S))), MObj.map b22 (kk eNum (em HVal.bool (goneL l n))), MObj.map b19 (sk (em HVal.str O19))] ∨ ∃ j st, kidx (x.Player, x.Stat) (kent (x.Player, x.Stat) (HVal.int .i64 0) (em (HVal.int .i64) (lnGo l trust week n (l.take k)).c)) = some j ∧ M = [MObj.mape m24 (kk eOf (kent (x.Player, x.Stat) (HVal.int .i64 0) (em (HVal.int .i64) (lnGo l trust week n (l.take k)).c))) j st, MObj.map m23 (sk (mset (sadd x.Player (lnGo l trust week n (l.take k)).S))), MObj.map b22 (kk eNum (em HVal.bool (goneL l n))), MObj.map b19 (sk (em HVal.str O19))]) [6] mixed ?_
    refine ahp 0 rfl rfl (by kernel_rfl) (by kernel_rfl) (pop_move rfl) ?_
    refine ahp 1 rfl rfl (by kernel_rfl) (by kernel_rfl) (pop_fieldAddr ty109 rfl ty9 (by decide) rfl) ?_
    refine ahp 2 rfl rfl (by kernel_rfl) (by kernel_rfl) (pop_load ty9 rfl rfl rfl) ?_
    refine ahp 3 rfl rfl (by kernel_rfl) (by kernel_rfl) (pop_fieldAddr ty109 rfl ty9 (by decide) rfl) ?_
    refine ahp 4 rfl rfl (by kernel_rfl) (by kernel_rfl) (pop_load ty9 rfl rfl rfl) ?_
    refine ahp 5 rfl rfl (by kernel_rfl) (by kernel_rfl) (pop_build (cs := [_, _]) ty181 pl181 rfl) ?_
    refine ahl 6 rfl rfl (by kernel_rfl) (by kernel_rfl) (by simp) (.inl rfl) (fun M hM => by
   rcases hM with rfl | ⟨j, st, hj, rfl⟩
   ·exact eop_lookupkA (i := 0) (s := (x.Player, x.Stat)) (z0 := (0 : Int)) ty177 ok181 ty3 rfl rfl rfl rfl ⟨rfl, rfl⟩
   ·exact eop_lookupke (i := 0) (s := (x.Player, x.Stat)) (z0 := (0 : Int)) (f := HVal.int .i64) ty177 ok181 ty3 rfl rfl rfl rfl ⟨rfl, rfl⟩) ?_
    refine ahp 7 rfl rfl (by kernel_rfl) (by kernel_rfl) (pop_fieldAddr ty109 rfl ty3 (by decide) rfl) ?_
    refine ahp 8 rfl rfl (by kernel_rfl) (by kernel_rfl) (pop_load ty3 rfl rfl rfl) ?_
    refine ahp 9 rfl rfl (by kernel_rfl) (by kernel_rfl) (pop_add64 rfl rfl (by omega) (by omega)) ?_
    refine ahe 10 rfl (by kernel_rfl) ?_
    refine hop_e rfl (eop_mapEntryA (i := 0) (s := (x.Player, x.Stat)) (z0 := (0 : Int)) (f := HVal.int .i64) ty177 ok181 ty3 rfl rfl rfl rfl fun j77 st77 hj77 => ?_)
    refine ⟨fun _ => .inl (.inr ⟨j77, st77, hj77, rfl⟩), ?_⟩
    refine ahp 11 rfl rfl (by kernel_rfl) (by kernel_rfl) (pop_extract rfl rfl) ?_
    refine ahe 12 rfl (by kernel_rfl) ?_
    refine hop_e0 (eop_entryStoreA (i := 0) (s := (x.Player, x.Stat)) (f := HVal.int .i64) (z0 := (0 : Int)) (v := (alk (x.Player, x.Stat) (lnGo l trust week n (l.take k)).c).getD 0 + x.Count) rfl rfl rfl rfl hj77 ?_)
    refine ⟨fun _ => .inr (by simp [Before, Region.binds]), ?_⟩
    refine ahz (by kernel_rfl) ?_
    refine blockQ_n ?_
    refine seqQ_n ?_
    refine hw_reg1 ?_
    refine dp rfl (pop_add64 rfl rfl (by omega) (by omega)) ?_
    refine dp rfl (pop_move rfl) ?_
    refine dn ?_
    exact ⟨k + 1, ⟨by omega, trivial⟩, by dsimp only; omega, ⟨rfl, trivial⟩, (by repeat (first | exact keeps_refl | refine keeps_upd rfl ?_ | refine keeps_loop rfl rfl ?_)), perm_eq (by dsimp only; rw [lnGo_snoc hx, lnStep, if_pos (inLine_t hO19 h4)]; rfl)⟩
  ·try simp at h2
   have hnk : l.length ≤ k := by omega
   obtain rfl : k = l.length := by omega
   refine hw_exit ?_
   refine seqQ_x ?_
   refine loopQ_x ?_
   refine blockQ_eq ?_
   refine seqQ_n ?_
   rw [List.take_length]
   have hok := ln_ok (l := l) (m := l) (trust := trust) (week := week) (n := n) ok
   refine hw_reg ?_
   refine dp rfl (pop_move rfl) ?_
   refine dp rfl (pop_move rfl) ?_
   refine dp rfl (pop_move rfl) ?_
   refine de rfl (eop_callf (M1 := [_, _]) (R := [_, _]) ca125 rfl (WeakL.refl _) (List.Perm.refl _) (c_play_counted_lines hT hok.c hok.S hok.k (Nat.le_trans hok.cl (by omega)) (Nat.le_trans hok.Sl (by omega))) ?_)
   rintro _ _ ⟨rfl, rfl⟩
   refine dp rfl (pop_extract rfl rfl) ?_
   refine dp rfl (pop_extract rfl rfl) ?_
   refine dp rfl (pop_assign rfl) ?_
   refine dp rfl (pop_assign rfl) ?_
   refine dn ?_
   refine hw_ret ?_
   exact ret_g Ghost.clear rfl ⟨rfl, rfl⟩

/-- benchwarmer/play.Lines -/
theorem c_play_Lines [Tracks] {l : List Play} {trust : List Str} {week n : Int} (hT : Tracks.on = false) (hl : l.length ≤ 1000000) (ht : trust.length ≤ 1000000) : ConP Tryz.prog 64 [ePlays l, eSs trust, .int .i64 week, .int .i64 n] (.tup [eLines (LinesL l trust week n), .int .i64 (LinesE l trust week n)]) := by
 refine Con.of_body Tryz.func64 rfl Tryz.ntmps64 rfl rfl ?_
 refine hw_reg ?_
 refine dp rfl (pop_assign rfl) ?_
 refine dp rfl (pop_assign rfl) ?_
 refine dn ?_
 refine hw_seq ?_
 refine hw_reg ?_
 refine dp rfl (pop_move rfl) ?_
 refine dp rfl (pop_call ca86 rfl (WeakL.refl _) (c_play_CheckPlays (by assumption))) ?_
 refine dp rfl (pop_move rfl) ?_
 refine dp rfl (pop_call ca87 rfl (WeakL.refl _) (c_play_CheckTrust (by assumption))) ?_
 refine dp rfl (pop_buildSlice (hs := [_, _]) ty96 ty31 rfl rfl (by decide) (by decide) rfl) ?_
 refine dp rfl (pop_call ca49 rfl (WeakL.refl _) (c_base_First (l := [_, _]) (by simp))) ?_
 refine dp rfl (pop_assign rfl) ?_
 refine dn ?_
 refine hw_reg ?_
 refine dp rfl (pop_move rfl) ?_
 refine dp rfl (pop_neq rfl rfl) ?_
 refine dn ?_
 refine hw_cond rfl (fun h1 => ?_) (fun h2 => ?_)
 ·try simp at h1
  refine hw_reg ?_
  refine dp rfl (pop_move rfl) ?_
  refine dp rfl (pop_assign rfl) ?_
  refine dp rfl (pop_assign rfl) ?_
  refine dn ?_
  refine hw_ret ?_
  exact ret_w rfl (weak_tup2 (by rw [LinesL, if_pos (by simpa using h1)]; exact weak_nil 3) (by rw [LinesE, if_pos (by simpa using h1)]; exact Weak.refl _))
 ·try simp at h2
  refine hw_skip ?_
  refine seqQ_n ?_
  refine hw_seq ?_
  refine hw_reg ?_
  refine dp rfl (pop_move rfl) ?_
  refine dp rfl (pop_call ca88 rfl (WeakL.refl _) c_base_Week) ?_
  refine dp rfl (pop_not rfl) ?_
  refine dp rfl (pop_move rfl) ?_
  refine dg rfl rfl (fun hc => ⟨_, OpenTo.refl _, pop_move rfl⟩) ?_
  refine dg rfl rfl (fun hc => ⟨_, OpenTo.upd (t := 24) rfl (hc) (OpenTo.refl _), pop_call ca89 rfl (WeakL.refl _) c_base_Moment⟩) ?_
  refine dg rfl rfl (fun hc => ⟨_, OpenTo.upd (t := 25) rfl (hc) (OpenTo.refl _), pop_not rfl⟩) ?_
  refine dp rfl (pop_picko rfl (.inl rfl) (.inr ⟨_, rfl, fun h => by simp_all⟩)) ?_
  refine dn ?_
  refine hw_cond rfl (fun h3 => ?_) (fun h4 => ?_)
  ·try simp at h3
   refine hw_reg ?_
   refine dp rfl (pop_assign rfl) ?_
   refine dp rfl (pop_assign rfl) ?_
   refine dn ?_
   refine hw_ret ?_
   exact ret_w rfl (weak_tup2 (by rw [LinesL, if_neg (by simpa using h2), if_pos (by simp_all)]; exact weak_nil 3) (by rw [LinesE, if_neg (by simpa using h2), if_pos (by simp_all)]; exact Weak.refl _))
  ·try simp at h4
   refine hw_skip ?_
   refine seqQ_n ?_
   refine hw_reg ?_
   refine dp rfl (pop_move rfl) ?_
   refine dp rfl (pop_move rfl) ?_
   refine dp rfl (pop_move rfl) ?_
   refine dp rfl (pop_move rfl) ?_
   refine dp rfl (pop_call ca90 rfl (WeakL.refl _) (c_play_lines hT (playsE_ok (okPT h2).1).1 ht (plays_fault (okPT h2).1))) ?_
   refine dp rfl (pop_extract rfl rfl) ?_
   refine dp rfl (pop_extract rfl rfl) ?_
   refine dp rfl (pop_assign rfl) ?_
   refine dp rfl (pop_assign rfl) ?_
   refine dn ?_
   refine hw_ret ?_
   (refine ret_p rfl ?_
    rw [LinesL, LinesE, if_neg (by simpa using h2), if_neg (by simp_all), if_neg (by simpa using h2), if_neg (by simp_all)])

end Go.Proofs.YtbihpphgoaflfaaGreatDoor
end
section
namespace Go.Proofs.YtbihpphgoaflfaaGreatDoor
open Go.HL
set_option maxRecDepth 100000
set_option linter.unusedVariables false
set_option linter.unusedSimpArgs false
/-- benchwarmer/draft.CheckSwaps -/
theorem c_draft_CheckSwaps [Tracks] {r : Room} {l : List Swap} (ht : r.Teams.length ≤ 1000000) (hp : r.Players.length ≤ 1000000) (hl : l.length ≤ 1000000) : ConP Tryz.prog 91 [eRoom r, eSwaps l] (.int .i64 (checkSwaps r l)) := by
 refine Con.of_body Tryz.func91 rfl Tryz.ntmps91 rfl rfl ?_
 refine hw_reg ?_
 refine dp rfl (pop_box rfl rfl) ?_
 refine dp rfl (pop_assign rfl) ?_
 refine dn ?_
 refine hw_seq ?_
 refine hw_reg ?_
 refine dp rfl (pop_loadw ty112 rfl rfl rfl rfl) ?_
 refine dp rfl (pop_call ca126 rfl (WeakL.refl _) (c_draft_CheckRoom (by assumption) (by assumption))) ?_
 refine dp rfl (pop_assign rfl) ?_
 refine dn ?_
 refine hw_reg ?_
 refine dp rfl (pop_move rfl) ?_
 refine dp rfl (pop_neq rfl rfl) ?_
 refine dn ?_
 refine hw_cond rfl (fun h1 => ?_) (fun h2 => ?_)
 ·try simp at h1
  refine hw_reg ?_
  refine dp rfl (pop_move rfl) ?_
  refine dp rfl (pop_assign rfl) ?_
  refine dn ?_
  refine hw_ret ?_
  refine ret_p rfl ?_
  show HVal.int .i64 _ = _
  (rw [checkSwaps, if_pos (by simp_all)]; done)
 ·try simp at h2
  refine hw_skip ?_
  refine seqQ_n ?_
  refine hw_seq ?_
  refine hw_reg ?_
  refine dp rfl (pop_move rfl) ?_
  refine dp rfl (pop_lenm ty135 rfl) ?_
  refine dp rfl (pop_gtr rfl rfl) ?_
  refine dn ?_
  refine hw_cond rfl (fun h3 => ?_) (fun h4 => ?_)
  ·try simp at h3
   refine hw_reg ?_
   refine dp rfl (pop_assign rfl) ?_
   refine dn ?_
   refine hw_ret ?_
   refine ret_p rfl ?_
   show HVal.int .i64 _ = _
   (rw [checkSwaps, if_neg (by simp_all), if_pos (by omega)]; done)
  ·try simp at h4
   refine hw_skip ?_
   refine seqQ_n ?_
   refine hw_seq ?_
   refine hw_reg ?_
   refine dp rfl (pop_move rfl) ?_
   refine dp rfl (pop_lenm ty135 rfl) ?_
   refine dp rfl (pop_move rfl) ?_
   refine dn ?_
   refine hw_block ?_
   refine hw_loopw [4, 6, 7, 18, 19, 20, 21, 22, 23, 24, 25, 26, 27, 28, 29, 30, 31, 32, 33, 34, 35, 36, 37, 38, 39, 40, 41, 42, 43, 44, 45, 46, 47, 48, 49, 50, 51, 52, 53, 54, 55, 56, 57, 58, 59, 60, 61, 62, 63, 64, 65, 66, 67, 68, 69, 70] (fun (k : Nat) => [(18, .int .i64 k)]) (fun (k : Nat) => []) (fun (k : Nat) => k ≤ l.length ∧ (checkSwaps r l = swapsGo r l k (l.drop k))) (fun (k : Nat) => l.length - k) (0) ?_ ?_ ?_ ?_
   ·refine ⟨Nat.zero_le _, ?_⟩
    rw [checkSwaps, if_neg (by simp_all), if_neg (by omega)]; rfl
   ·exact ⟨rfl, trivial⟩
   ·exact List.Perm.refl _
   ·intro k hinv
    obtain ⟨hk, hg⟩ := hinv
    refine hw_reg ?_
    refine dp rfl (pop_lss rfl rfl) ?_
    refine dn ?_
    refine hw_seq ?_
    refine hw_cond rfl (fun h5 => ?_) (fun h6 => ?_)
    ·try simp at h5
     obtain ⟨x, hx⟩ : ∃ x, l[k]? = some x := ⟨_, List.getElem?_eq_getElem h5⟩
     have hdx := drop_cons hx
     rw [hdx] at hg
     refine hw_skip ?_
     refine seqQ_n ?_
     refine hw_seq ?_
     refine hw_block ?_
     refine hw_reg ?_
     refine dp rfl (pop_move rfl) ?_
     refine dp rfl (pop_idx ty135 ty185 rfl rfl rfl (by assumption)) ?_
     refine dp rfl (pop_loadw ty185 rfl rfl rfl rfl) ?_
     refine de rfl (eop_alloc ty185 rfl fun b7 => ?_)
     refine dp rfl (pop_assign rfl) ?_
     refine de0 (eop_storew ty185 rfl rfl rfl rfl rfl ?_)
     refine dn ?_
     refine hw_ghost (Ghost.fc0 7 rfl) ?_
     refine hw_block ?_
     refine hw_reg ?_
     refine dp rfl (pop_fieldAddr ty185 rfl ty3 (by decide) rfl) ?_
     refine dp rfl (pop_load ty3 rfl rfl rfl) ?_
     refine dp rfl (pop_fieldAddr ty112 rfl ty3 (by decide) rfl) ?_
     refine dp rfl (pop_load ty3 rfl rfl rfl) ?_
     refine dp rfl (pop_call ca38 rfl (WeakL.refl _) c_base_Out) ?_
     refine dp rfl (pop_assign rfl) ?_
     refine dn ?_
     refine hw_cond rfl (fun h7 => ?_) (fun h8 => ?_)
     ·try simp at h7
      refine hw_reg ?_
      refine dp rfl (pop_assign rfl) ?_
      refine dn ?_
      refine hw_ret ?_
      refine ret_p rfl ?_
      show HVal.int .i64 _ = _
      (rw [hg, swapsGo]; simp_all; done)
     ·try simp at h8
      refine hw_reg ?_
      refine dp rfl (pop_fieldAddr ty112 rfl ty77 (by decide) rfl) ?_
      refine dp rfl (pop_load ty77 rfl rfl rfl) ?_
      refine dp rfl (pop_fieldAddr ty185 rfl ty9 (by decide) rfl) ?_
      refine dp rfl (pop_load ty9 rfl rfl rfl) ?_
      refine dp rfl (pop_call ca122 rfl (WeakL.refl _) (c_slices_Contains_string_string (by omega))) ?_
      refine dp rfl (pop_not rfl) ?_
      refine dp rfl (pop_move rfl) ?_
      refine dg rfl rfl (fun hc => ⟨_, OpenTo.refl _, pop_fieldAddr ty112 rfl ty77 (by decide) rfl⟩) ?_
      refine dg rfl rfl (fun hc => ⟨_, OpenTo.upd (t := 37) rfl (hc) (OpenTo.refl _), pop_load ty77 rfl rfl rfl⟩) ?_
      refine dg rfl rfl (fun hc => ⟨_, OpenTo.refl _, pop_fieldAddr ty185 rfl ty9 (by decide) rfl⟩) ?_
      refine dg rfl rfl (fun hc => ⟨_, OpenTo.upd (t := 39) rfl (hc) (OpenTo.refl _), pop_load ty9 rfl rfl rfl⟩) ?_
      refine dg rfl rfl (fun hc => by have hq := hc; (try simp at hq); exact ⟨_, OpenTo.upd (t := 40) rfl (hc) (OpenTo.upd (t := 38) rfl (hc) (OpenTo.refl _)), pop_call ca122 rfl (WeakL.refl _) (c_slices_Contains_string_string (by omega))⟩) ?_
      refine dg rfl rfl (fun hc => ⟨_, OpenTo.upd (t := 41) rfl (hc) (OpenTo.refl _), pop_not rfl⟩) ?_
      refine dp rfl (pop_picko rfl (.inl rfl) (.inr ⟨_, rfl, fun h => by simp_all⟩)) ?_
      refine dp rfl (pop_assign rfl) ?_
      refine dn ?_
      refine hw_cond rfl (fun h9 => ?_) (fun h10 => ?_)
      ·try simp at h9
       refine hw_reg ?_
       refine dp rfl (pop_assign rfl) ?_
       refine dn ?_
       refine hw_ret ?_
       refine ret_p rfl ?_
       show HVal.int .i64 _ = _
       (rw [hg, swapsGo]; simp_all; done)
      ·try simp at h10
       refine hw_draw (fun _ => True) [] mixed ?_
       refine ahp 0 rfl rfl (by kernel_rfl) (by kernel_rfl) (pop_move rfl) ?_
       refine ahp 1 rfl rfl (by kernel_rfl) (by kernel_rfl) (pop_gtr rfl rfl) ?_
       refine ahp 2 rfl rfl (by kernel_rfl) (by kernel_rfl) (pop_move rfl) ?_
       refine ahg 3 rfl rfl (by kernel_rfl) (by kernel_rfl) rfl (fun hc => ⟨_, OpenTo.refl _, pop_fieldAddr ty185 rfl ty3 (by decide) rfl⟩) ?_
       refine ahg 4 rfl rfl (by kernel_rfl) (by kernel_rfl) rfl (fun hc => ⟨_, OpenTo.upd (t := 48) rfl (hc) (OpenTo.refl _), pop_load ty3 rfl rfl rfl⟩) ?_
       refine ahg 5 rfl rfl (by kernel_rfl) (by kernel_rfl) rfl (fun hc => ⟨_, OpenTo.refl _, pop_move rfl⟩) ?_
       refine ahg 6 rfl rfl (by kernel_rfl) (by kernel_rfl) rfl (fun hc => ⟨_, OpenTo.refl _, pop_move rfl⟩) ?_
       refine ahg 7 rfl rfl (by kernel_rfl) (by kernel_rfl) rfl (fun hc => by have hq := hc; (try simp at hq); exact ⟨_, OpenTo.upd (t := 51) rfl (hc) (OpenTo.refl _), pop_sub64 rfl rfl (by omega) (by omega)⟩) ?_
       refine ahg 8 rfl rfl (by kernel_rfl) (by kernel_rfl) rfl (fun hc => by have hq := hc; (try simp at hq); exact ⟨_, OpenTo.upd (t := 52) rfl (hc) (OpenTo.upd (t := 50) rfl (hc) (OpenTo.refl _)), pop_idx (j := k - 1) (a := l.getD (k - 1) swap0) ty135 ty185 rfl rfl (by omega) (getD_some (by omega))⟩) ?_
       refine ahg 9 rfl rfl (by kernel_rfl) (by kernel_rfl) rfl (fun hc => ⟨_, OpenTo.upd (t := 53) rfl (hc) (OpenTo.refl _), pop_fieldAddr ty185 rfl ty3 (by decide) rfl⟩) ?_
       refine ahg 10 rfl rfl (by kernel_rfl) (by kernel_rfl) rfl (fun hc => ⟨_, OpenTo.upd (t := 54) rfl (hc) (OpenTo.refl _), pop_load ty3 rfl rfl rfl⟩) ?_
       refine ahg 11 rfl rfl (by kernel_rfl) (by kernel_rfl) rfl (fun hc => ⟨_, OpenTo.upd (t := 55) rfl (hc) (OpenTo.upd (t := 49) rfl (hc) (OpenTo.refl _)), pop_call ca76 rfl (WeakL.refl _) c_cmp_Compare_int⟩) ?_
       refine ahg 12 rfl rfl (by kernel_rfl) (by kernel_rfl) rfl (fun hc => ⟨_, OpenTo.refl _, pop_fieldAddr ty185 rfl ty9 (by decide) rfl⟩) ?_
       refine ahg 13 rfl rfl (by kernel_rfl) (by kernel_rfl) rfl (fun hc => ⟨_, OpenTo.upd (t := 57) rfl (hc) (OpenTo.refl _), pop_load ty9 rfl rfl rfl⟩) ?_
       refine ahg 14 rfl rfl (by kernel_rfl) (by kernel_rfl) rfl (fun hc => ⟨_, OpenTo.refl _, pop_move rfl⟩) ?_
       refine ahg 15 rfl rfl (by kernel_rfl) (by kernel_rfl) rfl (fun hc => ⟨_, OpenTo.refl _, pop_move rfl⟩) ?_
       refine ahg 16 rfl rfl (by kernel_rfl) (by kernel_rfl) rfl (fun hc => by have hq := hc; (try simp at hq); exact ⟨_, OpenTo.upd (t := 60) rfl (hc) (OpenTo.refl _), pop_sub64 rfl rfl (by omega) (by omega)⟩) ?_
       refine ahg 17 rfl rfl (by kernel_rfl) (by kernel_rfl) rfl (fun hc => by have hq := hc; (try simp at hq); exact ⟨_, OpenTo.upd (t := 61) rfl (hc) (OpenTo.upd (t := 59) rfl (hc) (OpenTo.refl _)), pop_idx (j := k - 1) (a := l.getD (k - 1) swap0) ty135 ty185 rfl rfl (by omega) (getD_some (by omega))⟩) ?_
       refine ahg 18 rfl rfl (by kernel_rfl) (by kernel_rfl) rfl (fun hc => ⟨_, OpenTo.upd (t := 62) rfl (hc) (OpenTo.refl _), pop_fieldAddr ty185 rfl ty9 (by decide) rfl⟩) ?_
       refine ahg 19 rfl rfl (by kernel_rfl) (by kernel_rfl) rfl (fun hc => ⟨_, OpenTo.upd (t := 63) rfl (hc) (OpenTo.refl _), pop_load ty9 rfl rfl rfl⟩) ?_
       refine ahg 20 rfl rfl (by kernel_rfl) (by kernel_rfl) rfl (fun hc => ⟨_, OpenTo.upd (t := 64) rfl (hc) (OpenTo.upd (t := 58) rfl (hc) (OpenTo.refl _)), pop_call ca63 rfl (WeakL.refl _) c_strings_Compare⟩) ?_
       refine ahg 21 rfl rfl (by kernel_rfl) (by kernel_rfl) rfl (fun hc => ⟨_, OpenTo.upd (t := 65) rfl (hc) (OpenTo.upd (t := 56) rfl (hc) (OpenTo.refl _)), pop_buildSlice (hs := [_, _]) ty22 ty3 rfl rfl (by decide) (by decide) rfl⟩) ?_
       refine ahg 22 rfl rfl (by kernel_rfl) (by kernel_rfl) rfl (fun hc => ⟨_, OpenTo.upd (t := 66) rfl (hc) (OpenTo.refl _), pop_call ca127 rfl (WeakL.refl _) (c_cmp_Or_int (l := [_, _]) (by simp))⟩) ?_
       refine ahg 23 rfl rfl (by kernel_rfl) (by kernel_rfl) rfl (fun hc => ⟨_, OpenTo.upd (t := 67) rfl (hc) (OpenTo.refl _), pop_leq rfl rfl⟩) ?_
       refine ahp 24 rfl rfl (by kernel_rfl) (by kernel_rfl) (pop_picko rfl (.inr ⟨_, rfl, fun h => by simp_all⟩) (.inl rfl)) ?_
       refine ahp 25 rfl rfl (by kernel_rfl) (by kernel_rfl) (pop_assign rfl) ?_
       refine ahz (by kernel_rfl) ?_
       refine hw_cond rfl (fun h11 => ?_) (fun h12 => ?_)
       ·try simp at h11
        refine hw_reg ?_
        refine dp rfl (pop_assign rfl) ?_
        refine dn ?_
        refine hw_ret ?_
        refine ret_p rfl ?_
        show HVal.int .i64 _ = _
        (rw [hg, swapsGo]; simp_all; done)
       ·try simp at h12
        refine hw_skip ?_
        refine blockQ_n ?_
        refine blockQ_n ?_
        refine seqQ_n ?_
        refine hw_reg1 ?_
        refine dp rfl (pop_add64 rfl rfl (by omega) (by omega)) ?_
        refine dp rfl (pop_move rfl) ?_
        refine dn ?_
        refine ⟨k + 1, ?_, ?_, ⟨rfl, trivial⟩, (by repeat (first | exact keeps_refl | refine keeps_upd rfl ?_ | refine keeps_loop rfl rfl ?_)), List.Perm.refl _⟩
        ·refine ⟨by omega, ?_⟩
         rw [hg, swapsGo]; simp_all
         intro h1 h2; have := h12 h1; omega
        ·dsimp only; omega
    ·try simp at h6
     have hnk : l.length ≤ k := by omega
     obtain rfl : k = l.length := by omega
     rw [drop_all (Nat.le_refl _)] at hg
     refine hw_exit ?_
     refine seqQ_x ?_
     refine loopQ_x ?_
     refine blockQ_eq ?_
     refine seqQ_n ?_
     refine hw_reg ?_
     refine dp rfl (pop_assign rfl) ?_
     refine dn ?_
     refine hw_ret ?_
     refine ret_p rfl ?_
     show HVal.int .i64 _ = _
     (rw [hg]; rfl)
end Go.Proofs.YtbihpphgoaflfaaGreatDoor
end
section
namespace Go.Proofs.YtbihpphgoaflfaaGreatDoor
open Go.HL
set_option maxRecDepth 100000
set_option linter.unusedVariables false
set_option linter.unusedSimpArgs false
/-- slices.Clone[[]string,string] -/
theorem c_slices_Clone_string_string [Tracks] {l : List Str} (hl : l.length ≤ 1000000) : ConA Tryz.prog 128 [eSs l] 1 (l.map .str) := by
 refine Con.of_body Tryz.func128 rfl Tryz.ntmps128 rfl rfl ?_
 refine hw_reg ?_
 refine dp rfl (pop_assign rfl) ?_
 refine dn ?_
 refine hw_seq ?_
 refine hw_reg ?_
 refine dp rfl (pop_move rfl) ?_
 refine de rfl (eop_eqnil ty77 rfl rfl fun b4 hb4 => ?_)
 refine dn ?_
 refine hw_cond rfl (fun h1 => ?_) (fun h2 => ?_)
 ·try simp at h1
  refine hw_reg ?_
  refine dp rfl (pop_assign rfl) ?_
  refine dn ?_
  refine hw_ret ?_
  exact ret_g (Ghost.arr_nil 1) rfl ⟨_, rfl, by simp_all⟩
 ·try simp at h2
  refine hw_skip ?_
  refine seqQ_n ?_
  refine hw_reg ?_
  refine de rfl (eop_mk0 ty77 ty9 fun v5 => ?_)
  refine dp rfl (pop_move rfl) ?_
  refine de rfl (eop_append (i := 0) ty77 ty9 rfl rfl rfl rfl rfl (by simp [flat, hcells]) (by simp; omega) fun v7 => ?_)
  refine dp rfl (pop_assign rfl) ?_
  refine dn ?_
  refine hw_ret ?_
  exact ret_a rfl rfl

/-- slices.Reverse[[]string,string] -/
theorem c_slices_Reverse_string_string [Tracks] {l : List Str} {v : Value} (hl : l.length ≤ 1000000) : Con Tryz.prog 130 [.raw v] [.arr v 1 (l.map .str)] (fun x M' => x = .tup [] ∧ M' = [.arr v 1 (l.reverse.map .str)]) := by
 refine Con.of_body Tryz.func130 rfl Tryz.ntmps130 rfl rfl ?_
 refine hw_reg ?_
 refine dp rfl (pop_move rfl) ?_
 refine de rfl (eop_len (i := 0) ty77 rfl rfl ?_)
 rw [List.length_map]
 refine dp rfl (pop_sub64 rfl rfl (by omega) (by omega)) ?_
 refine dp rfl (pop_assign rfl) ?_
 refine dp rfl (pop_assign rfl) ?_
 refine dn ?_
 refine hw_block ?_
 refine hw_loopw3 [2, 3, 7, 8, 9, 10, 11, 12, 13, 14, 15, 16, 17, 18, 19, 20, 21, 22, 23, 24, 25, 26, 27] (fun (i : Nat) (j : Int) (c : List Str) => [(2, .int .i64 i), (3, .int .i64 j)]) (fun (i : Nat) (j : Int) (c : List Str) => [.arr v 1 (c.map .str)]) (fun (i : Nat) (j : Int) (c : List Str) => i ≤ l.length ∧ j = (l.length : Int) - 1 - i ∧ Rev l c i) (fun (i : Nat) (j : Int) (c : List Str) => l.length - i) (0) ((l.length : Int) - 1) (l) ?_ ?_ ?_ ?_
 ·exact ⟨Nat.zero_le _, by omega, rev_start l⟩
 ·exact ⟨rfl, rfl, trivial⟩
 ·exact List.Perm.refl _
 ·intro i j c hinv
  obtain ⟨hi, hj, hr⟩ := hinv
  refine hw_seq ?_
  refine hw_reg ?_
  refine dp rfl (pop_move rfl) ?_
  refine dp rfl (pop_move rfl) ?_
  refine dp rfl (pop_lss rfl rfl) ?_
  refine dn ?_
  refine hw_cond rfl (fun h1 => ?_) (fun h2 => ?_)
  ·try simp at h1
   have hlen := hr.1
   obtain ⟨x, hx⟩ : ∃ x, c[i]? = some x := ⟨_, List.getElem?_eq_getElem (by omega)⟩
   obtain ⟨y, hy⟩ : ∃ y, c[l.length - 1 - i]? = some y := ⟨_, List.getElem?_eq_getElem (by omega)⟩
   refine hw_arr (i := 0) rfl (fun h0 he => ?_) (fun b off cap hv => ?_)
   ·exfalso; simp at he; subst he; simp at hlen; omega
   subst hv
   refine hw_skip ?_
   refine seqQ_n ?_
   refine hw_seq ?_
   refine hw_block ?_
   refine hw_draw1 (fun M => M = [.arr (.slice (some ⟨b, off, none⟩) (c.map HVal.str).length cap) 1 (c.map .str)]) [7, 11] mixed ?_
   refine ahp 0 rfl rfl (by kernel_rfl) (by kernel_rfl) (pop_move rfl) ?_
   refine ahp 1 rfl rfl (by kernel_rfl) (by kernel_rfl) (pop_move rfl) ?_
   refine ahp 2 rfl rfl (by kernel_rfl) (by kernel_rfl) (pop_move rfl) ?_
   refine ahp 3 rfl rfl (by kernel_rfl) (by kernel_rfl) (pop_move rfl) ?_
   refine ahp 4 rfl rfl (by kernel_rfl) (by kernel_rfl) (pop_move rfl) ?_
   refine ahp 5 rfl rfl (by kernel_rfl) (by kernel_rfl) (pop_move rfl) ?_
   refine ahp 6 rfl rfl (by kernel_rfl) (by kernel_rfl) (pop_idxraw (j := l.length - 1 - i) ty77 ty9 rfl rfl (by omega) (by simp; omega)) ?_
   refine ahl 7 rfl rfl (by kernel_rfl) (by kernel_rfl) (by simp) rfl (fun M hM => by subst hM; exact eop_load_arr (i := 0) (j := l.length - 1 - i) (f := 0) (y := .str y) ty9 rfl rfl rfl (by simp [hy]) (.inl ⟨rfl, rfl⟩) ⟨rfl, rfl⟩) ?_
   refine ahp 8 rfl rfl (by kernel_rfl) (by kernel_rfl) (pop_move rfl) ?_
   refine ahp 9 rfl rfl (by kernel_rfl) (by kernel_rfl) (pop_move rfl) ?_
   refine ahp 10 rfl rfl (by kernel_rfl) (by kernel_rfl) (pop_idxraw (j := i) ty77 ty9 rfl rfl rfl (by simp; omega)) ?_
   refine ahl 11 rfl rfl (by kernel_rfl) (by kernel_rfl) (by simp) rfl (fun M hM => by subst hM; exact eop_load_arr (i := 0) (j := i) (f := 0) (y := .str x) ty9 rfl rfl rfl (by simp [hx]) (.inl ⟨rfl, rfl⟩) ⟨rfl, rfl⟩) ?_
   refine ahp 12 rfl rfl (by kernel_rfl) (by kernel_rfl) (pop_idxraw (j := i) ty77 ty9 rfl rfl rfl (by simp; omega)) ?_
   refine ahe 13 rfl (by kernel_rfl) ?_
   refine hop_e0 (eop_store_arr (i := 0) (j := i) (f := 0) (y := .str x) (y' := .str y) ty9 rfl rfl rfl rfl (by simp [hx]) rfl rfl (by simp [hcells]) rfl ?_)
   refine ⟨fun _ => .inr (by simp [Before, Region.binds]), ?_⟩
   refine ahp 14 rfl rfl (by kernel_rfl) (by kernel_rfl) (pop_idxraw (j := l.length - 1 - i) ty77 ty9 rfl rfl (by omega) (by simp; omega)) ?_
   refine ahe 15 rfl (by kernel_rfl) ?_
   refine hop_e0 (eop_store_arr (i := 0) (j := l.length - 1 - i) (f := 0) (y := .str y) (y' := .str x) ty9 rfl rfl rfl rfl (by simp [List.getElem?_set]; rw [if_neg (by omega)]; simp [hy]) rfl rfl (by simp [hcells]) rfl ?_)
   refine ⟨fun _ => .inr (by simp [Before, Region.binds]), ?_⟩
   refine ahz (by kernel_rfl) ?_
   refine blockQ_n ?_
   refine seqQ_n ?_
   refine hw_reg1 ?_
   refine dp rfl (pop_move rfl) ?_
   refine dp rfl (pop_add64 rfl rfl (by omega) (by omega)) ?_
   refine dp rfl (pop_move rfl) ?_
   refine dp rfl (pop_sub64 rfl rfl (by omega) (by omega)) ?_
   refine dp rfl (pop_assign rfl) ?_
   refine dp rfl (pop_assign rfl) ?_
   refine dn ?_
   refine ⟨i + 1, j - 1, (c.set i y).set (l.length - 1 - i) x, ?_, ?_, ⟨rfl, rfl, trivial⟩, (by repeat (first | exact keeps_refl | refine keeps_upd rfl ?_ | refine keeps_loop rfl rfl ?_)), perm_eq (by simp [List.map_set])⟩
   ·exact ⟨by omega, by omega, rev_step hr (by omega) hx hy⟩
   ·dsimp only; omega
  ·try simp at h2
   have hend := rev_end hr (by omega)
   refine hw_exit ?_
   refine seqQ_x ?_
   refine loopQ3_x ?_
   refine blockQ_eq ?_
   exact ⟨_, _, Ghost.sub (Sub.refl _), _, _, rfl, Weak.refl _, rfl, by rw [hend]⟩
end Go.Proofs.YtbihpphgoaflfaaGreatDoor
end
section
namespace Go.Proofs.YtbihpphgoaflfaaGreatDoor
open Go.HL
set_option maxRecDepth 100000
set_option linter.unusedVariables false
set_option linter.unusedSimpArgs false
/-- benchwarmer/draft.turns -/
theorem c_draft_turns [Tracks] {r : Room} {s : List Swap} (ht : r.Teams.length ≤ 20) (hr0 : 1 ≤ r.Rounds) (hr : r.Rounds ≤ 30) (hl : s.length ≤ 1000000) : ConP Tryz.prog 92 [.vptr (hcells (eRoom r)) 0, eSwaps s] (eTurns (turns r s)) := by
 refine Con.of_body Tryz.func92 rfl Tryz.ntmps92 rfl rfl ?_
 refine hw_reg ?_
 refine dp rfl (pop_assign rfl) ?_
 refine dn ?_
 refine hw_reg ?_
 refine dp rfl (pop_assign rfl) ?_
 refine dn ?_
 refine hw_ghost (Ghost.arr_nil 3) ?_
 refine hw_seq ?_
 refine hw_reg ?_
 refine dp rfl (pop_assign rfl) ?_
 refine dn ?_
 refine hw_block ?_
 refine hw_loopw2 [5, 6, 7, 9, 10, 11, 12, 13, 14, 15, 16, 17, 18, 19, 20, 21, 22, 23, 24, 25, 26, 27, 28, 29, 30, 31, 32, 33, 34, 35, 36, 37, 38, 39, 40, 41, 42, 43, 44, 45, 46, 47] (fun (n : Nat) (v : Value) => [(6, .int .i64 ((n : Int) + 1)), (5, .raw v)]) (fun (n : Nat) (v : Value) => [.arr v 3 ((turnsFrom r s n).map eTurn)]) (fun (n : Nat) (v : Value) => n ≤ r.Rounds.toNat) (fun (n : Nat) (v : Value) => r.Rounds.toNat - n) (0) (.slice none 0 0) ?_ ?_ ?_ ?_
 ·exact Nat.zero_le _
 ·exact ⟨rfl, rfl, trivial⟩
 ·exact List.Perm.refl _
 ·intro n v hn
  refine hw_seq ?_
  refine hw_reg ?_
  refine dp rfl (pop_move rfl) ?_
  refine dp rfl (pop_move rfl) ?_
  refine dp rfl ((pop_nilCheck rfl)) ?_
  refine dp rfl (pop_fieldAddr ty112 rfl ty3 (by decide) rfl) ?_
  refine dp rfl (pop_load ty3 rfl rfl rfl) ?_
  refine dp rfl (pop_leq rfl rfl) ?_
  refine dn ?_
  refine hw_cond rfl (fun h1 => ?_) (fun h2 => ?_)
  ·try simp at h1
   have hn30 : n < r.Rounds.toNat := by omega
   refine hw_skip ?_
   refine seqQ_n ?_
   refine hw_seq ?_
   refine hw_block ?_
   refine hw_reg ?_
   refine dp rfl (pop_move rfl) ?_
   refine dp rfl ((pop_nilCheck rfl)) ?_
   refine dp rfl (pop_fieldAddr ty112 rfl ty77 (by decide) rfl) ?_
   refine dp rfl (pop_load ty77 rfl rfl rfl) ?_
   refine de rfl (eop_calla ca128 rfl (WeakL.refl _) (c_slices_Clone_string_string (by omega)) fun v22 => ?_)
   refine dp rfl (pop_assign rfl) ?_
   refine dn ?_
   refine hw_join [23, 24, 25, 26, 27, 28, 29, 30] (fun (L : List Str) => []) (fun (L : List Str) => [.arr v22 1 (L.map .str), .arr v 3 ((turnsFrom r s n).map eTurn)]) (fun (L : List Str) => L = if backwards r.Way ((n : Int) + 1) then r.Teams.reverse else r.Teams) ?_ ?_
   ·skip
    refine hw_reg ?_
    refine dp rfl (pop_move rfl) ?_
    refine dp rfl ((pop_nilCheck rfl)) ?_
    refine dp rfl (pop_fieldAddr ty112 rfl ty3 (by decide) rfl) ?_
    refine dp rfl (pop_load ty3 rfl rfl rfl) ?_
    refine dp rfl (pop_move rfl) ?_
    refine dp rfl (pop_call ca129 rfl (WeakL.refl _) c_draft_backwards) ?_
    refine dn ?_
    refine hw_cond rfl (fun h3 => ?_) (fun h4 => ?_)
    ·try simp at h3
     refine hw_reg1 ?_
     refine dp rfl (pop_move rfl) ?_
     refine de rfl (eop_callf (M1 := [_]) (R := [_]) ca130 rfl (WeakL.refl _) (List.Perm.refl _) (c_slices_Reverse_string_string (l := r.Teams) (by omega)) ?_)
     rintro _ _ ⟨rfl, rfl⟩
     refine dn ?_
     refine ⟨_, ?_, trivial, (by repeat (first | exact keeps_refl | refine keeps_upd rfl ?_ | refine keeps_loop rfl rfl ?_)), List.Perm.refl _⟩
     ·simp_all
    ·try simp at h4
     refine hw_skip ?_
     refine ⟨_, ?_, trivial, (by repeat (first | exact keeps_refl | refine keeps_upd rfl ?_ | refine keeps_loop rfl rfl ?_)), List.Perm.refl _⟩
     ·simp_all
   ·intro L hL
    have hLl : L.length = r.Teams.length := by rw [hL]; split <;> simp
    have hb := turnsFrom_len r s n
    have hm := Nat.mul_le_mul (show n ≤ 30 by omega) (show r.Teams.length ≤ 20 by omega)
    refine hw_ghost (Ghost.fa0 7 rfl) ?_
    refine hw_reg ?_
    refine dp rfl (pop_move rfl) ?_
    refine dp rfl (pop_lenm ty77 rfl) ?_
    refine dp rfl (pop_move rfl) ?_
    refine dn ?_
    refine hw_block ?_
    refine hw_loopw2 [5, 9, 33, 34, 35, 36, 37, 38, 39, 40, 41, 42, 43, 44, 45, 46, 47] (fun (k : Nat) (u : Value) => [(33, .int .i64 k), (5, .raw u)]) (fun (k : Nat) (u : Value) => [.arr u 3 ((turnsFrom r s n).map eTurn ++ (L.take k).map fun t => eTurn ⟨(n : Int) + 1, t, owner ((n : Int) + 1) t s⟩)]) (fun (k : Nat) (u : Value) => k ≤ L.length ∧ (True)) (fun (k : Nat) (u : Value) => L.length - k) (0) (v) ?_ ?_ ?_ ?_
    ·exact ⟨Nat.zero_le _, by simp_all⟩
    ·exact ⟨rfl, rfl, trivial⟩
    ·exact perm_eq (by simp)
    ·intro k u hinv
     obtain ⟨hk, -⟩ := hinv
     refine hw_reg ?_
     refine dp rfl (pop_lss rfl rfl) ?_
     refine dn ?_
     refine hw_seq ?_
     refine hw_cond rfl (fun h5 => ?_) (fun h6 => ?_)
     ·try simp at h5
      obtain ⟨x, hx⟩ : ∃ x, L[k]? = some x := ⟨_, List.getElem?_eq_getElem h5⟩
      have hdx := drop_cons hx
      refine hw_skip ?_
      refine seqQ_n ?_
      refine hw_seq ?_
      refine hw_block ?_
      refine hw_reg ?_
      refine dp rfl (pop_idx ty77 ty9 rfl rfl rfl (by assumption)) ?_
      refine dp rfl (pop_load ty9 rfl rfl rfl) ?_
      refine dp rfl (pop_assign rfl) ?_
      refine dn ?_
      refine hw_reg1 ?_
      refine dp rfl (pop_move rfl) ?_
      refine dp rfl (pop_move rfl) ?_
      refine dp rfl (pop_move rfl) ?_
      refine dp rfl (pop_move rfl) ?_
      refine dp rfl (pop_move rfl) ?_
      refine dp rfl (pop_move rfl) ?_
      refine dp rfl (pop_call ca131 rfl (WeakL.refl _) (c_draft_owner (by assumption))) ?_
      refine dp rfl (pop_build (cs := [_, _, _]) ty141 pl141 rfl) ?_
      refine dp rfl (pop_buildSlice (hs := [_]) ty137 ty141 rfl rfl (by decide) (by decide) rfl) ?_
      refine de rfl (eop_append (i := 0) ty137 ty141 rfl rfl rfl rfl rfl (by simp [flat, hcells]) (by simp; omega) fun v46 => ?_)
      refine dp rfl (pop_assign rfl) ?_
      refine dn ?_
      refine blockQ_n ?_
      refine seqQ_n ?_
      refine hw_reg1 ?_
      refine dp rfl (pop_add64 rfl rfl (by omega) (by omega)) ?_
      refine dp rfl (pop_move rfl) ?_
      refine dn ?_
      refine ⟨k + 1, _, ?_, ?_, ⟨rfl, rfl, trivial⟩, (by repeat (first | exact keeps_refl | refine keeps_upd rfl ?_ | refine keeps_loop rfl rfl ?_)), perm_eq (by simp [List.take_add_one, hx])⟩
      ·exact ⟨by omega, trivial⟩
      ·dsimp only; omega
     ·try simp at h6
      have hnk : L.length ≤ k := by omega
      obtain rfl : k = L.length := by omega
      refine hw_exit ?_
      refine seqQ_x ?_
      refine loopQ2_x ?_
      refine blockQ_eq ?_
      refine blockQ_n ?_
      refine seqQ_n ?_
      refine hw_reg1 ?_
      refine dp rfl (pop_move rfl) ?_
      refine dp rfl (pop_add64 rfl rfl (by omega) (by omega)) ?_
      refine dp rfl (pop_assign rfl) ?_
      refine dn ?_
      refine ⟨n + 1, _, ?_, ?_, ⟨rfl, rfl, trivial⟩, (by repeat (first | exact keeps_refl | refine keeps_upd rfl ?_ | refine keeps_loop rfl rfl ?_)), perm_eq (by simp [turnsFrom, roundTurns, hL, List.map_append, Function.comp_def])⟩
      ·omega
      ·dsimp only; omega
  ·try simp at h2
   obtain rfl : n = r.Rounds.toNat := by omega
   refine hw_exit ?_
   refine seqQ_x ?_
   refine loopQ2_x ?_
   refine blockQ_eq ?_
   refine seqQ_n ?_
   refine hw_reg ?_
   refine dp rfl (pop_move rfl) ?_
   refine dp rfl (pop_assign rfl) ?_
   refine dn ?_
   refine hw_ret ?_
   exact ret_fa (M := []) 4 rfl rfl rfl

/-- benchwarmer/draft.Turns -/
theorem c_draft_Turns [Tracks] {r : Room} {s : List Swap} (ht : r.Teams.length ≤ 1000000) (hp : r.Players.length ≤ 1000000) (hl : s.length ≤ 1000000) : ConP Tryz.prog 65 [eRoom r, eSwaps s] (.tup [eSs (turnTeams r s), .int .i64 (checkSwaps r s)]) := by
 refine Con.of_body Tryz.func65 rfl Tryz.ntmps65 rfl rfl ?_
 refine hw_reg ?_
 refine dp rfl (pop_box rfl rfl) ?_
 refine dp rfl (pop_assign rfl) ?_
 refine dp rfl (pop_assign rfl) ?_
 refine dn ?_
 refine hw_seq ?_
 refine hw_reg ?_
 refine dp rfl (pop_loadw ty112 rfl rfl rfl rfl) ?_
 refine dp rfl (pop_move rfl) ?_
 refine dp rfl (pop_call ca91 rfl (WeakL.refl _) (c_draft_CheckSwaps (by assumption) (by assumption) (by assumption))) ?_
 refine dp rfl (pop_assign rfl) ?_
 refine dn ?_
 refine hw_reg ?_
 refine dp rfl (pop_move rfl) ?_
 refine dp rfl (pop_neq rfl rfl) ?_
 refine dn ?_
 refine hw_cond rfl (fun h1 => ?_) (fun h2 => ?_)
 ·try simp at h1
  refine hw_reg ?_
  refine dp rfl (pop_move rfl) ?_
  refine dp rfl (pop_assign rfl) ?_
  refine dp rfl (pop_assign rfl) ?_
  refine dn ?_
  refine hw_ret ?_
  exact ret_w rfl (weak_tup2 (by rw [turnTeams, if_pos (by simp_all)]; exact weak_nil 1) (Weak.refl _))
 ·try simp at h2
  refine hw_skip ?_
  refine seqQ_n ?_
  refine hw_reg ?_
  refine dp rfl (pop_assign rfl) ?_
  refine dn ?_
  refine hw_ghost (Ghost.arr_nil 1) ?_
  refine hw_seq ?_
  refine hw_reg ?_
  obtain ⟨_, hq1, _, hq2, hq3, _⟩ := checkRoom_ok (r := r) ((checkSwaps_ok (l := s) h2).1)
  have hlen := turns_len (r := r) (s := s) (checkSwaps_ok h2).1
  refine dp rfl (pop_move rfl) ?_
  refine dp rfl (pop_call ca92 rfl (WeakL.refl _) (c_draft_turns (by assumption) (by assumption) (by assumption) (by assumption))) ?_
  refine dp rfl (pop_lenm ty137 rfl) ?_
  refine dp rfl (pop_move rfl) ?_
  refine dn ?_
  refine hw_block ?_
  refine hw_loopw2 [7, 9, 19, 20, 21, 22, 23, 24, 25, 26, 27, 28] (fun (k : Nat) (u : Value) => [(19, .int .i64 k), (7, .raw u)]) (fun (k : Nat) (u : Value) => [.arr u 1 (((turns r s).take k).map fun t => .str t.team)]) (fun (k : Nat) (u : Value) => k ≤ (turns r s).length ∧ (True)) (fun (k : Nat) (u : Value) => (turns r s).length - k) (0) (.slice none 0 0) ?_ ?_ ?_ ?_
  ·exact ⟨Nat.zero_le _, by simp_all⟩
  ·exact ⟨rfl, rfl, trivial⟩
  ·exact perm_eq (by simp)
  ·intro k u hinv
   obtain ⟨hk, -⟩ := hinv
   refine hw_reg ?_
   refine dp rfl (pop_lss rfl rfl) ?_
   refine dn ?_
   refine hw_seq ?_
   refine hw_cond rfl (fun h3 => ?_) (fun h4 => ?_)
   ·try simp at h3
    obtain ⟨x, hx⟩ : ∃ x, (turns r s)[k]? = some x := ⟨_, List.getElem?_eq_getElem h3⟩
    have hdx := drop_cons hx
    refine hw_skip ?_
    refine seqQ_n ?_
    refine hw_seq ?_
    refine hw_block ?_
    refine hw_reg ?_
    refine dp rfl (pop_idx ty137 ty141 rfl rfl rfl (by assumption)) ?_
    refine dp rfl (pop_loadw ty141 rfl rfl rfl rfl) ?_
    refine de rfl (eop_alloc ty141 rfl fun b9 => ?_)
    refine de0 (eop_storew ty141 rfl rfl rfl rfl rfl ?_)
    refine dn ?_
    refine hw_ghost (Ghost.fc0 9 rfl) ?_
    refine hw_reg1 ?_
    refine dp rfl (pop_move rfl) ?_
    refine dp rfl (pop_fieldAddr ty141 rfl ty9 (by decide) rfl) ?_
    refine dp rfl (pop_load ty9 rfl rfl rfl) ?_
    refine dp rfl (pop_buildSlice (hs := [_]) ty77 ty9 rfl rfl (by decide) (by decide) rfl) ?_
    refine de rfl (eop_append (i := 0) ty77 ty9 rfl rfl rfl rfl rfl (by simp [flat, hcells]) (by simp; omega) fun v27 => ?_)
    refine dp rfl (pop_assign rfl) ?_
    refine dn ?_
    refine blockQ_n ?_
    refine seqQ_n ?_
    refine hw_reg1 ?_
    refine dp rfl (pop_add64 rfl rfl (by omega) (by omega)) ?_
    refine dp rfl (pop_move rfl) ?_
    refine dn ?_
    refine ⟨k + 1, _, ?_, ?_, ⟨rfl, rfl, trivial⟩, (by repeat (first | exact keeps_refl | refine keeps_upd rfl ?_ | refine keeps_loop rfl rfl ?_)), perm_eq (by simp [List.take_add_one, hx])⟩
    ·exact ⟨by omega, trivial⟩
    ·dsimp only; omega
   ·try simp at h4
    have hnk : (turns r s).length ≤ k := by omega
    obtain rfl : k = (turns r s).length := by omega
    refine hw_exit ?_
    refine seqQ_x ?_
    refine loopQ2_x ?_
    refine blockQ_eq ?_
    refine seqQ_n ?_
    refine hw_reg ?_
    refine dp rfl (pop_move rfl) ?_
    refine dp rfl (pop_assign rfl) ?_
    refine dp rfl (pop_assign rfl) ?_
    refine dn ?_
    refine hw_ret ?_
    (refine ret_fa (M := []) 4 rfl rfl ?_
     simp_all [turnTeams, eSs, Function.comp_def, ofVal, ofVal1])

end Go.Proofs.YtbihpphgoaflfaaGreatDoor
end
section
namespace Go.Proofs.YtbihpphgoaflfaaGreatDoor
open Go.HL
set_option maxRecDepth 100000
set_option linter.unusedVariables false
set_option linter.unusedSimpArgs false
/-- strings.makeASCIISet -/
theorem c_strings_makeASCIISet [Tracks] {l : Str} (hl : l.length ≤ 1000000) (ha : ∀ c ∈ l, c.toNat < 128) : ConP Tryz.prog 96 [.str l] (.tup [.agg (asciiSet l), .bool true]) := by
 refine Con.of_bodyc Tryz.func96 rfl Tryz.ntmps96 rfl rfl ?_
 refine hw_reg ?_
 refine de rfl (eop_alloc ty145 rfl fun b2 => ?_)
 refine dp rfl (pop_assign rfl) ?_
 refine dn ?_
 refine hw_seq ?_
 refine hw_reg ?_
 refine dp rfl (pop_assign rfl) ?_
 refine dn ?_
 refine hw_block ?_
 refine hw_loopw [3, 4, 5, 6, 7, 8, 9, 10, 11, 12, 13, 14, 15, 16, 17, 18, 19] (fun (k : Nat) => [(4, .int .i64 k)]) (fun (k : Nat) => [.cells b2 (asciiSet (l.take k))]) (fun (k : Nat) => k ≤ l.length ∧ (True)) (fun (k : Nat) => l.length - k) (0) ?_ ?_ ?_ ?_
 ·exact ⟨Nat.zero_le _, by simp_all⟩
 ·exact ⟨rfl, trivial⟩
 ·exact perm_eq rfl
 ·intro k hinv
  obtain ⟨hk, -⟩ := hinv
  refine hw_seq ?_
  refine hw_reg ?_
  refine dp rfl (pop_move rfl) ?_
  refine dp rfl (pop_move rfl) ?_
  refine dp rfl (pop_lens ty9 rfl) ?_
  refine dp rfl (pop_lss rfl rfl) ?_
  refine dn ?_
  refine hw_cond rfl (fun h1 => ?_) (fun h2 => ?_)
  ·try simp at h1
   obtain ⟨x, hx⟩ : ∃ x, l[k]? = some x := ⟨_, List.getElem?_eq_getElem h1⟩
   have hdx := drop_cons hx
   have hc := ha x (List.mem_of_getElem? hx)
   refine hw_skip ?_
   refine seqQ_n ?_
   refine hw_seq ?_
   refine hw_block ?_
   refine hw_reg ?_
   refine dp rfl (pop_move rfl) ?_
   refine dp rfl (pop_move rfl) ?_
   refine dp rfl (pop_indexs ty9 rfl rfl rfl (by assumption)) ?_
   refine dp rfl (pop_assign rfl) ?_
   refine dn ?_
   refine hw_seq ?_
   refine hw_reg ?_
   refine dp rfl (pop_move rfl) ?_
   refine dp rfl (pop_geq rfl rfl) ?_
   refine dn ?_
   refine hw_cond rfl (fun h3 => ?_) (fun h3 => ?_)
   ·exfalso
    try simp at h3
    omega
   ·try simp at h3
    refine hw_skip ?_
    refine seqQ_n ?_
    refine hw_reg1 ?_
    refine dp rfl (pop_move rfl) ?_
    refine dp rfl (pop_idxa_raw ty145 ty4 rfl rfl rfl (by omega)) ?_
    refine de0 (eop_store (i := 0) ty4 rfl rfl rfl rfl rfl (by rw [asciiSet_len]; omega) ?_)
    refine dn ?_
    refine blockQ_n ?_
    refine seqQ_n ?_
    refine hw_reg1 ?_
    refine dp rfl (pop_move rfl) ?_
    refine dp rfl (pop_add64 rfl rfl (by omega) (by omega)) ?_
    refine dp rfl (pop_assign rfl) ?_
    refine dn ?_
    refine ⟨k + 1, ?_, ?_, ⟨rfl, trivial⟩, (by repeat (first | exact keeps_refl | refine keeps_upd rfl ?_ | refine keeps_loop rfl rfl ?_)), perm_eq (by show [MObj.cells b2 (setL _ (0 + x.toNat * 1) [.bool true])] = _; rw [asciiSet_add]; dsimp only; rw [List.take_add_one, hx]; rfl)⟩
    ·exact ⟨by omega, trivial⟩
    ·dsimp only; omega
  ·try simp at h2
   have hnk : l.length ≤ k := by omega
   obtain rfl : k = l.length := by omega
   refine hw_exit ?_
   refine seqQ_x ?_
   refine loopQ_x ?_
   refine blockQ_eq ?_
   refine seqQ_n ?_
   refine hw_ghost (Ghost.of_eq (M' := [.cells b2 (asciiSet l)]) (by rw [List.take_length])) ?_
   refine hw_reg ?_
   refine de rfl (eop_loadw (i := 0) (h := .agg (asciiSet l)) ty145 rfl rfl rfl rfl (asciiSet_len l) ?_)
   refine de0 (eop_storew (h := .agg (asciiSet l)) ty145 rfl rfl (by simp [okElem, asciiSet_len]) (asciiSet_flat l) (asciiSet_len l) ?_)
   refine dp rfl (pop_assign rfl) ?_
   refine dn ?_
   refine hw_ret ?_
   refine ⟨_, _, Ghost.fc0 2 rfl, [_, _], _, ⟨⟨_, _, _, _, _, rfl, ty145, .inr ⟨rfl, rfl, rfl⟩⟩, ⟨rfl, trivial⟩⟩, Weak.refl _, ?_, rfl⟩
   rfl

/-- (*strings.asciiSet).contains -/
theorem c_strings_asciiSet_contains [Tracks] {l : Str} {c : UInt8}  : ConP Tryz.prog 136 [.vptr (asciiSet l) 0, .int .u8 c.toNat] (.bool (l.contains c)) := by
 have hc := c.toNat_lt
 refine Con.of_body Tryz.func136 rfl Tryz.ntmps136 rfl rfl ?_
 refine hw_reg ?_
 refine dp rfl (pop_assign rfl) ?_
 refine dn ?_
 refine hw_reg ?_
 refine dp rfl (pop_move rfl) ?_
 refine dp rfl (pop_move rfl) ?_
 refine dp rfl ((pop_nilCheck rfl)) ?_
 refine dp rfl (pop_idxa ty145 ty4 rfl rfl rfl (by omega)) ?_
 refine dp rfl (pop_load ty4 rfl rfl (by rw [show 0 + c.toNat * 1 = c.toNat from by omega]; exact asciiSet_get l c)) ?_
 refine dp rfl (pop_assign rfl) ?_
 refine dn ?_
 refine hw_ret ?_
 refine ret_p rfl ?_
 rfl

/-- strings.trimLeftASCII -/
theorem c_strings_trimLeftASCII [Tracks] {s l : Str} (hl : s.length ≤ 1000000) : ConP Tryz.prog 97 [.str s, .vptr (asciiSet l) 0] (.str (s.dropWhile (l.contains ·))) := by
 refine Con.of_body Tryz.func97 rfl Tryz.ntmps97 rfl rfl ?_
 refine hw_reg ?_
 refine dp rfl (pop_assign rfl) ?_
 refine dn ?_
 refine hw_seq ?_
 refine hw_block ?_
 refine hw_loopw [0, 5, 6, 7, 8, 9, 10, 11, 12, 13, 14] (fun (t : Str) => [(0, .str t)]) (fun (t : Str) => []) (fun (t : Str) => t.length ≤ s.length ∧ s.dropWhile (l.contains ·) = t.dropWhile (l.contains ·)) (fun (t : Str) => t.length) (s) ?_ ?_ ?_ ?_
 ·exact ⟨Nat.le_refl _, rfl⟩
 ·exact ⟨rfl, trivial⟩
 ·exact List.Perm.refl _
 ·intro t hinv
  obtain ⟨ht, hg⟩ := hinv
  refine hw_seq ?_
  refine hw_reg ?_
  refine dp rfl (pop_move rfl) ?_
  refine dp rfl (pop_lens ty9 rfl) ?_
  refine dp rfl (pop_gtr rfl rfl) ?_
  refine dn ?_
  refine hw_cond rfl (fun h1 => ?_) (fun h2 => ?_)
  ·try simp at h1
   obtain ⟨x, u, rfl⟩ : ∃ x u, t = x :: u := by cases t with | nil => simp at h1 | cons x u => exact ⟨x, u, rfl⟩
   have hlen : (x :: u).length = u.length + 1 := rfl
   refine hw_skip ?_
   refine seqQ_n ?_
   refine hw_block ?_
   refine hw_seq ?_
   refine hw_reg ?_
   refine dp rfl (pop_move rfl) ?_
   refine dp rfl (pop_move rfl) ?_
   refine dp rfl (pop_indexs (j := 0) (b := x) ty9 rfl rfl rfl rfl) ?_
   refine dp rfl (pop_call ca136 rfl (WeakL.refl _) c_strings_asciiSet_contains) ?_
   refine dp rfl (pop_not rfl) ?_
   refine dn ?_
   refine hw_cond rfl (fun h3 => ?_) (fun h4 => ?_)
   ·try simp at h3
    refine hw_exit ?_
    refine seqQ_x ?_
    refine blockQ_ne rfl ?_
    refine loopQ_x ?_
    refine blockQ_eq ?_
    refine seqQ_n ?_
    refine hw_reg ?_
    refine dp rfl (pop_move rfl) ?_
    refine dp rfl (pop_assign rfl) ?_
    refine dn ?_
    refine hw_ret ?_
    refine ret_p rfl ?_
    show HVal.str _ = _
    rw [hg]; simp_all [List.dropWhile_cons]
   ·try simp at h4
    refine hw_skip ?_
    refine seqQ_n ?_
    refine hw_reg1 ?_
    refine dp rfl (pop_move rfl) ?_
    refine dp rfl (pop_slices (l := 1) ty9 rfl ⟨_, _, rfl, rfl⟩ rfl (by omega) (by omega)) ?_
    refine dp rfl (pop_assign rfl) ?_
    refine dn ?_
    refine blockQ_n ?_
    refine ⟨_, ?_, ?_, ⟨rfl, trivial⟩, (by repeat (first | exact keeps_refl | refine keeps_upd rfl ?_ | refine keeps_loop rfl rfl ?_)), List.Perm.refl _⟩
    ·refine ⟨by simp at ht ⊢; omega, ?_⟩
     rw [hg]; simp_all [List.dropWhile_cons]
    ·dsimp only; simp
  ·try simp at h2
   obtain rfl : t = [] := by simpa using h2
   refine hw_exit ?_
   refine seqQ_x ?_
   refine loopQ_x ?_
   refine blockQ_eq ?_
   refine seqQ_n ?_
   refine hw_reg ?_
   refine dp rfl (pop_move rfl) ?_
   refine dp rfl (pop_assign rfl) ?_
   refine dn ?_
   refine hw_ret ?_
   refine ret_p rfl ?_
   show HVal.str _ = _
   rw [hg]; simp_all [List.dropWhile_cons]

/-- strings.trimRightASCII -/
theorem c_strings_trimRightASCII [Tracks] {s l : Str} (hl : s.length ≤ 1000000) : ConP Tryz.prog 98 [.str s, .vptr (asciiSet l) 0] (.str (rtrim (l.contains ·) s)) := by
 refine Con.of_body Tryz.func98 rfl Tryz.ntmps98 rfl rfl ?_
 refine hw_reg ?_
 refine dp rfl (pop_assign rfl) ?_
 refine dn ?_
 refine hw_seq ?_
 refine hw_block ?_
 refine hw_loopw [0, 5, 6, 7, 8, 9, 10, 11, 12, 13, 14, 15, 16, 17, 18, 19, 20] (fun (t : Str) => [(0, .str t)]) (fun (t : Str) => []) (fun (t : Str) => t.length ≤ s.length ∧ rtrim (l.contains ·) s = rtrim (l.contains ·) t) (fun (t : Str) => t.length) (s) ?_ ?_ ?_ ?_
 ·exact ⟨Nat.le_refl _, rfl⟩
 ·exact ⟨rfl, trivial⟩
 ·exact List.Perm.refl _
 ·intro t hinv
  obtain ⟨ht, hg⟩ := hinv
  refine hw_seq ?_
  refine hw_reg ?_
  refine dp rfl (pop_move rfl) ?_
  refine dp rfl (pop_lens ty9 rfl) ?_
  refine dp rfl (pop_gtr rfl rfl) ?_
  refine dn ?_
  refine hw_cond rfl (fun h1 => ?_) (fun h2 => ?_)
  ·try simp at h1
   obtain ⟨u, x, rfl⟩ : ∃ u x, t = u ++ [x] := ⟨_, _, (List.dropLast_concat_getLast (by intro h0; subst h0; simp at h1)).symm⟩
   have hlen : (u ++ [x]).length = u.length + 1 := by simp
   refine hw_skip ?_
   refine seqQ_n ?_
   refine hw_block ?_
   refine hw_seq ?_
   refine hw_reg ?_
   refine dp rfl (pop_move rfl) ?_
   refine dp rfl (pop_move rfl) ?_
   refine dp rfl (pop_move rfl) ?_
   refine dp rfl (pop_lens ty9 rfl) ?_
   refine dp rfl (pop_sub64 rfl rfl (by omega) (by omega)) ?_
   refine dp rfl (pop_indexs (j := u.length) (b := x) ty9 rfl rfl (by omega) (by simp)) ?_
   refine dp rfl (pop_call ca136 rfl (WeakL.refl _) c_strings_asciiSet_contains) ?_
   refine dp rfl (pop_not rfl) ?_
   refine dn ?_
   refine hw_cond rfl (fun h3 => ?_) (fun h4 => ?_)
   ·try simp at h3
    refine hw_exit ?_
    refine seqQ_x ?_
    refine blockQ_ne rfl ?_
    refine loopQ_x ?_
    refine blockQ_eq ?_
    refine seqQ_n ?_
    refine hw_reg ?_
    refine dp rfl (pop_move rfl) ?_
    refine dp rfl (pop_assign rfl) ?_
    refine dn ?_
    refine hw_ret ?_
    refine ret_p rfl ?_
    show HVal.str _ = _
    rw [hg]; first | rfl | (rw [rtrim_snoc, if_neg (by simp_all)])
   ·try simp at h4
    refine hw_skip ?_
    refine seqQ_n ?_
    refine hw_reg1 ?_
    refine dp rfl (pop_move rfl) ?_
    refine dp rfl (pop_move rfl) ?_
    refine dp rfl (pop_lens ty9 rfl) ?_
    refine dp rfl (pop_sub64 rfl rfl (by omega) (by omega)) ?_
    refine dp rfl (pop_slices (l := 0) (h := u.length) ty9 rfl rfl ⟨_, _, rfl, by omega⟩ (by omega) (by omega)) ?_
    refine dp rfl (pop_assign rfl) ?_
    refine dn ?_
    refine blockQ_n ?_
    refine ⟨_, ?_, ?_, ⟨rfl, trivial⟩, (by repeat (first | exact keeps_refl | refine keeps_upd rfl ?_ | refine keeps_loop rfl rfl ?_)), List.Perm.refl _⟩
    ·refine ⟨by simp at ht ⊢; omega, ?_⟩
     rw [hg, rtrim_snoc, if_pos (by simp_all)]; simp
    ·dsimp only; simp
  ·try simp at h2
   obtain rfl : t = [] := by simpa using h2
   refine hw_exit ?_
   refine seqQ_x ?_
   refine loopQ_x ?_
   refine blockQ_eq ?_
   refine seqQ_n ?_
   refine hw_reg ?_
   refine dp rfl (pop_move rfl) ?_
   refine dp rfl (pop_assign rfl) ?_
   refine dn ?_
   refine hw_ret ?_
   refine ret_p rfl ?_
   show HVal.str _ = _
   rw [hg]; first | rfl | (rw [rtrim_snoc, if_neg (by simp_all)])

/-- strings.Trim -/
theorem c_strings_Trim [Tracks] {s l : Str} (hs : s.length ≤ 1000000) (hl : l.length ≤ 1000000) (h2l : 2 ≤ l.length) (ha : ∀ c ∈ l, c.toNat < 128) : ConP Tryz.prog 68 [.str s, .str l] (.str ((rtrim (l.contains ·) s).dropWhile (l.contains ·))) := by
 refine Con.of_body Tryz.func68 rfl Tryz.ntmps68 rfl rfl ?_
 refine hw_reg ?_
 refine dp rfl (pop_assign rfl) ?_
 refine dn ?_
 refine hw_seq ?_
 refine hw_reg ?_
 refine dp rfl (pop_move rfl) ?_
 refine dp rfl (pop_eqls rfl rfl) ?_
 refine dp rfl (pop_move rfl) ?_
 refine dg rfl rfl (fun hc => ⟨_, OpenTo.refl _, pop_move rfl⟩) ?_
 refine dg rfl rfl (fun hc => ⟨_, OpenTo.upd (t := 10) rfl (hc) (OpenTo.refl _), pop_eqls rfl rfl⟩) ?_
 refine dp rfl (pop_picko rfl (.inl rfl) (.inr ⟨_, rfl, fun h => by simp_all⟩)) ?_
 refine dn ?_
 refine hw_cond rfl (fun h1 => ?_) (fun h2 => ?_)
 ·try simp at h1
  refine hw_reg ?_
  refine dp rfl (pop_move rfl) ?_
  refine dp rfl (pop_assign rfl) ?_
  refine dn ?_
  refine hw_ret ?_
  refine ret_p rfl ?_
  show HVal.str _ = _
  (rcases h1 with rfl | rfl <;> first | (simp at h2l; done) | (simp [rtrim]; done))
 ·try simp at h2
  refine hw_skip ?_
  refine seqQ_n ?_
  refine hw_seq ?_
  refine hw_reg ?_
  refine dp rfl (pop_move rfl) ?_
  refine dp rfl (pop_lens ty9 rfl) ?_
  refine dp rfl (pop_eql rfl rfl) ?_
  refine dp rfl (pop_move rfl) ?_
  refine dg rfl rfl (fun hc => ⟨_, OpenTo.refl _, pop_move rfl⟩) ?_
  refine dg rfl rfl (fun hc => ⟨_, OpenTo.upd (t := 18) rfl (hc) (OpenTo.refl _), pop_indexs (j := 0) (b := l.headD 0) ty9 rfl rfl rfl (hd0 (by intro h0; subst h0; simp at h2l))⟩) ?_
  refine dg rfl rfl (fun hc => ⟨_, OpenTo.upd (t := 19) rfl (hc) (OpenTo.refl _), pop_lss rfl rfl⟩) ?_
  refine dp rfl (pop_picko rfl (.inr ⟨_, rfl, fun h => by simp_all⟩) (.inl rfl)) ?_
  refine dn ?_
  refine hw_cond rfl (fun h3 => ?_) (fun h3 => ?_)
  ·exfalso
   try simp at h3
   omega
  ·try simp at h3
   refine hw_skip ?_
   refine seqQ_n ?_
   refine hw_seq ?_
   refine hw_reg ?_
   refine dp rfl (pop_move rfl) ?_
   refine dp rfl (pop_call ca96 rfl (WeakL.refl _) (c_strings_makeASCIISet (by assumption) (by assumption))) ?_
   refine dp rfl (pop_move rfl) ?_
   refine dp rfl (pop_extract rfl rfl) ?_
   refine dp rfl (pop_extract rfl rfl) ?_
   refine de rfl (eop_alloc ty145 rfl fun b5 => ?_)
   refine de0 (eop_storew ty145 rfl rfl rfl rfl rfl ?_)
   refine dp rfl (pop_assign rfl) ?_
   refine dn ?_
   refine hw_ghost (Ghost.fc0 5 rfl) ?_
   refine hw_reg ?_
   refine dp rfl (pop_move rfl) ?_
   refine dn ?_
   refine hw_cond_t rfl ?_
   refine hw_reg ?_
   refine dp rfl (pop_move rfl) ?_
   refine dp rfl (pop_call ca98 rfl (WeakL.refl _) (c_strings_trimRightASCII (by assumption))) ?_
   refine dp rfl (pop_call ca97 rfl (WeakL.refl _) (c_strings_trimLeftASCII (Nat.le_trans (rtrim_len _ _) hs))) ?_
   refine dp rfl (pop_assign rfl) ?_
   refine dn ?_
   refine hw_ret ?_
   refine ret_p rfl ?_
   show HVal.str _ = _
   rfl

/-- internal/stringslite.IndexByte -/
theorem c_internal_stringslite_IndexByte [Tracks] {s : Str} {c : Int}  : ConP Tryz.prog 101 [.str s, .int .u8 c] (.int .i64 (Lib.indexByte s c.toNat.toUInt8)) := by
 refine Con.of_body Tryz.func101 rfl Tryz.ntmps101 rfl rfl ?_
 refine hw_reg ?_
 refine dp rfl (pop_assign rfl) ?_
 refine dn ?_
 refine hw_reg ?_
 refine dp rfl (pop_move rfl) ?_
 refine dp rfl (pop_move rfl) ?_
 refine dp rfl (pop_indexByte Tryz.func140 (by kernel_rfl) (by kernel_rfl) (by kernel_rfl) (by kernel_rfl) rfl rfl rfl) ?_
 refine dp rfl (pop_assign rfl) ?_
 refine dn ?_
 refine hw_ret ?_
 refine ret_p rfl ?_
 rfl

/-- strings.IndexByte -/
theorem c_strings_IndexByte [Tracks] {s : Str} {c : Int}  : ConP Tryz.prog 69 [.str s, .int .u8 c] (.int .i64 (Lib.indexByte s c.toNat.toUInt8)) := by
 refine Con.of_body Tryz.func69 rfl Tryz.ntmps69 rfl rfl ?_
 refine hw_reg ?_
 refine dp rfl (pop_assign rfl) ?_
 refine dn ?_
 refine hw_reg ?_
 refine dp rfl (pop_move rfl) ?_
 refine dp rfl (pop_move rfl) ?_
 refine dp rfl (pop_call ca101 rfl (WeakL.refl _) c_internal_stringslite_IndexByte) ?_
 refine dp rfl (pop_assign rfl) ?_
 refine dn ?_
 refine hw_ret ?_
 refine ret_p rfl ?_
 rfl

/-- benchwarmer/benchref1.in -/
theorem c_benchref1_in [Tracks] {n lo hi : Int}  : ConP Tryz.prog 36 [.int .i64 n, .int .i64 lo, .int .i64 hi] (.bool (!(out n lo hi))) := by
 refine Con.of_body Tryz.func36 rfl Tryz.ntmps36 rfl rfl ?_
 refine hw_reg ?_
 refine dp rfl (pop_assign rfl) ?_
 refine dn ?_
 refine hw_reg ?_
 refine dp rfl (pop_move rfl) ?_
 refine dp rfl (pop_move rfl) ?_
 refine dp rfl (pop_leq rfl rfl) ?_
 refine dp rfl (pop_move rfl) ?_
 refine dg rfl rfl (fun hc => ⟨_, OpenTo.refl _, pop_move rfl⟩) ?_
 refine dg rfl rfl (fun hc => ⟨_, OpenTo.refl _, pop_move rfl⟩) ?_
 refine dg rfl rfl (fun hc => ⟨_, OpenTo.upd (t := 12) rfl (hc) (OpenTo.upd (t := 11) rfl (hc) (OpenTo.refl _)), pop_leq rfl rfl⟩) ?_
 refine dp rfl (pop_picko rfl (.inr ⟨_, rfl, fun h => by simp_all⟩) (.inl rfl)) ?_
 refine dp rfl (pop_assign rfl) ?_
 refine dn ?_
 refine hw_ret ?_
 refine ret_p rfl ?_
 show HVal.bool _ = _
 congr 1; simp [out]; rw [Bool.eq_iff_iff]; simp; try omega

/-- benchwarmer/benchref1.Key -/
theorem c_benchref1_Key [Tracks] {s : Str} (hs : s.length ≤ 1000000) : ConP Tryz.prog 35 [.str s] (.bool (key s)) := by
 refine Con.of_body Tryz.func35 rfl Tryz.ntmps35 rfl rfl ?_
 refine hw_reg ?_
 refine dp rfl (pop_assign rfl) ?_
 refine dn ?_
 refine hw_reg ?_
 refine dp rfl (pop_move rfl) ?_
 refine dp rfl (pop_lens ty9 rfl) ?_
 refine dp rfl (pop_call ca36 rfl (WeakL.refl _) c_benchref1_in) ?_
 refine dp rfl (pop_move rfl) ?_
 refine dg rfl rfl (fun hc => ⟨_, OpenTo.refl _, pop_move rfl⟩) ?_
 refine dg rfl rfl (fun hc => ⟨_, OpenTo.upd (t := 7) rfl (hc) (OpenTo.refl _), pop_call ca68 rfl (WeakL.refl _) (c_strings_Trim (l := cut38) hs (by decide) (by decide) (by decide))⟩) ?_
 refine dg rfl rfl (fun hc => ⟨_, OpenTo.upd (t := 8) rfl (hc) (OpenTo.refl _), pop_eqls rfl rfl⟩) ?_
 refine dp rfl (pop_picko rfl (.inr ⟨_, rfl, fun h => by simp_all⟩) (.inl rfl)) ?_
 refine dp rfl (pop_move rfl) ?_
 refine dg rfl rfl (fun hc => ⟨_, OpenTo.refl _, pop_move rfl⟩) ?_
 refine dg rfl rfl (fun hc => ⟨_, OpenTo.upd (t := 12) rfl (hc) (OpenTo.refl _), pop_indexs (j := 0) (b := s.headD 0) ty9 rfl rfl rfl (hd0 (by rintro rfl; simp [out] at hc))⟩) ?_
 refine dg rfl rfl (fun hc => ⟨_, OpenTo.upd (t := 13) rfl (hc) (OpenTo.refl _), pop_call ca69 rfl (WeakL.refl _) c_strings_IndexByte⟩) ?_
 refine dg rfl rfl (fun hc => ⟨_, OpenTo.upd (t := 14) rfl (hc) (OpenTo.refl _), pop_geq rfl rfl⟩) ?_
 refine dp rfl (pop_picko rfl (.inr ⟨_, rfl, fun h => by simp_all⟩) (.inl rfl)) ?_
 refine dp rfl (pop_assign rfl) ?_
 refine dn ?_
 refine hw_ret ?_
 refine ret_p rfl ?_
 show HVal.bool _ = _
 rw [key_ref]
 simp [cut38, small26]

end Go.Proofs.YtbihpphgoaflfaaGreatDoor
end
section
namespace Go.Proofs
open Go.Shelf
def Tryz.lays190_ren : Go.Shelf.Ren := ⟨fun | 190 => 108 | 125 => 84 | 258 => 160 | 128 => 117 | 129 => 118 | 302 => 187 | 303 => 188 | 304 => 189 | 305 => 190 | 306 => 191 | 307 => 192 | 308 => 193 | 309 => 194 | 310 => 195 | 333 => 216 | 329 => 162 | 330 => 163 | 334 => 217 | 335 => 218 | 336 => 219 | 344 => 232 | n => n, fun | 31 => 77 | 9 => 9 | 3 => 3 | 46 => 128 | 0 => 0 | 51 => 165 | 53 => 93 | 4 => 4 | 183 => 158 | 182 => 157 | 131 => 162 | 5 => 5 | 218 => 211 | 222 => 215 | 228 => 244 | 229 => 245 | n => n, fun | n => n⟩
theorem Tryz.lays190 : Go.Proofs.Lays.n190 Tryz.prog Tryz.lays190_ren := {
 mixed := by kernel_rfl
 f125 := Tryz.func84.trans (congrArg some (by kernel_rfl))
 f128 := Tryz.func117.trans (congrArg some (by kernel_rfl))
 f129 := Tryz.func118.trans (congrArg some (by kernel_rfl))
 f190 := Tryz.func108.trans (congrArg some (by kernel_rfl))
 f258 := Tryz.func160.trans (congrArg some (by kernel_rfl))
 f302 := Tryz.func187.trans (congrArg some (by kernel_rfl))
 f303 := Tryz.func188.trans (congrArg some (by kernel_rfl))
 f304 := Tryz.func189.trans (congrArg some (by kernel_rfl))
 f305 := Tryz.func190.trans (congrArg some (by kernel_rfl))
 f306 := Tryz.func191.trans (congrArg some (by kernel_rfl))
 f307 := Tryz.func192.trans (congrArg some (by kernel_rfl))
 f308 := Tryz.func193.trans (congrArg some (by kernel_rfl))
 f309 := Tryz.func194.trans (congrArg some (by kernel_rfl))
 f310 := Tryz.func195.trans (congrArg some (by kernel_rfl))
 f329 := Tryz.func162.trans (congrArg some (by kernel_rfl))
 f330 := Tryz.func163.trans (congrArg some (by kernel_rfl))
 f333 := Tryz.func216.trans (congrArg some (by kernel_rfl))
 f334 := Tryz.func217.trans (congrArg some (by kernel_rfl))
 f335 := Tryz.func218.trans (congrArg some (by kernel_rfl))
 f336 := Tryz.func219.trans (congrArg some (by kernel_rfl))
 f344 := Tryz.func232.trans (congrArg some (by kernel_rfl))
 t0 := Tryz.underlying0
 a0 := Tryz.isAgg0
 z0 := Tryz.sizeOf0
 v0 := Tryz.zeroValue0
 t3 := Tryz.underlying3
 a3 := Tryz.isAgg3
 z3 := Tryz.sizeOf3
 v3 := Tryz.zeroValue3
 t4 := Tryz.underlying4
 a4 := Tryz.isAgg4
 z4 := Tryz.sizeOf4
 v4 := Tryz.zeroValue4
 t5 := Tryz.underlying5
 a5 := Tryz.isAgg5
 z5 := Tryz.sizeOf5
 v5 := Tryz.zeroValue5
 t9 := Tryz.underlying9
 a9 := Tryz.isAgg9
 z9 := Tryz.sizeOf9
 v9 := Tryz.zeroValue9
 t31 := Tryz.underlying77
 a31 := Tryz.isAgg77
 z31 := Tryz.sizeOf77
 v31 := Tryz.zeroValue77
 t46 := Tryz.underlying128
 a46 := Tryz.isAgg128
 z46 := Tryz.sizeOf128
 v46 := Tryz.zeroValue128
 t51 := Tryz.underlying165
 a51 := Tryz.isAgg165
 z51 := Tryz.sizeOf165
 v51 := Tryz.zeroValue165
 t53 := Tryz.underlying93
 a53 := Tryz.isAgg93
 z53 := Tryz.sizeOf93
 v53 := Tryz.zeroValue93
 t131 := Tryz.underlying162
 a131 := Tryz.isAgg162
 z131 := Tryz.sizeOf162
 v131 := Tryz.zeroValue162
 t182 := Tryz.underlying157
 a182 := Tryz.isAgg157
 z182 := Tryz.sizeOf157
 v182 := Tryz.zeroValue157
 t183 := Tryz.underlying158
 a183 := Tryz.isAgg158
 z183 := Tryz.sizeOf158
 v183 := Tryz.zeroValue158
 t218 := Tryz.underlying211
 a218 := Tryz.isAgg211
 z218 := Tryz.sizeOf211
 v218 := Tryz.zeroValue211
 t222 := Tryz.underlying215
 a222 := Tryz.isAgg215
 z222 := Tryz.sizeOf215
 v222 := Tryz.zeroValue215
 t228 := Tryz.underlying244
 a228 := Tryz.isAgg244
 z228 := Tryz.sizeOf244
 v228 := Tryz.zeroValue244
 t229 := Tryz.underlying245
 a229 := Tryz.isAgg245
 z229 := Tryz.sizeOf245
 v229 := Tryz.zeroValue245 }
def Tryz.lays171_ren : Go.Shelf.Ren := ⟨fun | 171 => 33 | 243 => 67 | 246 => 93 | 283 => 132 | 284 => 133 | 285 => 134 | 286 => 135 | 129 => 118 | 317 => 173 | 318 => 174 | 319 => 175 | 320 => 176 | 337 => 201 | 338 => 202 | n => n, fun | 3 => 3 | 9 => 9 | 2 => 2 | 4 => 4 | 171 => 189 | 0 => 0 | 53 => 93 | 37 => 191 | 5 => 5 | 173 => 192 | 212 => 230 | 51 => 165 | 20 => 20 | 213 => 231 | 46 => 128 | 232 => 268 | 233 => 269 | n => n, fun | 17 => 1 | 18 => 4 | 19 => 5 | n => n⟩
theorem Tryz.lays171 : Go.Proofs.Lays.n171 Tryz.prog Tryz.lays171_ren := {
 mixed := by kernel_rfl
 f129 := Tryz.func118.trans (congrArg some (by kernel_rfl))
 f171 := Tryz.func33.trans (congrArg some (by kernel_rfl))
 f243 := Tryz.func67.trans (congrArg some (by kernel_rfl))
 f246 := Tryz.func93.trans (congrArg some (by kernel_rfl))
 f283 := Tryz.func132.trans (congrArg some (by kernel_rfl))
 f284 := Tryz.func133.trans (congrArg some (by kernel_rfl))
 f285 := Tryz.func134.trans (congrArg some (by kernel_rfl))
 f286 := Tryz.func135.trans (congrArg some (by kernel_rfl))
 f317 := Tryz.func173.trans (congrArg some (by kernel_rfl))
 f318 := Tryz.func174.trans (congrArg some (by kernel_rfl))
 f319 := Tryz.func175.trans (congrArg some (by kernel_rfl))
 f320 := Tryz.func176.trans (congrArg some (by kernel_rfl))
 f337 := Tryz.func201.trans (congrArg some (by kernel_rfl))
 f338 := Tryz.func202.trans (congrArg some (by kernel_rfl))
 t0 := Tryz.underlying0
 a0 := Tryz.isAgg0
 z0 := Tryz.sizeOf0
 v0 := Tryz.zeroValue0
 t2 := Tryz.underlying2
 a2 := Tryz.isAgg2
 z2 := Tryz.sizeOf2
 v2 := Tryz.zeroValue2
 t3 := Tryz.underlying3
 a3 := Tryz.isAgg3
 z3 := Tryz.sizeOf3
 v3 := Tryz.zeroValue3
 t4 := Tryz.underlying4
 a4 := Tryz.isAgg4
 z4 := Tryz.sizeOf4
 v4 := Tryz.zeroValue4
 t5 := Tryz.underlying5
 a5 := Tryz.isAgg5
 z5 := Tryz.sizeOf5
 v5 := Tryz.zeroValue5
 t9 := Tryz.underlying9
 a9 := Tryz.isAgg9
 z9 := Tryz.sizeOf9
 v9 := Tryz.zeroValue9
 t20 := Tryz.underlying20
 a20 := Tryz.isAgg20
 z20 := Tryz.sizeOf20
 v20 := Tryz.zeroValue20
 t37 := Tryz.underlying191
 a37 := Tryz.isAgg191
 z37 := Tryz.sizeOf191
 v37 := Tryz.zeroValue191
 t46 := Tryz.underlying128
 a46 := Tryz.isAgg128
 z46 := Tryz.sizeOf128
 v46 := Tryz.zeroValue128
 t51 := Tryz.underlying165
 a51 := Tryz.isAgg165
 z51 := Tryz.sizeOf165
 v51 := Tryz.zeroValue165
 t53 := Tryz.underlying93
 a53 := Tryz.isAgg93
 z53 := Tryz.sizeOf93
 v53 := Tryz.zeroValue93
 t171 := Tryz.underlying189
 a171 := Tryz.isAgg189
 z171 := Tryz.sizeOf189
 v171 := Tryz.zeroValue189
 t173 := Tryz.underlying192
 a173 := Tryz.isAgg192
 z173 := Tryz.sizeOf192
 v173 := Tryz.zeroValue192
 t212 := Tryz.underlying230
 a212 := Tryz.isAgg230
 z212 := Tryz.sizeOf230
 v212 := Tryz.zeroValue230
 t213 := Tryz.underlying231
 a213 := Tryz.isAgg231
 z213 := Tryz.sizeOf231
 t232 := Tryz.underlying268
 a232 := Tryz.isAgg268
 z232 := Tryz.sizeOf268
 v232 := Tryz.zeroValue268
 t233 := Tryz.underlying269
 a233 := Tryz.isAgg269
 z233 := Tryz.sizeOf269
 v233 := Tryz.zeroValue269
 g17 := by kernel_rfl
 g18 := by kernel_rfl
 g19 := by kernel_rfl }
def Tryz.lays189_ren : Go.Shelf.Ren := ⟨fun | 189 => 72 | 125 => 84 | 257 => 103 | 128 => 117 | 129 => 118 | 294 => 141 | 295 => 142 | 296 => 143 | 297 => 144 | 298 => 145 | 299 => 146 | 216 => 147 | 300 => 148 | 301 => 149 | 328 => 180 | 329 => 162 | 330 => 163 | 331 => 181 | 332 => 182 | 215 => 105 | 343 => 206 | n => n, fun | 28 => 22 | 3 => 3 | 46 => 128 | 0 => 0 | 51 => 165 | 53 => 93 | 4 => 4 | 183 => 158 | 182 => 157 | 131 => 162 | 5 => 5 | 9 => 9 | 218 => 211 | 222 => 215 | 228 => 244 | 229 => 245 | n => n, fun | n => n⟩
theorem Tryz.lays189 : Go.Proofs.Lays.n189 Tryz.prog Tryz.lays189_ren := {
 mixed := by kernel_rfl
 f125 := Tryz.func84.trans (congrArg some (by kernel_rfl))
 f128 := Tryz.func117.trans (congrArg some (by kernel_rfl))
 f129 := Tryz.func118.trans (congrArg some (by kernel_rfl))
 f189 := Tryz.func72.trans (congrArg some (by kernel_rfl))
 f215 := Tryz.func105.trans (congrArg some (by kernel_rfl))
 f216 := Tryz.func147.trans (congrArg some (by kernel_rfl))
 f257 := Tryz.func103.trans (congrArg some (by kernel_rfl))
 f294 := Tryz.func141.trans (congrArg some (by kernel_rfl))
 f295 := Tryz.func142.trans (congrArg some (by kernel_rfl))
 f296 := Tryz.func143.trans (congrArg some (by kernel_rfl))
 f297 := Tryz.func144.trans (congrArg some (by kernel_rfl))
 f298 := Tryz.func145.trans (congrArg some (by kernel_rfl))
 f299 := Tryz.func146.trans (congrArg some (by kernel_rfl))
 f300 := Tryz.func148.trans (congrArg some (by kernel_rfl))
 f301 := Tryz.func149.trans (congrArg some (by kernel_rfl))
 f328 := Tryz.func180.trans (congrArg some (by kernel_rfl))
 f329 := Tryz.func162.trans (congrArg some (by kernel_rfl))
 f330 := Tryz.func163.trans (congrArg some (by kernel_rfl))
 f331 := Tryz.func181.trans (congrArg some (by kernel_rfl))
 f332 := Tryz.func182.trans (congrArg some (by kernel_rfl))
 f343 := Tryz.func206.trans (congrArg some (by kernel_rfl))
 t0 := Tryz.underlying0
 a0 := Tryz.isAgg0
 z0 := Tryz.sizeOf0
 v0 := Tryz.zeroValue0
 t3 := Tryz.underlying3
 a3 := Tryz.isAgg3
 z3 := Tryz.sizeOf3
 v3 := Tryz.zeroValue3
 t4 := Tryz.underlying4
 a4 := Tryz.isAgg4
 z4 := Tryz.sizeOf4
 v4 := Tryz.zeroValue4
 t5 := Tryz.underlying5
 a5 := Tryz.isAgg5
 z5 := Tryz.sizeOf5
 v5 := Tryz.zeroValue5
 t9 := Tryz.underlying9
 a9 := Tryz.isAgg9
 z9 := Tryz.sizeOf9
 v9 := Tryz.zeroValue9
 t28 := Tryz.underlying22
 a28 := Tryz.isAgg22
 z28 := Tryz.sizeOf22
 v28 := Tryz.zeroValue22
 t46 := Tryz.underlying128
 a46 := Tryz.isAgg128
 z46 := Tryz.sizeOf128
 v46 := Tryz.zeroValue128
 t51 := Tryz.underlying165
 a51 := Tryz.isAgg165
 z51 := Tryz.sizeOf165
 v51 := Tryz.zeroValue165
 t53 := Tryz.underlying93
 a53 := Tryz.isAgg93
 z53 := Tryz.sizeOf93
 v53 := Tryz.zeroValue93
 t131 := Tryz.underlying162
 a131 := Tryz.isAgg162
 z131 := Tryz.sizeOf162
 v131 := Tryz.zeroValue162
 t182 := Tryz.underlying157
 a182 := Tryz.isAgg157
 z182 := Tryz.sizeOf157
 v182 := Tryz.zeroValue157
 t183 := Tryz.underlying158
 a183 := Tryz.isAgg158
 z183 := Tryz.sizeOf158
 v183 := Tryz.zeroValue158
 t218 := Tryz.underlying211
 a218 := Tryz.isAgg211
 z218 := Tryz.sizeOf211
 v218 := Tryz.zeroValue211
 t222 := Tryz.underlying215
 a222 := Tryz.isAgg215
 z222 := Tryz.sizeOf215
 v222 := Tryz.zeroValue215
 t228 := Tryz.underlying244
 a228 := Tryz.isAgg244
 z228 := Tryz.sizeOf244
 v228 := Tryz.zeroValue244
 t229 := Tryz.underlying245
 a229 := Tryz.isAgg245
 z229 := Tryz.sizeOf245
 v229 := Tryz.zeroValue245 }
end Go.Proofs
end
section
namespace Go.Proofs.YtbihpphgoaflfaaGreatDoor
open Go.HL
set_option maxRecDepth 100000
set_option linter.unusedVariables false
set_option linter.unusedSimpArgs false
/-- math/bits.Len64 -/
theorem c_math_bits_Len64 [Tracks]   : ConP Tryz.prog 118 [.int .u64 0] (.int .i64 0) := by
 refine Con.of_body Tryz.func118 rfl Tryz.ntmps118 rfl rfl ?_
 refine hw_reg ?_
 refine dp rfl (pop_assign rfl) ?_
 refine dn ?_
 refine hw_seq ?_
 refine hw_reg ?_
 refine dp rfl (pop_move rfl) ?_
 refine dp rfl (pop_geq rfl rfl) ?_
 refine dn ?_
 refine hw_cond_f rfl ?_
 refine hw_skip ?_
 refine seqQ_n ?_
 refine hw_seq ?_
 refine hw_reg ?_
 refine dp rfl (pop_move rfl) ?_
 refine dp rfl (pop_geq rfl rfl) ?_
 refine dn ?_
 refine hw_cond_f rfl ?_
 refine hw_skip ?_
 refine seqQ_n ?_
 refine hw_seq ?_
 refine hw_reg ?_
 refine dp rfl (pop_move rfl) ?_
 refine dp rfl (pop_geq rfl rfl) ?_
 refine dn ?_
 refine hw_cond_f rfl ?_
 refine hw_skip ?_
 refine seqQ_n ?_
 refine hw_reg ?_
 refine dp rfl (pop_move rfl) ?_
 refine dp rfl (pop_move rfl) ?_
 refine dp rfl (pop_conv ty93 ty5 rfl) ?_
 refine dp rfl (pop_indexs (j := 0) (b := 0) ty9 rfl rfl rfl rfl) ?_
 refine dp rfl (pop_conv ty5 ty3 rfl) ?_
 refine dp rfl (pop_add64 rfl rfl (by decide) (by decide)) ?_
 refine dp rfl (pop_assign rfl) ?_
 refine dn ?_
 refine hw_ret ?_
 refine ret_p rfl ?_
 rfl

/-- math/bits.Len -/
theorem c_math_bits_Len [Tracks]   : ConP Tryz.prog 84 [.int .u64 0] (.int .i64 0) := by
 refine Con.of_body Tryz.func84 rfl Tryz.ntmps84 rfl rfl ?_
 refine hw_reg ?_
 refine dp rfl (pop_assign rfl) ?_
 refine dn ?_
 refine hw_seq ?_
 refine hw_cond_f rfl ?_
 refine hw_skip ?_
 refine seqQ_n ?_
 refine hw_reg ?_
 refine dp rfl (pop_move rfl) ?_
 refine dp rfl (pop_call ca118 rfl (WeakL.refl _) c_math_bits_Len64) ?_
 refine dp rfl (pop_assign rfl) ?_
 refine dn ?_
 refine hw_ret ?_
 refine ret_p rfl ?_
 rfl

/-- slices.insertionSortOrdered[string] -/
theorem c_slices_insertionSortOrdered_string [Tracks]   : ConP Tryz.prog 187 [eSs [], .int .i64 0, .int .i64 0] (.tup []) := by
 refine Con.of_body Tryz.func187 rfl Tryz.ntmps187 rfl rfl ?_
 refine hw_reg ?_
 refine dp rfl (pop_move rfl) ?_
 refine dp rfl (pop_add64 rfl rfl (by omega) (by omega)) ?_
 refine dp rfl (pop_assign rfl) ?_
 refine dn ?_
 refine hw_block ?_
 refine hw_loopw [6, 7, 10, 11, 12, 13, 14, 15, 16, 17, 18, 19, 20, 21, 22, 23, 24, 25, 26, 27, 28, 29, 30, 31, 32, 33, 34, 35, 36, 37, 38, 39, 40, 41, 42, 43, 44, 45, 46, 47, 48] (fun (u : Unit) => [(6, .int .i64 1)]) (fun (u : Unit) => []) (fun (u : Unit) => True) (fun (u : Unit) => 0) (()) ?_ ?_ ?_ ?_
 ·trivial
 ·exact ⟨rfl, trivial⟩
 ·exact List.Perm.refl _
 ·intro u hu
  refine hw_seq ?_
  refine hw_reg ?_
  refine dp rfl (pop_move rfl) ?_
  refine dp rfl (pop_move rfl) ?_
  refine dp rfl (pop_lss rfl rfl) ?_
  refine dn ?_
  refine hw_cond_f rfl ?_
  refine hw_exit ?_
  refine seqQ_x ?_
  refine loopQ_x ?_
  refine blockQ_eq ?_
  refine ret_n rfl ?_
  rfl

/-- slices.pdqsortOrdered[string] -/
theorem c_slices_pdqsortOrdered_string [Tracks]   : ConP Tryz.prog 160 [eSs [], .int .i64 0, .int .i64 0, .int .i64 0] (.tup []) := by
 refine Con.of_body Tryz.func160 rfl Tryz.ntmps160 rfl rfl ?_
 refine hw_reg ?_
 refine dp rfl (pop_assign rfl) ?_
 refine dn ?_
 refine hw_reg ?_
 refine dp rfl (pop_assign rfl) ?_
 refine dn ?_
 refine hw_block ?_
 refine hw_loopw (1 :: 2 :: 3 :: 8 :: 9 :: 10 :: 11 :: 12 :: 13 :: 14 :: 15 :: 16 :: 17 :: 18 :: 19 :: 20 :: 21 :: 22 :: 23 :: 24 :: 25 :: 26 :: 27 :: 28 :: 29 :: 30 :: 31 :: 32 :: 33 :: 34 :: 35 :: 36 :: 37 :: 38 :: 39 :: 40 :: 41 :: 42 :: 43 :: 44 :: 45 :: 46 :: 47 :: 48 :: 49 :: 50 :: 51 :: 52 :: 53 :: 54 :: 55 :: 56 :: 57 :: 58 :: 59 :: 60 :: 61 :: 62 :: 63 :: 64 :: 65 :: 66 :: 67 :: 68 :: 69 :: 70 :: 71 :: 72 :: 73 :: 74 :: 75 :: 76 :: 77 :: 78 :: 79 :: 80 :: 81 :: 82 :: 83 :: 84 :: 85 :: 86 :: 87 :: 88 :: 89 :: 90 :: 91 :: 92 :: 93 :: 94 :: 95 :: 96 :: 97 :: 98 :: 99 :: 100 :: 101 :: 102 :: 103 :: 104 :: 105 :: 106 :: 107 :: 108 :: 109 :: 110 :: 111 :: 112 :: 113 :: 114 :: 115 :: 116 :: 117 :: 118 :: 119 :: 120 :: 121 :: 122 :: 123 :: 124 :: 125 :: 126 :: 127 :: 128 :: 129 :: 130 :: 131 :: 132 :: 133 :: []) (fun (u : Unit) => [(1, .int .i64 0), (2, .int .i64 0)]) (fun (u : Unit) => []) (fun (u : Unit) => True) (fun (u : Unit) => 0) (()) ?_ ?_ ?_ ?_
 ·trivial
 ·exact ⟨rfl, rfl, trivial⟩
 ·exact List.Perm.refl _
 ·intro u hu
  refine hw_block ?_
  refine hw_reg ?_
  refine dp rfl (pop_move rfl) ?_
  refine dp rfl (pop_move rfl) ?_
  refine dp rfl (pop_sub64 rfl rfl (by omega) (by omega)) ?_
  refine dp rfl (pop_assign rfl) ?_
  refine dn ?_
  refine hw_seq ?_
  refine hw_reg ?_
  refine dp rfl (pop_move rfl) ?_
  refine dp rfl (pop_leq rfl rfl) ?_
  refine dn ?_
  refine hw_cond_t rfl ?_
  refine hw_reg ?_
  refine dp rfl (pop_move rfl) ?_
  refine dp rfl (pop_move rfl) ?_
  refine dp rfl (pop_move rfl) ?_
  refine dp rfl (pop_call ca187 rfl (WeakL.refl _) c_slices_insertionSortOrdered_string) ?_
  refine dn ?_
  refine hw_ret ?_
  refine ret_p rfl ?_
  rfl

/-- slices.Sort[[]string,string] -/
theorem c_slices_Sort_nil [Tracks]   : ConP Tryz.prog 108 [eSs []] (.tup []) := by
 refine Con.of_body Tryz.func108 rfl Tryz.ntmps108 rfl rfl ?_
 refine hw_reg ?_
 refine dp rfl (pop_move rfl) ?_
 refine dp rfl (pop_lenm ty77 rfl) ?_
 refine dp rfl (pop_assign rfl) ?_
 refine dn ?_
 refine hw_reg1 ?_
 refine dp rfl (pop_move rfl) ?_
 refine dp rfl (pop_move rfl) ?_
 refine dp rfl (pop_move rfl) ?_
 refine dp rfl (pop_conv ty3 ty128 rfl) ?_
 refine dp rfl (pop_call ca84 rfl (WeakL.refl _) c_math_bits_Len) ?_
 refine dp rfl (pop_call ca160 rfl (WeakL.refl _) c_slices_pdqsortOrdered_string) ?_
 refine dn ?_
 refine ret_n rfl ?_
 rfl

/-- slices.Sort: the slice holds the same strings in order -/
theorem c_slices_Sort [Tracks] {l : List Str} {v : Value} (hl : l.length ≤ 1000000) : Con Tryz.prog 108 [.raw v] [.arr v 1 (l.map .str)] fun x M' => x = .tup [] ∧ M' = [.arr v 1 ((sortS l).map .str)] :=
 con_row (sortS_len l) (fun b off cap w h1 h2 _ => Any.slices_Sort_string Tryz.lays190 b off cap l w h1 h2 (by omega)) (fun _ => c_slices_Sort_nil)
end Go.Proofs.YtbihpphgoaflfaaGreatDoor
end
section
namespace Go.Proofs.YtbihpphgoaflfaaGreatDoor
open Go.HL
set_option maxRecDepth 100000
set_option linter.unusedVariables false
set_option linter.unusedSimpArgs false
/-- benchwarmer/benchmake.Below -/
theorem c_benchmake_Below [Tracks] {x n : Int} (hn : n ≤ 4000000000) : ConP Tryz.prog 48 [.int .i64 x, .int .i64 n] (.int .i64 (below x n)) := by
 refine Con.of_body Tryz.func48 rfl Tryz.ntmps48 rfl rfl ?_
 refine hw_reg ?_
 refine dp rfl (pop_assign rfl) ?_
 refine dn ?_
 refine hw_seq ?_
 refine hw_reg ?_
 refine dp rfl (pop_move rfl) ?_
 refine dp rfl (pop_lss rfl rfl) ?_
 refine dn ?_
 refine hw_cond rfl (fun h1 => ?_) (fun h2 => ?_)
 ·try simp at h1
  refine hw_reg ?_
  refine dp rfl (pop_assign rfl) ?_
  refine dn ?_
  refine hw_ret ?_
  refine ret_p rfl ?_
  show HVal.int .i64 _ = _
  simp_all [below]
  try omega
 ·try simp at h2
  refine hw_skip ?_
  refine seqQ_n ?_
  refine hw_reg ?_
  refine dp rfl (pop_move rfl) ?_
  refine dp rfl (pop_move rfl) ?_
  refine dp rfl (pop_rem rfl rfl (by omega)) ?_
  refine dp rfl (pop_assign rfl) ?_
  refine dn ?_
  refine hw_seq ?_
  refine hw_reg ?_
  refine dp rfl (pop_move rfl) ?_
  refine dp rfl (pop_lss rfl rfl) ?_
  refine dn ?_
  refine hw_cond rfl (fun h3 => ?_) (fun h4 => ?_)
  ·try simp at h3
   refine hw_reg1 ?_
   refine dp rfl (pop_move rfl) ?_
   refine dp rfl (pop_move rfl) ?_
   have hm := Int.tmod_lt_of_pos x (show 0 < n by omega)
   obtain ⟨y, hy1, hy2⟩ := below_nat x n
   have hb : below x n = x.tmod n + n := by unfold below; rw [if_neg (by omega), if_pos (by omega)]
   refine dp rfl (pop_add64 rfl rfl (by omega) (by omega)) ?_
   refine dp rfl (pop_assign rfl) ?_
   refine dn ?_
   refine seqQ_n ?_
   refine hw_reg ?_
   refine dp rfl (pop_move rfl) ?_
   refine dp rfl (pop_assign rfl) ?_
   refine dn ?_
   refine hw_ret ?_
   refine ret_p rfl ?_
   show HVal.int .i64 _ = _
   simp_all [below]
   try omega
  ·try simp at h4
   refine hw_skip ?_
   refine seqQ_n ?_
   refine hw_reg ?_
   refine dp rfl (pop_move rfl) ?_
   refine dp rfl (pop_assign rfl) ?_
   refine dn ?_
   refine hw_ret ?_
   refine ret_p rfl ?_
   show HVal.int .i64 _ = _
   simp_all [below]
   try omega

/-- (*benchwarmer/benchmake.Stream).Next -/
theorem c_benchmake_Stream_Next [Tracks] {b : Nat} {l : List Int} {a : Nat} {n : Int} (ha : a ≤ 1000000) (hn : n ≤ 4000000000) : Con Tryz.prog 22 [pAt b, .int .i64 n] [St b l a] (fun x M' => ∃ y : Nat, x = .int .i64 (y : Int) ∧ (y : Int) < max n 1 ∧ M' = [St b l (a + 1)]) := by
 refine Con.of_body Tryz.func22 rfl Tryz.ntmps22 rfl rfl ?_
 refine hw_reg ?_
 refine dp rfl (pop_assign rfl) ?_
 refine dn ?_
 refine hw_reg ?_
 refine dp rfl (pop_move rfl) ?_
 refine dp rfl ((pop_nilCheck_raw rfl)) ?_
 refine dp rfl (pop_fieldAddr_raw ty25 rfl ty3 (by decide) rfl) ?_
 refine de rfl (eop_load (i := 0) ty3 rfl rfl (.inl ⟨rfl, rfl⟩) ?_)
 refine dp rfl (pop_add64 rfl rfl (by omega) (by omega)) ?_
 refine dp rfl ((pop_nilCheck_raw rfl)) ?_
 refine dp rfl (pop_fieldAddr_raw ty25 rfl ty3 (by decide) rfl) ?_
 refine de0 (eop_store (i := 0) ty3 rfl rfl rfl rfl rfl (Nat.le_of_ble_eq_true rfl) ?_)
 refine dn ?_
 refine hw_seq ?_
 refine hw_reg ?_
 refine dp rfl (pop_move rfl) ?_
 refine dp rfl ((pop_nilCheck_raw rfl)) ?_
 refine dp rfl (pop_fieldAddr_raw ty25 rfl ty22 (by decide) rfl) ?_
 refine de rfl (eop_load (i := 0) ty22 rfl rfl (.inl ⟨rfl, rfl⟩) ?_)
 refine dp rfl (pop_lenm ty22 rfl) ?_
 refine dp rfl (pop_eql rfl rfl) ?_
 refine dn ?_
 refine hw_cond rfl (fun h1 => ?_) (fun h2 => ?_)
 ·try simp at h1
  refine hw_reg ?_
  refine dp rfl (pop_move rfl) ?_
  refine dp rfl ((pop_nilCheck_raw rfl)) ?_
  refine dp rfl (pop_fieldAddr_raw ty25 rfl ty3 (by decide) rfl) ?_
  refine de rfl (eop_load (i := 0) ty3 rfl rfl (.inl ⟨rfl, rfl⟩) ?_)
  refine dp rfl (pop_mul rfl rfl) ?_
  refine dp rfl (pop_move rfl) ?_
  refine dp rfl (pop_call ca48 rfl (WeakL.refl _) (c_benchmake_Below (by assumption))) ?_
  refine dp rfl (pop_assign rfl) ?_
  refine dn ?_
  refine hw_ret ?_
  refine ret_q rfl ?_
  obtain ⟨y, h1, h2⟩ := below_nat _ n
  exact ⟨y, congrArg _ h1, h2, rfl⟩
 ·try simp at h2
  refine hw_skip ?_
  refine seqQ_n ?_
  have hl0 : 0 < l.length := List.length_pos_iff.2 (by simpa using h2)
  refine hw_draw (fun M => ∃ i : Nat, M[i]? = some (St b l (a + 1))) [3, 8] mixed ?_
  refine ahp 0 rfl rfl (by kernel_rfl) (by kernel_rfl) (pop_move rfl) ?_
  refine ahp 1 rfl rfl (by kernel_rfl) (by kernel_rfl) ((pop_nilCheck_raw rfl)) ?_
  refine ahp 2 rfl rfl (by kernel_rfl) (by kernel_rfl) (pop_fieldAddr_raw ty25 rfl ty3 (by decide) rfl) ?_
  refine ahl 3 rfl rfl (by kernel_rfl) (by kernel_rfl) (by simp) (⟨0, rfl⟩) (fun M hM => by obtain ⟨i, hi⟩ := hM; exact eop_load (i := i) ty3 rfl hi (.inl ⟨rfl, rfl⟩) ⟨rfl, rfl⟩) ?_
  refine ahp 4 rfl rfl (by kernel_rfl) (by kernel_rfl) (pop_sub64 rfl rfl (by omega) (by omega)) ?_
  refine ahp 5 rfl rfl (by kernel_rfl) (by kernel_rfl) (pop_move rfl) ?_
  refine ahp 6 rfl rfl (by kernel_rfl) (by kernel_rfl) ((pop_nilCheck_raw rfl)) ?_
  refine ahp 7 rfl rfl (by kernel_rfl) (by kernel_rfl) (pop_fieldAddr_raw ty25 rfl ty22 (by decide) rfl) ?_
  refine ahl 8 rfl rfl (by kernel_rfl) (by kernel_rfl) (by simp) (⟨0, rfl⟩) (fun M hM => by obtain ⟨i, hi⟩ := hM; exact eop_load (i := i) ty22 rfl hi (.inl ⟨rfl, rfl⟩) ⟨rfl, rfl⟩) ?_
  refine ahp 9 rfl rfl (by kernel_rfl) (by kernel_rfl) (pop_lenm ty22 rfl) ?_
  refine ahp 10 rfl rfl (by kernel_rfl) (by kernel_rfl) (pop_eq (h' := .int .i64 ((a % l.length : Nat) : Int)) (pop_rem rfl rfl (by omega)) (by show HVal.int .i64 (((a : Int) + 1 - 1).tmod _) = _; rw [show ((a : Int) + 1 - 1) = (a : Int) by omega]; exact congrArg _ (tmod_nat _ _))) ?_
  refine ahp 11 rfl rfl (by kernel_rfl) (by kernel_rfl) (pop_assign rfl) ?_
  refine ahz (by kernel_rfl) ?_
  refine hw_draw (fun M => ∃ i : Nat, M[i]? = some (St b l (a + 1))) [3, 8] mixed ?_
  refine ahp 0 rfl rfl (by kernel_rfl) (by kernel_rfl) (pop_move rfl) ?_
  refine ahp 1 rfl rfl (by kernel_rfl) (by kernel_rfl) ((pop_nilCheck_raw rfl)) ?_
  refine ahp 2 rfl rfl (by kernel_rfl) (by kernel_rfl) (pop_fieldAddr_raw ty25 rfl ty3 (by decide) rfl) ?_
  refine ahl 3 rfl rfl (by kernel_rfl) (by kernel_rfl) (by simp) (⟨0, rfl⟩) (fun M hM => by obtain ⟨i, hi⟩ := hM; exact eop_load (i := i) ty3 rfl hi (.inl ⟨rfl, rfl⟩) ⟨rfl, rfl⟩) ?_
  refine ahp 4 rfl rfl (by kernel_rfl) (by kernel_rfl) (pop_sub64 rfl rfl (by omega) (by omega)) ?_
  refine ahp 5 rfl rfl (by kernel_rfl) (by kernel_rfl) (pop_move rfl) ?_
  refine ahp 6 rfl rfl (by kernel_rfl) (by kernel_rfl) ((pop_nilCheck_raw rfl)) ?_
  refine ahp 7 rfl rfl (by kernel_rfl) (by kernel_rfl) (pop_fieldAddr_raw ty25 rfl ty22 (by decide) rfl) ?_
  refine ahl 8 rfl rfl (by kernel_rfl) (by kernel_rfl) (by simp) (⟨0, rfl⟩) (fun M hM => by obtain ⟨i, hi⟩ := hM; exact eop_load (i := i) ty22 rfl hi (.inl ⟨rfl, rfl⟩) ⟨rfl, rfl⟩) ?_
  refine ahp 9 rfl rfl (by kernel_rfl) (by kernel_rfl) (pop_lenm ty22 rfl) ?_
  refine ahp 10 rfl rfl (by kernel_rfl) (by kernel_rfl) (pop_quo rfl rfl (by omega)) ?_
  refine ahp 11 rfl rfl (by kernel_rfl) (by kernel_rfl) (pop_assign rfl) ?_
  refine ahz (by kernel_rfl) ?_
  refine hw_reg ?_
  refine dp rfl (pop_move rfl) ?_
  refine dp rfl ((pop_nilCheck_raw rfl)) ?_
  refine dp rfl (pop_fieldAddr_raw ty25 rfl ty22 (by decide) rfl) ?_
  refine de rfl (eop_load (i := 0) ty22 rfl rfl (.inl ⟨rfl, rfl⟩) ?_)
  refine dp rfl (pop_move rfl) ?_
  refine dp rfl (pop_idx (j := a % l.length) (a := l[a % l.length]'(Nat.mod_lt _ (by omega))) ty22 ty3 rfl rfl rfl (List.getElem?_eq_getElem _)) ?_
  refine dp rfl (pop_load ty3 rfl rfl rfl) ?_
  refine dp rfl (pop_call ca48 rfl (WeakL.refl _) (c_benchmake_Below (by omega))) ?_
  refine dp rfl (pop_move rfl) ?_
  refine dp rfl (pop_move rfl) ?_
  refine dp rfl (pop_add rfl rfl) ?_
  refine dp rfl (pop_mul rfl rfl) ?_
  refine dp rfl (pop_add rfl rfl) ?_
  refine dp rfl (pop_move rfl) ?_
  refine dp rfl (pop_call ca48 rfl (WeakL.refl _) (c_benchmake_Below (by assumption))) ?_
  refine dp rfl (pop_assign rfl) ?_
  refine dn ?_
  refine hw_ret ?_
  refine ret_q rfl ?_
  obtain ⟨y, h1, h2⟩ := below_nat _ n
  exact ⟨y, congrArg _ h1, h2, rfl⟩

/-- (*benchwarmer/benchmake.Stream).Range -/
theorem c_benchmake_Stream_Range [Tracks] {b : Nat} {l : List Int} {a : Nat} {lo hi : Int} (ha : a ≤ 1000000) (hlh : lo ≤ hi) (h0 : -1000000000 ≤ lo) (h1 : hi ≤ 1000000000) : Con Tryz.prog 29 [pAt b, .int .i64 lo, .int .i64 hi] [St b l a] (fun x M' => ∃ y : Int, x = .int .i64 y ∧ (lo ≤ y ∧ y ≤ hi) ∧ M' = [St b l (a + 1)]) := by
 refine Con.of_body Tryz.func29 rfl Tryz.ntmps29 rfl rfl ?_
 refine hw_reg ?_
 refine dp rfl (pop_assign rfl) ?_
 refine dn ?_
 refine hw_seq ?_
 refine hw_reg ?_
 refine dp rfl (pop_move rfl) ?_
 refine dp rfl (pop_move rfl) ?_
 refine dp rfl (pop_lss rfl rfl) ?_
 refine dn ?_
 refine hw_cond rfl (fun h1 => ?_) (fun h1 => ?_)
 ·exfalso
  try simp at h1
  omega
 ·try simp at h1
  refine hw_skip ?_
  refine seqQ_n ?_
  refine hw_reg ?_
  refine dp rfl (pop_move rfl) ?_
  refine dp rfl (pop_move rfl) ?_
  refine dp rfl (pop_move rfl) ?_
  refine dp rfl (pop_move rfl) ?_
  refine dp rfl (pop_sub64 rfl rfl (by omega) (by omega)) ?_
  refine dp rfl (pop_add64 rfl rfl (by omega) (by omega)) ?_
  refine de rfl (eop_callx (i := 0) ca22 rfl (WeakL.refl _) rfl (c_benchmake_Stream_Next (by assumption) (by omega)) ?_)
  rintro _ _ ⟨y17, rfl, hy17, rfl⟩
  refine dp rfl (pop_add64 rfl rfl (by omega) (by omega)) ?_
  refine dp rfl (pop_assign rfl) ?_
  refine dn ?_
  refine hw_ret ?_
  exact ret_q rfl ⟨_, rfl, by omega, rfl⟩

/-- (*benchwarmer/benchmake.Stream).Flip -/
theorem c_benchmake_Stream_Flip [Tracks] {b : Nat} {l : List Int} {a : Nat} {n : Int} (ha : a ≤ 1000000) (hn : n ≤ 4000000000) : Con Tryz.prog 8 [pAt b, .int .i64 n] [St b l a] (fun x M' => ∃ y : Bool, x = .bool y ∧ M' = [St b l (a + 1)]) := by
 refine Con.of_body Tryz.func8 rfl Tryz.ntmps8 rfl rfl ?_
 refine hw_reg ?_
 refine dp rfl (pop_assign rfl) ?_
 refine dn ?_
 refine hw_reg ?_
 refine dp rfl (pop_move rfl) ?_
 refine dp rfl (pop_move rfl) ?_
 refine de rfl (eop_callx (i := 0) ca22 rfl (WeakL.refl _) rfl (c_benchmake_Stream_Next (by assumption) (by assumption)) ?_)
 rintro _ _ ⟨y7, rfl, hy7, rfl⟩
 refine dp rfl (pop_eql rfl rfl) ?_
 refine dp rfl (pop_assign rfl) ?_
 refine dn ?_
 refine hw_ret ?_
 exact ret_q rfl ⟨_, rfl, rfl⟩

/-- (*benchwarmer/benchmake.Stream).Pick -/
theorem c_benchmake_Stream_Pick [Tracks] {b : Nat} {l : List Int} {a : Nat} {L : List Int} (ha : a ≤ 1000000) (h0 : 0 < L.length) (h1 : L.length ≤ 1000000) : Con Tryz.prog 7 [pAt b, .slice 1 (L.map (.int .i64))] [St b l a] (fun x M' => ∃ y : Int, x = .int .i64 y ∧ y ∈ L ∧ M' = [St b l (a + 1)]) := by
 refine Con.of_body Tryz.func7 rfl Tryz.ntmps7 rfl rfl ?_
 refine hw_reg ?_
 refine dp rfl (pop_assign rfl) ?_
 refine dn ?_
 refine hw_reg ?_
 refine dp rfl (pop_move rfl) ?_
 refine dp rfl (pop_move rfl) ?_
 refine dp rfl (pop_move rfl) ?_
 refine dp rfl (pop_lenm ty22 rfl) ?_
 refine de rfl (eop_callx (i := 0) ca22 rfl (WeakL.refl _) rfl (c_benchmake_Stream_Next (by assumption) (by omega)) ?_)
 rintro _ _ ⟨y9, rfl, hy9, rfl⟩
 obtain ⟨z, hz, hm⟩ := getI hy9 h0
 refine dp rfl (pop_idx (j := y9) (a := z) ty22 ty3 rfl rfl rfl hz) ?_
 refine dp rfl (pop_load ty3 rfl rfl rfl) ?_
 refine dp rfl (pop_assign rfl) ?_
 refine dn ?_
 refine hw_ret ?_
 exact ret_q rfl ⟨_, rfl, hm, rfl⟩

/-- (*benchwarmer/benchmake.Stream).Some -/
theorem c_benchmake_Stream_Some [Tracks] {b : Nat} {l : List Int} {a : Nat} {L : List Str} (ha : a ≤ 1000000) (h0 : 0 < L.length) (h1 : L.length ≤ 1000000) : Con Tryz.prog 21 [pAt b, eSs L] [St b l a] (fun x M' => ∃ y : Str, x = .str y ∧ y ∈ L ∧ M' = [St b l (a + 1)]) := by
 refine Con.of_body Tryz.func21 rfl Tryz.ntmps21 rfl rfl ?_
 refine hw_reg ?_
 refine dp rfl (pop_assign rfl) ?_
 refine dn ?_
 refine hw_reg ?_
 refine dp rfl (pop_move rfl) ?_
 refine dp rfl (pop_move rfl) ?_
 refine dp rfl (pop_move rfl) ?_
 refine dp rfl (pop_lenm ty77 rfl) ?_
 refine de rfl (eop_callx (i := 0) ca22 rfl (WeakL.refl _) rfl (c_benchmake_Stream_Next (by assumption) (by omega)) ?_)
 rintro _ _ ⟨y9, rfl, hy9, rfl⟩
 obtain ⟨z, hz, hm⟩ := getS hy9 h0
 refine dp rfl (pop_idx (j := y9) (a := z) ty77 ty9 rfl rfl rfl hz) ?_
 refine dp rfl (pop_load ty9 rfl rfl rfl) ?_
 refine dp rfl (pop_assign rfl) ?_
 refine dn ?_
 refine hw_ret ?_
 exact ret_q rfl ⟨_, rfl, hm, rfl⟩
end Go.Proofs.YtbihpphgoaflfaaGreatDoor
end
section
namespace Go.Proofs.YtbihpphgoaflfaaGreatDoor
open Go.HL
set_option maxRecDepth 100000
set_option linter.unusedVariables false
set_option linter.unusedSimpArgs false
/-- strconv.Itoa of a small number -/
theorem c_strconv_Itoa [Tracks] {i : Nat} (hi : i < 100) : ConP Tryz.prog 33 [.int .i64 (i : Int)] (.str (Lib.decDigits i)) :=
 conp_of_calls fun I w args ha => by
  obtain ⟨u, rfl, hu⟩ := ha.one
  obtain rfl := hu.int_inv
  exact ⟨_, .str _, Any.strconv_Itoa_small Tryz.lays171 i hi w⟩
end Go.Proofs.YtbihpphgoaflfaaGreatDoor
end
section
namespace Go.HL
section
variable {P : Program} {ops : Array Oper} {n : Nat} {S : List MObj → Prop} {ld : List Nat} {K : Env → List MObj → Prop} {e : Env} {M : List MObj} {listed : Array Bool} {fuel : Nat} {d : Nat} {op : Op} {ty : TypeId} {pos : String} {af : Array Edge} {h : HVal}
/-- A load under a guard out of owned objects of which S knows enough is taken first. -/
theorem ahgl [Tracks] (i : Nat) {j : Nat} {want c : Bool} (hi : ops[i]? = some ⟨some d, op, ty, pos, af, some (j, want)⟩) (hd : Nat.blt d n = true) (hf : Region.free .any ops listed i = true) (hr : (Region.ready .any ops listed).contains i = true) (hl : i ∈ ld) (hS : S M)
 (hg : guardC ops e j want = some c) (hp : c = true → ∃ e2, OpenTo e e2 ∧ ∀ M, S M → EOp P e2 M ⟨some d, op, ty, pos, af, some (j, want)⟩ fun x M' => x = h ∧ M' = M)
 (k : HAny P ops n S ld K fuel (listed.setIfInBounds i true) (upd e d (.opt c h)) M) : HAny P ops n S ld K (fuel + 1) listed e M :=
 HAny.first (T := S) hi (fun t ht => by simp at ht; subst ht; exact blt_lt hd) (.inr ⟨rfl, hl⟩) fuel listed e M (Region.free_spec hi hf) (by simpa using hr)
  ⟨c, hg, fun hc M hM => by
   obtain ⟨e2, h1, h2⟩ := hp hc
   intro I F a w ho hs
   exact Oper.wp_noQ (fun _ _ ⟨v, x, M', J, h3, h4, ⟨e1, e3⟩, h5, h6⟩ => ⟨v, .opt c h, M, J, h3, h4, ⟨rfl, rfl⟩, .opt (fun _ => e1 ▸ h5) (fun hf => by rw [hc] at hf; cases hf), e3 ▸ h6⟩) (h2 M hM I F a w (ho.open h1) hs),
   fun hc => ⟨h, by rw [hc]⟩⟩ hS k
end
theorem wrap8 {x : Nat} (h : x < 16) : IntKind.wrap .u8 (x : Int) = (x : Int) := by
 have : (List.range 16).all (fun x => IntKind.wrap .u8 (x : Int) == (x : Int)) = true := by decide
 simpa using List.all_eq_true.1 this x (List.mem_range.2 h)
theorem wrapu64 {x : Nat} (h : x < 16) : IntKind.wrap .u64 (x : Int) = (x : Int) := by
 have : (List.range 16).all (fun x => IntKind.wrap .u64 (x : Int) == (x : Int)) = true := by decide
 simpa using List.all_eq_true.1 this x (List.mem_range.2 h)
theorem some_int {k : IntKind} {a b : Int} (h : a = b) : some (HVal.int k a) = some (.int k b) := by rw [h]
section
variable {α : Type} {c : α → α → Int}
theorem isort_take1 (l : List α) : isort c (l.take 1) ++ l.drop 1 = l := by
 cases l with
 | nil => rfl
 | cons x r => simp [isort, insB, insF]
theorem get_mid {A R : List α} {x : α} : (A ++ x :: R)[A.length]? = some x := by simp
theorem get_before {A R : List α} {x : α} (h : 0 < A.length) : (A ++ x :: R)[A.length - 1]? = some ((A[A.length - 1]?).getD x) := by
 rw [List.getElem?_append_left (by omega), List.getElem?_eq_getElem (by omega)]
 simp [List.getElem?_eq_getElem (show A.length - 1 < A.length by omega)]
theorem snoc_of {A : List α} (h : 0 < A.length) : ∃ B y, A = B ++ [y] := by
 have hne : A ≠ [] := fun e => by subst e; simp at h
 exact ⟨_, _, (List.dropLast_concat_getLast hne).symm⟩
theorem getD_snoc {A : List α} {y d : α} : ((A ++ [y])[(A ++ [y]).length - 1]?).getD d = y := by simp
theorem swap_mid {A R : List α} {x y : α} : (((A ++ [y]) ++ x :: R).set (A ++ [y]).length y).set ((A ++ [y]).length - 1) x = A ++ x :: y :: R := by
 have e1 : ((A ++ [y]) ++ x :: R).set (A ++ [y]).length y = (A ++ [y]) ++ y :: R := by rw [List.set_append_right _ _ (Nat.le_refl _)]; simp
 rw [e1, List.append_assoc]
 have e2 : (A ++ [y]).length - 1 = A.length := by simp
 rw [e2, List.set_append_right _ _ (Nat.le_refl _)]
 simp
/-- The inner loop ends. -/
theorem ins_exit {l A B : List α} {x : α} {k : Nat} (hx : l[k]? = some x) (hB : insB c x (isort c (l.take k)) = insB c x A ++ B) (h : 0 < A.length → ¬ c x ((A[A.length - 1]?).getD x) < 0) : A ++ x :: (B ++ l.drop (k + 1)) = isort c (l.take (k + 1)) ++ l.drop (k + 1) := by
 rw [take_snoc' hx, isort_snoc, hB]
 rcases Nat.eq_zero_or_pos A.length with h0 | h0
 ·obtain rfl := List.length_eq_zero_iff.1 h0
  simp [insB_nil]
 ·obtain ⟨A', y, rfl⟩ := snoc_of h0
  have := h h0
  rw [getD_snoc] at this
  rw [insB_snoc, if_neg this]; simp
theorem ins_step {A B : List α} {x y : α} {S : List α} (hB : insB c x S = insB c x (A ++ [y]) ++ B) (h : c x y < 0) : insB c x S = insB c x A ++ (y :: B) := by
 rw [hB, insB_snoc, if_pos h]; simp
end
end Go.HL
namespace Go.HL
section
variable {α : Type} {p : α → Bool}
/-- What slices.DeleteFunc has done when it looks at place j. -/
structure DelInv (p : α → Bool) (l : List α) (j : Nat) (D : List α) : Prop where
 len : D.length = l.length
 jle : j ≤ l.length
 lt : ((l.take j).filter (fun x => !p x)).length < j
 kept : D.take ((l.take j).filter (fun x => !p x)).length = (l.take j).filter (fun x => !p x)
 rest : D.drop j = l.drop j
theorem filter_snoc {l : List α} {j : Nat} {x : α} (hx : l[j]? = some x) : (l.take (j + 1)).filter (fun x => !p x) = (l.take j).filter (fun x => !p x) ++ if p x then [] else [x] := by
 rw [take_snoc' hx, List.filter_append]
 by_cases h : p x <;> simp [h]
theorem DelInv.get {l D : List α} {j : Nat} {x : α} (h : DelInv p l j D) (hx : l[j]? = some x) : D[j]? = some x := by
 have h1 := congrArg (fun t => t[0]?) h.rest
 simp only [List.getElem?_drop, Nat.add_zero] at h1
 rw [h1]; exact hx
theorem DelInv.start {l : List α} {i : Nat} {x : α} (hi : i < l.length) (hx : l[i]? = some x) (hp : p x = true) (hb : ∀ y ∈ l.take i, p y = false) : DelInv p l (i + 1) l ∧ ((l.take (i + 1)).filter (fun x => !p x)).length = i := by
 have e := filter_snoc (p := p) hx
 rw [if_pos hp, List.append_nil, (List.filter_eq_self (l := l.take i) (p := fun x => !p x)).2 (fun y hy => by simp [hb y hy])] at e
 have hl : (l.take i).length = i := by simp; omega
 refine ⟨⟨rfl, by omega, by rw [e]; omega, by rw [e, hl], rfl⟩, by rw [e, hl]⟩
theorem DelInv.done {l D : List α} (h : DelInv p l l.length D) : D.take (l.filter (fun x => !p x)).length = l.filter (fun x => !p x) := by
 have := h.kept
 rwa [List.take_length] at this
end
end Go.HL
namespace Go.HL
end Go.HL
end
section
namespace Go.Proofs.YtbihpphgoaflfaaGreatDoor
open Go.HL
set_option maxRecDepth 100000
set_option linter.unusedVariables false
set_option linter.unusedSimpArgs false
/-- math/bits.Len64 -/
theorem c_bits_Len64_s [Tracks] {x : Nat} (hx : x < 16) : Con Tryz.prog 118 [.int .u64 (x : Int)] [] (fun y M' => ∃ n : Int, y = .int .i64 n ∧ M' = []) := by
 refine Con.of_body Tryz.func118 rfl Tryz.ntmps118 rfl rfl ?_
 refine hw_reg ?_
 refine dp rfl (pop_assign rfl) ?_
 refine dn ?_
 refine hw_seq ?_
 refine hw_reg ?_
 refine dp rfl (pop_move rfl) ?_
 refine dp rfl (pop_geq rfl rfl) ?_
 refine dn ?_
 refine hw_cond rfl (fun h1 => ?_) (fun h1 => ?_)
 ·exfalso
  try simp at h1
  omega
 ·try simp at h1
  refine hw_skip ?_
  refine seqQ_n ?_
  refine hw_seq ?_
  refine hw_reg ?_
  refine dp rfl (pop_move rfl) ?_
  refine dp rfl (pop_geq rfl rfl) ?_
  refine dn ?_
  refine hw_cond rfl (fun h2 => ?_) (fun h2 => ?_)
  ·exfalso
   try simp at h2
   omega
  ·try simp at h2
   refine hw_skip ?_
   refine seqQ_n ?_
   refine hw_seq ?_
   refine hw_reg ?_
   refine dp rfl (pop_move rfl) ?_
   refine dp rfl (pop_geq rfl rfl) ?_
   refine dn ?_
   refine hw_cond rfl (fun h3 => ?_) (fun h3 => ?_)
   ·exfalso
    try simp at h3
    omega
   ·try simp at h3
    refine hw_skip ?_
    refine seqQ_n ?_
    refine hw_reg ?_
    refine dp rfl (pop_move rfl) ?_
    refine dp rfl (pop_move rfl) ?_
    refine dp rfl (pop_conv ty93 ty5 rfl) ?_
    refine dp rfl (pop_indexs (j := x) ty9 rfl rfl (wrap8 hx) (List.getElem?_eq_getElem (Nat.lt_of_lt_of_le hx (Nat.le_of_ble_eq_true (by kernel_rfl))))) ?_
    refine dp rfl (pop_conv ty5 ty3 rfl) ?_
    refine dp rfl (pop_add rfl rfl) ?_
    refine dp rfl (pop_assign rfl) ?_
    refine dn ?_
    refine hw_ret ?_
    exact ret_q rfl ⟨_, rfl, rfl⟩

/-- math/bits.Len -/
theorem c_bits_Len_s [Tracks] {x : Nat} (hx : x < 16) : Con Tryz.prog 84 [.int .u64 (x : Int)] [] (fun y M' => ∃ n : Int, y = .int .i64 n ∧ M' = []) := by
 refine Con.of_body Tryz.func84 rfl Tryz.ntmps84 rfl rfl ?_
 refine hw_reg ?_
 refine dp rfl (pop_assign rfl) ?_
 refine dn ?_
 refine hw_seq ?_
 refine hw_cond_f rfl ?_
 refine hw_skip ?_
 refine seqQ_n ?_
 refine hw_reg ?_
 refine dp rfl (pop_move rfl) ?_
 refine de rfl (eop_callf (M1 := []) (R := []) ca118 rfl (WeakL.refl _) (List.Perm.refl _) (c_bits_Len64_s hx) ?_)
 rintro _ _ ⟨n7, rfl, rfl⟩
 refine dp rfl (pop_assign rfl) ?_
 refine dn ?_
 refine hw_ret ?_
 exact ret_q rfl ⟨_, rfl, rfl⟩

set_option maxHeartbeats 1000000 in
/-- slices.insertionSortCmpFunc[benchwarmer/api.Asset] -/
theorem c_slices_insertionSortCmpFunc_api_Asset [Tracks] {l : List Asset} {v : Value} {fid : FuncId} {caps : List HVal} {c : Asset → Asset → Int} {n : Int} (hca : Callable Tryz.prog fid) (hp : ∀ x y, ConP Tryz.prog fid ([eAsset x, eAsset y] ++ caps) (.int .i64 (c x y))) (hn : n = l.length) (hl : l.length ≤ 1000000) : Con Tryz.prog 208 [.raw v, .int .i64 0, .int .i64 n, .fn (.func fid) [] caps] [.arr v 3 (l.map eAsset)] (fun x M' => x = .tup [] ∧ M' = [.arr v 3 ((isort c l).map eAsset)]) := by
 subst hn
 refine Con.of_body Tryz.func208 rfl Tryz.ntmps208 rfl rfl ?_
 refine hw_reg ?_
 refine dp rfl (pop_move rfl) ?_
 refine dp rfl (pop_add64 rfl rfl (by omega) (by omega)) ?_
 refine dp rfl (pop_assign rfl) ?_
 refine dn ?_
 refine hw_block ?_
 refine hw_loopw [8, 9, 12, 13, 14, 15, 16, 17, 18, 19, 20, 21, 22, 23, 24, 25, 26, 27, 28, 29, 30, 31, 32, 33, 34, 35, 36, 37, 38, 39, 40, 41, 42, 43, 44, 45, 46, 47, 48, 49, 50, 51, 52] (fun (k : Nat) => [(8, .int .i64 (k : Int))]) (fun (k : Nat) => [.arr v 3 ((isort c (l.take k) ++ l.drop k).map eAsset)]) (fun (k : Nat) => 1 ≤ k) (fun (k : Nat) => l.length - k) (1) ?_ ?_ ?_ ?_
 ·exact Nat.le_refl _
 ·exact ⟨rfl, trivial⟩
 ·exact perm_eq (by rw [isort_take1])
 ·intro k hk
  refine hw_seq ?_
  refine hw_reg ?_
  refine dp rfl (pop_move rfl) ?_
  refine dp rfl (pop_move rfl) ?_
  refine dp rfl (pop_lss rfl rfl) ?_
  refine dn ?_
  refine hw_cond rfl (fun h1 => ?_) (fun h2 => ?_)
  ·try simp at h1
   obtain ⟨x, hx⟩ : ∃ x, l[k]? = some x := ⟨_, List.getElem?_eq_getElem (by omega)⟩
   refine hw_arrc (i := 0) rfl (fun h0 he => ?_) (fun b off cap hv hcap => ?_)
   ·exfalso; have := congrArg List.length he; simp [isort_len] at this; omega
   rw [show ((isort c (l.take k) ++ l.drop k).map eAsset).length = l.length by simp [isort_len]; omega] at hv
   subst hv
   refine hw_skip ?_
   refine seqQ_n ?_
   refine hw_seq ?_
   refine hw_block ?_
   refine hw_reg ?_
   refine dp rfl (pop_move rfl) ?_
   refine dp rfl (pop_assign rfl) ?_
   refine dn ?_
   refine hw_block ?_
   refine hw_loopw2 [9, 18, 19, 20, 21, 22, 23, 24, 25, 26, 27, 28, 29, 30, 31, 32, 33, 34, 35, 36, 37, 38, 39, 40, 41, 42, 43, 44, 45, 46, 47, 48, 49, 50, 51, 52] (fun (A : List Asset) (B : List Asset) => [(9, .int .i64 (A.length : Int))]) (fun (A : List Asset) (B : List Asset) => [.arr (.slice (some ⟨b, off, none⟩) l.length cap) 3 ((A ++ x :: (B ++ l.drop (k + 1))).map eAsset)]) (fun (A : List Asset) (B : List Asset) => A.length + B.length = k ∧ insB c x (isort c (l.take k)) = insB c x A ++ B) (fun (A : List Asset) (B : List Asset) => A.length) (isort c (l.take k)) ([]) ?_ ?_ ?_ ?_
   ·exact ⟨by simp [isort_len]; omega, by simp⟩
   ·exact ⟨some_int (by simp [isort_len]; omega), trivial⟩
   ·exact perm_eq (by rw [drop_cons hx]; rfl)
   ·intro A B hinv
    obtain ⟨hA, hB⟩ := hinv
    have hlA : A.length < l.length := by omega
    have hll : ((A ++ x :: (B ++ l.drop (k + 1)))).length = l.length := by simp; omega
    refine hw_seq ?_
    refine hw_draw (fun M => M = [.arr (.slice (some ⟨b, off, none⟩) l.length cap) 3 ((A ++ x :: (B ++ l.drop (k + 1))).map eAsset)]) [8, 13] mixed ?_
    refine ahp 0 rfl rfl (by kernel_rfl) (by kernel_rfl) (pop_move rfl) ?_
    refine ahp 1 rfl rfl (by kernel_rfl) (by kernel_rfl) (pop_move rfl) ?_
    refine ahp 2 rfl rfl (by kernel_rfl) (by kernel_rfl) (pop_gtr rfl rfl) ?_
    refine ahp 3 rfl rfl (by kernel_rfl) (by kernel_rfl) (pop_move rfl) ?_
    refine ahg 4 rfl rfl (by kernel_rfl) (by kernel_rfl) rfl (fun hc => ⟨_, OpenTo.refl _, pop_move rfl⟩) ?_
    refine ahg 5 rfl rfl (by kernel_rfl) (by kernel_rfl) rfl (fun hc => ⟨_, OpenTo.refl _, pop_move rfl⟩) ?_
    refine ahg 6 rfl rfl (by kernel_rfl) (by kernel_rfl) rfl (fun hc => ⟨_, OpenTo.refl _, pop_move rfl⟩) ?_
    refine ahg 7 rfl rfl (by kernel_rfl) (by kernel_rfl) rfl (fun hc => by
     have hq : 0 < A.length := by simpa using hc
     exact ⟨_, OpenTo.upd (t := 24) rfl (hc) (OpenTo.upd (t := 23) rfl (hc) (OpenTo.refl _)), pop_idxraw (j := A.length) ty82 ty81 rfl rfl (by rfl) (by omega)⟩) ?_
    refine ahgl 8 rfl rfl (by kernel_rfl) (by kernel_rfl) (by simp) rfl rfl (fun hc => ⟨_, OpenTo.upd (t := 25) rfl (hc) (OpenTo.refl _), fun M hM => by
     subst hM; exact eop_load_elw (i := 0) (j := A.length) ty81 rfl rfl rfl get_mid rfl rfl rfl ⟨rfl, rfl⟩
     ⟩) ?_
    refine ahg 9 rfl rfl (by kernel_rfl) (by kernel_rfl) rfl (fun hc => ⟨_, OpenTo.refl _, pop_move rfl⟩) ?_
    refine ahg 10 rfl rfl (by kernel_rfl) (by kernel_rfl) rfl (fun hc => ⟨_, OpenTo.refl _, pop_move rfl⟩) ?_
    refine ahg 11 rfl rfl (by kernel_rfl) (by kernel_rfl) rfl (fun hc => by
     have hq : 0 < A.length := by simpa using hc
     exact ⟨_, OpenTo.upd (t := 28) rfl (hc) (OpenTo.refl _), pop_sub64 rfl rfl (by omega) (by omega)⟩) ?_
    refine ahg 12 rfl rfl (by kernel_rfl) (by kernel_rfl) rfl (fun hc => by
     have hq : 0 < A.length := by simpa using hc
     exact ⟨_, OpenTo.upd (t := 29) rfl (hc) (OpenTo.upd (t := 27) rfl (hc) (OpenTo.refl _)), pop_idxraw (j := A.length - 1) ty82 ty81 rfl rfl (by omega) (by omega)⟩) ?_
    refine ahgl 13 rfl rfl (by kernel_rfl) (by kernel_rfl) (by simp) rfl rfl (fun hc => ⟨_, OpenTo.upd (t := 30) rfl (hc) (OpenTo.refl _), fun M hM => by
     have hq : 0 < A.length := by simpa using hc
     subst hM; exact eop_load_elw (i := 0) (j := A.length - 1) ty81 rfl rfl rfl (get_before hq) rfl rfl rfl ⟨rfl, rfl⟩
     ⟩) ?_
    refine ahg 14 rfl rfl (by kernel_rfl) (by kernel_rfl) rfl (fun hc => ⟨_, OpenTo.upd (t := 31) rfl (hc) (OpenTo.upd (t := 26) rfl (hc) (OpenTo.upd (t := 22) rfl (hc) (OpenTo.refl _))), pop_callv hca rfl rfl (WeakL.refl _) (hp _ _)⟩) ?_
    refine ahg 15 rfl rfl (by kernel_rfl) (by kernel_rfl) rfl (fun hc => ⟨_, OpenTo.upd (t := 32) rfl (hc) (OpenTo.refl _), pop_lss rfl rfl⟩) ?_
    refine ahp 16 rfl rfl (by kernel_rfl) (by kernel_rfl) (pop_picko rfl (.inr ⟨_, rfl, fun h => by simp_all⟩) (.inl rfl)) ?_
    refine ahz (by kernel_rfl) ?_
    refine hw_cond rfl (fun h3 => ?_) (fun h4 => ?_)
    ·try simp at h3
     obtain ⟨hA0, hcx⟩ := h3
     obtain ⟨A1, y, rfl⟩ := snoc_of hA0
     rw [getD_snoc] at hcx
     refine hw_skip ?_
     refine seqQ_n ?_
     refine hw_seq ?_
     refine hw_block ?_
     refine hw_draw1 (fun M => M = [.arr (.slice (some ⟨b, off, none⟩) l.length cap) 3 (((A1 ++ [y]) ++ x :: (B ++ l.drop (k + 1))).map eAsset)]) [9, 13] mixed ?_
     refine ahp 0 rfl rfl (by kernel_rfl) (by kernel_rfl) (pop_move rfl) ?_
     refine ahp 1 rfl rfl (by kernel_rfl) (by kernel_rfl) (pop_move rfl) ?_
     refine ahp 2 rfl rfl (by kernel_rfl) (by kernel_rfl) (pop_move rfl) ?_
     refine ahp 3 rfl rfl (by kernel_rfl) (by kernel_rfl) (pop_move rfl) ?_
     refine ahp 4 rfl rfl (by kernel_rfl) (by kernel_rfl) (pop_sub64 rfl rfl (by omega) (by omega)) ?_
     refine ahp 5 rfl rfl (by kernel_rfl) (by kernel_rfl) (pop_move rfl) ?_
     refine ahp 6 rfl rfl (by kernel_rfl) (by kernel_rfl) (pop_move rfl) ?_
     refine ahp 7 rfl rfl (by kernel_rfl) (by kernel_rfl) (pop_sub64 rfl rfl (by omega) (by omega)) ?_
     refine ahp 8 rfl rfl (by kernel_rfl) (by kernel_rfl) (pop_idxraw (j := (A1 ++ [y]).length - 1) ty82 ty81 rfl rfl (by omega) (by omega)) ?_
     refine ahl 9 rfl rfl (by kernel_rfl) (by kernel_rfl) (by simp) rfl (fun M hM => by subst hM; exact eop_load_elw (i := 0) (j := (A1 ++ [y]).length - 1) ty81 rfl rfl rfl ((get_before hA0).trans (by rw [getD_snoc])) rfl rfl rfl ⟨rfl, rfl⟩) ?_
     refine ahp 10 rfl rfl (by kernel_rfl) (by kernel_rfl) (pop_move rfl) ?_
     refine ahp 11 rfl rfl (by kernel_rfl) (by kernel_rfl) (pop_move rfl) ?_
     refine ahp 12 rfl rfl (by kernel_rfl) (by kernel_rfl) (pop_idxraw (j := (A1 ++ [y]).length) ty82 ty81 rfl rfl rfl (by omega)) ?_
     refine ahl 13 rfl rfl (by kernel_rfl) (by kernel_rfl) (by simp) rfl (fun M hM => by subst hM; exact eop_load_elw (i := 0) (j := (A1 ++ [y]).length) ty81 rfl rfl rfl get_mid rfl rfl rfl ⟨rfl, rfl⟩) ?_
     refine ahp 14 rfl rfl (by kernel_rfl) (by kernel_rfl) (pop_idxraw (j := (A1 ++ [y]).length) ty82 ty81 rfl rfl rfl (by omega)) ?_
     refine ahe 15 rfl (by kernel_rfl) ?_
     refine hop_e0 (eop_store_elw (i := 0) (j := (A1 ++ [y]).length) (y := x) (y' := y) ty81 rfl rfl rfl rfl get_mid rfl rfl rfl ?_)
     refine ⟨fun _ => .inr (by simp [Before, Region.binds]), ?_⟩
     refine ahp 16 rfl rfl (by kernel_rfl) (by kernel_rfl) (pop_idxraw (j := (A1 ++ [y]).length - 1) ty82 ty81 rfl rfl (by omega) (by omega)) ?_
     refine ahe 17 rfl (by kernel_rfl) ?_
     refine hop_e0 (eop_store_elw (i := 0) (j := (A1 ++ [y]).length - 1) (y := y) (y' := x) ty81 rfl rfl rfl rfl (by rw [List.getElem?_set_ne (by simp)]; exact (get_before hA0).trans (by rw [getD_snoc])) rfl rfl rfl ?_)
     refine ⟨fun _ => .inr (by simp [Before, Region.binds]), ?_⟩
     refine ahz (by kernel_rfl) ?_
     refine blockQ_n ?_
     refine seqQ_n ?_
     refine hw_reg1 ?_
     refine dp rfl (pop_move rfl) ?_
     refine dp rfl (pop_sub64 rfl rfl (by omega) (by omega)) ?_
     refine dp rfl (pop_assign rfl) ?_
     refine dn ?_
     exact ⟨A1, y :: B, ⟨by simp at hA ⊢; omega, ins_step hB hcx⟩, by dsimp only; simp, ⟨some_int (by simp), trivial⟩, (by repeat (first | exact keeps_refl | refine keeps_upd rfl ?_ | refine keeps_loop rfl rfl ?_)), perm_eq (by rw [swap_mid]; rfl)⟩
    ·try simp at h4
     have hins := ins_exit (l := l) (k := k) hx hB (by intro h0; have := h4 h0; omega)
     refine hw_exit ?_
     refine seqQ_x ?_
     refine loopQ2_x ?_
     refine blockQ_eq ?_
     refine blockQ_n ?_
     refine seqQ_n ?_
     refine hw_reg1 ?_
     refine dp rfl (pop_move rfl) ?_
     refine dp rfl (pop_add64 rfl rfl (by omega) (by omega)) ?_
     refine dp rfl (pop_assign rfl) ?_
     refine dn ?_
     refine ⟨k + 1, ?_, ?_, ⟨rfl, trivial⟩, (by repeat (first | exact keeps_refl | refine keeps_upd rfl ?_ | refine keeps_loop rfl rfl ?_)), perm_eq (by rw [hins])⟩
     ·omega
     ·dsimp only; omega
  ·try simp at h2
   have hend : isort c (l.take k) ++ l.drop k = isort c l := by rw [List.take_of_length_le (by omega), drop_all (by omega)]; simp
   refine hw_exit ?_
   refine seqQ_x ?_
   refine loopQ_x ?_
   refine blockQ_eq ?_
   exact ⟨_, _, Ghost.sub (Sub.refl _), _, _, rfl, Weak.refl _, rfl, by rw [hend]⟩

/-- slices.pdqsortCmpFunc[benchwarmer/api.Asset] -/
theorem c_slices_pdqsortCmpFunc_api_Asset [Tracks] {l : List Asset} {v : Value} {fid : FuncId} {caps : List HVal} {c : Asset → Asset → Int} {lim : Int} (hca : Callable Tryz.prog fid) (hp : ∀ x y, ConP Tryz.prog fid ([eAsset x, eAsset y] ++ caps) (.int .i64 (c x y))) (hl : l.length ≤ 12) : Con Tryz.prog 186 [.raw v, .int .i64 0, .int .i64 (l.length : Int), .int .i64 lim, .fn (.func fid) [] caps] [.arr v 3 (l.map eAsset)] (fun x M' => x = .tup [] ∧ M' = [.arr v 3 ((isort c l).map eAsset)]) := by
 refine Con.of_body Tryz.func186 rfl Tryz.ntmps186 rfl rfl ?_
 refine hw_reg ?_
 refine dp rfl (pop_assign rfl) ?_
 refine dn ?_
 refine hw_reg ?_
 refine dp rfl (pop_assign rfl) ?_
 refine dn ?_
 refine hw_block ?_
 refine hw_loopw (1 :: 2 :: 3 :: 10 :: 11 :: 12 :: 13 :: 14 :: 15 :: 16 :: 17 :: 18 :: 19 :: 20 :: 21 :: 22 :: 23 :: 24 :: 25 :: 26 :: 27 :: 28 :: 29 :: 30 :: 31 :: 32 :: 33 :: 34 :: 35 :: 36 :: 37 :: 38 :: 39 :: 40 :: 41 :: 42 :: 43 :: 44 :: 45 :: 46 :: 47 :: 48 :: 49 :: 50 :: 51 :: 52 :: 53 :: 54 :: 55 :: 56 :: 57 :: 58 :: 59 :: 60 :: 61 :: 62 :: 63 :: 64 :: 65 :: 66 :: 67 :: 68 :: 69 :: 70 :: 71 :: 72 :: 73 :: 74 :: 75 :: 76 :: 77 :: 78 :: 79 :: 80 :: 81 :: 82 :: 83 :: 84 :: 85 :: 86 :: 87 :: 88 :: 89 :: 90 :: 91 :: 92 :: 93 :: 94 :: 95 :: 96 :: 97 :: 98 :: 99 :: 100 :: 101 :: 102 :: 103 :: 104 :: 105 :: 106 :: 107 :: 108 :: 109 :: 110 :: 111 :: 112 :: 113 :: 114 :: 115 :: 116 :: 117 :: 118 :: 119 :: 120 :: 121 :: 122 :: 123 :: 124 :: 125 :: 126 :: 127 :: 128 :: 129 :: 130 :: 131 :: 132 :: 133 :: 134 :: 135 :: 136 :: 137 :: 138 :: 139 :: 140 :: 141 :: 142 :: 143 :: 144 :: 145 :: 146 :: 147 :: []) (fun (u : Unit) => [(1, .int .i64 0), (2, .int .i64 (l.length : Int))]) (fun (u : Unit) => [.arr v 3 (l.map eAsset)]) (fun (u : Unit) => True) (fun (u : Unit) => 0) (()) ?_ ?_ ?_ ?_
 ·trivial
 ·exact ⟨rfl, rfl, trivial⟩
 ·exact List.Perm.refl _
 ·intro u hu
  refine hw_block ?_
  refine hw_reg ?_
  refine dp rfl (pop_move rfl) ?_
  refine dp rfl (pop_move rfl) ?_
  refine dp rfl (pop_sub64 rfl rfl (by omega) (by omega)) ?_
  refine dp rfl (pop_assign rfl) ?_
  refine dn ?_
  refine hw_seq ?_
  refine hw_reg ?_
  refine dp rfl (pop_move rfl) ?_
  refine dp rfl (pop_leq rfl rfl) ?_
  refine dn ?_
  refine hw_cond rfl (fun h1 => ?_) (fun h1 => ?_)
  ·try simp at h1
   refine hw_reg ?_
   refine dp rfl (pop_move rfl) ?_
   refine dp rfl (pop_move rfl) ?_
   refine dp rfl (pop_move rfl) ?_
   refine dp rfl (pop_move rfl) ?_
   refine de rfl (eop_callx (i := 0) ca208 rfl (WeakL.refl _) rfl (c_slices_insertionSortCmpFunc_api_Asset (l := l) hca hp (by omega) (by omega)) ?_)
   rintro _ _ ⟨rfl, rfl⟩
   refine dn ?_
   refine hw_ret ?_
   exact ret_q rfl ⟨rfl, rfl⟩
  ·exfalso
   try simp at h1
   omega

/-- slices.SortFunc[[]benchwarmer/api.Asset,benchwarmer/api.Asset] -/
theorem c_slices_SortFunc_api_Asset_api_Asset [Tracks] {l : List Asset} {v : Value} {fid : FuncId} {caps : List HVal} {c : Asset → Asset → Int} (hca : Callable Tryz.prog fid) (hp : ∀ x y, ConP Tryz.prog fid ([eAsset x, eAsset y] ++ caps) (.int .i64 (c x y))) (hl : l.length ≤ 12) : Con Tryz.prog 158 [.raw v, .fn (.func fid) [] caps] [.arr v 3 (l.map eAsset)] (fun x M' => x = .tup [] ∧ M' = [.arr v 3 ((isort c l).map eAsset)]) := by
 refine Con.of_body Tryz.func158 rfl Tryz.ntmps158 rfl rfl ?_
 refine hw_reg ?_
 refine dp rfl (pop_move rfl) ?_
 refine de rfl (eop_lenm (i := 0) ty82 rfl rfl ?_)
 refine dp rfl (pop_assign rfl) ?_
 refine dn ?_
 refine hw_reg1 ?_
 refine dp rfl (pop_move rfl) ?_
 refine dp rfl (pop_move rfl) ?_
 refine dp rfl (pop_move rfl) ?_
 refine dp rfl (pop_eq (pop_conv ty3 ty128 rfl) (congrArg _ (wrapu64 (by omega)))) ?_
 refine de rfl (eop_callf (M1 := []) (R := [_]) ca84 rfl (WeakL.refl _) (List.Perm.refl _) (c_bits_Len_s (x := l.length) (by omega)) ?_)
 rintro _ _ ⟨n11, rfl, rfl⟩
 refine dp rfl (pop_move rfl) ?_
 refine de rfl (eop_callx (i := 0) ca186 rfl (WeakL.refl _) rfl (c_slices_pdqsortCmpFunc_api_Asset hca hp hl) ?_)
 rintro _ _ ⟨rfl, rfl⟩
 refine dn ?_
 exact ⟨_, _, Ghost.sub (Sub.refl _), _, _, rfl, Weak.refl _, rfl, rfl⟩
end Go.Proofs.YtbihpphgoaflfaaGreatDoor
end
section
namespace Go.Proofs.YtbihpphgoaflfaaGreatDoor
open Go.HL
set_option maxRecDepth 100000
set_option linter.unusedVariables false
set_option linter.unusedSimpArgs false

end Go.Proofs.YtbihpphgoaflfaaGreatDoor
end
section
namespace Go.Proofs.YtbihpphgoaflfaaGreatDoor
open Go.HL
set_option maxRecDepth 100000
set_option linter.unusedVariables false
set_option linter.unusedSimpArgs false
/-- benchwarmer/value.assetFault -/
theorem c_value_assetFault [Tracks] {x : Asset}  : ConP Tryz.prog 106 [eAsset x] (.int .i64 (assetFault x)) := by
 refine Con.of_body Tryz.func106 rfl Tryz.ntmps106 rfl rfl ?_
 refine hw_reg ?_
 refine dp rfl (pop_box rfl rfl) ?_
 refine dp rfl (pop_assign rfl) ?_
 refine dn ?_
 refine hw_seq ?_
 refine hw_block ?_
 refine hw_reg ?_
 refine dp rfl (pop_fieldAddr ty81 rfl ty9 (by decide) rfl) ?_
 refine dp rfl (pop_load ty9 rfl rfl rfl) ?_
 refine dp rfl (pop_call ca37 rfl (WeakL.refl _) c_base_Key) ?_
 refine dp rfl (pop_not rfl) ?_
 refine dp rfl (pop_move rfl) ?_
 refine dg rfl rfl (fun hc => ⟨_, OpenTo.refl _, pop_fieldAddr ty81 rfl ty9 (by decide) rfl⟩) ?_
 refine dg rfl rfl (fun hc => ⟨_, OpenTo.upd (t := 9) rfl (hc) (OpenTo.refl _), pop_load ty9 rfl rfl rfl⟩) ?_
 refine dg rfl rfl (fun hc => ⟨_, OpenTo.upd (t := 10) rfl (hc) (OpenTo.refl _), pop_call ca37 rfl (WeakL.refl _) c_base_Key⟩) ?_
 refine dg rfl rfl (fun hc => ⟨_, OpenTo.upd (t := 11) rfl (hc) (OpenTo.refl _), pop_not rfl⟩) ?_
 refine dp rfl (pop_picko rfl (.inl rfl) (.inr ⟨_, rfl, fun h => by simp_all⟩)) ?_
 refine dp rfl (pop_assign rfl) ?_
 refine dn ?_
 refine hw_cond rfl (fun h1 => ?_) (fun h2 => ?_)
 ·try simp at h1
  refine hw_reg ?_
  refine dp rfl (pop_assign rfl) ?_
  refine dn ?_
  refine hw_ret ?_
  refine ret_p rfl ?_
  show HVal.int .i64 _ = _
  simp_all [assetFault]
 ·try simp at h2
  refine hw_reg ?_
  refine dp rfl (pop_fieldAddr ty81 rfl ty3 (by decide) rfl) ?_
  refine dp rfl (pop_load ty3 rfl rfl rfl) ?_
  refine dp rfl (pop_call ca38 rfl (WeakL.refl _) c_base_Out) ?_
  refine dp rfl (pop_assign rfl) ?_
  refine dn ?_
  refine hw_cond rfl (fun h3 => ?_) (fun h4 => ?_)
  ·try simp at h3
   refine hw_reg ?_
   refine dp rfl (pop_assign rfl) ?_
   refine dn ?_
   refine hw_ret ?_
   refine ret_p rfl ?_
   show HVal.int .i64 _ = _
   simp_all [assetFault]
  ·try simp at h4
   refine hw_skip ?_
   refine blockQ_n ?_
   refine seqQ_n ?_
   refine hw_reg ?_
   refine dp rfl (pop_assign rfl) ?_
   refine dn ?_
   refine hw_ret ?_
   refine ret_p rfl ?_
   show HVal.int .i64 _ = _
   simp_all [assetFault]

/-- benchwarmer/value.CheckAssets -/
theorem c_value_CheckAssets [Tracks] {l : List Asset} (hl : l.length ≤ 1000000) : ConP Tryz.prog 77 [eAssets l] (.int .i64 (checkAssets l)) := by
 refine Con.of_body Tryz.func77 rfl Tryz.ntmps77 rfl rfl ?_
 refine hw_reg ?_
 refine dp rfl (pop_assign rfl) ?_
 refine dn ?_
 refine hw_seq ?_
 refine hw_reg ?_
 refine dp rfl (pop_move rfl) ?_
 refine dp rfl (pop_lenm ty82 rfl) ?_
 refine dp rfl (pop_gtr rfl rfl) ?_
 refine dn ?_
 refine hw_cond rfl (fun h1 => ?_) (fun h2 => ?_)
 ·try simp at h1
  refine hw_reg ?_
  refine dp rfl (pop_assign rfl) ?_
  refine dn ?_
  refine hw_ret ?_
  refine ret_p rfl ?_
  show HVal.int .i64 _ = _
  (rw [checkAssets, if_pos (by omega)]; done)
 ·try simp at h2
  refine hw_skip ?_
  refine seqQ_n ?_
  refine hw_seq ?_
  refine hw_reg ?_
  refine dp rfl (pop_move rfl) ?_
  refine dp rfl (pop_lenm ty82 rfl) ?_
  refine dp rfl (pop_move rfl) ?_
  refine dn ?_
  refine hw_block ?_
  refine hw_loopw [2, 3, 4, 5, 11, 12, 13, 14, 15, 16, 17, 18, 19, 20, 21, 22, 23, 24, 25, 26, 27, 28, 29, 30, 31, 32, 33, 34] (fun (k : Nat) => [(11, .int .i64 k)]) (fun (k : Nat) => []) (fun (k : Nat) => k ≤ l.length ∧ (checkAssets l = assetsGo l k (l.drop k))) (fun (k : Nat) => l.length - k) (0) ?_ ?_ ?_ ?_
  ·refine ⟨Nat.zero_le _, ?_⟩
   rw [checkAssets, if_neg (by omega)]; rfl
  ·exact ⟨rfl, trivial⟩
  ·exact List.Perm.refl _
  ·intro k hinv
   obtain ⟨hk, hg⟩ := hinv
   refine hw_reg ?_
   refine dp rfl (pop_lss rfl rfl) ?_
   refine dn ?_
   refine hw_seq ?_
   refine hw_cond rfl (fun h3 => ?_) (fun h4 => ?_)
   ·try simp at h3
    obtain ⟨x, hx⟩ : ∃ x, l[k]? = some x := ⟨_, List.getElem?_eq_getElem h3⟩
    have hdx := drop_cons hx
    rw [hdx] at hg
    refine hw_skip ?_
    refine seqQ_n ?_
    refine hw_seq ?_
    refine hw_block ?_
    refine hw_reg ?_
    refine dp rfl (pop_move rfl) ?_
    refine dp rfl (pop_idx ty82 ty81 rfl rfl rfl (by assumption)) ?_
    refine dp rfl (pop_loadw ty81 rfl rfl rfl rfl) ?_
    refine de rfl (eop_alloc ty81 rfl fun b4 => ?_)
    refine dp rfl (pop_assign rfl) ?_
    refine de0 (eop_storew ty81 rfl rfl rfl rfl rfl ?_)
    refine dn ?_
    refine hw_ghost (Ghost.fc0 4 rfl) ?_
    refine hw_seq ?_
    refine hw_reg ?_
    refine dp rfl (pop_loadw ty81 rfl rfl rfl rfl) ?_
    refine dp rfl (pop_call ca106 rfl (WeakL.refl _) c_value_assetFault) ?_
    refine dp rfl (pop_assign rfl) ?_
    refine dn ?_
    refine hw_reg ?_
    refine dp rfl (pop_move rfl) ?_
    refine dp rfl (pop_neq rfl rfl) ?_
    refine dn ?_
    refine hw_cond rfl (fun h5 => ?_) (fun h6 => ?_)
    ·try simp at h5
     refine hw_reg ?_
     refine dp rfl (pop_move rfl) ?_
     refine dp rfl (pop_assign rfl) ?_
     refine dn ?_
     refine hw_ret ?_
     refine ret_p rfl ?_
     show HVal.int .i64 _ = _
     (rw [hg]; simp_all [assetsGo, leS]; done)
    ·try simp at h6
     refine hw_skip ?_
     refine seqQ_n ?_
     refine hw_draw (fun _ => True) [] mixed ?_
     refine ahp 0 rfl rfl (by kernel_rfl) (by kernel_rfl) (pop_move rfl) ?_
     refine ahp 1 rfl rfl (by kernel_rfl) (by kernel_rfl) (pop_gtr rfl rfl) ?_
     refine ahp 2 rfl rfl (by kernel_rfl) (by kernel_rfl) (pop_move rfl) ?_
     refine ahg 3 rfl rfl (by kernel_rfl) (by kernel_rfl) rfl (fun hc => ⟨_, OpenTo.refl _, pop_fieldAddr ty81 rfl ty9 (by decide) rfl⟩) ?_
     refine ahg 4 rfl rfl (by kernel_rfl) (by kernel_rfl) rfl (fun hc => ⟨_, OpenTo.upd (t := 24) rfl (hc) (OpenTo.refl _), pop_load ty9 rfl rfl rfl⟩) ?_
     refine ahg 5 rfl rfl (by kernel_rfl) (by kernel_rfl) rfl (fun hc => ⟨_, OpenTo.refl _, pop_move rfl⟩) ?_
     refine ahg 6 rfl rfl (by kernel_rfl) (by kernel_rfl) rfl (fun hc => ⟨_, OpenTo.refl _, pop_move rfl⟩) ?_
     refine ahg 7 rfl rfl (by kernel_rfl) (by kernel_rfl) rfl (fun hc => by have hq := hc; (try simp at hq); exact ⟨_, OpenTo.upd (t := 27) rfl (hc) (OpenTo.refl _), pop_sub64 rfl rfl (by omega) (by omega)⟩) ?_
     refine ahg 8 rfl rfl (by kernel_rfl) (by kernel_rfl) rfl (fun hc => by have hq := hc; (try simp at hq); exact ⟨_, OpenTo.upd (t := 28) rfl (hc) (OpenTo.upd (t := 26) rfl (hc) (OpenTo.refl _)), pop_idx (j := k - 1) (a := l.getD (k - 1) asset0) ty82 ty81 rfl rfl (by omega) (getD_some (by omega))⟩) ?_
     refine ahg 9 rfl rfl (by kernel_rfl) (by kernel_rfl) rfl (fun hc => ⟨_, OpenTo.upd (t := 29) rfl (hc) (OpenTo.refl _), pop_fieldAddr ty81 rfl ty9 (by decide) rfl⟩) ?_
     refine ahg 10 rfl rfl (by kernel_rfl) (by kernel_rfl) rfl (fun hc => ⟨_, OpenTo.upd (t := 30) rfl (hc) (OpenTo.refl _), pop_load ty9 rfl rfl rfl⟩) ?_
     refine ahg 11 rfl rfl (by kernel_rfl) (by kernel_rfl) rfl (fun hc => ⟨_, OpenTo.upd (t := 31) rfl (hc) (OpenTo.upd (t := 25) rfl (hc) (OpenTo.refl _)), pop_leqs rfl rfl⟩) ?_
     refine ahp 12 rfl rfl (by kernel_rfl) (by kernel_rfl) (pop_picko rfl (.inr ⟨_, rfl, fun h => by simp_all⟩) (.inl rfl)) ?_
     refine ahz (by kernel_rfl) ?_
     refine hw_cond rfl (fun h7 => ?_) (fun h8 => ?_)
     ·try simp at h7
      refine hw_reg ?_
      refine dp rfl (pop_assign rfl) ?_
      refine dn ?_
      refine hw_ret ?_
      refine ret_p rfl ?_
      show HVal.int .i64 _ = _
      (rw [hg]; simp_all [assetsGo, leS]; done)
     ·try simp at h8
      refine hw_skip ?_
      refine blockQ_n ?_
      refine seqQ_n ?_
      refine hw_reg1 ?_
      refine dp rfl (pop_add64 rfl rfl (by omega) (by omega)) ?_
      refine dp rfl (pop_move rfl) ?_
      refine dn ?_
      refine ⟨k + 1, ?_, ?_, ⟨rfl, trivial⟩, (by repeat (first | exact keeps_refl | refine keeps_upd rfl ?_ | refine keeps_loop rfl rfl ?_)), List.Perm.refl _⟩
      ·refine ⟨by omega, ?_⟩
       rw [hg]; simp_all [assetsGo, leS]
      ·dsimp only; omega
   ·try simp at h4
    have hnk : l.length ≤ k := by omega
    obtain rfl : k = l.length := by omega
    rw [drop_all (Nat.le_refl _)] at hg
    refine hw_exit ?_
    refine seqQ_x ?_
    refine loopQ_x ?_
    refine blockQ_eq ?_
    refine seqQ_n ?_
    refine hw_reg ?_
    refine dp rfl (pop_assign rfl) ?_
    refine dn ?_
    refine hw_ret ?_
    refine ret_p rfl ?_
    show HVal.int .i64 _ = _
    (rw [hg]; simp_all [assetsGo, leS]; done)

/-- benchwarmer/value.CheckPlaces -/
theorem c_value_CheckPlaces [Tracks] {l : List HL.Place} (hl : l.length ≤ 1000000) : ConP Tryz.prog 78 [ePlaces l] (.int .i64 (checkPlaces l)) := by
 refine Con.of_body Tryz.func78 rfl Tryz.ntmps78 rfl rfl ?_
 refine hw_reg ?_
 refine dp rfl (pop_assign rfl) ?_
 refine dn ?_
 refine hw_seq ?_
 refine hw_reg ?_
 refine dp rfl (pop_move rfl) ?_
 refine dp rfl (pop_lenm ty85 rfl) ?_
 refine dp rfl (pop_gtr rfl rfl) ?_
 refine dn ?_
 refine hw_cond rfl (fun h1 => ?_) (fun h2 => ?_)
 ·try simp at h1
  refine hw_reg ?_
  refine dp rfl (pop_assign rfl) ?_
  refine dn ?_
  refine hw_ret ?_
  refine ret_p rfl ?_
  show HVal.int .i64 _ = _
  (rw [checkPlaces, if_pos (by omega)]; done)
 ·try simp at h2
  refine hw_skip ?_
  refine seqQ_n ?_
  refine hw_seq ?_
  refine hw_reg ?_
  refine dp rfl (pop_move rfl) ?_
  refine dp rfl (pop_lenm ty85 rfl) ?_
  refine dp rfl (pop_move rfl) ?_
  refine dn ?_
  refine hw_block ?_
  refine hw_loopw [2, 3, 4, 10, 11, 12, 13, 14, 15, 16, 17, 18, 19, 20, 21, 22, 23, 24, 25, 26, 27, 28, 29, 30, 31, 32, 33, 34, 35, 36, 37, 38] (fun (k : Nat) => [(10, .int .i64 k)]) (fun (k : Nat) => []) (fun (k : Nat) => k ≤ l.length ∧ (checkPlaces l = placesGo l k (l.drop k))) (fun (k : Nat) => l.length - k) (0) ?_ ?_ ?_ ?_
  ·refine ⟨Nat.zero_le _, ?_⟩
   rw [checkPlaces, if_neg (by omega)]; rfl
  ·exact ⟨rfl, trivial⟩
  ·exact List.Perm.refl _
  ·intro k hinv
   obtain ⟨hk, hg⟩ := hinv
   refine hw_reg ?_
   refine dp rfl (pop_lss rfl rfl) ?_
   refine dn ?_
   refine hw_seq ?_
   refine hw_cond rfl (fun h3 => ?_) (fun h4 => ?_)
   ·try simp at h3
    obtain ⟨x, hx⟩ : ∃ x, l[k]? = some x := ⟨_, List.getElem?_eq_getElem h3⟩
    have hdx := drop_cons hx
    rw [hdx] at hg
    refine hw_skip ?_
    refine seqQ_n ?_
    refine hw_seq ?_
    refine hw_block ?_
    refine hw_reg ?_
    refine dp rfl (pop_move rfl) ?_
    refine dp rfl (pop_idx ty85 ty84 rfl rfl rfl (by assumption)) ?_
    refine dp rfl (pop_loadw ty84 rfl rfl rfl rfl) ?_
    refine de rfl (eop_alloc ty84 rfl fun b4 => ?_)
    refine dp rfl (pop_assign rfl) ?_
    refine de0 (eop_storew ty84 rfl rfl rfl rfl rfl ?_)
    refine dn ?_
    refine hw_ghost (Ghost.fc0 4 rfl) ?_
    refine hw_block ?_
    refine hw_reg ?_
    refine dp rfl (pop_fieldAddr ty84 rfl ty9 (by decide) rfl) ?_
    refine dp rfl (pop_load ty9 rfl rfl rfl) ?_
    refine dp rfl (pop_call ca37 rfl (WeakL.refl _) c_base_Key) ?_
    refine dp rfl (pop_not rfl) ?_
    refine dp rfl (pop_assign rfl) ?_
    refine dn ?_
    refine hw_cond rfl (fun h5 => ?_) (fun h6 => ?_)
    ·try simp at h5
     refine hw_reg ?_
     refine dp rfl (pop_assign rfl) ?_
     refine dn ?_
     refine hw_ret ?_
     refine ret_p rfl ?_
     show HVal.int .i64 _ = _
     (rw [hg]; simp_all [placesGo, leS]; done)
    ·try simp at h6
     refine hw_reg ?_
     refine dp rfl (pop_fieldAddr ty84 rfl ty3 (by decide) rfl) ?_
     refine dp rfl (pop_load ty3 rfl rfl rfl) ?_
     refine dp rfl (pop_call ca38 rfl (WeakL.refl _) c_base_Out) ?_
     refine dp rfl (pop_assign rfl) ?_
     refine dn ?_
     refine hw_cond rfl (fun h7 => ?_) (fun h8 => ?_)
     ·try simp at h7
      refine hw_reg ?_
      refine dp rfl (pop_assign rfl) ?_
      refine dn ?_
      refine hw_ret ?_
      refine ret_p rfl ?_
      show HVal.int .i64 _ = _
      (rw [hg]; simp_all [placesGo, leS]; done)
     ·try simp at h8
      refine hw_draw (fun _ => True) [] mixed ?_
      refine ahp 0 rfl rfl (by kernel_rfl) (by kernel_rfl) (pop_move rfl) ?_
      refine ahp 1 rfl rfl (by kernel_rfl) (by kernel_rfl) (pop_gtr rfl rfl) ?_
      refine ahp 2 rfl rfl (by kernel_rfl) (by kernel_rfl) (pop_move rfl) ?_
      refine ahg 3 rfl rfl (by kernel_rfl) (by kernel_rfl) rfl (fun hc => ⟨_, OpenTo.refl _, pop_fieldAddr ty84 rfl ty9 (by decide) rfl⟩) ?_
      refine ahg 4 rfl rfl (by kernel_rfl) (by kernel_rfl) rfl (fun hc => ⟨_, OpenTo.upd (t := 28) rfl (hc) (OpenTo.refl _), pop_load ty9 rfl rfl rfl⟩) ?_
      refine ahg 5 rfl rfl (by kernel_rfl) (by kernel_rfl) rfl (fun hc => ⟨_, OpenTo.refl _, pop_move rfl⟩) ?_
      refine ahg 6 rfl rfl (by kernel_rfl) (by kernel_rfl) rfl (fun hc => ⟨_, OpenTo.refl _, pop_move rfl⟩) ?_
      refine ahg 7 rfl rfl (by kernel_rfl) (by kernel_rfl) rfl (fun hc => by have hq := hc; (try simp at hq); exact ⟨_, OpenTo.upd (t := 31) rfl (hc) (OpenTo.refl _), pop_sub64 rfl rfl (by omega) (by omega)⟩) ?_
      refine ahg 8 rfl rfl (by kernel_rfl) (by kernel_rfl) rfl (fun hc => by have hq := hc; (try simp at hq); exact ⟨_, OpenTo.upd (t := 32) rfl (hc) (OpenTo.upd (t := 30) rfl (hc) (OpenTo.refl _)), pop_idx (j := k - 1) (a := l.getD (k - 1) place0) ty85 ty84 rfl rfl (by omega) (getD_some (by omega))⟩) ?_
      refine ahg 9 rfl rfl (by kernel_rfl) (by kernel_rfl) rfl (fun hc => ⟨_, OpenTo.upd (t := 33) rfl (hc) (OpenTo.refl _), pop_fieldAddr ty84 rfl ty9 (by decide) rfl⟩) ?_
      refine ahg 10 rfl rfl (by kernel_rfl) (by kernel_rfl) rfl (fun hc => ⟨_, OpenTo.upd (t := 34) rfl (hc) (OpenTo.refl _), pop_load ty9 rfl rfl rfl⟩) ?_
      refine ahg 11 rfl rfl (by kernel_rfl) (by kernel_rfl) rfl (fun hc => ⟨_, OpenTo.upd (t := 35) rfl (hc) (OpenTo.upd (t := 29) rfl (hc) (OpenTo.refl _)), pop_leqs rfl rfl⟩) ?_
      refine ahp 12 rfl rfl (by kernel_rfl) (by kernel_rfl) (pop_picko rfl (.inr ⟨_, rfl, fun h => by simp_all⟩) (.inl rfl)) ?_
      refine ahp 13 rfl rfl (by kernel_rfl) (by kernel_rfl) (pop_assign rfl) ?_
      refine ahz (by kernel_rfl) ?_
      refine hw_cond rfl (fun h9 => ?_) (fun h10 => ?_)
      ·try simp at h9
       refine hw_reg ?_
       refine dp rfl (pop_assign rfl) ?_
       refine dn ?_
       refine hw_ret ?_
       refine ret_p rfl ?_
       show HVal.int .i64 _ = _
       (rw [hg]; simp_all [placesGo, leS]; done)
      ·try simp at h10
       refine hw_skip ?_
       refine blockQ_n ?_
       refine blockQ_n ?_
       refine seqQ_n ?_
       refine hw_reg1 ?_
       refine dp rfl (pop_add64 rfl rfl (by omega) (by omega)) ?_
       refine dp rfl (pop_move rfl) ?_
       refine dn ?_
       refine ⟨k + 1, ?_, ?_, ⟨rfl, trivial⟩, (by repeat (first | exact keeps_refl | refine keeps_upd rfl ?_ | refine keeps_loop rfl rfl ?_)), List.Perm.refl _⟩
       ·refine ⟨by omega, ?_⟩
        rw [hg]; simp_all [placesGo, leS]
       ·dsimp only; omega
   ·try simp at h4
    have hnk : l.length ≤ k := by omega
    obtain rfl : k = l.length := by omega
    rw [drop_all (Nat.le_refl _)] at hg
    refine hw_exit ?_
    refine seqQ_x ?_
    refine loopQ_x ?_
    refine blockQ_eq ?_
    refine seqQ_n ?_
    refine hw_reg ?_
    refine dp rfl (pop_assign rfl) ?_
    refine dn ?_
    refine hw_ret ?_
    refine ret_p rfl ?_
    show HVal.int .i64 _ = _
    (rw [hg]; simp_all [placesGo, leS]; done)

/-- benchwarmer/value.byValue -/
theorem c_value_byValue [Tracks] {x y : Asset}  : ConP Tryz.prog 159 [eAsset x, eAsset y] (.int .i64 (byValue x y)) := by
 refine Con.of_body Tryz.func159 rfl Tryz.ntmps159 rfl rfl ?_
 refine hw_reg ?_
 refine dp rfl (pop_box rfl rfl) ?_
 refine dp rfl (pop_box rfl rfl) ?_
 refine dp rfl (pop_assign rfl) ?_
 refine dn ?_
 refine hw_draw (fun _ => True) [] mixed ?_
 refine ahp 0 rfl rfl (by kernel_rfl) (by kernel_rfl) (pop_fieldAddr ty81 rfl ty3 (by decide) rfl) ?_
 refine ahp 1 rfl rfl (by kernel_rfl) (by kernel_rfl) (pop_load ty3 rfl rfl rfl) ?_
 refine ahp 2 rfl rfl (by kernel_rfl) (by kernel_rfl) (pop_fieldAddr ty81 rfl ty3 (by decide) rfl) ?_
 refine ahp 3 rfl rfl (by kernel_rfl) (by kernel_rfl) (pop_load ty3 rfl rfl rfl) ?_
 refine ahp 4 rfl rfl (by kernel_rfl) (by kernel_rfl) (pop_call ca76 rfl (WeakL.refl _) c_cmp_Compare_int) ?_
 refine ahp 5 rfl rfl (by kernel_rfl) (by kernel_rfl) (pop_fieldAddr ty81 rfl ty9 (by decide) rfl) ?_
 refine ahp 6 rfl rfl (by kernel_rfl) (by kernel_rfl) (pop_load ty9 rfl rfl rfl) ?_
 refine ahp 7 rfl rfl (by kernel_rfl) (by kernel_rfl) (pop_fieldAddr ty81 rfl ty9 (by decide) rfl) ?_
 refine ahp 8 rfl rfl (by kernel_rfl) (by kernel_rfl) (pop_load ty9 rfl rfl rfl) ?_
 refine ahp 9 rfl rfl (by kernel_rfl) (by kernel_rfl) (pop_call ca63 rfl (WeakL.refl _) c_strings_Compare) ?_
 refine ahp 10 rfl rfl (by kernel_rfl) (by kernel_rfl) (pop_buildSlice (hs := [_, _]) ty22 ty3 rfl rfl (by decide) (by decide) rfl) ?_
 refine ahp 11 rfl rfl (by kernel_rfl) (by kernel_rfl) (pop_call ca127 rfl (WeakL.refl _) (c_cmp_Or_int (l := [_, _]) (by simp))) ?_
 refine ahp 12 rfl rfl (by kernel_rfl) (by kernel_rfl) (pop_assign rfl) ?_
 refine ahz (by kernel_rfl) ?_
 refine hw_ret ?_
 refine ret_p rfl ?_
 rfl

/-- benchwarmer/value.of -/
theorem c_value_of [Tracks] {l : List Asset} {pos : Str} (hl : l.length ≤ 12) : ConP Tryz.prog 107 [eAssets l, .str pos] (eAssets (ofP l pos)) := by
 refine Con.of_body Tryz.func107 rfl Tryz.ntmps107 rfl rfl ?_
 refine hw_reg ?_
 refine dp rfl (pop_assign rfl) ?_
 refine dn ?_
 refine hw_reg ?_
 refine dp rfl (pop_assign rfl) ?_
 refine dn ?_
 refine hw_ghost (Ghost.arr_nil 3) ?_
 refine hw_seq ?_
 refine hw_reg ?_
 refine dp rfl (pop_move rfl) ?_
 refine dp rfl (pop_lenm ty82 rfl) ?_
 refine dp rfl (pop_move rfl) ?_
 refine dn ?_
 refine hw_block ?_
 refine hw_loopw2 [5, 7, 10, 11, 12, 13, 14, 15, 16, 17, 18, 19, 20, 21, 22] (fun (k : Nat) (u : Value) => [(10, .int .i64 k), (5, .raw u)]) (fun (k : Nat) (u : Value) => [.arr u 3 ((atPos (l.take k) pos).map eAsset)]) (fun (k : Nat) (u : Value) => k ≤ l.length ∧ (True)) (fun (k : Nat) (u : Value) => l.length - k) (0) (.slice none 0 0) ?_ ?_ ?_ ?_
 ·exact ⟨Nat.zero_le _, by simp_all⟩
 ·exact ⟨rfl, rfl, trivial⟩
 ·exact perm_eq (by simp [atPos])
 ·intro k u hinv
  obtain ⟨hk, -⟩ := hinv
  refine hw_reg ?_
  refine dp rfl (pop_lss rfl rfl) ?_
  refine dn ?_
  refine hw_seq ?_
  refine hw_cond rfl (fun h1 => ?_) (fun h2 => ?_)
  ·try simp at h1
   obtain ⟨x, hx⟩ : ∃ x, l[k]? = some x := ⟨_, List.getElem?_eq_getElem h1⟩
   have hdx := drop_cons hx
   refine hw_skip ?_
   refine seqQ_n ?_
   refine hw_seq ?_
   refine hw_block ?_
   refine hw_reg ?_
   refine dp rfl (pop_idx ty82 ty81 rfl rfl rfl (by assumption)) ?_
   refine dp rfl (pop_loadw ty81 rfl rfl rfl rfl) ?_
   refine de rfl (eop_alloc ty81 rfl fun b7 => ?_)
   refine de0 (eop_storew ty81 rfl rfl rfl rfl rfl ?_)
   refine dn ?_
   refine hw_ghost (Ghost.fc0 7 rfl) ?_
   refine hw_reg ?_
   refine dp rfl (pop_fieldAddr ty81 rfl ty9 (by decide) rfl) ?_
   refine dp rfl (pop_load ty9 rfl rfl rfl) ?_
   refine dp rfl (pop_move rfl) ?_
   refine dp rfl (pop_eqls rfl rfl) ?_
   refine dn ?_
   refine hw_cond rfl (fun h3 => ?_) (fun h4 => ?_)
   ·try simp at h3
    refine hw_reg1 ?_
    refine dp rfl (pop_move rfl) ?_
    refine dp rfl (pop_loadw ty81 rfl rfl rfl rfl) ?_
    refine dp rfl (pop_buildSlice (hs := [_]) ty82 ty81 rfl rfl (by decide) (by decide) rfl) ?_
    have hal : (atPos (l.take k) pos).length ≤ 12 := Nat.le_trans (atPos_le _ _) (by simp; omega)
    refine de rfl (eop_append (i := 0) ty82 ty81 rfl rfl rfl rfl rfl (by simp [flat, hcells]) (by simp; omega) fun v21 => ?_)
    refine dp rfl (pop_assign rfl) ?_
    refine dn ?_
    refine blockQ_n ?_
    refine seqQ_n ?_
    refine hw_reg1 ?_
    refine dp rfl (pop_add64 rfl rfl (by omega) (by omega)) ?_
    refine dp rfl (pop_move rfl) ?_
    refine dn ?_
    exact ⟨k + 1, _, ⟨by omega, trivial⟩, by dsimp only; omega, ⟨rfl, rfl, trivial⟩, (by repeat (first | exact keeps_refl | refine keeps_upd rfl ?_ | refine keeps_loop rfl rfl ?_)), perm_eq (by dsimp only; rw [atPos_snoc hx, if_pos (by simp_all)]; simp)⟩
   ·try simp at h4
    refine hw_skip ?_
    refine blockQ_n ?_
    refine seqQ_n ?_
    refine hw_reg1 ?_
    refine dp rfl (pop_add64 rfl rfl (by omega) (by omega)) ?_
    refine dp rfl (pop_move rfl) ?_
    refine dn ?_
    exact ⟨k + 1, _, ⟨by omega, trivial⟩, by dsimp only; omega, ⟨rfl, rfl, trivial⟩, (by repeat (first | exact keeps_refl | refine keeps_upd rfl ?_ | refine keeps_loop rfl rfl ?_)), perm_eq (by dsimp only; rw [atPos_snoc hx, if_neg (by simp_all)]; simp)⟩
  ·try simp at h2
   have hnk : l.length ≤ k := by omega
   obtain rfl : k = l.length := by omega
   rw [List.take_length]
   refine hw_exit ?_
   refine seqQ_x ?_
   refine loopQ2_x ?_
   refine blockQ_eq ?_
   refine seqQ_n ?_
   have hal := atPos_le l pos
   refine hw_reg ?_
   refine dp rfl (pop_move rfl) ?_
   refine de rfl (eop_callx (i := 0) ca158 rfl (WeakL.refl _) rfl (c_slices_SortFunc_api_Asset_api_Asset (l := atPos l pos) (c := byValue) (caps := []) ca159 (fun x y => c_value_byValue) (by omega)) ?_)
   rintro _ _ ⟨rfl, rfl⟩
   refine dn ?_
   refine hw_reg ?_
   refine dp rfl (pop_move rfl) ?_
   refine dp rfl (pop_assign rfl) ?_
   refine dn ?_
   refine hw_ret ?_
   exact ret_fa (M := []) 4 rfl rfl rfl

set_option maxHeartbeats 1000000 in
/-- benchwarmer/value.fielded -/
theorem c_value_fielded [Tracks] {l : List Asset} {p : List HL.Place} (hl : l.length ≤ 12) (hp : p.length ≤ 10) (hm : ∀ x ∈ p, 0 ≤ x.Many) (hv : ∀ x ∈ l, -1000000 ≤ x.Value ∧ x.Value ≤ 1000000) : ConP Tryz.prog 79 [eAssets l, ePlaces p] (.tup [.int .i64 (sumV (fieldedL (ofP l) p)), eSs (namesV (fieldedL (ofP l) p))]) := by
 have hon : ∀ s, (ofP l s).length ≤ 12 := fun s => Nat.le_trans (ofP_len l s) hl
 refine Con.of_body Tryz.func79 rfl Tryz.ntmps79 rfl rfl ?_
 refine hw_reg ?_
 refine dp rfl (pop_assign rfl) ?_
 refine dp rfl (pop_assign rfl) ?_
 refine dn ?_
 refine hw_reg ?_
 refine dp rfl (pop_assign rfl) ?_
 refine dn ?_
 refine hw_reg ?_
 refine dp rfl (pop_assign rfl) ?_
 refine dn ?_
 refine hw_ghost (Ghost.arr_nil 1) ?_
 refine hw_seq ?_
 refine hw_reg ?_
 refine dp rfl (pop_move rfl) ?_
 refine dp rfl (pop_lenm ty85 rfl) ?_
 refine dp rfl (pop_move rfl) ?_
 refine dn ?_
 refine hw_block ?_
 refine hw_loopw2 [6, 7, 9, 10, 12, 15, 16, 17, 18, 19, 20, 21, 22, 23, 24, 25, 26, 27, 28, 29, 30, 31, 32, 33, 34, 35, 36, 37, 38, 39, 40, 41, 42, 43, 44, 45, 46, 47, 48] (fun (i : Nat) (u : Value) => [(15, .int .i64 i), (6, .int .i64 (sumV (fieldedL (ofP l) (p.take i)))), (7, .raw u)]) (fun (i : Nat) (u : Value) => [.arr u 1 (((fieldedL (ofP l) (p.take i)).map (·.Player)).map .str)]) (fun (i : Nat) (u : Value) => i ≤ p.length ∧ (True)) (fun (i : Nat) (u : Value) => p.length - i) (0) (.slice none 0 0) ?_ ?_ ?_ ?_
 ·exact ⟨Nat.zero_le _, by simp_all⟩
 ·exact ⟨rfl, some_int (by simp [fieldedL, sumV]), rfl, trivial⟩
 ·exact perm_eq (by simp [fieldedL])
 ·intro i u hinv
  obtain ⟨hi, -⟩ := hinv
  refine hw_reg ?_
  refine dp rfl (pop_lss rfl rfl) ?_
  refine dn ?_
  refine hw_seq ?_
  refine hw_cond rfl (fun h1 => ?_) (fun h2 => ?_)
  ·try simp at h1
   obtain ⟨x, hx⟩ : ∃ x, p[i]? = some x := ⟨_, List.getElem?_eq_getElem h1⟩
   have hdx := drop_cons hx
   refine hw_skip ?_
   refine seqQ_n ?_
   refine hw_seq ?_
   refine hw_block ?_
   refine hw_reg ?_
   refine dp rfl (pop_idx ty85 ty84 rfl rfl rfl (by assumption)) ?_
   refine dp rfl (pop_loadw ty84 rfl rfl rfl rfl) ?_
   refine de rfl (eop_alloc ty84 rfl fun b9 => ?_)
   refine de0 (eop_storew ty84 rfl rfl rfl rfl rfl ?_)
   refine dn ?_
   refine hw_ghost (Ghost.fc0 9 rfl) ?_
   refine hw_reg ?_
   refine dp rfl (pop_move rfl) ?_
   refine dp rfl (pop_fieldAddr ty84 rfl ty9 (by decide) rfl) ?_
   refine dp rfl (pop_load ty9 rfl rfl rfl) ?_
   refine dp rfl (pop_call ca107 rfl (WeakL.refl _) (c_value_of (by assumption))) ?_
   refine dp rfl (pop_assign rfl) ?_
   refine dn ?_
   have hx0 := hm x (List.mem_of_getElem? hx)
   have hon1 := hon x.Position
   obtain ⟨N, hN⟩ : ∃ N : Nat, (if ((ofP l x.Position).length : Int) < x.Many then ((ofP l x.Position).length : Int) else x.Many) = (N : Int) := ⟨_, (Int.toNat_of_nonneg (by split <;> omega)).symm⟩
   have hNle : N ≤ (ofP l x.Position).length := by split at hN <;> omega
   refine hw_reg ?_
   refine dp rfl (pop_move rfl) ?_
   refine dp rfl (pop_fieldAddr ty84 rfl ty3 (by decide) rfl) ?_
   refine dp rfl (pop_load ty3 rfl rfl rfl) ?_
   refine dp rfl (pop_move rfl) ?_
   refine dp rfl (pop_lenm ty82 rfl) ?_
   refine dp rfl (pop_eq (pop_min rfl rfl) (congrArg _ hN)) ?_
   refine dp rfl (pop_slicem (h := N) ty82 ty81 rfl rfl ⟨_, _, rfl, rfl⟩ (by omega) hNle) ?_
   refine dp rfl (pop_lenm ty82 rfl) ?_
   refine dp rfl (pop_move rfl) ?_
   refine dn ?_
   have hCl : ((List.drop 0 (List.take N (ofP l x.Position)))).length ≤ 12 := by simp; omega
   have hCm : ∀ y ∈ (List.drop 0 (List.take N (ofP l x.Position))), y ∈ l := fun y hy => by
    have := List.mem_of_mem_take (List.mem_of_mem_drop hy)
    unfold ofP atPos at this
    exact (List.mem_filter.1 ((isort_mem _).1 this)).1
   generalize hCd : List.drop 0 (List.take N (ofP l x.Position)) = C at *
   refine hw_block ?_
   refine hw_loopw2 [6, 7, 12, 31, 32, 33, 34, 35, 36, 37, 38, 39, 40, 41, 42, 43, 44, 45, 46, 47] (fun (k : Nat) (w : Value) => [(31, .int .i64 k), (6, .int .i64 (sumV ((fieldedL (ofP l) (p.take i)) ++ ((C.take k).filter (fun y => decide (0 < y.Value)))))), (7, .raw w)]) (fun (k : Nat) (w : Value) => [.arr w 1 ((((fieldedL (ofP l) (p.take i)) ++ ((C.take k).filter (fun y => decide (0 < y.Value)))).map (·.Player)).map .str)]) (fun (k : Nat) (w : Value) => k ≤ C.length ∧ (True)) (fun (k : Nat) (w : Value) => C.length - k) (0) (u) ?_ ?_ ?_ ?_
   ·exact ⟨Nat.zero_le _, by simp_all⟩
   ·exact ⟨rfl, some_int (by simp), rfl, trivial⟩
   ·exact perm_eq (by simp)
   ·intro k w hinv
    obtain ⟨hk, -⟩ := hinv
    refine hw_reg ?_
    refine dp rfl (pop_lss rfl rfl) ?_
    refine dn ?_
    refine hw_seq ?_
    refine hw_cond rfl (fun h3 => ?_) (fun h4 => ?_)
    ·try simp at h3
     obtain ⟨y, hy⟩ : ∃ y, C[k]? = some y := ⟨_, List.getElem?_eq_getElem h3⟩
     have hdy := drop_cons hy
     refine hw_skip ?_
     refine seqQ_n ?_
     refine hw_seq ?_
     refine hw_block ?_
     refine hw_reg ?_
     refine dp rfl (pop_idx ty82 ty81 rfl rfl rfl (by assumption)) ?_
     refine dp rfl (pop_loadw ty81 rfl rfl rfl rfl) ?_
     refine de rfl (eop_alloc ty81 rfl fun b12 => ?_)
     refine de0 (eop_storew ty81 rfl rfl rfl rfl rfl ?_)
     refine dn ?_
     refine hw_ghost (Ghost.fc0 12 rfl) ?_
     refine hw_reg ?_
     refine dp rfl (pop_fieldAddr ty81 rfl ty3 (by decide) rfl) ?_
     refine dp rfl (pop_load ty3 rfl rfl rfl) ?_
     refine dp rfl (pop_gtr rfl rfl) ?_
     refine dn ?_
     refine hw_cond rfl (fun h5 => ?_) (fun h6 => ?_)
     ·try simp at h5
      refine hw_reg ?_
      refine dp rfl (pop_move rfl) ?_
      refine dp rfl (pop_fieldAddr ty81 rfl ty3 (by decide) rfl) ?_
      refine dp rfl (pop_load ty3 rfl rfl rfl) ?_
      have hb1 := field_bd (f := ofP l) (p := p) (i := i) (fun s m y => mem_chosen) hon hp hv
      have hb2 := pos_bd (k := k) hCm hCl hv
      have hb3 := hv y (hCm y (List.mem_of_getElem? hy))
      have hb4 := sumV_app (fieldedL (ofP l) (p.take i)) ((C.take k).filter (fun y => decide (0 < y.Value)))
      refine dp rfl (pop_add64 rfl rfl (by omega) (by omega)) ?_
      refine dp rfl (pop_assign rfl) ?_
      refine dn ?_
      refine hw_reg1 ?_
      refine dp rfl (pop_move rfl) ?_
      refine dp rfl (pop_fieldAddr ty81 rfl ty9 (by decide) rfl) ?_
      refine dp rfl (pop_load ty9 rfl rfl rfl) ?_
      refine dp rfl (pop_buildSlice (hs := [_]) ty77 ty9 rfl rfl (by decide) (by decide) rfl) ?_
      refine de rfl (eop_append (i := 0) ty77 ty9 rfl rfl rfl rfl rfl (by simp [flat, hcells]) (by simp only [List.length_map, List.length_append, List.length_cons, List.length_nil]; omega) fun v46 => ?_)
      refine dp rfl (pop_assign rfl) ?_
      refine dn ?_
      refine blockQ_n ?_
      refine seqQ_n ?_
      refine hw_reg1 ?_
      refine dp rfl (pop_add64 rfl rfl (by omega) (by omega)) ?_
      refine dp rfl (pop_move rfl) ?_
      refine dn ?_
      exact ⟨k + 1, _, ⟨by omega, trivial⟩, by dsimp only; omega, ⟨rfl, some_int (by rw [pos_snoc hy, if_pos (by simp_all), ← List.append_assoc, sumV_app _ [y]]; simp [sumV]), rfl, trivial⟩, (by repeat (first | exact keeps_refl | refine keeps_upd rfl ?_ | refine keeps_loop rfl rfl ?_)), perm_eq (by dsimp only; rw [pos_snoc hy, if_pos (by simp_all)]; simp)⟩
     ·try simp at h6
      refine hw_skip ?_
      refine blockQ_n ?_
      refine seqQ_n ?_
      refine hw_reg1 ?_
      refine dp rfl (pop_add64 rfl rfl (by omega) (by omega)) ?_
      refine dp rfl (pop_move rfl) ?_
      refine dn ?_
      exact ⟨k + 1, _, ⟨by omega, trivial⟩, by dsimp only; omega, ⟨rfl, some_int (by rw [pos_snoc hy, if_neg (by omega)]; simp), rfl, trivial⟩, (by repeat (first | exact keeps_refl | refine keeps_upd rfl ?_ | refine keeps_loop rfl rfl ?_)), perm_eq (by dsimp only; rw [pos_snoc hy, if_neg (by omega)]; simp)⟩
    ·try simp at h4
     have hnk : C.length ≤ k := by omega
     obtain rfl : k = C.length := by omega
     refine hw_exit ?_
     refine seqQ_x ?_
     refine loopQ2_x ?_
     refine blockQ_eq ?_
     refine blockQ_n ?_
     refine seqQ_n ?_
     refine hw_reg1 ?_
     refine dp rfl (pop_add64 rfl rfl (by omega) (by omega)) ?_
     refine dp rfl (pop_move rfl) ?_
     refine dn ?_
     exact ⟨i + 1, _, ⟨by omega, trivial⟩, by dsimp only; omega, ⟨rfl, some_int (by rw [fieldedL_snoc _ hx, chosen_eq hN, hCd, List.take_length]), rfl, trivial⟩, (by repeat (first | exact keeps_refl | refine keeps_upd rfl ?_ | refine keeps_loop rfl rfl ?_)), perm_eq (by dsimp only; rw [fieldedL_snoc _ hx, chosen_eq hN, hCd, List.take_length])⟩
  ·try simp at h2
   have hni : p.length ≤ i := by omega
   obtain rfl : i = p.length := by omega
   refine hw_exit ?_
   refine seqQ_x ?_
   refine loopQ2_x ?_
   refine blockQ_eq ?_
   refine seqQ_n ?_
   rw [List.take_length]
   refine hw_reg ?_
   refine dp rfl (pop_move rfl) ?_
   refine de rfl (eop_callx (i := 0) ca108 rfl (WeakL.refl _) rfl (c_slices_Sort (l := (fieldedL (ofP l) p).map (·.Player)) (by have hb1 := field_bd (f := ofP l) (p := p) (i := p.length) (fun s m y => mem_chosen) hon hp hv; rw [List.take_length] at hb1; simp; omega)) ?_)
   rintro _ _ ⟨rfl, rfl⟩
   refine dn ?_
   refine hw_reg ?_
   refine dp rfl (pop_move rfl) ?_
   refine dp rfl (pop_move rfl) ?_
   refine dp rfl (pop_assign rfl) ?_
   refine dp rfl (pop_assign rfl) ?_
   refine dn ?_
   refine hw_ret ?_
   exact ret_fa (M := []) 5 rfl rfl rfl
end Go.Proofs.YtbihpphgoaflfaaGreatDoor
end
section
namespace Go.Proofs.YtbihpphgoaflfaaGreatDoor
open Go.HL
set_option maxRecDepth 100000
set_option linter.unusedVariables false
set_option linter.unusedSimpArgs false
/-- benchwarmer/value.Fielded -/
theorem c_value_Fielded [Tracks] {l : List Asset} {p : List HL.Place} (hl : l.length ≤ 11) (hp : p.length ≤ 1000000) : ConP Tryz.prog 46 [eAssets l, ePlaces p] (.tup [.int .i64 (if okAP l p != 0 then 0 else sumF l p), eSs (if okAP l p != 0 then [] else namesV (fieldedL (ofP l) p)), .int .i64 (okAP l p)]) := by
 refine Con.of_body Tryz.func46 rfl Tryz.ntmps46 rfl rfl ?_
 refine hw_reg ?_
 refine dp rfl (pop_assign rfl) ?_
 refine dp rfl (pop_assign rfl) ?_
 refine dp rfl (pop_assign rfl) ?_
 refine dn ?_
 refine hw_seq ?_
 refine hw_reg ?_
 refine dp rfl (pop_move rfl) ?_
 refine dp rfl (pop_call ca77 rfl (WeakL.refl _) (c_value_CheckAssets (by omega))) ?_
 refine dp rfl (pop_move rfl) ?_
 refine dp rfl (pop_call ca78 rfl (WeakL.refl _) (c_value_CheckPlaces (by assumption))) ?_
 refine dp rfl (pop_buildSlice (hs := [_, _]) ty96 ty31 rfl rfl (by decide) (by decide) rfl) ?_
 refine dp rfl (pop_call ca49 rfl (WeakL.refl _) (c_base_First (l := [_, _]) (by simp))) ?_
 refine dp rfl (pop_assign rfl) ?_
 refine dn ?_
 refine hw_reg ?_
 refine dp rfl (pop_move rfl) ?_
 refine dp rfl (pop_neq rfl rfl) ?_
 refine dn ?_
 refine hw_cond rfl (fun h1 => ?_) (fun h2 => ?_)
 ·try simp at h1
  refine hw_reg ?_
  refine dp rfl (pop_move rfl) ?_
  refine dp rfl (pop_assign rfl) ?_
  refine dp rfl (pop_assign rfl) ?_
  refine dp rfl (pop_assign rfl) ?_
  refine dn ?_
  refine hw_ret ?_
  (refine ret_w rfl (weak_tup3 ?_ ?_ (Weak.refl _))
   ·rw [if_pos (by simpa [okAP] using h1)]; exact Weak.refl _
   ·rw [if_pos (by simpa [okAP] using h1)]; exact weak_nil 1)
 ·try simp at h2
  refine hw_skip ?_
  refine seqQ_n ?_
  obtain ⟨hca0, hcp0⟩ := okAP_ok (l := l) (p := p) (by simpa [okAP] using h2)
  obtain ⟨hsr, haf⟩ := checkAssets_ok hca0
  obtain ⟨hmm, hp10⟩ := checkPlaces_ok hcp0
  have hvv : ∀ x ∈ l, -1000000 ≤ x.Value ∧ x.Value ≤ 1000000 := fun x hx => (assetFault_ok (haf x hx)).2.2
  refine hw_reg ?_
  refine dp rfl (pop_move rfl) ?_
  refine dp rfl (pop_move rfl) ?_
  refine dp rfl (pop_call ca79 rfl (WeakL.refl _) (c_value_fielded (by omega) (by assumption) (by simp_all) (by assumption))) ?_
  refine dp rfl (pop_move rfl) ?_
  refine dp rfl (pop_extract rfl rfl) ?_
  refine dp rfl (pop_extract rfl rfl) ?_
  refine dp rfl (pop_assign rfl) ?_
  refine dp rfl (pop_assign rfl) ?_
  refine dn ?_
  refine hw_reg ?_
  refine dp rfl (pop_move rfl) ?_
  refine dp rfl (pop_move rfl) ?_
  refine dp rfl (pop_assign rfl) ?_
  refine dp rfl (pop_assign rfl) ?_
  refine dp rfl (pop_assign rfl) ?_
  refine dn ?_
  refine hw_ret ?_
  (refine ret_p rfl ?_
   have h0 : okAP l p = 0 := by simpa [okAP] using h2
   simp [h0, sumF, ofVal, ofVal1])

end Go.Proofs.YtbihpphgoaflfaaGreatDoor
end
section
namespace Go.Proofs.YtbihpphgoaflfaaGreatDoor
open Go.HL
set_option maxRecDepth 100000
set_option linter.unusedVariables false
set_option linter.unusedSimpArgs false

end Go.Proofs.YtbihpphgoaflfaaGreatDoor
end
section
namespace Go.Proofs.YtbihpphgoaflfaaGreatDoor
open Go.HL
set_option maxRecDepth 100000
set_option linter.unusedVariables false
set_option linter.unusedSimpArgs false

end Go.Proofs.YtbihpphgoaflfaaGreatDoor
end
section
namespace Go.Proofs.YtbihpphgoaflfaaGreatDoor
open Go.HL
set_option maxRecDepth 100000
set_option linter.unusedVariables false
set_option linter.unusedSimpArgs false

end Go.Proofs.YtbihpphgoaflfaaGreatDoor
end
section
namespace Go.HL
def room1 : Room := ⟨[[97], [98]], 2, 2, [[112], [113], [114], [115]], 1000, 0⟩
theorem room1_ok : checkSwaps room1 [] = 0 := by kernel_rfl
theorem room1_turns : turnTeams room1 [] = [[97], [98], [98], [97]] := by kernel_rfl
end Go.HL
end
section
namespace Go.HL
open Op (bytesLess)
abbrev pick0 : Pick := ⟨0, [], [], 0, false⟩
theorem pw_tri {α : Type} {R : α → α → Prop} : ∀ {l : List α}, l.Pairwise R → ∀ x ∈ l, ∀ y ∈ l, x = y ∨ R x y ∨ R y x
 | [], _, x, hx, _, _ => by simp at hx
 | a :: l, h, x, hx, y, hy => by
   obtain ⟨h1, h2⟩ := List.pairwise_cons.1 h
   rcases List.mem_cons.1 hx with e | hx' <;> rcases List.mem_cons.1 hy with e' | hy'
   ·exact .inl (e.trans e'.symm)
   ·exact .inr (.inl (e ▸ h1 y hy'))
   ·exact .inr (.inr (e' ▸ h1 x hx'))
   ·exact pw_tri h2 x hx' y hy'
/-! keeps that are right -/
def kLt (a b : Keep) : Prop := bytesLess a.Team b.Team = true ∨ (a.Team = b.Team ∧ a.Round < b.Round)
structure KeepsOk (r : Room) (k : List Keep) : Prop where
 all : ∀ x ∈ k, x.Team ∈ r.Teams ∧ x.Player ∈ r.Players ∧ 1 ≤ x.Round ∧ x.Round ≤ r.Rounds
 lt : k.Pairwise kLt
theorem risingGo_key {l : List Str} : ∀ (r : List Str) (k : Nat), risingGo l k r = 0 → ∀ s ∈ r, key s = true
 | [], _, _, s, hs => by simp at hs
 | x :: r, k, h, s, hs => by
   simp only [risingGo] at h
   split at h
   ·omega
   ·rename_i h1
    split at h
    ·omega
    ·rcases List.mem_cons.1 hs with rfl | hs
     ·simpa using h1
     ·exact risingGo_key r (k + 1) h s hs
structure RoomOk (r : Room) : Prop where
 sorted : SortedS r.Players
 t20 : r.Teams.length ≤ 20
 t0 : 0 < r.Teams.length
 r1 : 1 ≤ r.Rounds
 r30 : r.Rounds ≤ 30
 p500 : r.Players.length ≤ 500
 ne : ∀ s ∈ r.Players, s ≠ []
 many : (r.Teams.length : Int) * r.Rounds ≤ r.Players.length
 clock : 1000 ≤ r.Clock ∧ r.Clock ≤ 86400000
 start : moment r.Start = true
theorem room_ok {r : Room} (h : checkRoom r = 0) : RoomOk r := by
 obtain ⟨a1, a2, a3, a4, a5, a6⟩ := checkRoom_ok h
 unfold checkRoom at h
 split at h
 ·rename_i hc; simp [h] at hc
 ·split at h
  ·omega
  ·split at h
   ·omega
   ·split at h
    ·rename_i hc; simp [h] at hc
    ·rename_i hp
     split at h
     ·omega
     ·rename_i hcl
      split at h
      ·omega
      ·rename_i hm
       simp at hcl hp
       refine ⟨a1, a2, a3, a4, a5, a6, fun s hs e => ?_, by omega, out_f hcl.1, hcl.2⟩
       unfold playersFault at hp
       split at hp
       ·omega
       ·have := risingGo_key _ 0 hp s hs
        subst e; simp [key, keyHd] at this
def fits (t : Turn) (x : Keep) : Bool := decide (x.Team = t.of ∧ x.Round = t.round)
theorem keepIn_fix (r : Room) (t : Turn) : ∀ (k : List Keep) (p : Pick), (keepIn r t p k).No = p.No ∧ (keepIn r t p k).Team = p.Team
 | [], p => ⟨rfl, rfl⟩
 | x :: k, p => by
   obtain ⟨h1, h2⟩ := keepIn_fix r t k (if x.Team = t.of ∧ x.Round = t.round then { p with Player := x.Player, At := r.Start } else p)
   simp only [keepIn]; rw [h1, h2]
   split <;> exact ⟨rfl, rfl⟩
theorem KeepsOk.one {r : Room} {k : List Keep} (h : KeepsOk r k) {t : Turn} {x y : Keep} (hx : x ∈ k) (hy : y ∈ k) (fx : fits t x = true) (fy : fits t y = true) : y = x := by
 simp [fits] at fx fy
 rcases pw_tri h.lt x hx y hy with e | e | e
 ·exact e.symm
 ·exfalso
  rcases e with e | ⟨e1, e2⟩
  ·rw [fx.1, fy.1, less_irrefl] at e; cases e
  ·omega
 ·exfalso
  rcases e with e | ⟨e1, e2⟩
  ·rw [fx.1, fy.1, less_irrefl] at e; cases e
  ·omega
def freeP (r : Room) (k : List Keep) (s : List Swap) : List Pick := (open1 r k s).filter fun p => p.Player == []
def goneB (k : List Keep) (l : List Pick) (s : Str) : Bool := k.any (fun x => x.Player == s) || l.any (fun p => p.Player == s)
end Go.HL
end
section
namespace Go.HL
def lastAt (r : Room) (l : List Pick) : Int := match l.getLast? with | some p => p.At | none => r.Start
def pkF (r : Room) (k : List Keep) (fr l : List Pick) (p : Pick) : Int :=
 if !(moment p.At) then 1 else if !(p.No == (fr.getD l.length pick0).No) then 7 else if !(p.Team == (fr.getD l.length pick0).Team) then 13
 else if !(r.Players.contains p.Player) then 8 else if goneB k l p.Player then 6 else if p.At < lastAt r l then 11 else 0
def pksGo (r : Room) (k : List Keep) (fr l : List Pick) : Nat → List Pick → Int
 | _, [] => 0
 | i, p :: t => if pkF r k fr (l.take i) p != 0 then pkF r k fr (l.take i) p else pksGo r k fr l (i + 1) t
def pksR (r : Room) (k : List Keep) (s : List Swap) (l : List Pick) : Int := if (freeP r k s).length < l.length then 2 else pksGo r k (freeP r k s) l 0 l
def picksE (r : Room) (k : List Keep) (s : List Swap) (l : List Pick) : Int := if openFault r k s != 0 then openFault r k s else pksR r k s l
theorem pgo_ne {r : Room} {k : List Keep} {fr l : List Pick} {i : Nat} {p : Pick} {t : List Pick} (h : pkF r k fr (l.take i) p ≠ 0) : pksGo r k fr l i (p :: t) = pkF r k fr (l.take i) p := by
 rw [pksGo, if_pos (by simpa using h)]
theorem pgo_z {r : Room} {k : List Keep} {fr l : List Pick} {i : Nat} {p : Pick} {t : List Pick} (h : pkF r k fr (l.take i) p = 0) : pksGo r k fr l i (p :: t) = pksGo r k fr l (i + 1) t := by
 rw [pksGo, if_neg (by simp [h])]
section
variable {r : Room} {k : List Keep} {fr l : List Pick} {p : Pick}
theorem pkF_ok (h : pkF r k fr l p = 0) : moment p.At = true ∧ p.No = (fr.getD l.length pick0).No ∧ p.Team = (fr.getD l.length pick0).Team ∧ p.Player ∈ r.Players ∧ goneB k l p.Player = false := by
 unfold pkF at h
 split at h
 ·omega
 ·rename_i h1
  split at h
  ·omega
  ·rename_i h2
   split at h
   ·omega
   ·rename_i h3
    split at h
    ·omega
    ·rename_i h4
     split at h
     ·omega
     ·rename_i h5
      simp at h1 h2 h3 h4 h5
      exact ⟨h1, h2, h3, h4, h5⟩
end
theorem picksE_ok {r : Room} {k : List Keep} {s : List Swap} {l : List Pick} (h : picksE r k s l = 0) : openFault r k s = 0 ∧ l.length ≤ (freeP r k s).length ∧ pksGo r k (freeP r k s) l 0 l = 0 := by
 unfold picksE at h
 split at h
 ·rename_i hc; simp [h] at hc
 ·rename_i hc
  unfold pksR at h
  split at h
  ·omega
  ·exact ⟨by simpa using hc, by omega, h⟩
theorem pksGo_at {r : Room} {k : List Keep} {fr l : List Pick} : ∀ (t : List Pick) (i : Nat), l.drop i = t → pksGo r k fr l i t = 0 → ∀ (j : Nat) (p : Pick), i ≤ j → l[j]? = some p → pkF r k fr (l.take j) p = 0
 | [], i, hd, _, j, p, hj, hp => by
   have := lt_of_get hp
   have h2 : l.length ≤ i := by rw [← List.drop_eq_nil_iff]; exact hd
   omega
 | x :: t, i, hd, h, j, p, hj, hp => by
   have hk : l[i]? = some x := by
    have := congrArg (fun q => q[0]?) hd
    simpa using this
   have hd' : l.drop (i + 1) = t := by
    have := drop_cons hk
    rw [hd] at this; simp at this; exact this.symm
   by_cases e : pkF r k fr (l.take i) x = 0
   ·rw [pgo_z e] at h
    by_cases hij : i = j
    ·subst hij; rw [hk] at hp; cases hp; exact e
    ·exact pksGo_at t (i + 1) hd' h j p (by omega) hp
   ·rw [pgo_ne e] at h; exact absurd h e
structure Wish where
 Team : Str
 Players : List Str
theorem goneB_snoc (k : List Keep) (l : List Pick) (p : Pick) (s : Str) : goneB k (l ++ [p]) s = (goneB k l s || p.Player == s) := by
 simp [goneB, Bool.or_assoc]
/-! what a run holds -/
structure RunOk (r : Room) (k : List Keep) (s : List Swap) (l : List Pick) (S : List Str) : Prop where
 gone : ∀ x ∈ r.Players, S.contains x = goneB k l x
theorem RunOk.add {r : Room} {k : List Keep} {s : List Swap} {l : List Pick} {S : List Str} (ok : RunOk r k s l S) (p : Pick) : RunOk r k s (l ++ [p]) (sadd p.Player S) :=
 ⟨fun x hx => by rw [goneB_snoc, sadd_contains, ok.gone x hx]⟩
end Go.HL
end
section
namespace Go.HL
section
variable {r : Room} {w : List Wish} {k : Nat} {x : Wish} {t : List Wish}
end
end Go.HL
end
section
namespace Go.Proofs.YtbihpphgoaflfaaGreatDoor
open Go.HL
set_option maxRecDepth 100000
set_option linter.unusedVariables false
set_option linter.unusedSimpArgs false

end Go.Proofs.YtbihpphgoaflfaaGreatDoor
end
section
namespace Go.Proofs.YtbihpphgoaflfaaGreatDoor
open Go.HL
set_option maxRecDepth 100000
set_option linter.unusedVariables false
set_option linter.unusedSimpArgs false

end Go.Proofs.YtbihpphgoaflfaaGreatDoor
end
section
namespace Go.Proofs.YtbihpphgoaflfaaGreatDoor
open Go.HL
set_option maxRecDepth 100000
set_option linter.unusedVariables false
set_option linter.unusedSimpArgs false
end Go.Proofs.YtbihpphgoaflfaaGreatDoor
end
section
namespace Go.Proofs.YtbihpphgoaflfaaGreatDoor
open Go.HL
set_option maxRecDepth 100000
set_option linter.unusedVariables false
set_option linter.unusedSimpArgs false

end Go.Proofs.YtbihpphgoaflfaaGreatDoor
end
section
namespace Go.Proofs.YtbihpphgoaflfaaGreatDoor
open Go.HL
set_option maxRecDepth 100000
set_option linter.unusedVariables false
set_option linter.unusedSimpArgs false

end Go.Proofs.YtbihpphgoaflfaaGreatDoor
end
section
namespace Go.Proofs.YtbihpphgoaflfaaGreatDoor
open Go.HL
set_option maxRecDepth 100000
set_option linter.unusedVariables false
set_option linter.unusedSimpArgs false

end Go.Proofs.YtbihpphgoaflfaaGreatDoor
end
section
namespace Go.Proofs.YtbihpphgoaflfaaGreatDoor
open Go.HL
set_option maxRecDepth 100000
set_option linter.unusedVariables false
set_option linter.unusedSimpArgs false

end Go.Proofs.YtbihpphgoaflfaaGreatDoor
end
section
namespace Go.Proofs.YtbihpphgoaflfaaGreatDoor
open Go.HL
set_option maxRecDepth 100000
set_option linter.unusedVariables false
set_option linter.unusedSimpArgs false

end Go.Proofs.YtbihpphgoaflfaaGreatDoor
end
section
namespace Go.HL
section
variable {r : Room} {k : List Keep} {s : List Swap} {l : List Pick} {w : List Wish} {n : Int}
end
end Go.HL
end
section
namespace Go.HL
section
variable {r : Room} {k : List Keep} {s : List Swap} {l : List Pick}
def putNo (A : List Pick) (p : Pick) : List Pick := A.set p.No.toNat p
def NoInc (A : List Pick) : Prop := ∀ (i : Nat) (p : Pick), A[i]? = some p → p.No = (i : Int)
theorem openFrom_no : ∀ (t : List Turn) (i j : Nat) (p : Pick), (openFrom r k i t)[j]? = some p → p.No = ((i + j : Nat) : Int)
 | [], i, j, p, h => by simp [openFrom] at h
 | x :: t, i, 0, p, h => by
   simp only [openFrom, List.getElem?_cons_zero, Option.some.injEq] at h
   subst h; rw [(keepIn_fix r x k _).1]; rfl
 | x :: t, i, j + 1, p, h => by
   simp only [openFrom, List.getElem?_cons_succ] at h
   rw [openFrom_no t (i + 1) j p h]; congr 1; omega
theorem open_no : NoInc (open1 r k s) := fun i p h => by
 have := openFrom_no _ 0 i p h
 rw [this]; congr 1; omega
theorem NoInc.pw {A : List Pick} (h : NoInc A) : A.Pairwise fun a b => a.No < b.No :=
 List.pairwise_iff_getElem.2 fun i j hi hj hij => by
  rw [h i _ (List.getElem?_eq_getElem hi), h j _ (List.getElem?_eq_getElem hj)]; omega
theorem NoInc.put {A : List Pick} (h : NoInc A) {p : Pick} (hp : 0 ≤ p.No) : NoInc (putNo A p) := fun i x hx => by
 unfold putNo at hx
 by_cases e : p.No.toNat = i
 ·subst e
  have hlt := lt_of_get hx
  rw [List.length_set] at hlt
  rw [List.getElem?_set_self hlt] at hx; cases hx; omega
 ·rw [List.getElem?_set_ne e] at hx; exact h i x hx
theorem filter_set {α : Type} (q : α → Bool) {x y : α} (hx : q x = true) (hy : q y = false) : ∀ {A : List α} {j : Nat}, A[j]? = some y → ((A.set j x).filter q).Perm (A.filter q ++ [x])
 | [], j, h => by simp at h
 | a :: A, 0, h => by
   simp at h; subst h
   simp only [List.set_cons_zero, List.filter_cons, hx, hy, if_true, Bool.false_eq_true, if_false]
   exact (List.perm_append_comm (l₁ := [x]))
 | a :: A, j + 1, h => by
   simp only [List.getElem?_cons_succ] at h
   have := filter_set q hx hy h
   simp only [List.set_cons_succ, List.filter_cons]
   split
   ·exact this.cons a
   ·exact this
def isP (p : Pick) : Bool := !(p.Player == [])
structure AllOk (r : Room) (k : List Keep) (s : List Swap) (l : List Pick) (i : Nat) (A : List Pick) : Prop where
 inc : NoInc A
 len : A.length = (open1 r k s).length
 free : ∀ (j : Nat) (p : Pick), i ≤ j → (freeP r k s)[j]? = some p → A[p.No.toNat]? = some p
 perm : (A.filter isP).Perm ((open1 r k s).filter isP ++ l.take i)
theorem free_mem {j : Nat} {p : Pick} (h : (freeP r k s)[j]? = some p) : p ∈ open1 r k s ∧ p.Player = [] := by
 have := List.mem_filter.1 (List.mem_of_getElem? h)
 exact ⟨this.1, by simpa using this.2⟩
theorem free_at {j : Nat} {p : Pick} (h : (freeP r k s)[j]? = some p) : 0 ≤ p.No ∧ (open1 r k s)[p.No.toNat]? = some p := by
 obtain ⟨m, hm⟩ := List.getElem?_of_mem (free_mem h).1
 have := open_no m p hm
 exact ⟨by omega, by rw [this]; simpa using hm⟩
theorem pick_at (h : picksE r k s l = 0) {i : Nat} {x : Pick} (hx : l[i]? = some x) : ∃ p, (freeP r k s)[i]? = some p ∧ x.No = p.No ∧ x.Player ≠ [] := by
 obtain ⟨h1, h2, h3⟩ := picksE_ok h
 have hi := lt_of_get hx
 obtain ⟨_, a2, _, a4, _⟩ := pkF_ok (pksGo_at l 0 rfl h3 i x (Nat.zero_le _) hx)
 have hg := getD_some (d := pick0) (show i < (freeP r k s).length by omega)
 refine ⟨_, hg, ?_, (room_ok (openFault_ok h1).1).ne _ a4⟩
 rw [a2]; congr 2; simp; omega
theorem AllOk.step (h : picksE r k s l = 0) {i : Nat} {x : Pick} (hx : l[i]? = some x) {A : List Pick} (ok : AllOk r k s l i A) : AllOk r k s l (i + 1) (putNo A x) ∧ 0 ≤ x.No ∧ x.No.toNat < A.length ∧ ∃ y, A[x.No.toNat]? = some y := by
 obtain ⟨p, hp, hn, hpl⟩ := pick_at h hx
 obtain ⟨n0, _⟩ := free_at hp
 have hA := ok.free i p (Nat.le_refl _) hp
 have hlt := lt_of_get hA
 refine ⟨⟨ok.inc.put (by omega), by unfold putNo; rw [List.length_set]; exact ok.len, fun j q hj hq => ?_, ?_⟩, by omega, by rw [hn]; exact hlt, p, by rw [hn]; exact hA⟩
 ·have hq1 := ok.free j q (by omega) hq
  have hne : p.No < q.No := by
   have hpw : (freeP r k s).Pairwise fun a b => a.No < b.No := (open_no (r := r) (k := k) (s := s)).pw.sublist List.filter_sublist
   obtain ⟨hi', e1⟩ := List.getElem?_eq_some_iff.1 hp
   obtain ⟨hj', e2⟩ := List.getElem?_eq_some_iff.1 hq
   have := List.pairwise_iff_getElem.1 hpw i j hi' hj' (by omega)
   rw [e1, e2] at this; exact this
  unfold putNo
  rw [List.getElem?_set_ne (by omega)]; exact hq1
 ·have hf := filter_set isP (x := x) (y := p) (by unfold isP; simpa using hpl) (by unfold isP; simp [(free_mem hp).2]) hA
  unfold putNo
  rw [hn, take_snoc' hx, ← List.append_assoc]
  exact hf.trans (ok.perm.append_right _)
end
end Go.HL
end
section
namespace Go.HL
section
variable {P : Program} {e : Env} {dst : Option Tmp} {ty : TypeId} {pos : String} {af : Array Edge} {g : Option (Nat × Bool)} {M : List MObj} {K : HVal → List MObj → Prop}
end
end Go.HL
end
section
namespace Go.Proofs.YtbihpphgoaflfaaGreatDoor
open Go.HL
set_option maxRecDepth 100000
set_option linter.unusedVariables false
set_option linter.unusedSimpArgs false

end Go.Proofs.YtbihpphgoaflfaaGreatDoor
end
section
namespace Go.HL
def goalS : Str := [103, 111, 97, 108]
def play1 : Play := ⟨[115], 1, 0, 1, [109], [112], goalS, 2, 0⟩
def line1 : LineS := ⟨[112], 1, [⟨goalS, 2⟩]⟩
theorem ready_ln : lnGo [play1] [[115]] 1 5 [play1] = ⟨[[112]], [(([112], goalS), 2)]⟩ := by kernel_rfl
theorem ready_or : orI [playsE [play1], trustE [[115]]] = 0 := by kernel_rfl
theorem ready_full : fullB [(([112], goalS), 2)] [[112]] = false := by kernel_rfl
theorem ready_stats : statsOf [(([112], goalS), 2)] [112] = [⟨goalS, 2⟩] := by kernel_rfl
theorem ready_E : LinesE [play1] [[115]] 1 5 = 0 := by
 rw [LinesE, ready_or, if_neg (by decide), if_neg (by decide), linesE, ready_ln, clinesE, ready_full]; rfl
theorem ready_L : LinesL [play1] [[115]] 1 5 = [line1] := by
 rw [LinesL, ready_or, if_neg (by decide), if_neg (by decide), linesL, ready_ln, clinesL, ready_full, if_neg (by decide)]
 simp [sortS, ready_stats, line1]
end Go.HL
end
section
namespace Go.Proofs.YtbihpphgoaflfaaGreatDoor
open Go.HL
set_option maxRecDepth 100000
set_option linter.unusedVariables false
set_option linter.unusedSimpArgs false
/-- benchwarmer/benchkeep1.ready -/
theorem c_benchkeep1_ready [Tracks]  (hT : Tracks.on = false) : ConP Tryz.prog 30 [] (.bool true) := by
 refine Con.of_body Tryz.func30 rfl Tryz.ntmps30 rfl rfl ?_
 refine hw_reg ?_
 refine dp rfl (pop_assign rfl) ?_
 refine dn ?_
 refine hw_reg ?_
 refine dp rfl (pop_build (cs := [_, _, _, _, _, _, _, _, _]) ty109 pl109 rfl) ?_
 refine dp rfl (pop_buildSlice (hs := [_]) ty110 ty109 rfl rfl (by decide) (by decide) rfl) ?_
 refine dp rfl (pop_buildSlice (hs := [_]) ty77 ty9 rfl rfl (by decide) (by decide) rfl) ?_
 refine dp rfl (pop_call (hs' := [ePlays [play1], eSs [[115]], .int .i64 1, .int .i64 5]) ca64 rfl (WeakL.refl _) (c_play_Lines hT (by decide) (by decide))) ?_
 refine dp rfl (pop_move rfl) ?_
 refine dp rfl (pop_extract rfl rfl) ?_
 refine dp rfl (pop_extract rfl rfl) ?_
 refine dp rfl (pop_assign rfl) ?_
 refine dp rfl (pop_assign rfl) ?_
 refine dn ?_
 simp only [ready_E, ready_L]
 refine hw_reg ?_
 refine dp rfl (pop_buildSlice (hs := [_, _]) ty77 ty9 rfl rfl (by decide) (by decide) rfl) ?_
 refine dp rfl (pop_buildSlice (hs := [_, _, _, _]) ty77 ty9 rfl rfl (by decide) (by decide) rfl) ?_
 refine dp rfl (pop_build (cs := [_, _, _, _, _, _]) ty112 pl112 rfl) ?_
 refine de rfl (eop_alloc ty112 rfl fun b3 => ?_)
 refine de0 (eop_storew ty112 rfl rfl rfl rfl rfl ?_)
 refine dn ?_
 refine hw_ghost (Ghost.fc0 3 rfl) ?_
 refine hw_reg ?_
 refine dp rfl (pop_loadw ty112 rfl rfl rfl rfl) ?_
 refine dp rfl (pop_call (hs' := [eRoom room1, eSwaps []]) ca65 rfl ⟨Weak.refl _, weak_nil 3, trivial⟩ (c_draft_Turns (r := room1) (s := []) (by decide) (by decide) (by decide))) ?_
 refine dp rfl (pop_move rfl) ?_
 refine dp rfl (pop_extract rfl rfl) ?_
 refine dp rfl (pop_extract rfl rfl) ?_
 refine dp rfl (pop_assign rfl) ?_
 refine dp rfl (pop_assign rfl) ?_
 refine dn ?_
 simp only [room1_turns, room1_ok]
 refine hw_reg ?_
 refine dp rfl (pop_build (cs := [_, _, _]) ty81 pl81 rfl) ?_
 refine dp rfl (pop_buildSlice (hs := [_]) ty82 ty81 rfl rfl (by decide) (by decide) rfl) ?_
 refine dp rfl (pop_build (cs := [_, _]) ty84 pl84 rfl) ?_
 refine dp rfl (pop_buildSlice (hs := [_]) ty85 ty84 rfl rfl (by decide) (by decide) rfl) ?_
 refine dp rfl (pop_call (hs' := [eAssets [asset1], ePlaces [place1]]) ca46 rfl (WeakL.refl _) (c_value_Fielded (l := [asset1]) (p := [place1]) (by decide) (by decide))) ?_
 refine dp rfl (pop_move rfl) ?_
 refine dp rfl (pop_extract rfl rfl) ?_
 refine dp rfl (pop_extract rfl rfl) ?_
 refine dp rfl (pop_extract rfl rfl) ?_
 refine dp rfl (pop_assign rfl) ?_
 refine dp rfl (pop_assign rfl) ?_
 refine dp rfl (pop_assign rfl) ?_
 refine dn ?_
 simp only [one_ok, one_sum, one_names]
 refine hw_reg ?_
 refine dp rfl (pop_move rfl) ?_
 refine dp rfl (pop_eql rfl rfl) ?_
 refine dp rfl (pop_move rfl) ?_
 refine dg rfl rfl (fun hc => ⟨_, OpenTo.refl _, pop_move rfl⟩) ?_
 refine dg rfl rfl (fun hc => ⟨_, OpenTo.upd (t := 36) rfl (hc) (OpenTo.refl _), pop_lenm ty105 rfl⟩) ?_
 refine dg rfl rfl (fun hc => ⟨_, OpenTo.upd (t := 37) rfl (hc) (OpenTo.refl _), pop_eql rfl rfl⟩) ?_
 refine dp rfl (pop_picko rfl (.inr ⟨_, rfl, fun h => by simp_all⟩) (.inl rfl)) ?_
 refine dp rfl (pop_move rfl) ?_
 refine dg rfl rfl (fun hc => ⟨_, OpenTo.refl _, pop_move rfl⟩) ?_
 refine dg rfl rfl (fun hc => ⟨_, OpenTo.upd (t := 41) rfl (hc) (OpenTo.refl _), pop_idx (j := 0) (a := line1) ty105 ty117 rfl rfl rfl rfl⟩) ?_
 refine dg rfl rfl (fun hc => ⟨_, OpenTo.upd (t := 42) rfl (hc) (OpenTo.refl _), pop_fieldAddr ty117 rfl ty115 (by decide) rfl⟩) ?_
 refine dg rfl rfl (fun hc => ⟨_, OpenTo.upd (t := 43) rfl (hc) (OpenTo.refl _), pop_load ty115 rfl rfl rfl⟩) ?_
 refine dg rfl rfl (fun hc => ⟨_, OpenTo.upd (t := 44) rfl (hc) (OpenTo.refl _), pop_lenm ty115 rfl⟩) ?_
 refine dg rfl rfl (fun hc => ⟨_, OpenTo.upd (t := 45) rfl (hc) (OpenTo.refl _), pop_eql rfl rfl⟩) ?_
 refine dp rfl (pop_picko rfl (.inr ⟨_, rfl, fun h => by simp_all⟩) (.inl rfl)) ?_
 refine dp rfl (pop_move rfl) ?_
 refine dg rfl rfl (fun hc => ⟨_, OpenTo.refl _, pop_move rfl⟩) ?_
 refine dg rfl rfl (fun hc => ⟨_, OpenTo.upd (t := 49) rfl (hc) (OpenTo.refl _), pop_eql rfl rfl⟩) ?_
 refine dp rfl (pop_picko rfl (.inr ⟨_, rfl, fun h => by simp_all⟩) (.inl rfl)) ?_
 refine dp rfl (pop_move rfl) ?_
 refine dg rfl rfl (fun hc => ⟨_, OpenTo.refl _, pop_move rfl⟩) ?_
 refine dg rfl rfl (fun hc => ⟨_, OpenTo.refl _, pop_buildSlice (hs := [_, _, _, _]) ty77 ty9 rfl rfl (by decide) (by decide) rfl⟩) ?_
 refine dg rfl rfl (fun hc => ⟨_, OpenTo.upd (t := 54) rfl (hc) (OpenTo.upd (t := 53) rfl (hc) (OpenTo.refl _)), pop_call ca47 rfl (WeakL.refl _) (c_slices_Equal_string_string (l := [[97], [98], [98], [97]]) (m := [[97], [98], [98], [97]]) (by decide))⟩) ?_
 refine dp rfl (pop_picko rfl (.inr ⟨_, rfl, fun h => by simp_all⟩) (.inl rfl)) ?_
 refine dp rfl (pop_move rfl) ?_
 refine dg rfl rfl (fun hc => ⟨_, OpenTo.refl _, pop_move rfl⟩) ?_
 refine dg rfl rfl (fun hc => ⟨_, OpenTo.upd (t := 58) rfl (hc) (OpenTo.refl _), pop_eql rfl rfl⟩) ?_
 refine dp rfl (pop_picko rfl (.inr ⟨_, rfl, fun h => by simp_all⟩) (.inl rfl)) ?_
 refine dp rfl (pop_move rfl) ?_
 refine dg rfl rfl (fun hc => ⟨_, OpenTo.refl _, pop_move rfl⟩) ?_
 refine dg rfl rfl (fun hc => ⟨_, OpenTo.upd (t := 62) rfl (hc) (OpenTo.refl _), pop_eql rfl rfl⟩) ?_
 refine dp rfl (pop_picko rfl (.inr ⟨_, rfl, fun h => by simp_all⟩) (.inl rfl)) ?_
 refine dp rfl (pop_assign rfl) ?_
 refine dn ?_
 refine hw_ret ?_
 refine ret_p rfl ?_
 rfl
end Go.Proofs.YtbihpphgoaflfaaGreatDoor
end
section
namespace Go.HL
structure OutS where
 Points : Int
 Weight : Int
structure HopeS where
 Player : Str
 Outs : List OutS
abbrev eOut (x : OutS) : HVal := .agg [.int .i64 x.Points, .int .i64 x.Weight]
abbrev eOuts (l : List OutS) : HVal := .slice 2 (l.map eOut)
abbrev eHope (x : HopeS) : HVal := .agg [.str x.Player, eOuts x.Outs]
abbrev eHopes (l : List HopeS) : HVal := .slice 2 (l.map eHope)
def out0 : OutS := ⟨0, 0⟩
def hope0 : HopeS := ⟨[], []⟩
def outB (y : OutS) : Bool := out y.Points (-100000) 100000 || out y.Weight 1 1000
def outsGo (O : List OutS) : Nat → List OutS → Int
 | _, [] => 0
 | k, y :: r => if outB y then 1 else if 0 < k ∧ y.Points ≤ (O.getD (k - 1) out0).Points then 7 else outsGo O (k + 1) r
def hopeF (h : List HopeS) (k : Nat) (x : HopeS) : Int :=
 if !(key x.Player) then 5 else if 0 < k ∧ leS x.Player (h.getD (k - 1) hope0).Player = true then 7 else if x.Outs.length = 0 then 8 else if 8 < x.Outs.length then 2 else outsGo x.Outs 0 x.Outs
def hopesGo (h : List HopeS) : Nat → List HopeS → Int
 | _, [] => 0
 | k, x :: r => if hopeF h k x ≠ 0 then hopeF h k x else hopesGo h (k + 1) r
def hopesE (h : List HopeS) : Int := if 12 < h.length then 2 else hopesGo h 0 h
theorem outsGo_ok {O : List OutS} : ∀ (r : List OutS) (k : Nat), outsGo O k r = 0 → ∀ y ∈ r, (-100000 ≤ y.Points ∧ y.Points ≤ 100000) ∧ (1 ≤ y.Weight ∧ y.Weight ≤ 1000)
 | [], _, _, y, hy => by cases hy
 | x :: r, k, h, y, hy => by
   rw [outsGo] at h
   split at h
   ·omega
   ·rename_i h1
    split at h
    ·omega
    ·rcases List.mem_cons.1 hy with rfl | hy
     ·unfold outB at h1
      simp only [Bool.or_eq_true, not_or, Bool.not_eq_true] at h1
      exact ⟨out_f h1.1, out_f h1.2⟩
     ·exact outsGo_ok r (k + 1) h y hy
structure HopeOk (x : HopeS) : Prop where
 key : key x.Player = true
 pos : 1 ≤ x.Outs.length
 len : x.Outs.length ≤ 8
 bd : ∀ y ∈ x.Outs, (-100000 ≤ y.Points ∧ y.Points ≤ 100000) ∧ (1 ≤ y.Weight ∧ y.Weight ≤ 1000)
theorem hopeF_ok {h : List HopeS} {k : Nat} {x : HopeS} (e : hopeF h k x = 0) : HopeOk x := by
 unfold hopeF at e
 split at e
 ·omega
 split at e
 ·omega
 split at e
 ·omega
 split at e
 ·omega
 rename_i h1 _ h3 h4
 exact ⟨by simpa using h1, by omega, by omega, outsGo_ok _ _ e⟩
theorem hopesGo_ok {h : List HopeS} : ∀ (r : List HopeS) (k : Nat), hopesGo h k r = 0 → ∀ x ∈ r, HopeOk x
 | [], _, _, x, hx => by cases hx
 | y :: r, k, e, x, hx => by
   rw [hopesGo] at e
   split at e
   ·contradiction
   ·rename_i h1
    rcases List.mem_cons.1 hx with rfl | hx
    ·exact hopeF_ok (by simpa using h1)
    ·exact hopesGo_ok r (k + 1) e x hx
theorem hopes_ok {h : List HopeS} (e : hopesE h = 0) : h.length ≤ 12 ∧ ∀ x ∈ h, HopeOk x := by
 unfold hopesE at e
 split at e
 ·omega
 ·exact ⟨by omega, hopesGo_ok h 0 e⟩
/-! sums of weights -/
def sumW : List OutS → Int
 | [] => 0
 | y :: r => y.Weight + sumW r
theorem sumW_append : ∀ (a b : List OutS), sumW (a ++ b) = sumW a + sumW b
 | [], b => by simp [sumW]
 | x :: a, b => by have := sumW_append a b; simp only [List.cons_append, sumW]; omega
theorem sumW_bd : ∀ (l : List OutS), (∀ y ∈ l, 1 ≤ y.Weight ∧ y.Weight ≤ 1000) → (l.length : Int) ≤ sumW l ∧ sumW l ≤ 1000 * l.length
 | [], _ => by simp [sumW]
 | x :: l, h => by
   have ih := sumW_bd l fun y hy => h y (List.mem_cons_of_mem _ hy)
   have hx := h x List.mem_cons_self
   simp only [sumW, List.length_cons]; omega
theorem sumW_take {l : List OutS} (h : ∀ y ∈ l, 1 ≤ y.Weight ∧ y.Weight ≤ 1000) (k : Nat) : 0 ≤ sumW (l.take k) ∧ sumW (l.take k) ≤ sumW l := by
 have h1 := sumW_bd (l.take k) fun y hy => h y (List.mem_of_mem_take hy)
 have h2 := sumW_bd (l.drop k) fun y hy => h y (List.mem_of_mem_drop hy)
 have h3 := sumW_append (l.take k) (l.drop k)
 rw [List.take_append_drop] at h3
 omega
theorem HopeOk.sum {x : HopeS} (h : HopeOk x) : 1 ≤ sumW x.Outs ∧ sumW x.Outs ≤ 8000 := by
 have := sumW_bd x.Outs fun y hy => (h.bd y hy).2
 have := h.pos
 have := h.len
 omega
abbrev most : Int := 1000000000000
/-- The product as the program makes it: it stops where it is too great. -/
def prodP : List HopeS → Int → Int
 | [], n => n
 | x :: r, n => if most < n * sumW x.Outs then most + 1 else prodP r (n * sumW x.Outs)
/-- And as the references do. -/
def prodR : List HopeS → Int → Int
 | [], n => n
 | x :: r, n => prodR r (min (n * sumW x.Outs) (most + 1))
theorem prodR_full : ∀ (h : List HopeS), (∀ x ∈ h, HopeOk x) → prodR h (most + 1) = most + 1
 | [], _ => rfl
 | x :: r, h => by
   have hs := (h x List.mem_cons_self).sum
   have hm : (most + 1) * 1 ≤ (most + 1) * sumW x.Outs := Int.mul_le_mul_of_nonneg_left hs.1 (by decide)
   rw [prodR, Int.min_eq_right (by omega)]
   exact prodR_full r fun y hy => h y (List.mem_cons_of_mem _ hy)
/-- The true product. -/
def prodT : List HopeS → Int
 | [] => 1
 | x :: r => sumW x.Outs * prodT r
theorem prodT_pos : ∀ (h : List HopeS), (∀ x ∈ h, HopeOk x) → 1 ≤ prodT h
 | [], _ => by simp [prodT]
 | x :: r, h => by
   have ih := prodT_pos r fun y hy => h y (List.mem_cons_of_mem _ hy)
   have hs := (h x List.mem_cons_self).sum
   rw [prodT]
   have : 1 * 1 ≤ sumW x.Outs * prodT r := Int.mul_le_mul hs.1 ih (by decide) (by omega)
   omega
theorem prodT_snoc (h : List HopeS) (x : HopeS) : prodT (h ++ [x]) = prodT h * sumW x.Outs := by
 induction h with
 | nil => simp [prodT]
 | cons y h ih => rw [List.cons_append, prodT, prodT, ih, Int.mul_assoc]
theorem prodP_is : ∀ (h : List HopeS) (n : Int), 1 ≤ n → n ≤ most → (∀ x ∈ h, HopeOk x) → (prodP h n ≤ most → prodP h n = n * prodT h) ∧ (most < prodP h n → most < n * prodT h) ∧ 1 ≤ prodP h n ∧ prodP h n ≤ most + 1
 | [], n, h0, h1, _ => by simp [prodP, prodT]; omega
 | x :: r, n, h0, h1, h => by
   have hr := fun y hy => h y (List.mem_cons_of_mem x hy)
   have hs := (h x List.mem_cons_self).sum
   have hp := prodT_pos r hr
   have e : n * prodT (x :: r) = n * sumW x.Outs * prodT r := by rw [prodT, Int.mul_assoc]
   have hn : 1 ≤ n * sumW x.Outs := by
    have : 1 * 1 ≤ n * sumW x.Outs := Int.mul_le_mul h0 hs.1 (by decide) (by omega)
    omega
   rw [prodP]
   by_cases c : most < n * sumW x.Outs
   ·rw [if_pos c]
    refine ⟨fun q => by omega, fun _ => ?_, by decide, by omega⟩
    rw [e]
    have : n * sumW x.Outs * 1 ≤ n * sumW x.Outs * prodT r := Int.mul_le_mul_of_nonneg_left hp (by omega)
    omega
   ·rw [if_neg c]
    have := prodP_is r (n * sumW x.Outs) hn (by omega) hr
    rw [e]; exact this
end Go.HL
end
section
namespace Go.HL
abbrev NW := List (Int × Int)
theorem perm_of_alk {A B : NW} (ha : ANodup A) (hb : ANodup B) (h : ∀ k, alk k A = alk k B) : A.Perm B := by
 have nd : ∀ {L : NW}, ANodup L → L.Nodup := fun {L} hL => (List.pairwise_map.1 hL).imp fun hne e => hne (by rw [e])
 refine (List.perm_ext_iff_of_nodup (nd ha) (nd hb)).2 fun p => ?_
 obtain ⟨x, v⟩ := p
 rw [alk_mem ha, alk_mem hb, h]
/-- The sum of what is told of k. -/
def sumAt (k : Int) : NW → Int
 | [] => 0
 | p :: r => (if p.1 = k then p.2 else 0) + sumAt k r
theorem sumAt_perm {k : Int} {A B : NW} (h : A.Perm B) : sumAt k A = sumAt k B := by
 induction h with
 | nil => rfl
 | cons x _ ih => simp only [sumAt, ih]
 | swap x y l => simp only [sumAt]; omega
 | trans _ _ h1 h2 => rw [h1, h2]
theorem sumAt_append (k : Int) : ∀ A B : NW, sumAt k (A ++ B) = sumAt k A + sumAt k B
 | [], B => by simp [sumAt]
 | p :: A, B => by have := sumAt_append k A B; simp only [List.cons_append, sumAt, this]; omega
def addM (N : NW) (p : Int × Int) : NW := aput p.1 ((alk p.1 N).getD 0 + p.2) N
def sumM (ps : NW) : NW := ps.foldl addM []
theorem sumM_snoc (ps : NW) (p : Int × Int) : sumM (ps ++ [p]) = addM (sumM ps) p := by unfold sumM; rw [List.foldl_append]; rfl
theorem addM_nodup : ∀ (ps : NW) (N : NW), ANodup N → ANodup (ps.foldl addM N)
 | [], _, h => h
 | p :: ps, N, h => addM_nodup ps _ h.put
theorem sumM_nodup (ps : NW) : ANodup (sumM ps) := addM_nodup ps [] ANodup.nil
theorem addM_alk (k : Int) : ∀ (ps : NW) (N : NW), alk k (ps.foldl addM N) = if (alk k N).isSome = true ∨ k ∈ ps.map (·.1) then some ((alk k N).getD 0 + sumAt k ps) else none
 | [], N => by
   cases h : alk k N with
   | none => simp [sumAt, h]
   | some v => simp [sumAt, h]
 | p :: ps, N => by
   rw [List.foldl_cons, addM_alk k ps]
   unfold addM
   rw [alk_put]
   by_cases e : k = p.1
   ·rw [if_pos e]
    simp only [Option.isSome_some, true_or, if_true, Option.getD_some, List.map_cons, List.mem_cons, e, sumAt]
    simp only [true_or, or_true, if_true]
    congr 1; omega
   ·have e' : ¬ p.1 = k := fun q => e q.symm
    simp only [if_neg e, List.map_cons, List.mem_cons, e, false_or, sumAt, if_neg e', Int.zero_add, if_false]
theorem sumM_alk (k : Int) (ps : NW) : alk k (sumM ps) = if k ∈ ps.map (·.1) then some (sumAt k ps) else none := by
 have := addM_alk k ps []
 have h0 : (alk k ([] : NW)).isSome = false := rfl
 rw [h0] at this
 simp only [Bool.false_eq_true, false_or] at this
 simpa [alk, sumM] using this
theorem sumM_perm {ps qs : NW} (h : ps.Perm qs) : (sumM ps).Perm (sumM qs) := by
 refine perm_of_alk (sumM_nodup _) (sumM_nodup _) fun k => ?_
 rw [sumM_alk, sumM_alk, sumAt_perm h]
 have : k ∈ ps.map (·.1) ↔ k ∈ qs.map (·.1) := (h.map (fun p : Int × Int => p.1)).mem_iff
 by_cases c : k ∈ ps.map (·.1)
 ·rw [if_pos c, if_pos (this.1 c)]
 ·rw [if_neg c, if_neg fun q => c (this.2 q)]
/-- One player more. -/
def one (p : Int × Int) (O : List OutS) : NW := O.map fun o => (p.1 + o.Points, p.2 * o.Weight)
def expand (L : NW) (O : List OutS) : NW := L.flatMap fun p => one p O
theorem expand_perm {L L' : NW} (h : L.Perm L') (O : List OutS) : (expand L O).Perm (expand L' O) := h.flatMap_right _
theorem expand_snoc (L : NW) (p : Int × Int) (O : List OutS) : expand (L ++ [p]) O = expand L O ++ one p O := by unfold expand; rw [List.flatMap_append]; simp
theorem one_snoc {O : List OutS} {k : Nat} {o : OutS} (p : Int × Int) (h : O[k]? = some o) : one p (O.take (k + 1)) = one p (O.take k) ++ [(p.1 + o.Points, p.2 * o.Weight)] := by
 unfold one; rw [take_snoc' h, List.map_append]; rfl
def czGo (L : NW) (h : List HopeS) : NW := h.foldl (fun L x => sumM (expand L x.Outs)) L
def cz (h : List HopeS) : NW := czGo [(0, 1)] h
theorem cz_snoc {h : List HopeS} {k : Nat} {x : HopeS} (hx : h[k]? = some x) : cz (h.take (k + 1)) = sumM (expand (cz (h.take k)) x.Outs) := by
 unfold cz czGo; rw [take_snoc' hx, List.foldl_append]; rfl
theorem cz_nodup : ∀ h : List HopeS, ANodup (cz h) := by
 intro h
 have key : ∀ (h : List HopeS) (L : NW), ANodup L → ANodup (czGo L h) := by
  intro h
  induction h with
  | nil => intro L hL; exact hL
  | cons x h ih => intro L _; exact ih _ (sumM_nodup _)
 exact key h _ (by simp [ANodup])
/-! totals -/
def tot : NW → Int
 | [] => 0
 | p :: r => p.2 + tot r
theorem tot_append : ∀ A B : NW, tot (A ++ B) = tot A + tot B
 | [], B => by simp [tot]
 | p :: A, B => by have := tot_append A B; simp only [List.cons_append, tot, this]; omega
theorem tot_perm {A B : NW} (h : A.Perm B) : tot A = tot B := by
 induction h with
 | nil => rfl
 | cons x _ ih => simp only [tot, ih]
 | swap x y l => simp only [tot]; omega
 | trans _ _ h1 h2 => rw [h1, h2]
theorem tot_put (k v : Int) : ∀ (N : NW), tot (aput k ((alk k N).getD 0 + v) N) = tot N + v
 | [] => by simp [aput, alk, tot]
 | p :: r => by
   have ih := tot_put k v r
   simp only [aput, alk]
   by_cases h : k = p.1
   ·rw [if_pos h, if_pos h]; simp only [Option.getD_some, tot]; omega
   ·rw [if_neg h, if_neg h]; simp only [tot, ih]; omega
theorem tot_addM : ∀ (ps : NW) (N : NW), tot (ps.foldl addM N) = tot N + tot ps
 | [], N => by simp [tot]
 | p :: ps, N => by rw [List.foldl_cons, tot_addM ps]; unfold addM; rw [tot_put]; simp only [tot]; omega
theorem tot_sumM (ps : NW) : tot (sumM ps) = tot ps := by
 have := tot_addM ps []
 simpa [sumM, tot] using this
theorem tot_one (p : Int × Int) : ∀ O : List OutS, tot (one p O) = p.2 * sumW O
 | [] => by simp [one, tot, sumW]
 | o :: O => by
   have ih := tot_one p O
   unfold one at *
   rw [List.map_cons, tot, sumW, ih, Int.mul_add]
theorem tot_expand (O : List OutS) : ∀ L : NW, tot (expand L O) = tot L * sumW O
 | [] => by simp [expand, tot]
 | p :: L => by
   have ih := tot_expand O L
   unfold expand at *
   rw [List.flatMap_cons, tot_append, tot_one, ih, tot, Int.add_mul]
/-- All weights are above 0. -/
def PosW (L : NW) : Prop := ∀ p ∈ L, 1 ≤ p.2
theorem PosW.tot {L : NW} (h : PosW L) : 0 ≤ tot L := by
 induction L with
 | nil => simp [HL.tot]
 | cons p L ih =>
   have := ih fun q hq => h q (List.mem_cons_of_mem _ hq)
   have := h p List.mem_cons_self
   simp only [HL.tot]; omega
theorem PosW.le {L : NW} (h : PosW L) {p : Int × Int} (hp : p ∈ L) : p.2 ≤ HL.tot L := by
 induction L with
 | nil => cases hp
 | cons q L ih =>
   have hL : PosW L := fun q hq => h q (List.mem_cons_of_mem _ hq)
   have h1 := hL.tot
   have h2 := h q List.mem_cons_self
   rcases List.mem_cons.1 hp with rfl | hp
   ·simp only [HL.tot]; omega
   ·have := ih hL hp; simp only [HL.tot]; omega
theorem PosW.alk {L : NW} (h : PosW L) (k : Int) : 0 ≤ (alk k L).getD 0 ∧ (alk k L).getD 0 ≤ HL.tot L := by
 cases hq : HL.alk k L with
 | none => have := h.tot; simp; omega
 | some v =>
   have hm := alk_of_mem hq
   have h1 := h _ hm
   have h2 := h.le hm
   simp only [Option.getD_some]
   simp only at h1 h2
   omega
theorem PosW.addM {N : NW} (h : PosW N) {p : Int × Int} (hp : 1 ≤ p.2) : PosW (HL.addM N p) := fun q hq => by
 rcases mem_aput hq with rfl | hq
 ·have := (h.alk p.1).1; dsimp only; omega
 ·exact h q hq
theorem PosW.sumM {ps : NW} (h : PosW ps) : PosW (HL.sumM ps) := by
 have key : ∀ (ps : NW) (N : NW), PosW N → PosW ps → PosW (ps.foldl HL.addM N) := by
  intro ps
  induction ps with
  | nil => intro N hN _; exact hN
  | cons p ps ih => intro N hN hp; exact ih _ (hN.addM (hp p List.mem_cons_self)) fun q hq => hp q (List.mem_cons_of_mem _ hq)
 exact key ps [] (fun q hq => by cases hq) h
theorem PosW.one {p : Int × Int} (hp : 1 ≤ p.2) {O : List OutS} (hO : ∀ y ∈ O, 1 ≤ y.Weight) : PosW (HL.one p O) := fun q hq => by
 obtain ⟨o, ho, rfl⟩ := List.mem_map.1 hq
 have := hO o ho
 have : 1 * 1 ≤ p.2 * o.Weight := Int.mul_le_mul hp this (by decide) (by omega)
 dsimp only; omega
theorem PosW.expand {L : NW} (h : PosW L) {O : List OutS} (hO : ∀ y ∈ O, 1 ≤ y.Weight) : PosW (HL.expand L O) := fun q hq => by
 obtain ⟨p, hp, hq⟩ := List.mem_flatMap.1 hq
 exact PosW.one (h p hp) hO q hq
theorem cz_pos {h : List HopeS} (ok : ∀ x ∈ h, HopeOk x) : PosW (cz h) ∧ tot (cz h) = prodT h := by
 have key : ∀ k, k ≤ h.length → PosW (cz (h.take k)) ∧ tot (cz (h.take k)) = prodT (h.take k) := by
  intro k
  induction k with
  | zero => intro _; exact ⟨fun q hq => by simp [cz, czGo] at hq; rw [hq]; decide, by simp [cz, czGo, tot, prodT]⟩
  | succ k ih =>
    intro hk
    have hx := List.getElem?_eq_getElem (l := h) (i := k) (by omega)
    obtain ⟨i1, i2⟩ := ih (by omega)
    have hw := ok _ (List.mem_of_getElem? hx)
    rw [cz_snoc hx, take_snoc' hx, prodT_snoc, tot_sumM, tot_expand, i2]
    exact ⟨(i1.expand fun y hy => (hw.bd y hy).2.1).sumM, rfl⟩
 have := key h.length (Nat.le_refl _)
 rwa [List.take_length] at this
/-- The sums stay small. -/
def BdP (B : Int) (L : NW) : Prop := ∀ p ∈ L, -B ≤ p.1 ∧ p.1 ≤ B
theorem sumM_keys {ps : NW} {p : Int × Int} (h : p ∈ sumM ps) : ∃ q ∈ ps, q.1 = p.1 := by
 have h1 := (alk_mem (sumM_nodup ps) (x := p.1) (v := p.2)).1 h
 rw [sumM_alk] at h1
 by_cases c : p.1 ∈ ps.map (·.1)
 ·obtain ⟨q, hq, e⟩ := List.mem_map.1 c
  exact ⟨q, hq, e⟩
 ·rw [if_neg c] at h1; cases h1
theorem cz_bd {h : List HopeS} (ok : ∀ x ∈ h, HopeOk x) : BdP (100000 * h.length) (cz h) := by
 have key : ∀ k, k ≤ h.length → BdP (100000 * k) (cz (h.take k)) := by
  intro k
  induction k with
  | zero => intro _ q hq; simp [cz, czGo] at hq; rw [hq]; decide
  | succ k ih =>
    intro hk p hp
    have hx := List.getElem?_eq_getElem (l := h) (i := k) (by omega)
    rw [cz_snoc hx] at hp
    obtain ⟨q, hq, e⟩ := sumM_keys hp
    obtain ⟨r, hr, hq⟩ := List.mem_flatMap.1 hq
    obtain ⟨o, ho, rfl⟩ := List.mem_map.1 hq
    have h1 := ih (by omega) r hr
    have h2 := ((ok _ (List.mem_of_getElem? hx)).bd o ho).1
    rw [← e]; dsimp only; omega
 have := key h.length (Nat.le_refl _)
 rwa [List.take_length] at this
end Go.HL
end
section
namespace Go.HL
section
variable {κ : Type}
end
end Go.HL
end
section
namespace Go.HL
section
variable {P : Program} {e : Env} {dst : Option Tmp} {ty : TypeId} {pos : String} {af : Array Edge} {g : Option (Nat × Bool)} {M : List MObj} {K : HVal → List MObj → Prop}
end
end Go.HL
end
section
namespace Go.HL
variable {P : Program}
open Go.Sort Go.Proofs
def sortI (l : List Int) : List Int := l.mergeSort fun x y => decide (x ≤ y)
theorem sortI_len (l : List Int) : (sortI l).length = l.length := by simp [sortI]
end Go.HL
end
section
namespace Go.HL
def mom : NW → Int
 | [] => 0
 | p :: r => p.1 * p.2 + mom r
theorem mom_append : ∀ A B : NW, mom (A ++ B) = mom A + mom B
 | [], B => by simp [mom]
 | p :: A, B => by have := mom_append A B; simp only [List.cons_append, mom, this]; omega
def aboveW (n : Int) : NW → Int
 | [] => 0
 | p :: r => (if n ≤ p.1 then p.2 else 0) + aboveW n r
theorem aboveW_append (n : Int) : ∀ A B : NW, aboveW n (A ++ B) = aboveW n A + aboveW n B
 | [], B => by simp [aboveW]
 | p :: A, B => by have := aboveW_append n A B; simp only [List.cons_append, aboveW, this]; omega
theorem aboveW_perm {n : Int} {A B : NW} (h : A.Perm B) : aboveW n A = aboveW n B := by
 induction h with
 | nil => rfl
 | cons x _ ih => simp only [aboveW, ih]
 | swap x y l => simp only [aboveW]; omega
 | trans _ _ h1 h2 => rw [h1, h2]
theorem aboveW_bd (n : Int) : ∀ {L : NW}, PosW L → 0 ≤ aboveW n L ∧ aboveW n L ≤ tot L
 | [], _ => by simp [aboveW, tot]
 | p :: L, h => by
   have ih := aboveW_bd n (L := L) fun q hq => h q (List.mem_cons_of_mem _ hq)
   have := h p List.mem_cons_self
   simp only [aboveW, tot]
   split <;> omega
/-! outcomes in order -/
def toOut (p : Int × Int) : OutS := ⟨p.1, p.2⟩
def ofOut (o : OutS) : Int × Int := (o.Points, o.Weight)
theorem ofTo (L : NW) : (L.map toOut).map ofOut = L := by
 rw [List.map_map]
 exact List.map_id L
def byPts (a b : OutS) : Int := cmpI a.Points b.Points
theorem byPts_cmp : Cmp byPts fun _ => True where
 flip x y _ _ := by unfold byPts; rw [cmpI_flip x.Points y.Points]; omega
 trans x y z _ _ _ h1 h2 := by unfold byPts at *; rw [cmpI_le] at *; omega
def spreadL (h : List HopeS) : List OutS := isort byPts ((cz h).map toOut)
theorem pts_one {L : NW} (hn : ANodup L) {x y : OutS} (hx : x ∈ L.map toOut) (hy : y ∈ L.map toOut) (e : byPts x y = 0) : x = y := by
 obtain ⟨p, hp, rfl⟩ := List.mem_map.1 hx
 obtain ⟨q, hq, rfl⟩ := List.mem_map.1 hy
 have e1 : p.1 = q.1 := cmpI_zero.1 e
 have a := (alk_mem hn (x := p.1) (v := p.2)).1 hp
 have b := (alk_mem hn (x := q.1) (v := q.2)).1 hq
 rw [← e1, a] at b
 have e2 : p.2 = q.2 := Option.some.inj b
 unfold toOut; rw [e1, e2]
/-- Any order of the sums, sorted, is the spread. -/
theorem spread_of {h : List HopeS} {E : NW} (hE : E.Perm (cz h)) {Y : List OutS} (hp : Y.Perm (E.map toOut)) (hs : Y.Pairwise fun a b => ¬ byPts b a < 0) : Y = spreadL h :=
 isort_of_sorted byPts_cmp (fun x y hx hy e => pts_one (cz_nodup h) hx hy e) (hp.trans (hE.map _)) hs
theorem sortI_sorted (l : List Int) : (sortI l).Pairwise fun a b => a ≤ b := by
 have := List.pairwise_mergeSort (le := fun x y : Int => decide (x ≤ y)) (fun a b c h1 h2 => by simp only [decide_eq_true_eq] at *; omega) (fun a b => by simp only [Bool.or_eq_true, decide_eq_true_eq]; omega) l
 exact this.imp fun {a b} h => by simpa using h
theorem sortI_perm (l : List Int) : (sortI l).Perm l := List.mergeSort_perm _ _
theorem spread_keys {h : List HopeS} {L : NW} (hL : L.Perm (cz h)) : (sortI (L.map (·.1))).map (fun n => (⟨n, (alk n L).getD 0⟩ : OutS)) = spreadL h := by
 have hn : ANodup L := (cz_nodup h).perm hL
 refine spread_of hL ?_ ?_
 ·refine ((sortI_perm (L.map (·.1))).map _).trans ?_
  rw [List.map_map]
  refine List.Perm.of_eq (List.map_congr_left fun p hp => ?_)
  have := (alk_mem hn (x := p.1) (v := p.2)).1 hp
  show (⟨p.1, (alk p.1 L).getD 0⟩ : OutS) = toOut p
  rw [this]; rfl
 ·rw [List.pairwise_map]
  exact (sortI_sorted _).imp fun {a b} hab => by
   show ¬ cmpI b a < 0
   have h2 := (cmpI_le (a := a) (b := b)).2 hab
   have h3 := cmpI_flip a b
   omega
theorem spreadL_perm (h : List HopeS) : ((spreadL h).map ofOut).Perm (cz h) := by
 have := (isort_perm byPts ((cz h).map toOut)).map ofOut
 rw [ofTo] at this
 exact this
theorem spreadL_len (h : List HopeS) : (spreadL h).length = (cz h).length := by unfold spreadL; rw [isort_len, List.length_map]
/-! fractions -/
structure FracS where
 Num : Int
 Den : Int
abbrev eFrac (x : FracS) : HVal := .agg [.int .i64 x.Num, .int .i64 x.Den]
def gcdI (a b : Int) : Int := (Nat.gcd a.toNat b.toNat : Nat)
def lowF (n d : Int) : FracS := ⟨n.tdiv (gcdI (max n (-n)) d), d.tdiv (gcdI (max n (-n)) d)⟩
theorem gcd_step {a b : Int} (ha : 0 ≤ a) (hb : 0 < b) : gcdI b (a.tmod b) = gcdI a b := by
 unfold gcdI
 congr 1
 have e : (a.tmod b).toNat = a.toNat % b.toNat := by
  rw [Int.tmod_eq_emod_of_nonneg ha]
  have h1 := Int.toNat_emod ha (by omega : 0 ≤ b)
  exact h1
 rw [e, Nat.gcd_comm b.toNat, ← Nat.gcd_rec, Nat.gcd_comm]
theorem gcd_done {a : Int} (ha : 0 ≤ a) : gcdI a 0 = a := by
 unfold gcdI; simp; omega
theorem gcd_pos {a b : Int} (hb : 0 < b) : 0 < gcdI a b := by
 unfold gcdI
 have := Nat.gcd_pos_of_pos_right a.toNat (n := b.toNat) (by omega)
 omega
end Go.HL
end
section
namespace Go.HL
def belowW (n : Int) : List OutS → Int
 | [] => 0
 | q :: r => (if q.Points < n then q.Weight else 0) + belowW n r
def atW (n : Int) : List OutS → Int
 | [] => 0
 | q :: r => (if q.Points = n then q.Weight else 0) + atW n r
def overW (n : Int) : List OutS → Int
 | [] => 0
 | q :: r => (if n < q.Points then q.Weight else 0) + overW n r
theorem belowW_append (n : Int) : ∀ A B : List OutS, belowW n (A ++ B) = belowW n A + belowW n B
 | [], B => by simp [belowW]
 | p :: A, B => by have := belowW_append n A B; simp only [List.cons_append, belowW, this]; omega
theorem three_W (n : Int) : ∀ Y : List OutS, belowW n Y + atW n Y + overW n Y = sumW Y
 | [] => by simp [belowW, atW, overW, sumW]
 | q :: Y => by
   have ih := three_W n Y
   simp only [belowW, atW, overW, sumW]
   by_cases h1 : q.Points < n
   ·rw [if_pos h1, if_neg (by omega), if_neg (by omega)]; omega
   ·by_cases h2 : q.Points = n
    ·rw [if_neg h1, if_pos h2, if_neg (by omega)]; omega
    ·rw [if_neg h1, if_neg h2, if_pos (by omega)]; omega
/-- All weights are above 0. -/
def PosO (Y : List OutS) : Prop := ∀ q ∈ Y, 1 ≤ q.Weight
theorem PosO.tail {q : OutS} {Y : List OutS} (h : PosO (q :: Y)) : PosO Y := fun x hx => h x (List.mem_cons_of_mem _ hx)
theorem PosO.take {Y : List OutS} (h : PosO Y) (k : Nat) : PosO (Y.take k) := fun x hx => h x (List.mem_of_mem_take hx)
theorem three_pos (n : Int) : ∀ {Y : List OutS}, PosO Y → 0 ≤ belowW n Y ∧ 0 ≤ atW n Y ∧ 0 ≤ overW n Y ∧ 0 ≤ sumW Y
 | [], _ => by simp [belowW, atW, overW, sumW]
 | q :: Y, h => by
   have ih := three_pos n h.tail
   have := h q List.mem_cons_self
   simp only [belowW, atW, overW, sumW]
   refine ⟨?_, ?_, ?_, ?_⟩ <;> (try split) <;> omega
theorem sumW_takeO {Y : List OutS} (h : PosO Y) (k : Nat) : 0 ≤ sumW (Y.take k) ∧ sumW (Y.take k) ≤ sumW Y := by
 have h1 := (three_pos 0 (h.take k)).2.2.2
 have h2 := (three_pos 0 (Y := Y.drop k) fun x hx => h x (List.mem_of_mem_drop hx)).2.2.2
 have h3 := sumW_append (Y.take k) (Y.drop k)
 rw [List.take_append_drop] at h3
 omega
theorem belowW_all {n : Int} : ∀ {Y : List OutS}, (∀ q ∈ Y, q.Points < n) → belowW n Y = sumW Y
 | [], _ => rfl
 | q :: Y, h => by
   have ih := belowW_all (Y := Y) fun x hx => h x (List.mem_cons_of_mem _ hx)
   have := h q List.mem_cons_self
   simp only [belowW, sumW, ih, if_pos this]
theorem belowW_no {n : Int} : ∀ {Y : List OutS}, (∀ q ∈ Y, n ≤ q.Points) → belowW n Y = 0
 | [], _ => rfl
 | q :: Y, h => by
   have ih := belowW_no (Y := Y) fun x hx => h x (List.mem_cons_of_mem _ hx)
   have := h q List.mem_cons_self
   simp only [belowW, ih]
   rw [if_neg (by omega)]; rfl
/-- The walk along the sorted ones stops where the rest is not less. -/
theorem belowW_at {n : Int} {Y : List OutS} {i : Nat} (h1 : ∀ q ∈ Y.take i, q.Points < n) (h2 : ∀ q ∈ Y.drop i, n ≤ q.Points) : belowW n Y = sumW (Y.take i) := by
 have h3 := belowW_append n (Y.take i) (Y.drop i)
 rw [List.take_append_drop, belowW_all h1, belowW_no h2] at h3
 omega
def IncO (Y : List OutS) : Prop := Y.Pairwise fun a b => a.Points < b.Points
theorem IncO.drop {Y : List OutS} (h : IncO Y) {i : Nat} {n : Int} {q : OutS} (hq : Y[i]? = some q) (hn : n ≤ q.Points) : ∀ x ∈ Y.drop i, n ≤ x.Points := by
 intro x hx
 have hi : i < Y.length := (List.getElem?_eq_some_iff.1 hq).1
 have he : Y[i] = q := (List.getElem?_eq_some_iff.1 hq).2
 rw [List.drop_eq_getElem_cons hi, he] at hx
 rcases List.mem_cons.1 hx with rfl | hx
 ·exact hn
 ·have hp : (Y.drop i).Pairwise fun a b => a.Points < b.Points := List.Pairwise.sublist (List.drop_sublist i Y) h
  rw [List.drop_eq_getElem_cons hi, he] at hp
  have := (List.pairwise_cons.1 hp).1 x hx
  omega
def winS (Y : List OutS) : List OutS → Int
 | [] => 0
 | p :: r => p.Weight * belowW p.Points Y + winS Y r
def drawS (Y : List OutS) : List OutS → Int
 | [] => 0
 | p :: r => p.Weight * atW p.Points Y + drawS Y r
def loseS (Y : List OutS) : List OutS → Int
 | [] => 0
 | p :: r => p.Weight * overW p.Points Y + loseS Y r
theorem winS_append (Y : List OutS) : ∀ A B, winS Y (A ++ B) = winS Y A + winS Y B
 | [], B => by simp [winS]
 | p :: A, B => by have := winS_append Y A B; simp only [List.cons_append, winS, this]; omega
theorem drawS_append (Y : List OutS) : ∀ A B, drawS Y (A ++ B) = drawS Y A + drawS Y B
 | [], B => by simp [drawS]
 | p :: A, B => by have := drawS_append Y A B; simp only [List.cons_append, drawS, this]; omega
theorem loseS_append (Y : List OutS) : ∀ A B, loseS Y (A ++ B) = loseS Y A + loseS Y B
 | [], B => by simp [loseS]
 | p :: A, B => by have := loseS_append Y A B; simp only [List.cons_append, loseS, this]; omega
theorem winS_take {X : List OutS} {j : Nat} {p : OutS} (h : X[j]? = some p) (Y : List OutS) : winS Y (X.take (j + 1)) = winS Y (X.take j) + p.Weight * belowW p.Points Y := by
 rw [take_snoc' h, winS_append]; simp [winS]
theorem drawS_take {X : List OutS} {j : Nat} {p : OutS} (h : X[j]? = some p) (Y : List OutS) : drawS Y (X.take (j + 1)) = drawS Y (X.take j) + p.Weight * atW p.Points Y := by
 rw [take_snoc' h, drawS_append]; simp [drawS]
theorem loseS_take {X : List OutS} {j : Nat} {p : OutS} (h : X[j]? = some p) (Y : List OutS) : loseS Y (X.take (j + 1)) = loseS Y (X.take j) + p.Weight * overW p.Points Y := by
 rw [take_snoc' h, loseS_append]; simp [loseS]
theorem three_S {Y : List OutS} : ∀ X : List OutS, winS Y X + drawS Y X + loseS Y X = sumW X * sumW Y
 | [] => by simp [winS, drawS, loseS, sumW]
 | p :: X => by
   have ih := three_S (Y := Y) X
   have h := three_W p.Points Y
   have e : p.Weight * belowW p.Points Y + p.Weight * atW p.Points Y + p.Weight * overW p.Points Y = p.Weight * sumW Y := by rw [← h, Int.mul_add, Int.mul_add]
   simp only [winS, drawS, loseS, sumW, Int.add_mul]
   omega
theorem S_pos {Y : List OutS} (hY : PosO Y) : ∀ {X : List OutS}, PosO X → 0 ≤ winS Y X ∧ 0 ≤ drawS Y X ∧ 0 ≤ loseS Y X
 | [], _ => by simp [winS, drawS, loseS]
 | p :: X, h => by
   have ih := S_pos hY h.tail
   have hp := h p List.mem_cons_self
   have h3 := three_pos p.Points hY
   have a1 := Int.mul_nonneg (a := p.Weight) (by omega) h3.1
   have a2 := Int.mul_nonneg (a := p.Weight) (by omega) h3.2.1
   have a3 := Int.mul_nonneg (a := p.Weight) (by omega) h3.2.2.1
   simp only [winS, drawS, loseS]; omega
/-- What is gathered on the way is no more than the product. -/
theorem S_bd {X Y : List OutS} (hX : PosO X) (hY : PosO Y) (j : Nat) : (0 ≤ winS Y (X.take j) ∧ winS Y (X.take j) ≤ sumW X * sumW Y) ∧ (0 ≤ drawS Y (X.take j) ∧ drawS Y (X.take j) ≤ sumW X * sumW Y) ∧ (0 ≤ loseS Y (X.take j) ∧ loseS Y (X.take j) ≤ sumW X * sumW Y) := by
 have h1 := S_pos hY (hX.take j)
 have h2 := three_S (Y := Y) (X.take j)
 have h3 := sumW_takeO hX j
 have h4 := (three_pos 0 hY).2.2.2
 have h5 : sumW (X.take j) * sumW Y ≤ sumW X * sumW Y := Int.mul_le_mul_of_nonneg_right h3.2 h4
 omega
/-! the other way round -/
theorem win_cons (q : OutS) (Y : List OutS) : ∀ X : List OutS, winS (q :: Y) X = q.Weight * overW q.Points X + winS Y X
 | [] => by simp [winS, overW]
 | p :: X => by
   have ih := win_cons q Y X
   simp only [winS, overW, belowW, ih]
   by_cases h : q.Points < p.Points
   ·simp only [if_pos h]; rw [Int.mul_add, Int.mul_add, Int.mul_comm q.Weight p.Weight]; omega
   ·simp only [if_neg h]; rw [Int.zero_add, Int.zero_add]; omega
theorem win_lose : ∀ (Y X : List OutS), winS Y X = loseS X Y
 | [], X => by
   induction X with
   | nil => rfl
   | cons p X ih => simp only [winS, belowW, loseS, Int.mul_zero, Int.zero_add] at *; exact ih
 | q :: Y, X => by rw [win_cons, loseS, win_lose Y X]
theorem draw_cons (q : OutS) (Y : List OutS) : ∀ X : List OutS, drawS (q :: Y) X = q.Weight * atW q.Points X + drawS Y X
 | [] => by simp [drawS, atW]
 | p :: X => by
   have ih := draw_cons q Y X
   simp only [drawS, atW, ih]
   by_cases h : q.Points = p.Points
   ·have h' := h.symm
    simp only [if_pos h, if_pos h']; rw [Int.mul_add, Int.mul_add, Int.mul_comm q.Weight p.Weight]; omega
   ·have h' : ¬ p.Points = q.Points := fun e => h e.symm
    simp only [if_neg h, if_neg h']; rw [Int.zero_add, Int.zero_add]; omega
theorem draw_draw : ∀ (Y X : List OutS), drawS Y X = drawS X Y
 | [], X => by
   induction X with
   | nil => rfl
   | cons p X ih => simp only [drawS, atW, Int.mul_zero, Int.zero_add] at *; exact ih
 | q :: Y, X => by rw [draw_cons, drawS, draw_draw Y X]
end Go.HL
end
section
namespace Go.HL
theorem spread_pts {h : List HopeS} {L : NW} (hL : L.Perm (cz h)) : (spreadL h).map (fun o => o.Points) = sortI (L.map (·.1)) := by
 rw [← spread_keys hL, List.map_map]
 exact List.map_id _
theorem spreadL_inc (h : List HopeS) : IncO (spreadL h) := by
 unfold IncO
 have e : (spreadL h).Pairwise (fun a b => a.Points < b.Points) ↔ ((spreadL h).map fun o => o.Points).Pairwise (· < ·) := by rw [List.pairwise_map]
 rw [e, spread_pts (List.Perm.refl _)]
 have h1 := sortI_sorted ((cz h).map (·.1))
 have h2 : (sortI ((cz h).map (·.1))).Nodup := (sortI_perm _).nodup_iff.2 (cz_nodup h)
 exact (h1.and h2).imp fun {a b} ⟨p, q⟩ => by
  have : a ≠ b := q
  omega
theorem spreadL_mem {h : List HopeS} {q : OutS} (hq : q ∈ spreadL h) : ofOut q ∈ cz h := (spreadL_perm h).mem_iff.1 (List.mem_map_of_mem hq)
theorem spreadL_pos {h : List HopeS} (ok : ∀ x ∈ h, HopeOk x) : PosO (spreadL h) := fun q hq => (cz_pos ok).1 _ (spreadL_mem hq)
theorem sumW_tot : ∀ Y : List OutS, sumW Y = tot (Y.map ofOut)
 | [] => rfl
 | q :: Y => by rw [sumW, List.map_cons, tot, sumW_tot Y]; rfl
theorem spreadL_sum {h : List HopeS} (ok : ∀ x ∈ h, HopeOk x) : sumW (spreadL h) = prodT h := by
 rw [sumW_tot, tot_perm (spreadL_perm h), (cz_pos ok).2]
theorem spread_at {h : List HopeS} {L : NW} (hL : L.Perm (cz h)) {j : Nat} {p : OutS} (hp : (spreadL h)[j]? = some p) : (sortI (L.map (·.1)))[j]? = some p.Points ∧ (alk p.Points L).getD 0 = p.Weight := by
 have h1 : ((spreadL h).map fun o => o.Points)[j]? = some p.Points := by rw [List.getElem?_map, hp]; rfl
 rw [spread_pts hL] at h1
 refine ⟨h1, ?_⟩
 have h2 := hp
 rw [← spread_keys hL, List.getElem?_map, h1] at h2
 have h3 := Option.some.inj h2
 rw [← h3]
theorem sumAt_alk : ∀ {L : NW}, ANodup L → ∀ n, (alk n L).getD 0 = sumAt n L
 | [], _, _ => rfl
 | p :: L, h, n => by
   have hn := List.nodup_cons.1 h
   have ih := sumAt_alk (L := L) hn.2 n
   simp only [alk, sumAt]
   by_cases c : n = p.1
   ·rw [if_pos c, if_pos c.symm]
    have h0 : alk n L = none := alk_none.2 (by rw [c]; exact hn.1)
    rw [h0] at ih
    simp only [Option.getD_none] at ih
    simp only [Option.getD_some]; omega
   ·rw [if_neg c, if_neg fun e => c e.symm, ih, Int.zero_add]
theorem atW_sumAt (n : Int) : ∀ Y : List OutS, atW n Y = sumAt n (Y.map ofOut)
 | [] => rfl
 | q :: Y => by rw [atW, List.map_cons, sumAt, atW_sumAt n Y]; rfl
theorem at_alk {h : List HopeS} {L : NW} (hL : L.Perm (cz h)) (n : Int) : (alk n L).getD 0 = atW n (spreadL h) := by
 rw [sumAt_alk ((cz_nodup h).perm hL), atW_sumAt, sumAt_perm hL, sumAt_perm (spreadL_perm h)]
/-! where there is no room -/
def spreadE (h : List HopeS) : Int := if most < prodP h 1 then 12 else if 20000 < (cz h).length then 12 else 0
theorem spreadE_cases (h : List HopeS) : spreadE h = 0 ∨ spreadE h = 12 := by
 unfold spreadE; split
 ·exact .inr rfl
 ·split
  ·exact .inr rfl
  ·exact .inl rfl
theorem prodP_one {h : List HopeS} (ok : ∀ x ∈ h, HopeOk x) : (prodP h 1 ≤ most → prodP h 1 = prodT h) ∧ (most < prodP h 1 → most < prodT h) ∧ 1 ≤ prodP h 1 ∧ prodP h 1 ≤ most + 1 := by
 have := prodP_is h 1 (by decide) (by decide) ok
 rwa [Int.one_mul] at this
theorem spreadE_prod {h : List HopeS} (ok : ∀ x ∈ h, HopeOk x) (e : spreadE h = 0) : prodP h 1 = prodT h ∧ 1 ≤ prodT h ∧ prodT h ≤ most ∧ (cz h).length ≤ 20000 := by
 have h1 := prodP_one ok
 unfold spreadE at e
 split at e
 ·omega
 ·split at e
  ·omega
  ·have := h1.1 (by omega)
   omega
structure EndS where
 win : Int
 draw : Int
 lose : Int
def end0 : EndS := ⟨0, 0, 0⟩
structure ChanceS where
 Win : FracS
 Draw : FracS
 Lose : FracS
abbrev eChance (x : ChanceS) : HVal := .agg [.int .i64 x.Win.Num, .int .i64 x.Win.Den, .int .i64 x.Draw.Num, .int .i64 x.Draw.Den, .int .i64 x.Lose.Num, .int .i64 x.Lose.Den]
def frac0 : FracS := ⟨0, 0⟩
def chance0 : ChanceS := ⟨frac0, frac0, frac0⟩
/-- What is wrong where two are compared. -/
def cmpE (a b : List HopeS) : Int := if spreadE a ≠ 0 then spreadE a else if spreadE b ≠ 0 then spreadE b else if most < prodP a 1 * prodP b 1 then 12 else 0
def endsOf (a b : List HopeS) : EndS := ⟨winS (spreadL b) (spreadL a), drawS (spreadL b) (spreadL a), loseS (spreadL b) (spreadL a)⟩
def chanceOf (a b : List HopeS) : ChanceS := ⟨lowF (endsOf a b).win (prodP a 1 * prodP b 1), lowF (endsOf a b).draw (prodP a 1 * prodP b 1), lowF (endsOf a b).lose (prodP a 1 * prodP b 1)⟩
theorem cmpE_cases (a b : List HopeS) : cmpE a b = 0 ∨ cmpE a b = 12 := by
 have h1 := spreadE_cases a
 have h2 := spreadE_cases b
 unfold cmpE; split
 ·omega
 ·split
  ·omega
  ·split
   ·exact .inr rfl
   ·exact .inl rfl
theorem cmpE_ok {a b : List HopeS} (e : cmpE a b = 0) : spreadE a = 0 ∧ spreadE b = 0 ∧ prodP a 1 * prodP b 1 ≤ most := by
 unfold cmpE at e
 split at e
 ·contradiction
 ·split at e
  ·contradiction
  ·split at e
   ·omega
   ·omega
theorem cmpE_flip (a b : List HopeS) : cmpE a b = cmpE b a := by
 have h1 := spreadE_cases a
 have h2 := spreadE_cases b
 unfold cmpE
 rw [Int.mul_comm (prodP b 1)]
 rcases h1 with h1 | h1 <;> rcases h2 with h2 | h2 <;> rw [h1, h2] <;> simp
theorem chance_flip (a b : List HopeS) : (chanceOf a b).Win = (chanceOf b a).Lose ∧ (chanceOf a b).Draw = (chanceOf b a).Draw ∧ (chanceOf a b).Lose = (chanceOf b a).Win := by
 unfold chanceOf endsOf
 dsimp only
 rw [Int.mul_comm (prodP b 1), win_lose (spreadL b), win_lose (spreadL a), draw_draw (spreadL b)]
 exact ⟨rfl, rfl, rfl⟩
end Go.HL
end
