/- Part 3 of the proof: a program logic, contracts of functions and plain facts; no conditions. -/
import Derived.Test.YtlankmahpaenhaaGreatDoorPFeedsAreOne2
import Derived.Ground.Names2Prog
import Derived.KernelRfl
import Derived.Shelf.SlIter.Collect
import Derived.Shelf.SlIter.Keys
import Derived.Shelf.SlIter.Sorted
import Derived.Shelf.SlSortCmp.NoneTotal
import Derived.Shelf.Slices.CompactI
import Derived.Shelf.Slices.CompactS
import Derived.Shelf.Slices.Delete
import Derived.Shelf.Slices.In.SortNone
import Derived.Shelf.Sort.Plain
import Derived.Shelf.SortM.Plain
import Derived.Shelf.SortM.SortNone
import Derived.Shelf.Strconv.Atoi
import Derived.Shelf.Strconv.Itoa3
import Derived.Shelf.Strings.Prefix
import Derived.Test.YtlankmahpaenhaaGreatDoorProg
set_option linter.unusedVariables false
set_option linter.unusedSimpArgs false
section
namespace Go.HL
variable {P : Program}
open Go.Sort Go.Proofs Go.Shelf Go.RowKit
theorem grown_of_sat [Tracks] {w w' : World} {J : Imm} {M : List MObj} (hT : Tracks.on = true) (hl : Le (allI w) J) (hs : Sat P J M w') : ∃ q os, w' = grow (w.drewN q) os := by
 have hb := below_of_sat hl hs
 have hd : w.drawn ≤ w'.drawn := Nat.le_trans (hl.low hT) (hs.low hT)
 refine ⟨w'.drawn - w.drawn, w'.heap.extract w.heap.size w'.heap.size, ?_⟩
 have hh : w'.heap = w.heap ++ w'.heap.extract w.heap.size w'.heap.size := by
  apply Array.ext_getElem?
  intro i
  by_cases hi : i < w.heap.size
  ·rw [Array.getElem?_append_left hi]; exact hb.block i hi
  ·rw [Array.getElem?_append_right (by omega), Array.getElem?_extract]
   have := hb.size
   split
   ·congr 1; omega
   ·rw [Array.getElem?_eq_none (by omega)]
 have h1 := hb.os
 have h2 := hb.tape
 have h3 := hb.output
 obtain ⟨a1, a2, a3, a4, a5⟩ := w'
 obtain ⟨b1, b2, b3, b4, b5⟩ := w
 simp only at h1 h2 h3 hd hh
 subst h1 h2 h3
 simp only [grow, World.drewN, World.mk.injEq]
 exact ⟨hh, trivial, by omega, trivial, trivial⟩
theorem ConP.calls [Tracks] {f : FuncId} {hargs : List HVal} {h : HVal} (hT : Tracks.on = true) (hc : ConP P f hargs h) {w : World} (ht : TabI P (allI w)) {args : List Value} (ha : VL (allI w) hargs args) :
 Calls P f args.toArray w fun e w' => ∃ v, e = .returned v ∧ V (allI w') h v ∧ ∃ q os, w' = grow (w.drewN q) os := by
 refine (hc (allI w) [] w args ha (sat_now ht)).mono ?_
 rintro e w' ⟨v, x, M', J, rfl, hle, ⟨rfl, rfl⟩, hV, hs⟩
 exact ⟨v, rfl, hV.mono hs.le_all, grown_of_sat hT hle hs⟩
@[reducible] def trackOn : Tracks := ⟨true⟩
/-- A row of cells that reads as an element. -/
abbrev RowT {A : Type} (I : Imm) (e : A → HVal) (k : Nat) : Type := { p : A × List Value // p.2.length = k ∧ (∀ v ∈ p.2, v.oneCell' = true) ∧ VL I (hcells (e p.1)) p.2 }
theorem rows_ex [Tracks] {A : Type} {I : Imm} {e : A → HVal} {k : Nat} (hk : ∀ x, (hcells (e x)).length = k) (hf : ∀ x, flat (hcells (e x)) = true) {rc : Array Value} : ∀ (l : List A) (off : Nat), off + l.length * k ≤ rc.size →
 (∀ (i j : Nat) (x : A) (c : HVal) (v : Value), l[i]? = some x → (hcells (e x))[j]? = some c → rc[off + i * k + j]? = some v → V I c v) →
 ∃ d : List (RowT I e k), d.map (·.1.1) = l ∧ ∀ (i j : Nat) (p : RowT I e k), d[i]? = some p → j < k → rc[off + i * k + j]? = p.1.2[j]?
 | [], off, _, _ => ⟨[], rfl, fun i j p h => by simp at h⟩
 | x :: l, off, hb, hV => by
   have hb' : off + k + l.length * k ≤ rc.size := by simp [Nat.add_mul] at hb; omega
   obtain ⟨d, h1, h2⟩ := rows_ex hk hf l (off + k) hb' fun i j y c v a1 a2 a3 => hV (i + 1) j y c v (by simpa using a1) a2 (by rw [Nat.add_mul, Nat.one_mul]; rw [show off + (i * k + k) + j = off + k + i * k + j by omega]; exact a3)
   have hlen : (rc.extract off (off + k)).toList.length = k := by simp; omega
   have hg : ∀ j, j < k → (rc.extract off (off + k)).toList[j]? = rc[off + j]? := fun j hj => by
    rw [Array.getElem?_toList, Array.getElem?_extract, if_pos (by omega)]
   have hvl : VL I (hcells (e x)) (rc.extract off (off + k)).toList := ⟨by rw [hlen, hk], fun j c v a1 a2 => by
    have hj : j < k := by have := lt_of_get a1; rw [hk] at this; exact this
    rw [hg j hj] at a2
    exact hV 0 j x c v rfl a1 (by simpa using a2)⟩
   refine ⟨⟨(x, (rc.extract off (off + k)).toList), hlen, flat_one hvl (hf x), hvl⟩ :: d, by simp [h1], fun i j p hp hj => ?_⟩
   cases i with
   | zero =>
     simp only [List.getElem?_cons_zero, Option.some.injEq] at hp
     subst hp
     simp only [Nat.zero_mul, Nat.add_zero]
     exact (hg j hj).symm
   | succ i =>
     simp only [List.getElem?_cons_succ] at hp
     rw [← h2 i j p hp hj, Nat.add_mul, Nat.one_mul]
     congr 1; omega
section
variable {A : Type} {e : A → HVal} {k : Nat}
theorem sortW_get {α : Type} [Inhabited α] {enc : α → List Value} {w : World} {b off m : Nat} {dk : Array α} {os : Array Obj} {c : Nat} (hc : c < w.heap.size) (hb : c ≠ b) : (sortWorldK enc k w b off m dk os).heap[c]? = w.heap[c]? := by
 simp only [sortWorldK, grow, putRowK, putRow, mapBlock, Sort.ahead]
 rw [Array.getElem?_append_left (by simpa using hc), Array.getElem?_modify, if_neg (Ne.symm hb)]
theorem sortW_blk {α : Type} [Inhabited α] {enc : α → List Value} {w : World} {b off m : Nat} {dk : Array α} {os : Array Obj} {rc : Array Value} {el : TypeId} {fr : Nat × Nat} (hb : w.heap[b]? = some (.cells rc el fr)) :
 (sortWorldK enc k w b off m dk os).heap[b]? = some (.cells (putCells id off (flatK enc k dk) rc) el fr) := by
 have hlt : b < w.heap.size := lt_of_get' hb
 simp only [sortWorldK, grow, putRowK, putRow, mapBlock, Sort.ahead]
 rw [Array.getElem?_append_left (by simpa using hlt), Array.getElem?_modify, if_pos rfl, hb]
 rfl
where
 lt_of_get' {α : Type} {a : Array α} {i : Nat} {x : α} (h : a[i]? = some x) : i < a.size := by
  rcases Nat.lt_or_ge i a.size with h' | h'
  ·exact h'
  ·simp [Array.getElem?_eq_none h'] at h
theorem flatK_get {α : Type} [Inhabited α] {enc : α → List Value} (hk : ∀ x, (enc x).length = k) {dk : Array α} {i j : Nat} {x : α} (hx : dk[i]? = some x) (hj : j < k) : some ((flatK enc k dk)[i * k + j]!) = (enc x)[j]? := by
 have hi : i < dk.size := by
  rcases Nat.lt_or_ge i dk.size with h' | h'
  ·exact h'
  ·simp [Array.getElem?_eq_none h'] at hx
 have hle : (i + 1) * k ≤ dk.size * k := Nat.mul_le_mul_right _ hi
 rw [Nat.add_mul, Nat.one_mul] at hle
 rw [get_flatK enc k dk _ (by omega)]
 have e1 : (i * k + j) / k = i := by rw [Nat.mul_comm, Nat.mul_add_div (by omega), Nat.div_eq_of_lt hj]; rfl
 have e2 : (i * k + j) % k = j := by rw [Nat.mul_comm, Nat.mul_add_mod, Nat.mod_eq_of_lt hj]
 rw [e1, e2]
 have e3 : dk[i]! = x := by rw [getElem!_pos dk i hi]; rw [Array.getElem?_eq_getElem hi] at hx; exact Option.some.inj hx
 rw [e3]
 have hjl : j < (enc x).length := by rw [hk]; exact hj
 rw [List.getElem?_eq_getElem hjl, getElem!_pos (enc x) j hjl]
set_option maxHeartbeats 1000000 in
/-- slices.SortFunc: a permutation that is sorted. -/
theorem con_sortf [Tracks] {ρ : Ren} (L : SlLaysF0.n6 P ρ) (aE : ∀ w, (isAgg (ρ.t 24)).run P w = .ok true w) (zE : ∀ w, (Go.sizeOf (ρ.t 24)).run P w = .ok k w) (hk : ∀ x, (hcells (e x)).length = k) (ha : ∀ x, e x = .agg (hcells (e x))) (hf : ∀ x, flat (hcells (e x)) = true)
 {c : A → A → Int} (hO : SWO (ltOf c)) {g : FuncId} (hg : Callable P g) {cap : List HVal} (hc : ∀ x y, @ConP trackOn P g (e x :: e y :: cap) (.int .i64 (c x y))) {l : List A} (hl : l.length ≤ 1000000) {v : Value} :
 Con P (ρ.f 6) [.raw v, .fn (.func g) [] cap] [.arr v k (l.map e)] fun x M' => ∃ l' : List A, x = .tup [] ∧ l'.Perm l ∧ l'.Pairwise (fun a b => ¬ c b a < 0) ∧ M' = [.arr v k (l'.map e)] := by
 intro I F w args hargs hs
 obtain ⟨n1, n2⟩ := hargs
 match args, n1, n2 with
 | [u, fv], _, n2 =>
   obtain rfl : u = v := (n2 0 _ _ rfl rfl).raw_inv
   obtain ⟨f1, cb, rfl, f2, f3⟩ := (n2 1 _ _ rfl rfl).fn_inv
   have hf1 : f1 = #[] := by have := f2.1; simp at this; exact this
   subst hf1
   by_cases h0 : l = []
   ·subst h0
    have hu : ∃ p cp, u = .slice p 0 cp := by
     rcases hs.obj (.arr u k (([] : List A).map e)) (by simp) with ⟨rfl, _⟩ | ⟨b, off, cp, rc, el, fr, rfl, _⟩
     ·exact ⟨_, _, rfl⟩
     ·exact ⟨_, _, rfl⟩
    obtain ⟨p, cp, rfl⟩ := hu
    refine (AnyF.slices_SortFunc_none L p cp _ w).mono ?_
    rintro _ _ ⟨rfl, rfl⟩
    exact ⟨_, .tup [], _, I, rfl, .refl I, ⟨[], rfl, .refl _, .nil, rfl⟩, .tup (by simp) (fun j c v h _ => by simp at h), hs⟩
   ·rcases hs.obj (.arr u k (l.map e)) (by simp) with ⟨_, hn⟩ | ⟨b, off, cp, rc, el, fr, rfl, _⟩
    ·simp at hn; exact absurd hn h0
    ·rw [List.length_map] at hs ⊢
     obtain ⟨_, rc, el, fr, h2, h3, h4, h5, h6, h7⟩ := arr_some hs
     rw [List.length_map] at h5
     have hblt : b < w.heap.size := sortW_blk.lt_of_get' h2
     have hsz : off + l.length * k ≤ rc.size := by
      have : l.length * k ≤ cp * k := Nat.mul_le_mul_right _ h5.1
      omega
     obtain ⟨d, d1, d2⟩ := rows_ex (I := I) (e := e) hk hf (rc := rc) l off hsz fun i j x c v a1 a2 a3 => h7 i j (e x) c v (by simp [a1]) a2 a3
     have dl : d.length = l.length := by rw [← d1]; simp
     obtain ⟨p0, hp0⟩ : ∃ p, d[0]? = some p := ⟨_, List.getElem?_eq_getElem (by have := List.length_pos_iff.2 h0; omega)⟩
     haveI : Inhabited (RowT I e k) := ⟨p0⟩
     have hkr : ∀ x : RowT I e k, (x.1.2).length = k := fun x => x.2.1
     have hH : HoldsK (fun x : RowT I e k => x.1.2) k w b off d.toArray := fun j hj => by
      simp only [size_flatK, List.size_toArray, dl] at hj
      have hk0 : 0 < k := by rcases Nat.eq_zero_or_pos k with h | h; (subst h; simp at hj); exact h
      have hi : j / k < d.length := by rw [dl]; exact Nat.div_lt_of_lt_mul (by rw [Nat.mul_comm]; exact hj)
      have hjk := Nat.mod_lt j hk0
      have hdj : j / k * k + j % k = j := by rw [Nat.mul_comm]; exact Nat.div_add_mod j k
      have hg1 := d2 (j / k) (j % k) d[j / k] (List.getElem?_eq_getElem hi) hjk
      have hg2 := flatK_get (enc := fun x : RowT I e k => x.1.2) (k := k) hkr (dk := d.toArray) (i := j / k) (j := j % k) (x := d[j / k]) (by simp [hi]) hjk
      rw [hdj] at hg2
      constructor
      ·rw [cell_of h2]
       rw [show off + j = off + j / k * k + j % k by omega, hg1, ← hg2]; rfl
      ·simp only [World.frozen?, h2]
       have := h3 (off + j) (by omega)
       simpa using this
     have hle : ∀ (m : Nat) (dk : Array (RowT I e k)) (os : Array Obj), Le I (allI (sortWorldK (fun x : RowT I e k => x.1.2) k w b off m dk os)) := fun m dk os =>
      ⟨fun c o ho => by
       have hcb : c ≠ b := fun hh => by
        subst hh
        have := hs.apart c (by simp [blocks, MObj.blocks])
        rw [this] at ho; cases ho
       have h9 := hs.imm c o ho
       show (sortWorldK _ k w b off m dk os).heap[c]? = some o
       rw [sortW_get (sortW_blk.lt_of_get' h9) hcb]; exact h9, hs.os, hs.output, hs.tape, fun ht => Nat.le_trans (hs.low ht) (Nat.le_add_right _ _)⟩
     have hcmp : CmpLays P g cb (fun x : RowT I e k => x.1.2) k (fun x y => c x.1.1 y.1.1) b off d.toArray.size w := fun m os dk _ x y => by
      have hI := hle m dk os
      have hxa : ∀ z : RowT I e k, V (allI (sortWorldK (fun x : RowT I e k => x.1.2) k w b off m dk os)) (e z.1.1) (.agg z.1.2.toArray) := fun z => by
       rw [ha]; exact V.mk_agg (by simpa using z.2.2.2.mono hI)
      have e9 : (#[Value.agg x.1.2.toArray, .agg y.1.2.toArray] ++ cb) = (Value.agg x.1.2.toArray :: .agg y.1.2.toArray :: cb.toList).toArray := by simp
      rw [e9]
      refine (@ConP.calls P trackOn g _ _ rfl (hc x.1.1 y.1.1) _ (hs.tab.mono hI) _ (VL.cons (hxa x) (VL.cons (hxa y) (f3.mono hI)))).mono ?_
      rintro _ w' ⟨u, rfl, hu, q, os', rfl⟩
      exact ⟨by rw [hu.int_inv], q, os', rfl⟩
     have hO' : SWO (ltOf fun x y : RowT I e k => c x.1.1 y.1.1) := ⟨fun x => hO.irrefl x.1.1, fun x y z => hO.trans x.1.1 y.1.1 z.1.1, fun x y z => hO.ntrans x.1.1 y.1.1 z.1.1⟩
     have hrun := AnyQ.slices_SortFunc L k aE zE (fun x : RowT I e k => x.1.2) hkr (fun x => x.2.2.1) (fun x y => c x.1.1 y.1.1) hO' g cb b off cp d.toArray w (run_callFunc hg) hcmp hH hblt (by simp; omega)
     rw [List.size_toArray, dl] at hrun
     refine hrun.mono ?_
     rintro _ w' ⟨rfl, d', m, os, ⟨q1, _, q3⟩, q4, rfl⟩
     simp only [List.size_toArray, dl] at q1
     have q3' : d'.toList.Perm d := by
      have e1 : (d'.extract 0 l.length) = d' := by rw [← q1]; exact Array.extract_size
      have e2 : (d.toArray.extract 0 l.length) = d.toArray := by have := Array.extract_size (xs := d.toArray); rw [List.size_toArray, dl] at this; exact this
      rw [e1, e2] at q3; simpa using q3
     refine ⟨_, .tup [], [.arr (.slice (some ⟨b, off, none⟩) l.length cp) k ((d'.toList.map (·.1.1)).map e)], I, rfl, .refl I, ⟨d'.toList.map (·.1.1), rfl, by rw [← d1]; exact q3'.map _, ?_, rfl⟩, .tup (by simp) (fun j c v h _ => by simp at h), ?_⟩
     ·refine List.pairwise_iff_getElem.2 fun i j hi hj hij => ?_
      simp only [List.length_map, Array.length_toList] at hi hj
      have := q4 i j (Nat.zero_le _) hij (by omega)
      rw [getElem!_pos d' i hi, getElem!_pos d' j hj] at this
      simp only [ltOf, decide_eq_false_iff_not] at this
      simpa using this
     ·have hchg : ∀ x, x < w.heap.size → x ∉ (MObj.arr (.slice (some ⟨b, off, none⟩) l.length cp) k (l.map e)).blocks → (sortWorldK (fun x : RowT I e k => x.1.2) k w b off m d' os).heap[x]? = w.heap[x]? := fun x hx hnx => sortW_get hx fun hh => hnx (by rw [hh]; simp [MObj.blocks])
      refine hs.change (m' := .arr (.slice (some ⟨b, off, none⟩) l.length cp) k ((d'.toList.map (·.1.1)).map e)) hchg (fun x hx => .inl hx) (by simp [MObj.blocks]) ?_ rfl rfl rfl (fun _ => Nat.le_add_right _ _)
      refine .inr ⟨b, off, cp, putCells id off (flatK (fun x : RowT I e k => x.1.2) k d') rc, el, fr, by simp [q1], sortW_blk h2, by simpa [putCells] using h3, ?_, by simp [q1]; exact h5, by simpa [putCells] using h6, ?_⟩
      ·intro y hy; obtain ⟨z, _, rfl⟩ := List.mem_map.1 hy; exact hk z
      ·intro i j y z v a1 a2 a3
       rw [List.map_map, List.getElem?_map] at a1
       cases hq : d'.toList[i]? with
       | none => rw [hq] at a1; simp at a1
       | some r =>
         rw [hq] at a1
         simp only [Option.map_some, Function.comp_apply, Option.some.injEq] at a1
         subst a1
         have hj : j < k := by have := lt_of_get a2; rw [hk] at this; exact this
         have hi : i < l.length := by have := lt_of_get hq; simp at this; omega
         have hle : (i + 1) * k ≤ l.length * k := Nat.mul_le_mul_right _ hi
         rw [Nat.add_mul, Nat.one_mul] at hle
         have hr : off + i * k + j < rc.size := by omega
         rw [putCells, Array.getElem?_mapIdx, Array.getElem?_eq_getElem hr, Option.map_some, if_pos ⟨by omega, by rw [size_flatK, q1]; omega⟩] at a3
         rw [show off + i * k + j - off = i * k + j by omega] at a3
         have hg2 := flatK_get (enc := fun x : RowT I e k => x.1.2) (k := k) hkr (dk := d') (i := i) (j := j) (x := r) (by simpa using hq) hj
         rw [show (id (flatK (fun x : RowT I e k => x.1.2) k d')[i * k + j]!) = (flatK (fun x : RowT I e k => x.1.2) k d')[i * k + j]! from rfl, hg2] at a3
         exact r.2.2.2.2 j z v a2 a3
end
end Go.HL
end
section
namespace Go.HL
open Go.Proofs Go.RowKit Go.Maps Go.Sort Go.Shelf
section
variable {P : Program}
def anyR (H : Type) : Value → Option (DataW H × List MemPlace) := fun _ => some (.nil, [])
theorem map_keys {I : Imm} {w : World} {b : Nat} {α : Type} {f : α → HVal} {L : List (Str × α)} (hm : MSat I w (.map b (sk (em f L)))) :
 ∃ es clk, w.heap[b]? = some (.map es clk) ∧ BornOk es clk ∧ es.size = L.length ∧ es.toList.map (·.key) = L.map fun p => encStr p.1 := by
 obtain ⟨es, clk, h1, ⟨h2, h4⟩, h3⟩ := hm
 have hl : es.size = L.length := by rw [h2]; simp [sk]
 refine ⟨es, clk, h1, h4, hl, List.ext_getElem? fun i => ?_⟩
 rw [List.getElem?_map, List.getElem?_map]
 rcases Nat.lt_or_ge i L.length with h | h
 ·have a1 : L[i]? = some L[i] := List.getElem?_eq_getElem h
  have a2 : es[i]? = some es[i] := Array.getElem?_eq_getElem (by omega)
  have a3 : (sk (em f L))[i]? = some (.str L[i].1, f L[i].2) := by simp [sk, a1]
  have a4 := (h3 i _ _ a3 a2).1.str_inv
  rw [a1, Array.getElem?_toList, a2]
  simp only [Option.map_some, Option.some.injEq]
  rw [a4]
  try rfl
 ·rw [List.getElem?_eq_none h, List.getElem?_eq_none (by rw [Array.length_toList]; omega)]; rfl
theorem nodup_born {es : Array MapEntry} {clk : Nat} (h : BornOk es clk) : (es.toList.map (·.born)).Nodup := by
 refine List.pairwise_iff_getElem.2 fun i j hi hj hij e => ?_
 rw [List.getElem_map, List.getElem_map] at e
 rw [List.length_map, Array.length_toList] at hi hj
 have := h.2 i j es[i] es[j] (Array.getElem?_eq_getElem hi) (Array.getElem?_eq_getElem hj) (by simpa using e)
 omega
theorem owns_of_map {I : Imm} {w : World} {b : Nat} {α : Type} {f : α → HVal} {L : List (Str × α)} {k : TypeId} (hk : P.underlying k = some .string) (hm : MSat I w (.map b (sk (em f L)))) (hn : ANodup L)
 (hl : ∀ p ∈ L, p.1.length ≤ 1000000) (hs : L.length ≤ 1000000) : ∃ D : DataW Unit, w.ownsMap P k (anyR Unit) b L.length D ∧ (strKeys D).Perm (L.map (·.1)) ∧ Maps.size D = L.length := by
 obtain ⟨es, clk, h1, h2, h3, h4⟩ := map_keys hm
 have hx : ∀ x ∈ es.toList, ∃ p ∈ L, x.key = encStr p.1 := fun x hx => by
  have := List.mem_map_of_mem (f := (·.key)) hx
  rw [h4] at this
  obtain ⟨p, hp, e⟩ := List.mem_map.1 this
  exact ⟨p, hp, e.symm⟩
 have hrd : ∀ x ∈ es.toList, ∀ p ∈ L, x.key = encStr p.1 → WideElems.rd P k (anyR Unit) x = some (.string p.1, .nil) := fun x _ p hp e => by
  have := hl p hp
  have hm : maxLen = 9223372036854775807 := by rfl
  simp [WideElems.rd, keyOf, hk, e, mapKey, encStr, anyR, hm]
  rw [if_pos (by show p.1.toArray.size ≤ _; simp; omega)]
  rfl
 have hkeys : es.toList.map (fun x => strOf (WideElems.rg P k (anyR Unit) x).1) = L.map (·.1) := by
  have e2 : es.toList.map (fun x => strOf (WideElems.rg P k (anyR Unit) x).1) = (es.toList.map (·.key)).map fun v => match v with | .string s => s.data.toList | _ => [] := by
   rw [List.map_map]
   refine List.map_congr_left fun x hx' => ?_
   obtain ⟨p, hp, e⟩ := hx x hx'
   rw [WideElems.rg_of (hrd x hx' p hp e)]
   simp [e, encStr, strOf]
  rw [e2, h4, List.map_map]
  refine List.map_congr_left fun p _ => ?_
  simp [encStr]
 have hml : maxLen = 9223372036854775807 := by rfl
 refine ⟨_, ⟨es, clk, h1, ⟨by omega, ⟨fun x hx' => ?_, nodup_born h2, ?_⟩, fun x hx' => ?_⟩, by omega, rfl⟩, ?_, ?_⟩
 ·obtain ⟨i, hi⟩ := List.getElem?_of_mem hx'
  exact h2.1 i x (by simpa using hi)
 ·rw [h4]
  have : (L.map fun p => encStr p.1) = (L.map (·.1)).map encStr := by rw [List.map_map]; rfl
  rw [this]
  exact List.Pairwise.map encStr (fun a b hab e => hab (encStr_inj e)) hn
 ·obtain ⟨p, hp, e⟩ := hx x hx'
  exact ⟨_, hrd x hx' p hp e⟩
 ·show ((List.foldr DataW.insert [] _).map fun p => strOf p.1).Perm _
  rw [← hkeys]
  have := (WideShapes.sorted_perm (es.toList.map (WideElems.rg P k (anyR Unit)))).map fun p => strOf p.1
  rw [List.map_map] at this
  exact this
 ·show (List.foldr DataW.insert [] _).length = _
  rw [(WideShapes.sorted_perm _).length_eq, List.length_map, Array.length_toList, h3]
theorem con_keys [Tracks] {ρ : Ren} (L : SlLaysZ.n7 P ρ) {b : Nat} : Con P (ρ.f 7) [.raw (.map (some b))] [] fun x M' => ∃ bx, x = .fn (.func (ρ.f 10)) [] [.raw (.pointer (some ⟨bx, 0, none⟩))] ∧ M' = [.cells bx [.raw (.map (some b))]] := by
 intro I F w args ha hs
 obtain ⟨u, rfl, hu⟩ := ha.one
 obtain rfl := hu.raw_inv
 refine ((callsIn_wide (n := 1)).1 (AnyZ.keys_in L Fence.wide 1 trivial rfl (some b) w)).mono ?_
 rintro _ w' ⟨rfl, rfl⟩
 refine ⟨_, _, _, I, rfl, .refl I, ⟨w.heap.size, rfl, rfl⟩, .fn rfl rfl (fun j c v h _ => by simp at h) (fun j c v h1 h2 => ?_), ?_⟩
 ·exact (VL.cons (.raw _ rfl) VL.nil : VL I [.raw (.pointer (some ⟨w.heap.size, 0, none⟩))] [.pointer (some ⟨w.heap.size, 0, none⟩)]).2 j c v h1 (by simpa using h2)
 ·exact hs.new_own _ _ rfl ⟨#[.map (some b)], ρ.t 23, (0, 0), by simp, Free.zero _, VL.cons (.raw _ rfl) VL.nil⟩
theorem con_sorted [Tracks] (hT : Tracks.on = false) {ρ ρk : Ren} (L : SlLaysZ.n6 P ρ) (Lk : SlLaysZ.n7 P ρk) (hsort : ∀ m, AnyZ.SortsIn P ρ Fence.wide m)
 (e9 : ∀ args w, (callFunc (ρ.f 9) args).run P w = .ok (.enter (ρ.f 9) args) w) (eg : ∀ args w, (callFunc (ρk.f 10) args).run P w = .ok (.enter (ρk.f 10) args) w)
 {α : Type} {f : α → HVal} {l : List (Str × α)} (hn : ANodup l) (hl : ∀ p ∈ l, p.1.length ≤ 1000000) (hs : l.length ≤ 1000000) {b bx : Nat} :
 Con P (ρ.f 6) [.fn (.func (ρk.f 10)) [] [.raw (.pointer (some ⟨bx, 0, none⟩))]] [.cells bx [.raw (.map (some b))], .map b (sk (em f l))] fun x M' => ∃ v, x = .raw v ∧ M' = [.arr v 1 ((sortS (l.map (·.1))).map .str), .map b (sk (em f l))] := by
 intro I F w args ha hsat
 obtain ⟨u, rfl, hu⟩ := ha.one
 obtain ⟨v1, v2, rfl, hv1, hv2, hc⟩ : ∃ v1 v2, u = .func (.func (ρk.f 10)) v1 v2 ∧ v1 = #[] ∧ v2.size = 1 ∧ ∀ (j : Nat) (c : HVal) (v : Value), [HVal.raw (.pointer (some ⟨bx, 0, none⟩))][j]? = some c → v2[j]? = some v → V I c v := by
  cases hu with
  | fn h1 h2 h3 h4 => exact ⟨_, _, rfl, Array.eq_empty_of_size_eq_zero (by simpa using h1), by simpa using h2, h4⟩
 subst hv1
 obtain rfl : v2 = #[.pointer (some ⟨bx, 0, none⟩)] := by
  match v2, hv2 with
  | ⟨[y]⟩, _ => have := (hc 0 _ y rfl rfl).raw_inv; rw [this]
 obtain ⟨rc, el, fr, c1, c2, c3⟩ := hsat.obj (.cells bx [.raw (.map (some b))]) (by simp)
 have hmap := hsat.obj (.map b (sk (em f l))) (by simp)
 obtain ⟨D, d1, d2, d3⟩ := owns_of_map (k := ρk.t 26) (by exact Lk.t26) hmap hn hl hs
 have hbx : bx < w.heap.size := (Array.getElem?_eq_some_iff.1 c1).1
 have hcell : w.cell? ⟨bx, 0, none⟩ = some (.map (some b)) := by
  have := c3.1
  match rc, this, c1, c3 with
  | ⟨[y]⟩, _, c1, c3 =>
    have hy := c3.head.raw_inv
    subst hy
    simp [World.cell?, c1]
 have hseq := AnyZ.keys_gives (ρ := ρk) { Lk with } Fence.wide 2 trivial rfl (by omega) bx b l.length D w hbx hcell d1
 have cS := AnyZ.sorted_in L Fence.wide 5 trivial trivial trivial trivial rfl (by omega) (hsort _) e9 (ρk.f 10) #[.pointer (some ⟨bx, 0, none⟩)] trivial eg _ _ (by rw [d3]; exact Nat.le_trans hs (by decide)) (by rw [d3]; omega) w hseq
 refine ((callsIn_wide (n := 5)).1 cS).mono ?_
 rintro e w' ⟨v, ss, rfl, hS, hrow, hnil, hb⟩
 have hss : (ss.mergeSort fun x y => decide (x ≤ y)) = sortS (l.map (·.1)) := mergeSort_of_perm (hS.trans d2)
 rw [hss] at hrow
 have hlen : ss.length = (sortS (l.map (·.1))).length := by rw [sortS_len, (hS.trans d2).length_eq]
 have hmem : MSat I w' (.arr v 1 ((sortS (l.map (·.1))).map .str)) := by
  rcases hrow.2 with ⟨rfl, hz⟩ | ⟨gb, cap, cur, rfl, hbase, hgb, r1, r2, r3, r4⟩
  ·refine .inl ⟨rfl, ?_⟩
   have : sortS (l.map (·.1)) = [] := List.length_eq_zero_iff.1 (by omega)
   rw [this]; rfl
  ·refine .inr ⟨gb, 0, cap, cur, _, _, by rw [List.length_map, ← hlen], hgb, Free.zero _, fun e he => ?_, ⟨by rw [List.length_map]; omega, Nat.le_trans r2 (by decide)⟩, by omega, fun i j e c y h1 h2 h3 => ?_⟩
   ·obtain ⟨s, _, rfl⟩ := List.mem_map.1 he; rfl
   ·rw [List.getElem?_map] at h1
    cases hq : (sortS (l.map (·.1)))[i]? with
    | none => rw [hq] at h1; cases h1
    | some s =>
      rw [hq] at h1
      simp only [Option.map_some, Option.some.injEq] at h1
      subst h1
      have hj : j = 0 := by
       cases j with
       | zero => rfl
       | succ j => simp [hcells] at h2
      subst hj
      simp only [hcells, List.getElem?_cons_zero, Option.some.injEq] at h2
      subst h2
      have hi := lt_of_get hq
      have h4 : (cur.toList.take (ss.length * 1))[i]? = some (encStr s) := by rw [r4, List.getElem?_map, hq]; rfl
      rw [List.getElem?_take_of_lt (by omega), Array.getElem?_toList] at h4
      have e0 : 0 + i * 1 + 0 = i := by omega
      rw [e0, h4] at h3
      cases h3
      exact .str s
 have hown : ∀ k, v.ownBlock = some k → w.heap.size ≤ k ∧ k < w'.heap.size := hrow.lt
 refine ⟨v, .raw v, _, I, rfl, .refl I, ⟨v, rfl, rfl⟩, ?_, ?_⟩
 ·rcases hrow.2 with ⟨rfl, _⟩ | ⟨gb, cap, cur, rfl, _⟩
  ·exact .raw _ rfl
  ·exact .raw _ rfl
 ·refine hsat.change (m' := .arr v 1 _) (fun k hk _ => hb.block k hk) (fun k hk => .inr ?_) ?_ hmem hb.os hb.output hb.tape (fun ht => by rw [hT] at ht; cases ht)
  ·rcases hrow.2 with ⟨rfl, _⟩ | ⟨gb, cap, cur, rfl, hbase, _⟩
   ·simp [MObj.blocks] at hk
   ·simp [MObj.blocks] at hk; omega
  ·rcases hrow.2 with ⟨rfl, _⟩ | ⟨gb, cap, cur, rfl, hbase, _⟩ <;> simp [MObj.blocks]
theorem con_sortedset [Tracks] (hT : Tracks.on = false) {ρ ρk : Ren} (L : SlLaysZ.n6 P ρ) (Lk : SlLaysZ.n7 P ρk) (hsort : ∀ m, AnyZ.SortsIn P ρ Fence.wide m)
 (e9 : ∀ args w, (callFunc (ρ.f 9) args).run P w = .ok (.enter (ρ.f 9) args) w) (eg : ∀ args w, (callFunc (ρk.f 10) args).run P w = .ok (.enter (ρk.f 10) args) w)
 {S : List Str} (hn : S.Nodup) (hl : ∀ s ∈ S, s.length ≤ 1000000) (hs : S.length ≤ 1000000) {b bx : Nat} :
 Con P (ρ.f 6) [.fn (.func (ρk.f 10)) [] [.raw (.pointer (some ⟨bx, 0, none⟩))]] [.cells bx [.raw (.map (some b))], .map b (sk (mset S))] fun x M' => ∃ v, x = .raw v ∧ M' = [.arr v 1 ((sortS S).map .str), .map b (sk (mset S))] := by
 have e1 : mset S = em HVal.bool (S.map fun s => (s, true)) := by simp [mset]
 have e2 : (S.map fun s => (s, true)).map (·.1) = S := by simp [Function.comp_def]
 have := con_sorted hT L Lk hsort e9 eg (f := HVal.bool) (l := S.map fun s => (s, true)) (by unfold ANodup; rw [e2]; exact hn) (fun p hp => by obtain ⟨s, hs, rfl⟩ := List.mem_map.1 hp; exact hl s hs) (by simpa using hs) (b := b) (bx := bx)
 rw [e2, ← e1] at this
 exact this
end
end Go.HL
end
section
namespace Go.HL
variable {P : Program}
/-- A frozen map keyed by strings. -/
abbrev hsm (L : SMap) : HVal := .hmap (L.map fun p => .str p.1) (L.map (·.2))
abbrev hset (S : List (List UInt8)) : HVal := hsm (mset S)
theorem sk_fst (L : SMap) : (sk L).map (·.1) = L.map fun p => HVal.str p.1 := by simp [sk, Function.comp_def]
theorem sk_snd (L : SMap) : (sk L).map (·.2) = L.map (·.2) := by simp [sk, Function.comp_def]
section
variable {e : Env} {dst : Option Tmp} {ty : TypeId} {pos : String} {af : Array Edge} {g : Option (Nat × Bool)}
end
/-- h, seen as h' while it is only read; objects may hold others. -/
inductive Bow (M : List MObj) : HVal → HVal → Prop
 | weak {h h' : HVal} (hw : Weak h h') : Bow M h h'
 | arr {i : Nat} {v : Value} {sz : Nat} {es : List HVal} (hm : M[i]? = some (.arr v sz es)) : Bow M (.raw v) (.slice sz es)
 | cells {i b off : Nat} {cs cs' : List HVal} (hm : M[i]? = some (.cells b cs)) (hl : cs.length = cs'.length) (h : ∀ (j : Nat) (c c' : HVal), cs[j]? = some c → cs'[j]? = some c' → Bow M c c') : Bow M (.raw (.pointer (some ⟨b, off, none⟩))) (.vptr cs' off)
 | map {i b : Nat} {L : SMap} (hm : M[i]? = some (.map b (sk L))) : Bow M (.raw (.map (some b))) (hsm L)
 | vptr {off : Nat} {l l' : List HVal} (hl : l.length = l'.length) (h : ∀ (j : Nat) (c c' : HVal), l[j]? = some c → l'[j]? = some c' → Bow M c c') : Bow M (.vptr l off) (.vptr l' off)
 | fn {f : Fn} {c1 l l' : List HVal} (hl : l.length = l'.length) (h : ∀ (j : Nat) (c c' : HVal), l[j]? = some c → l'[j]? = some c' → Bow M c c') : Bow M (.fn f c1 l) (.fn f c1 l')
theorem Bow.refl {M : List MObj} {h : HVal} : Bow M h h := .weak (Weak.refl _)
theorem V.vptr_inv' {I : Imm} {cs : List HVal} {off : Nat} {v : Value} (h : V I (.vptr cs off) v) : ∃ b base rc el fr, v = .pointer (some ⟨b, base + off, none⟩) ∧ I.heap b = some (.cells rc el fr) ∧ base + cs.length ≤ rc.size ∧
 ∀ (j : Nat) (c : HVal) (v : Value), cs[j]? = some c → rc[base + j]? = some v → V I c v := by
 cases h with
 | vptr h1 h2 h3 => exact ⟨_, _, _, _, _, rfl, h1, h2, h3⟩
theorem Bow.v [Tracks] {M : List MObj} {I : Imm} {F : List MObj} {w : World} {h h' : HVal} (hb : Bow M h h') (hs : Sat P I (M ++ F) w) : ∀ {v : Value}, V I h v → V (allI w) h' v := by
 induction hb with
 | weak hw => intro v hv; exact hw _ _ (hv.mono hs.le_all)
 | arr hm => intro v hv; exact (Bor.arr hm).v hs hv
 | @cells i b off cs cs' hm hl _ ih =>
   intro v hv
   rw [hv.raw_inv]
   obtain ⟨rc, el, fr, h2, h3, h4⟩ := hs.obj _ (List.mem_append_left _ (List.mem_of_getElem? hm))
   have := V.vptr (I := allI w) (cs := cs') (off := off) (base := 0) h2 (by have := h4.1; simp at this; omega) fun j c v a1 a2 => by
    have hj := lt_of_get a1
    have hj' := List.getElem?_eq_getElem (l := cs) (i := j) (by omega)
    exact ih j _ c hj' a1 (h4.2 j _ v hj' (by simpa using a2))
   rwa [Nat.zero_add] at this
 | @map i b L hm =>
   intro v hv
   rw [hv.raw_inv]
   obtain ⟨es, clk, h1, h2, h3⟩ := hs.obj _ (List.mem_append_left _ (List.mem_of_getElem? hm))
   have hn : es.size = L.length := by simpa [sk] using h2.1
   refine .hmap (I := allI w) h1 (by simp [hn]) (by simp [hn]) (fun j c m a1 a2 => ?_) (fun j c m a1 a2 => ?_)
   ·rw [← sk_fst, List.getElem?_map] at a1
    cases hq : (sk L)[j]? with
    | none => rw [hq] at a1; simp at a1
    | some p => rw [hq] at a1; simp at a1; subst a1; exact ((h3 j p m hq a2).1).mono hs.le_all
   ·rw [← sk_snd, List.getElem?_map] at a1
    cases hq : (sk L)[j]? with
    | none => rw [hq] at a1; simp at a1
    | some p => rw [hq] at a1; simp at a1; subst a1; exact ((h3 j p m hq a2).2).mono hs.le_all
 | @vptr off l l' hl _ ih =>
   intro v hv
   obtain ⟨b, base, rc, el, fr, rfl, h1, h2, h3⟩ := hv.vptr_inv'
   refine .vptr (I := allI w) (hs.imm _ _ h1) (by omega) fun j c u a1 a2 => ?_
   have hj := lt_of_get a1
   have hj' := List.getElem?_eq_getElem (l := l) (i := j) (by omega)
   exact ih j _ c hj' a1 (h3 j _ u hj' a2)
 | @fn f c1 l l' hl _ ih =>
   intro v hv
   cases hv with
   | fn g1 g2 g3 g4 =>
     refine .fn g1 (by omega) (fun j c u a1 a2 => (g3 j c u a1 a2).mono hs.le_all) fun j c u a1 a2 => ?_
     have hj := lt_of_get a1
     have hj' := List.getElem?_eq_getElem (l := l) (i := j) (by omega)
     exact ih j _ c hj' a1 (g4 j _ u hj' a2)
end Go.HL
end
section
namespace Go.HL
variable {P : Program}
theorem EOp.fzi [Tracks] {e : Env} {M N : List MObj} {o : Oper} {K : HVal → List MObj → Prop} {sz : Nat} {es : List HVal} (i : Nat) (h : EOp P e M o fun x M' => ∃ v, x = .raw v ∧ M'[i]? = some (.arr v sz es) ∧ M'.eraseIdx i = N) (hk : K (.slice sz es) N) : EOp P e M o K := fun I F a w ho hs =>
 Oper.wp_noQ (fun _ _ ⟨v, x, M', J, h1, h2, ⟨u, h3, h4, h5⟩, h6, h7⟩ => by
  subst h3 h5
  obtain ⟨J', g1, g2, g3⟩ := (h7.pull h4).freeze_arr
  exact ⟨v, _, _, J', h1, h2.trans g1, hk, by rw [h6.raw_inv]; exact g3, g2⟩) (h I F a w ho hs)
end Go.HL
end
section
namespace Go.Proofs.YtlankmahpaenhaaGreatDoor
open Go.HL
set_option maxRecDepth 100000
set_option linter.unusedVariables false
set_option linter.unusedSimpArgs false
/-- benchwarmer/play.undone -/
theorem c_play_undone [Tracks] {l : List Play} {n : Int} (hl : l.length ≤ 1000000) : Con Tryz.prog 40 [ePlays l, .int .i64 n] [] (fun x M' => ∃ b, x = .raw (.map (some b)) ∧ M' = [.map b (kk eNum (em HVal.bool (goneL l n)))]) := by
 refine Con.of_body Tryz.func40 rfl Tryz.ntmps40 rfl rfl ?_
 refine hw_reg ?_
 refine dp rfl (pop_assign rfl) ?_
 refine dn ?_
 refine hw_reg ?_
 refine de rfl (eop_makeMap fun m14 => ?_)
 refine dp rfl (pop_assign rfl) ?_
 refine dn ?_
 refine hw_seq ?_
 refine hw_reg ?_
 refine dp rfl (pop_move rfl) ?_
 refine dp rfl (pop_lenm ty26 rfl) ?_
 refine dp rfl (pop_move rfl) ?_
 refine dn ?_
 refine hw_block ?_
 refine hw_loopw [7, 17, 18, 19, 20, 21, 22, 23, 24, 25, 26, 27, 28, 29, 30, 31, 32] (fun (k : Nat) => [(17, .int .i64 k)]) (fun (k : Nat) => [.map m14 (kk eNum (em ePlay (numL (l.take k) n)))]) (fun (k : Nat) => k ≤ l.length ∧ (True)) (fun (k : Nat) => l.length - k) (0) ?_ ?_ ?_ ?_
 ·exact ⟨Nat.zero_le _, trivial⟩
 ·exact ⟨rfl, trivial⟩
 ·exact List.Perm.refl _
 ·intro k hinv
  obtain ⟨hk, -⟩ := hinv
  refine hw_reg ?_
  refine dp rfl (pop_lss rfl rfl) ?_
  refine dn ?_
  refine hw_seq ?_
  refine hw_cond rfl (fun h1 => ?_) (fun h2 => ?_)
  ·try simp at h1
   obtain ⟨x, hx⟩ : ∃ x, l[k]? = some x := ⟨_, List.getElem?_eq_getElem h1⟩
   have hdx := drop_cons hx
   refine hw_skip ?_
   refine seqQ_n ?_
   refine hw_seq ?_
   refine hw_block ?_
   refine hw_reg ?_
   refine dp rfl (pop_idx ty26 ty30 rfl rfl rfl (by assumption)) ?_
   refine dp rfl (pop_loadw ty30 rfl rfl rfl rfl) ?_
   refine de rfl (eop_alloc ty30 rfl fun b7 => ?_)
   refine de0 (eop_storew ty30 rfl rfl rfl rfl rfl ?_)
   refine dn ?_
   refine hw_ghost (Ghost.fc0 7 rfl) ?_
   refine hw_reg ?_
   refine dp rfl (pop_fieldAddr ty30 rfl ty3 (by decide) rfl) ?_
   refine dp rfl (pop_load ty3 rfl rfl rfl) ?_
   refine dp rfl (pop_move rfl) ?_
   refine dp rfl (pop_leq rfl rfl) ?_
   refine dn ?_
   refine hw_cond rfl (fun h3 => ?_) (fun h4 => ?_)
   ·try simp at h3
    refine hw_reg1 ?_
    refine dp rfl (pop_move rfl) ?_
    refine dp rfl (pop_fieldAddr ty30 rfl ty9 (by decide) rfl) ?_
    refine dp rfl (pop_load ty9 rfl rfl rfl) ?_
    refine dp rfl (pop_fieldAddr ty30 rfl ty3 (by decide) rfl) ?_
    refine dp rfl (pop_load ty3 rfl rfl rfl) ?_
    refine dp rfl (pop_build (cs := [_, _]) ty75 pl75 rfl) ?_
    refine dp rfl (pop_loadw ty30 rfl rfl rfl rfl) ?_
    refine de0 (eop_updatekA (i := 0) (s := (x.Source, x.No)) (v := x) ty107 ok75 rfl rfl rfl rfl ?_)
    refine dn ?_
    refine blockQ_n ?_
    refine seqQ_n ?_
    refine hw_reg1 ?_
    refine dp rfl (pop_add64 rfl rfl (by omega) (by omega)) ?_
    refine dp rfl (pop_move rfl) ?_
    refine dn ?_
    exact ⟨k + 1, ⟨by omega, trivial⟩, by dsimp only; omega, ⟨rfl, trivial⟩, (by repeat (first | exact keeps_refl | refine keeps_upd rfl ?_ | refine keeps_loop rfl rfl ?_)), perm_eq (by dsimp only; rw [numL_snoc hx, numStep, if_pos (by simpa using h3)]; try rfl)⟩
   ·try simp at h4
    refine hw_skip ?_
    refine blockQ_n ?_
    refine seqQ_n ?_
    refine hw_reg1 ?_
    refine dp rfl (pop_add64 rfl rfl (by omega) (by omega)) ?_
    refine dp rfl (pop_move rfl) ?_
    refine dn ?_
    exact ⟨k + 1, ⟨by omega, trivial⟩, by dsimp only; omega, ⟨rfl, trivial⟩, (by repeat (first | exact keeps_refl | refine keeps_upd rfl ?_ | refine keeps_loop rfl rfl ?_)), perm_eq (by dsimp only; rw [numL_snoc hx, numStep, if_neg (by simpa using h4)]; try rfl)⟩
  ·try simp at h2
   have hnk : l.length ≤ k := by omega
   obtain rfl : k = l.length := by omega
   refine hw_exit ?_
   refine seqQ_x ?_
   refine loopQ_x ?_
   refine blockQ_eq ?_
   refine seqQ_n ?_
   rw [List.take_length]
   refine hw_reg ?_
   refine de rfl (eop_makeMap fun m33 => ?_)
   refine dp rfl (pop_assign rfl) ?_
   refine dn ?_
   refine hw_seq ?_
   refine hw_reg ?_
   refine dp rfl (pop_move rfl) ?_
   refine dp rfl (pop_lenm ty26 rfl) ?_
   refine dp rfl (pop_move rfl) ?_
   refine dn ?_
   refine hw_block ?_
   refine hw_loopw [10, 11, 12, 13, 36, 37, 38, 39, 40, 41, 42, 43, 44, 45, 46, 47, 48, 49, 50, 51, 52, 53, 54, 55, 56, 57, 58, 59, 60, 61, 62, 63, 64, 65, 66, 67, 68, 69, 70, 71, 72, 73, 74, 75, 76, 77, 78, 79, 80, 81, 82, 83, 84, 85, 86, 87, 88, 89] (fun (k : Nat) => [(36, .int .i64 k)]) (fun (k : Nat) => [.map m33 (kk eNum (em HVal.bool (goneGo (numL l n) n (l.take k)))), .map m14 (kk eNum (em ePlay (numL l n)))]) (fun (k : Nat) => k ≤ l.length ∧ (True)) (fun (k : Nat) => l.length - k) (0) ?_ ?_ ?_ ?_
   ·exact ⟨Nat.zero_le _, trivial⟩
   ·exact ⟨rfl, trivial⟩
   ·exact List.Perm.refl _
   ·intro k hinv
    obtain ⟨hk, -⟩ := hinv
    refine hw_reg ?_
    refine dp rfl (pop_lss rfl rfl) ?_
    refine dn ?_
    refine hw_seq ?_
    refine hw_cond rfl (fun h5 => ?_) (fun h6 => ?_)
    ·try simp at h5
     obtain ⟨x, hx⟩ : ∃ x, l[k]? = some x := ⟨_, List.getElem?_eq_getElem h5⟩
     have hdx := drop_cons hx
     refine hw_skip ?_
     refine seqQ_n ?_
     refine hw_seq ?_
     refine hw_block ?_
     refine hw_reg ?_
     refine dp rfl (pop_idx ty26 ty30 rfl rfl rfl (by assumption)) ?_
     refine dp rfl (pop_loadw ty30 rfl rfl rfl rfl) ?_
     refine de rfl (eop_alloc ty30 rfl fun b10 => ?_)
     refine de0 (eop_storew ty30 rfl rfl rfl rfl rfl ?_)
     refine dn ?_
     refine hw_ghost (Ghost.fc0 10 rfl) ?_
     refine hw_seq ?_
     refine hw_reg ?_
     refine dp rfl (pop_fieldAddr ty30 rfl ty3 (by decide) rfl) ?_
     refine dp rfl (pop_load ty3 rfl rfl rfl) ?_
     refine dp rfl (pop_move rfl) ?_
     refine dp rfl (pop_gtr rfl rfl) ?_
     refine dp rfl (pop_move rfl) ?_
     refine dg rfl rfl (fun hc => ⟨_, OpenTo.refl _, pop_fieldAddr ty30 rfl ty3 (by decide) rfl⟩) ?_
     refine dg rfl rfl (fun hc => ⟨_, OpenTo.upd (t := 45) rfl (hc) (OpenTo.refl _), pop_load ty3 rfl rfl rfl⟩) ?_
     refine dg rfl rfl (fun hc => ⟨_, OpenTo.upd (t := 46) rfl (hc) (OpenTo.refl _), pop_eql rfl rfl⟩) ?_
     refine dp rfl (pop_picko rfl (.inl rfl) (.inr ⟨_, rfl, fun h => by simp_all⟩)) ?_
     refine dn ?_
     refine hw_cond rfl (fun h7 => ?_) (fun h8 => ?_)
     ·try simp at h7
      refine hw_exit ?_
      refine seqQ_x ?_
      refine blockQ_eq ?_
      refine seqQ_n ?_
      refine hw_reg1 ?_
      refine dp rfl (pop_add64 rfl rfl (by omega) (by omega)) ?_
      refine dp rfl (pop_move rfl) ?_
      refine dn ?_
      exact ⟨k + 1, ⟨by omega, trivial⟩, by dsimp only; omega, ⟨rfl, trivial⟩, (by repeat (first | exact keeps_refl | refine keeps_upd rfl ?_ | refine keeps_loop rfl rfl ?_)), perm_eq (by dsimp only; rw [goneGo_snoc hx, goneStep, if_pos (by simpa using h7)]; try rfl)⟩
     ·try simp at h8
      refine hw_skip ?_
      refine seqQ_n ?_
      refine hw_reg ?_
      refine dp rfl (pop_fieldAddr ty30 rfl ty9 (by decide) rfl) ?_
      refine dp rfl (pop_load ty9 rfl rfl rfl) ?_
      refine dp rfl (pop_fieldAddr ty30 rfl ty3 (by decide) rfl) ?_
      refine dp rfl (pop_load ty3 rfl rfl rfl) ?_
      refine dp rfl (pop_build (cs := [_, _]) ty75 pl75 rfl) ?_
      refine de rfl (eop_alloc ty75 rfl fun b11 => ?_)
      refine de0 (eop_storew ty75 rfl rfl rfl rfl rfl ?_)
      refine dn ?_
      refine hw_ghost (Ghost.fc0 11 rfl) ?_
      refine hw_reg ?_
      refine dp rfl (pop_move rfl) ?_
      refine dp rfl (pop_loadw ty75 rfl rfl rfl rfl) ?_
      refine de rfl (eop_lookupk2A (i := 1) (s := (x.Source, x.Undo)) (z0 := play0) ty107 ok75 ty30 rfl rfl rfl rfl ?_)
      refine dp rfl (pop_move rfl) ?_
      refine dp rfl (pop_extract rfl rfl) ?_
      refine dp rfl (pop_extract rfl rfl) ?_
      refine de rfl (eop_alloc ty30 rfl fun b12 => ?_)
      refine de0 (eop_storew ty30 rfl rfl rfl rfl rfl ?_)
      refine dp rfl (pop_assign rfl) ?_
      refine dn ?_
      refine hw_ghost (Ghost.fc0 12 rfl) ?_
      refine hw_reg ?_
      refine dp rfl (pop_move rfl) ?_
      refine dp rfl (pop_move rfl) ?_
      refine dg rfl rfl (fun hc => ⟨_, OpenTo.refl _, pop_fieldAddr ty30 rfl ty3 (by decide) rfl⟩) ?_
      refine dg rfl rfl (fun hc => ⟨_, OpenTo.upd (t := 62) rfl (hc) (OpenTo.refl _), pop_load ty3 rfl rfl rfl⟩) ?_
      refine dg rfl rfl (fun hc => ⟨_, OpenTo.upd (t := 63) rfl (hc) (OpenTo.refl _), pop_eql rfl rfl⟩) ?_
      refine dp rfl (pop_picko rfl (.inr ⟨_, rfl, fun h => by simp_all⟩) (.inl rfl)) ?_
      refine dp rfl (pop_move rfl) ?_
      refine dg rfl rfl (fun hc => ⟨_, OpenTo.refl _, pop_fieldAddr ty30 rfl ty9 (by decide) rfl⟩) ?_
      refine dg rfl rfl (fun hc => ⟨_, OpenTo.upd (t := 67) rfl (hc) (OpenTo.refl _), pop_load ty9 rfl rfl rfl⟩) ?_
      refine dg rfl rfl (fun hc => ⟨_, OpenTo.refl _, pop_fieldAddr ty30 rfl ty9 (by decide) rfl⟩) ?_
      refine dg rfl rfl (fun hc => ⟨_, OpenTo.upd (t := 69) rfl (hc) (OpenTo.refl _), pop_load ty9 rfl rfl rfl⟩) ?_
      refine dg rfl rfl (fun hc => ⟨_, OpenTo.upd (t := 70) rfl (hc) (OpenTo.upd (t := 68) rfl (hc) (OpenTo.refl _)), pop_eqls rfl rfl⟩) ?_
      refine dp rfl (pop_picko rfl (.inr ⟨_, rfl, fun h => by simp_all⟩) (.inl rfl)) ?_
      refine dp rfl (pop_move rfl) ?_
      refine dg rfl rfl (fun hc => ⟨_, OpenTo.refl _, pop_fieldAddr ty30 rfl ty9 (by decide) rfl⟩) ?_
      refine dg rfl rfl (fun hc => ⟨_, OpenTo.upd (t := 74) rfl (hc) (OpenTo.refl _), pop_load ty9 rfl rfl rfl⟩) ?_
      refine dg rfl rfl (fun hc => ⟨_, OpenTo.refl _, pop_fieldAddr ty30 rfl ty9 (by decide) rfl⟩) ?_
      refine dg rfl rfl (fun hc => ⟨_, OpenTo.upd (t := 76) rfl (hc) (OpenTo.refl _), pop_load ty9 rfl rfl rfl⟩) ?_
      refine dg rfl rfl (fun hc => ⟨_, OpenTo.upd (t := 77) rfl (hc) (OpenTo.upd (t := 75) rfl (hc) (OpenTo.refl _)), pop_eqls rfl rfl⟩) ?_
      refine dp rfl (pop_picko rfl (.inr ⟨_, rfl, fun h => by simp_all⟩) (.inl rfl)) ?_
      refine dp rfl (pop_move rfl) ?_
      refine dg rfl rfl (fun hc => ⟨_, OpenTo.refl _, pop_fieldAddr ty30 rfl ty9 (by decide) rfl⟩) ?_
      refine dg rfl rfl (fun hc => ⟨_, OpenTo.upd (t := 81) rfl (hc) (OpenTo.refl _), pop_load ty9 rfl rfl rfl⟩) ?_
      refine dg rfl rfl (fun hc => ⟨_, OpenTo.refl _, pop_fieldAddr ty30 rfl ty9 (by decide) rfl⟩) ?_
      refine dg rfl rfl (fun hc => ⟨_, OpenTo.upd (t := 83) rfl (hc) (OpenTo.refl _), pop_load ty9 rfl rfl rfl⟩) ?_
      refine dg rfl rfl (fun hc => ⟨_, OpenTo.upd (t := 84) rfl (hc) (OpenTo.upd (t := 82) rfl (hc) (OpenTo.refl _)), pop_eqls rfl rfl⟩) ?_
      refine dp rfl (pop_picko rfl (.inr ⟨_, rfl, fun h => by simp_all⟩) (.inl rfl)) ?_
      refine dn ?_
      refine hw_cond rfl (fun h9 => ?_) (fun h10 => ?_)
      ·try simp at h9
       refine hw_reg1 ?_
       refine dp rfl (pop_move rfl) ?_
       refine dp rfl (pop_loadw ty75 rfl rfl rfl rfl) ?_
       refine de0 (eop_updatekA (i := 0) (s := (x.Source, x.Undo)) (v := true) ty72 ok75 rfl rfl rfl rfl ?_)
       refine dn ?_
       refine blockQ_n ?_
       refine seqQ_n ?_
       refine hw_reg1 ?_
       refine dp rfl (pop_add64 rfl rfl (by omega) (by omega)) ?_
       refine dp rfl (pop_move rfl) ?_
       refine dn ?_
       exact ⟨k + 1, ⟨by omega, trivial⟩, by dsimp only; omega, ⟨rfl, trivial⟩, (by repeat (first | exact keeps_refl | refine keeps_upd rfl ?_ | refine keeps_loop rfl rfl ?_)), perm_eq (by dsimp only; rw [goneGo_snoc hx, goneStep, if_neg (by simp_all; try omega), if_pos (by simp_all [undoes])]; try rfl)⟩
      ·try simp at h10
       refine hw_skip ?_
       refine blockQ_n ?_
       refine seqQ_n ?_
       refine hw_reg1 ?_
       refine dp rfl (pop_add64 rfl rfl (by omega) (by omega)) ?_
       refine dp rfl (pop_move rfl) ?_
       refine dn ?_
       exact ⟨k + 1, ⟨by omega, trivial⟩, by dsimp only; omega, ⟨rfl, trivial⟩, (by repeat (first | exact keeps_refl | refine keeps_upd rfl ?_ | refine keeps_loop rfl rfl ?_)), perm_eq (by dsimp only; rw [goneGo_snoc hx, goneStep, if_neg (by simp_all; try omega), if_neg (by simp_all [undoes])]; try rfl)⟩
    ·try simp at h6
     have hnk : l.length ≤ k := by omega
     obtain rfl : k = l.length := by omega
     refine hw_exit ?_
     refine seqQ_x ?_
     refine loopQ_x ?_
     refine blockQ_eq ?_
     refine seqQ_n ?_
     rw [List.take_length]
     refine hw_ghost (Ghost.only (i := 0) rfl) ?_
     refine hw_reg ?_
     refine dp rfl (pop_move rfl) ?_
     refine dp rfl (pop_assign rfl) ?_
     refine dn ?_
     refine hw_ret ?_
     exact ret_q rfl ⟨_, rfl, rfl⟩

/-- benchwarmer/play.byName -/
theorem c_play_byName [Tracks] {a b : StatS}  : ConP Tryz.prog 107 [eStat a, eStat b] (.int .i64 (byNm a b)) := by
 refine Con.of_body Tryz.func107 rfl Tryz.ntmps107 rfl rfl ?_
 refine hw_reg ?_
 refine dp rfl (pop_box rfl rfl) ?_
 refine dp rfl (pop_box rfl rfl) ?_
 refine dp rfl (pop_assign rfl) ?_
 refine dn ?_
 refine hw_reg ?_
 refine dp rfl (pop_fieldAddr ty81 rfl ty9 (by decide) rfl) ?_
 refine dp rfl (pop_load ty9 rfl rfl rfl) ?_
 refine dp rfl (pop_fieldAddr ty81 rfl ty9 (by decide) rfl) ?_
 refine dp rfl (pop_load ty9 rfl rfl rfl) ?_
 refine dp rfl (pop_call ca66 rfl (WeakL.refl _) c_strings_Compare) ?_
 refine dp rfl (pop_assign rfl) ?_
 refine dn ?_
 refine hw_ret ?_
 refine ret_p rfl ?_
 rfl

/-- slices.SortFunc -/
theorem c_sort_Stat [Tracks] {c : StatS → StatS → Int} (hO : Go.Sort.SWO (Go.Proofs.ltOf c)) {g : FuncId} (hg : Callable Tryz.prog g) {cap : List HVal} (hc : ∀ x y, @ConP trackOn Tryz.prog g (eStat x :: eStat y :: cap) (.int .i64 (c x y))) {l : List StatS} (hl : l.length ≤ 1000000) {v : Value} :
 Con Tryz.prog 106 [.raw v, .fn (.func g) [] cap] [.arr v 2 (l.map eStat)] fun x M' => ∃ l' : List StatS, x = .tup [] ∧ l'.Perm l ∧ l'.Pairwise (fun a b => ¬ c b a < 0) ∧ M' = [.arr v 2 (l'.map eStat)] :=
 con_sortf (e := eStat) Tryz.g106 (Tryz.isAgg81) (Tryz.sizeOf81) (fun _ => rfl) (fun _ => rfl) (fun _ => rfl) hO hg hc hl

theorem sortsIn [Tracks] (m : Nat) : Go.Proofs.AnyZ.SortsIn Tryz.prog Tryz.g104_ren Fence.wide m :=
 ⟨fun blk off cap ss W hH hblk hsz => callsIn_wide.2 (AnyM.slices_Sort_string Tryz.g115 blk off cap ss W hH hblk hsz), fun p cap W => callsIn_wide.2 (AnyM.slices_Sort_string_none Tryz.g115 p cap W)⟩
theorem c_keys_105 [Tracks] {b : Nat} : Con Tryz.prog 105 [.raw (.map (some b))] [] fun x M' => ∃ bx, x = .fn (.func 141) [] [.raw (.pointer (some ⟨bx, 0, none⟩))] ∧ M' = [.cells bx [.raw (.map (some b))]] :=
 con_keys (ρ := Tryz.g105_ren) Tryz.g105
theorem c_sortedset_105 [Tracks] (hT : Tracks.on = false) {S : List Str} (hn : S.Nodup) (hl : ∀ s ∈ S, s.length ≤ 1000000) (hs : S.length ≤ 1000000) {b bx : Nat} :
 Con Tryz.prog 104 [.fn (.func 141) [] [.raw (.pointer (some ⟨bx, 0, none⟩))]] [.cells bx [.raw (.map (some b))], .map b (sk (mset S))] fun x M' => ∃ v, x = .raw v ∧ M' = [.arr v 1 ((sortS S).map .str), .map b (sk (mset S))] :=
 con_sortedset hT (ρ := Tryz.g104_ren) (ρk := Tryz.g105_ren) Tryz.g104 Tryz.g105 sortsIn (enters_of Tryz.func115 (by kernel_rfl) rfl) (enters_of Tryz.func141 (by kernel_rfl) rfl) hn hl hs

set_option maxHeartbeats 1000000 in
/-- (benchwarmer/play.counted).lines -/
theorem c_play_counted_lines [Tracks] {b0 b1 : Nat} {c : List (Of2 × Int)} {S : List Str} {week : Int} (hT : Tracks.on = false) (hn : ANodup c) (hSn : S.Nodup) (hSk : ∀ s ∈ S, s.length ≤ 40) (hc : c.length ≤ 1000000) (hSl : S.length ≤ 1000000) : Con Tryz.prog 79 [.raw (.map (some b0)), .raw (.map (some b1)), .int .i64 week] [.map b0 (kk eOf (em (HVal.int .i64) c)), .map b1 (sk (mset S))] (fun x M' => x = .tup [eLines (clinesL c S week), .int .i64 (clinesE c S)] ∧ M' = []) := by
 refine Con.of_body Tryz.func79 rfl Tryz.ntmps79 rfl rfl ?_
 refine hw_reg ?_
 refine dp rfl (pop_assign rfl) ?_
 refine dp rfl (pop_assign rfl) ?_
 refine dn ?_
 refine hw_reg ?_
 refine de rfl (eop_makeMap fun m15 => ?_)
 refine dp rfl (pop_assign rfl) ?_
 refine dn ?_
 refine hw_seq ?_
 refine hw_reg ?_
 refine dp rfl (pop_move rfl) ?_
 refine de rfl (eop_range (i := 1) ty120 rfl rfl fun r => ?_)
 refine dn ?_
 refine hw_block ?_
 refine hw_loopw3 [6, 7, 9, 10, 18, 19, 20, 21, 22, 23, 24, 25, 26, 27, 28, 29, 30, 31, 32, 33, 34, 35, 36, 37, 38, 39, 40, 41] (fun (vis : List Nat) (E : List (Of2 × Int)) (G : Grp StatS) => []) (fun (vis : List Nat) (E : List (Of2 × Int)) (G : Grp StatS) => [.map m15 (sk (em fG G)), .iter r b0 (kk eOf (em (HVal.int .i64) c)) vis, .map b1 (sk (mset S))] ++ grp 2 eStat G) (fun (vis : List Nat) (E : List (Of2 × Int)) (G : Grp StatS) => VisOk (c) vis E ∧ (GOk E G ∧ ∀ y ∈ E, out y.2 (-100000) 100000 = false)) (fun (vis : List Nat) (E : List (Of2 × Int)) (G : Grp StatS) => (c).length - vis.length) ([]) ([]) ([]) ?_ ?_ ?_ ?_
 ·exact ⟨VisOk.nil _, GOk.nil, fun y h => by cases h⟩
 ·exact trivial
 ·exact perm_eq rfl
 ·intro vis E G hinv
  obtain ⟨hvis, hG, hO⟩ := hinv
  refine hw_reg ?_
  refine de rfl (eop_nextA (i := 1) (L := c) (enc := (fun p : Of2 × Int => (eOf p.1, HVal.int .i64 p.2))) rfl rfl (kk_em _ _ _) hvis.nd hvis.lt fun cb R vis' hnx => ?_)
  refine dp rfl (pop_extract rfl rfl) ?_
  refine dn ?_
  refine hw_seq ?_
  refine hw_cond rfl (fun h1 => ?_) (fun h2 => ?_)
  ·try simp at h1
   obtain ⟨j, q, hq, hj, rfl⟩ := hnx.t h1
   have hroom := hvis.room hq hj
   have hstep := hvis.step hq hj
   have hqm := List.mem_of_getElem? hq
   refine hw_skip ?_
   refine seqQ_n ?_
   refine hw_block ?_
   refine hw_reg ?_
   refine de rfl (eop_entryA (i := 1) (L := c) (enc := (fun p : Of2 × Int => (eOf p.1, HVal.int .i64 p.2))) rfl rfl (kk_em _ _ _) hq ?_)
   refine dp rfl (pop_extract rfl rfl) ?_
   refine dp rfl (pop_extract rfl rfl) ?_
   refine de rfl (eop_alloc ty122 rfl fun b9 => ?_)
   refine de0 (eop_storew ty122 rfl rfl rfl rfl rfl ?_)
   refine dp rfl (pop_assign rfl) ?_
   refine dn ?_
   refine hw_ghost (Ghost.fc0 9 rfl) ?_
   refine hw_block ?_
   refine hw_reg ?_
   refine dp rfl (pop_move rfl) ?_
   refine dp rfl (pop_call ca68 rfl (WeakL.refl _) c_base_Out) ?_
   refine dp rfl (pop_assign rfl) ?_
   refine dn ?_
   refine hw_cond rfl (fun h3 => ?_) (fun h4 => ?_)
   ·try simp at h3
    refine hw_reg ?_
    refine dp rfl (pop_assign rfl) ?_
    refine dp rfl (pop_assign rfl) ?_
    refine dn ?_
    refine hw_ret ?_
    exact ⟨_, [], Ghost.clear, _, _, rfl, weak_tup2 (weak_nil 3) (Weak.refl _), by have hf := full_count (S := S) hqm (by simpa using h3); rw [clinesL, clinesE, hf]; rfl, rfl⟩
   ·try simp at h4
    refine hw_reg ?_
    refine dp rfl (pop_move rfl) ?_
    refine dp rfl (pop_neq rfl rfl) ?_
    refine dp rfl (pop_assign rfl) ?_
    refine dn ?_
    refine hw_cond rfl (fun h5 => ?_) (fun h6 => ?_)
    ·try simp at h5
     refine hw_ghost (Ghost.of_eq (M' := [.map m15 (sk (em fG G)), .iter r b0 (kk eOf (em (HVal.int .i64) c)) (vis ++ [j]), .map b1 (sk (mset S))] ++ grp 2 eStat G) rfl) ?_
     refine hw_draw1 (fun _ => True) [] mixed ?_
     refine ahp 0 rfl rfl (by kernel_rfl) (by kernel_rfl) (pop_move rfl) ?_
     refine ahp 1 rfl rfl (by kernel_rfl) (by kernel_rfl) ((pop_fieldAddr ty122 rfl ty9 (by decide) rfl)) ?_
     refine ahp 2 rfl rfl (by kernel_rfl) (by kernel_rfl) (pop_load ty9 rfl rfl rfl) ?_
     refine ahp 3 rfl rfl (by kernel_rfl) (by kernel_rfl) (pop_move rfl) ?_
     refine ahp 4 rfl rfl (by kernel_rfl) (by kernel_rfl) ((pop_fieldAddr ty122 rfl ty9 (by decide) rfl)) ?_
     refine ahp 5 rfl rfl (by kernel_rfl) (by kernel_rfl) (pop_load ty9 rfl rfl rfl) ?_
     refine ahp 7 rfl rfl (by kernel_rfl) (by kernel_rfl) ((pop_fieldAddr ty122 rfl ty9 (by decide) rfl)) ?_
     refine ahp 8 rfl rfl (by kernel_rfl) (by kernel_rfl) (pop_load ty9 rfl rfl rfl) ?_
     refine ahp 9 rfl rfl (by kernel_rfl) (by kernel_rfl) (pop_move rfl) ?_
     refine ahp 10 rfl rfl (by kernel_rfl) (by kernel_rfl) (pop_build (cs := [_, _]) ty81 pl81 rfl) ?_
     refine ahp 11 rfl rfl (by kernel_rfl) (by kernel_rfl) (pop_buildSlice (hs := [_]) ty53 ty81 rfl rfl (by decide) (by decide) rfl) ?_
     refine ahe 6 rfl (by kernel_rfl) ?_
     refine hop_e rfl (eop_lookupA (i := 0) (z0 := gZ StatS) ty151 ty9 ty53 rfl rfl rfl rfl ?_)
     refine ⟨fun _ => .inl trivial, ?_⟩
     refine ahe 12 rfl (by kernel_rfl) ?_
     refine hop_e rfl (eop_append_grp (A := [.map m15 (sk (em fG G)), .iter r b0 (kk eOf (em (HVal.int .i64) c)) (vis ++ [j]), .map b1 (sk (mset S))]) (G := G) (s := q.1.1) (ys := [⟨q.1.2, q.2⟩]) (eb := eStat) ty53 ty81 rfl rfl rfl rfl (by simp [flat, hcells]) (by have := rawStats_le E q.1.1; rw [← hG.raw] at this; have := hvis.len; simp only [List.length_cons, List.length_nil]; omega) fun v41 => ?_)
     refine ⟨fun _ => .inl trivial, ?_⟩
     refine ahe 13 rfl (by kernel_rfl) ?_
     refine hop_e0 (eop_updateA (i := 0) (f := fG) (L := G) (v := (v41, gL q.1.1 G ++ [⟨q.1.2, q.2⟩])) ty151 ty9 rfl rfl rfl rfl ?_)
     refine ⟨fun _ => .inl trivial, ?_⟩
     refine ahz (by kernel_rfl) ?_
     refine blockQ_n ?_
     refine blockQ_n ?_
     have hO' : ∀ y ∈ E ++ [q], out y.2 (-100000) 100000 = false := fun y hy => by
      rcases List.mem_append.1 hy with hy | hy
      ·exact hO y hy
      ·rw [List.mem_singleton.1 hy]; simpa using h4
     exact ⟨_, E ++ [q], _, ⟨hstep, hG.put (by simpa using h5) v41, hO'⟩, by dsimp only; rw [List.length_append]; simp only [List.length_cons, List.length_nil]; omega, trivial, (by repeat (first | exact keeps_refl | refine keeps_upd rfl ?_ | refine keeps_loop rfl rfl ?_)), perm_eq rfl⟩
    ·try simp at h6
     refine hw_skip ?_
     refine blockQ_n ?_
     refine blockQ_n ?_
     have hO' : ∀ y ∈ E ++ [q], out y.2 (-100000) 100000 = false := fun y hy => by
      rcases List.mem_append.1 hy with hy | hy
      ·exact hO y hy
      ·rw [List.mem_singleton.1 hy]; simpa using h4
     exact ⟨_, E ++ [q], G, ⟨hstep, hG.skip (by simpa using h6), hO'⟩, by dsimp only; rw [List.length_append]; simp only [List.length_cons, List.length_nil]; omega, trivial, (by repeat (first | exact keeps_refl | refine keeps_upd rfl ?_ | refine keeps_loop rfl rfl ?_)), perm_eq rfl⟩
  ·try simp at h2
   obtain ⟨rfl, hlen⟩ := hnx.f h2
   have hEp := hvis.done hlen
   refine hw_exit ?_
   refine seqQ_x ?_
   refine loopQ3_x ?_
   refine blockQ_eq ?_
   refine seqQ_n ?_
   refine hw_ghost (Ghost.iterOver (i := 1) rfl) ?_
   refine hw_ghost (Ghost.of_eq (M' := [.map m15 (sk (em fG G)), .map b0 (kk eOf (em (HVal.int .i64) c)), .map b1 (sk (mset S))] ++ grp 2 eStat G) rfl) ?_
   refine hw_reg ?_
   refine dp rfl (pop_assign rfl) ?_
   refine dn ?_
   refine hw_seq ?_
   refine hw_reg ?_
   refine dp rfl (pop_move rfl) ?_
   refine de rfl (eop_callf (M1 := []) (R := _) ca105 rfl (WeakL.refl _) (List.Perm.refl _) c_keys_105 ?_)
   rintro _ _ ⟨bx, rfl, rfl⟩
   refine de rfl (EOp.fzi (N := [.map b1 (sk (mset S)), .map b0 (kk eOf (em (HVal.int .i64) c))] ++ ([.map m15 (sk (em fG G))] ++ grp 2 eStat G)) (sz := 1) (es := (sortS S).map .str) 0 (eop_callf (M1 := [.cells bx [.raw (.map (some b1))], .map b1 (sk (mset S))]) (R := [.map b0 (kk eOf (em (HVal.int .i64) c))] ++ ([.map m15 (sk (em fG G))] ++ grp 2 eStat G)) ca104 rfl (WeakL.refl _) (by exact perm3) (c_sortedset_105 hT hSn (fun s hs => Nat.le_trans (hSk s hs) (by decide)) hSl) (by rintro _ _ ⟨v, rfl, rfl⟩; exact ⟨v, rfl, rfl, rfl⟩)) ?_)
   refine dp rfl (pop_lenm ty47 rfl) ?_
   refine dp rfl (pop_move rfl) ?_
   refine dn ?_
   refine hw_ghost (Ghost.suffix (R := [_, _])) ?_
   refine hw_ghost (Ghost.arr_nil 3) ?_
   have hSSl : (sortS S).length ≤ 1000000 := by rw [sortS_len]; exact hSl
   have hSS : (sortS S).Nodup := (sortS_perm S).nodup_iff.2 hSn
   refine hw_block ?_
   refine hw_loopw2 [6, 7, 11, 13, 14, 46, 47, 48, 49, 50, 51, 52, 53, 54, 55, 56, 57, 58, 59, 60, 61, 62, 63, 64, 65] (fun (k : Nat) (u : Value) => [(46, .int .i64 k), (11, .raw u)]) (fun (k : Nat) (u : Value) => [.arr u 3 (((sortS S).take k).map fun s => eLine ⟨s, week, statsOf c s⟩), .map m15 (sk (em fG G))] ++ grp 2 eStat (restG G ((sortS S).take k))) (fun (k : Nat) (u : Value) => k ≤ (sortS S).length ∧ (∀ s ∈ (sortS S).take k, ¬ 40 < (rawStats c s).length)) (fun (k : Nat) (u : Value) => (sortS S).length - k) (0) (.slice none 0 0) ?_ ?_ ?_ ?_
   ·exact ⟨Nat.zero_le _, fun s h => by simp at h⟩
   ·exact ⟨rfl, rfl, trivial⟩
   ·exact perm_eq (by simp [rest_nil])
   ·intro k u hinv
    obtain ⟨hk, hg⟩ := hinv
    refine hw_reg ?_
    refine dp rfl (pop_lss rfl rfl) ?_
    refine dn ?_
    refine hw_seq ?_
    refine hw_cond rfl (fun h7 => ?_) (fun h8 => ?_)
    ·try simp at h7
     obtain ⟨x, hx⟩ : ∃ x, (sortS S)[k]? = some x := ⟨_, List.getElem?_eq_getElem h7⟩
     have hdx := drop_cons hx
     refine hw_skip ?_
     refine seqQ_n ?_
     refine hw_seq ?_
     refine hw_block ?_
     refine hw_reg ?_
     refine dp rfl (pop_idx ty47 ty9 rfl rfl rfl (by assumption)) ?_
     refine dp rfl (pop_load ty9 rfl rfl rfl) ?_
     refine dp rfl (pop_assign rfl) ?_
     refine dn ?_
     refine hw_reg ?_
     refine dp rfl (pop_move rfl) ?_
     refine dp rfl (pop_move rfl) ?_
     refine de rfl (eop_lookupA (i := 1) (z0 := gZ StatS) ty151 ty9 ty53 rfl rfl rfl rfl ?_)
     refine dp rfl (pop_assign rfl) ?_
     refine dn ?_
     have hnx := take_notin hSS hx
     have hxS : x ∈ S := (sortS_perm S).mem_iff.1 (List.mem_of_getElem? hx)
     refine hw_ghost (Ghost.grp_take (A := [.arr u 3 (((sortS S).take k).map fun s => eLine ⟨s, week, statsOf c s⟩), .map m15 (sk (em fG G))]) (G := restG G ((sortS S).take k)) (G' := G) (s := x) (rest_nodup hG.nd) (rest_alk hnx)) ?_
     rw [rest_snoc]
     refine hw_seq ?_
     refine hw_reg ?_
     refine dp rfl (pop_move rfl) ?_
     refine de rfl (eop_lenm (i := 0) (es := gL x G) ty53 rfl rfl ?_)
     refine dp rfl (pop_gtr rfl rfl) ?_
     refine dn ?_
     refine hw_cond rfl (fun h9 => ?_) (fun h10 => ?_)
     ·try simp at h9
      refine hw_reg ?_
      refine dp rfl (pop_assign rfl) ?_
      refine dp rfl (pop_assign rfl) ?_
      refine dn ?_
      refine hw_ret ?_
      exact ⟨_, [], Ghost.clear, _, _, rfl, weak_tup2 (weak_nil 3) (Weak.refl _), by have hf := full_stats (c := c) hxS (by rw [← gL_len hEp hG]; omega); rw [clinesL, clinesE, hf]; rfl, rfl⟩
     ·try simp at h10
      refine hw_skip ?_
      refine seqQ_n ?_
      refine hw_reg ?_
      refine dp rfl (pop_move rfl) ?_
      refine de rfl (eop_callf (M1 := [.arr (gV x G) 2 ((gL x G).map eStat)]) (R := [.arr u 3 (((sortS S).take k).map fun s => eLine ⟨s, week, statsOf c s⟩), .map m15 (sk (em fG G))] ++ grp 2 eStat (restG G ((sortS S).take k ++ [x]))) ca106 rfl (WeakL.refl _) (List.Perm.refl _) (c_sort_Stat (c := byNm) (swo_cmp byNm_cmp) ca107 (fun _ _ => @c_play_byName trackOn _ _) (l := gL x G) (by have := rawStats_le c x; rw [gL_len hEp hG]; omega)) ?_)
      rintro _ _ ⟨l', rfl, hp', hw', rfl⟩
      obtain rfl := stats_sorted hEp hn hG hp' hw'
      refine dn ?_
      refine hw_ghost (Ghost.fa 14 (i := 0) rfl rfl) ?_
      refine hw_reg1 ?_
      refine dp rfl (pop_move rfl) ?_
      refine dp rfl (pop_move rfl) ?_
      refine dp rfl (pop_move rfl) ?_
      refine dp rfl (pop_move rfl) ?_
      refine dp rfl (pop_build (cs := [_, _, _]) ty55 pl55 rfl) ?_
      refine dp rfl (pop_buildSlice (hs := [_]) ty49 ty55 rfl rfl (by decide) (by decide) rfl) ?_
      refine de rfl (eop_append (i := 0) ty49 ty55 rfl rfl rfl rfl rfl (by simp [flat, hcells]) (by have := sortS_len S; simp only [List.length_map, List.length_cons, List.length_nil, List.length_take]; omega) fun v64 => ?_)
      refine dp rfl (pop_assign rfl) ?_
      refine dn ?_
      refine blockQ_n ?_
      refine seqQ_n ?_
      refine hw_reg1 ?_
      refine dp rfl (pop_add64 rfl rfl (by omega) (by omega)) ?_
      refine dp rfl (pop_move rfl) ?_
      refine dn ?_
      refine ⟨k + 1, v64, ⟨by omega, fun s hs => ?_⟩, by dsimp only; omega, ⟨rfl, rfl, trivial⟩, (by repeat (first | exact keeps_refl | refine keeps_upd rfl ?_ | refine keeps_loop rfl rfl ?_)), perm_eq (by dsimp only; rw [take_snoc' hx, List.map_append]; rfl)⟩
      rw [take_snoc' hx] at hs
      rcases List.mem_append.1 hs with hs | hs
      ·exact hg s hs
      ·rw [List.mem_singleton.1 hs, ← gL_len hEp hG]; omega
    ·try simp at h8
     have hnk : (sortS S).length ≤ k := by omega
     obtain rfl : k = (sortS S).length := by omega
     refine hw_exit ?_
     refine seqQ_x ?_
     refine loopQ2_x ?_
     refine blockQ_eq ?_
     refine seqQ_n ?_
     rw [List.take_length] at hg ⊢
     refine hw_ghost (Ghost.only (i := 0) rfl) ?_
     refine hw_reg ?_
     refine dp rfl (pop_move rfl) ?_
     refine dp rfl (pop_assign rfl) ?_
     refine dp rfl (pop_assign rfl) ?_
     refine dn ?_
     refine hw_ret ?_
     (refine ret_fa (M := []) 6 rfl rfl ?_
      have hf := full_none (c := c) (S := S) (fun y hy => hO y (hEp.mem_iff.2 hy)) (fun s hs => hg s ((sortS_perm S).mem_iff.2 hs))
      rw [clinesL, clinesE, hf]; simp [Function.comp_def, ofVal, ofVal1])

end Go.Proofs.YtlankmahpaenhaaGreatDoor
end
section
namespace Go.Proofs.YtlankmahpaenhaaGreatDoor
open Go.HL
set_option maxRecDepth 100000
set_option linter.unusedVariables false
set_option linter.unusedSimpArgs false
set_option maxHeartbeats 1000000 in
/-- benchwarmer/play.lines -/
theorem c_play_lines [Tracks] {l : List Play} {trust : List Str} {week n : Int} (hT : Tracks.on = false) (hl : l.length ≤ 3000) (ht : trust.length ≤ 1000000) (ok : ∀ x ∈ l, playFault x = 0) : ConP Tryz.prog 51 [ePlays l, eSs trust, .int .i64 week, .int .i64 n] (.tup [eLines (linesL l trust week n), .int .i64 (linesE l trust week n)]) := by
 refine Con.of_body Tryz.func51 rfl Tryz.ntmps51 rfl rfl ?_
 refine hw_reg ?_
 refine dp rfl (pop_assign rfl) ?_
 refine dp rfl (pop_assign rfl) ?_
 refine dn ?_
 refine hw_reg ?_
 refine dp rfl (pop_move rfl) ?_
 refine dp rfl (pop_move rfl) ?_
 refine dp rfl (pop_move rfl) ?_
 refine de rfl (eop_callf (M1 := []) (R := []) ca78 rfl (WeakL.refl _) (List.Perm.refl _) (c_play_told (l := l) (trust := trust) (n := n) (by omega) ht) ?_)
 rintro _ _ ⟨b19, O19, rfl, hn19, hO19, rfl⟩
 refine dp rfl (pop_move rfl) ?_
 refine dp rfl (pop_move rfl) ?_
 refine de rfl (eop_callf (M1 := []) (R := _) ca40 rfl (WeakL.refl _) (List.Perm.refl _) (c_play_undone (l := l) (n := n) (by omega)) ?_)
 rintro _ _ ⟨b22, rfl, rfl⟩
 refine dp rfl (pop_assign rfl) ?_
 refine dp rfl (pop_assign rfl) ?_
 refine dn ?_
 refine hw_reg ?_
 refine de rfl (eop_makeMap fun m23 => ?_)
 refine de rfl (eop_makeMap fun m24 => ?_)
 refine dp rfl (pop_assign rfl) ?_
 refine dp rfl (pop_assign rfl) ?_
 refine dn ?_
 refine hw_seq ?_
 refine hw_reg ?_
 refine dp rfl (pop_move rfl) ?_
 refine dp rfl (pop_lenm ty26 rfl) ?_
 refine dp rfl (pop_move rfl) ?_
 refine dn ?_
 refine hw_block ?_
 refine hw_loopw [15, 27, 28, 29, 30, 31, 32, 33, 34, 35, 36, 37, 38, 39, 40, 41, 42, 43, 44, 45, 46, 47, 48, 49, 50, 51, 52, 53, 54, 55, 56, 57, 58, 59, 60, 61, 62, 63, 64, 65, 66, 67, 68, 69, 70, 71, 72, 73, 74, 75, 76, 77, 78, 79] (fun (k : Nat) => [(27, .int .i64 k)]) (fun (k : Nat) => [.map m24 (kk eOf (em (HVal.int .i64) (lnGo l trust week n (l.take k)).c)), .map m23 (sk (mset (lnGo l trust week n (l.take k)).S)), .map b22 (kk eNum (em HVal.bool (goneL l n))), .map b19 (sk (em HVal.str O19))]) (fun (k : Nat) => k ≤ l.length ∧ (True)) (fun (k : Nat) => l.length - k) (0) ?_ ?_ ?_ ?_
 ·exact ⟨Nat.zero_le _, trivial⟩
 ·exact ⟨rfl, trivial⟩
 ·exact perm_eq rfl
 ·intro k hinv
  obtain ⟨hk, -⟩ := hinv
  refine hw_reg ?_
  refine dp rfl (pop_lss rfl rfl) ?_
  refine dn ?_
  refine hw_seq ?_
  refine hw_cond rfl (fun h1 => ?_) (fun h2 => ?_)
  ·try simp at h1
   obtain ⟨x, hx⟩ : ∃ x, l[k]? = some x := ⟨_, List.getElem?_eq_getElem h1⟩
   have hdx := drop_cons hx
   refine hw_skip ?_
   refine seqQ_n ?_
   refine hw_seq ?_
   refine hw_block ?_
   refine hw_reg ?_
   refine dp rfl (pop_idx ty26 ty30 rfl rfl rfl (by assumption)) ?_
   refine dp rfl (pop_loadw ty30 rfl rfl rfl rfl) ?_
   refine de rfl (eop_alloc ty30 rfl fun b15 => ?_)
   refine de0 (eop_storew ty30 rfl rfl rfl rfl rfl ?_)
   refine dn ?_
   refine hw_ghost (Ghost.fc0 15 rfl) ?_
   refine hw_seq ?_
   refine hw_reg ?_
   refine dp rfl (pop_fieldAddr ty30 rfl ty3 (by decide) rfl) ?_
   refine dp rfl (pop_load ty3 rfl rfl rfl) ?_
   refine dp rfl (pop_move rfl) ?_
   refine dp rfl (pop_gtr rfl rfl) ?_
   refine dp rfl (pop_move rfl) ?_
   refine dg rfl rfl (fun hc => ⟨_, OpenTo.refl _, pop_fieldAddr ty30 rfl ty3 (by decide) rfl⟩) ?_
   refine dg rfl rfl (fun hc => ⟨_, OpenTo.upd (t := 36) rfl (hc) (OpenTo.refl _), pop_load ty3 rfl rfl rfl⟩) ?_
   refine dg rfl rfl (fun hc => ⟨_, OpenTo.refl _, pop_move rfl⟩) ?_
   refine dg rfl rfl (fun hc => ⟨_, OpenTo.upd (t := 38) rfl (hc) (OpenTo.upd (t := 37) rfl (hc) (OpenTo.refl _)), pop_neq rfl rfl⟩) ?_
   refine dp rfl (pop_picko rfl (.inl rfl) (.inr ⟨_, rfl, fun h => by simp_all⟩)) ?_
   refine dp rfl (pop_move rfl) ?_
   refine dg rfl rfl (fun hc => ⟨_, OpenTo.refl _, pop_fieldAddr ty30 rfl ty3 (by decide) rfl⟩) ?_
   refine dg rfl rfl (fun hc => ⟨_, OpenTo.upd (t := 42) rfl (hc) (OpenTo.refl _), pop_load ty3 rfl rfl rfl⟩) ?_
   refine dg rfl rfl (fun hc => ⟨_, OpenTo.upd (t := 43) rfl (hc) (OpenTo.refl _), pop_gtr rfl rfl⟩) ?_
   refine dp rfl (pop_picko rfl (.inl rfl) (.inr ⟨_, rfl, fun h => by simp_all⟩)) ?_
   refine dp rfl (pop_move rfl) ?_
   refine dg rfl rfl (fun hc => ⟨_, OpenTo.refl _, pop_move rfl⟩) ?_
   refine dg rfl rfl (fun hc => ⟨_, OpenTo.refl _, pop_fieldAddr ty30 rfl ty9 (by decide) rfl⟩) ?_
   refine dg rfl rfl (fun hc => ⟨_, OpenTo.upd (t := 48) rfl (hc) (OpenTo.refl _), pop_load ty9 rfl rfl rfl⟩) ?_
   refine dg rfl rfl (fun hc => ⟨_, OpenTo.refl _, pop_fieldAddr ty30 rfl ty3 (by decide) rfl⟩) ?_
   refine dg rfl rfl (fun hc => ⟨_, OpenTo.upd (t := 50) rfl (hc) (OpenTo.refl _), pop_load ty3 rfl rfl rfl⟩) ?_
   refine dg rfl rfl (fun hc => ⟨_, OpenTo.upd (t := 51) rfl (hc) (OpenTo.upd (t := 49) rfl (hc) (OpenTo.refl _)), pop_build (cs := [_, _]) ty75 pl75 rfl⟩) ?_
   refine dgl rfl rfl (fun hc => ⟨_, OpenTo.upd (t := 52) rfl (hc) (OpenTo.upd (t := 47) rfl (hc) (OpenTo.refl _)), eop_lookupkA (i := 2) (s := (x.Source, x.No)) (z0 := false) ty72 ok75 ty4 rfl rfl rfl rfl ⟨rfl, rfl⟩⟩) ?_
   refine dp rfl (pop_picko rfl (.inl rfl) (.inr ⟨_, rfl, fun h => by simp_all⟩)) ?_
   refine dp rfl (pop_move rfl) ?_
   refine dg rfl rfl (fun hc => ⟨_, OpenTo.refl _, pop_move rfl⟩) ?_
   refine dg rfl rfl (fun hc => ⟨_, OpenTo.refl _, pop_fieldAddr ty30 rfl ty9 (by decide) rfl⟩) ?_
   refine dg rfl rfl (fun hc => ⟨_, OpenTo.upd (t := 57) rfl (hc) (OpenTo.refl _), pop_load ty9 rfl rfl rfl⟩) ?_
   refine dgl rfl rfl (fun hc => ⟨_, OpenTo.upd (t := 58) rfl (hc) (OpenTo.upd (t := 56) rfl (hc) (OpenTo.refl _)), eop_lookupA (i := 3) (z0 := ([] : Str)) ty117 ty9 ty9 rfl rfl rfl rfl ⟨rfl, rfl⟩⟩) ?_
   refine dg rfl rfl (fun hc => ⟨_, OpenTo.refl _, pop_fieldAddr ty30 rfl ty9 (by decide) rfl⟩) ?_
   refine dg rfl rfl (fun hc => ⟨_, OpenTo.upd (t := 60) rfl (hc) (OpenTo.refl _), pop_load ty9 rfl rfl rfl⟩) ?_
   refine dg rfl rfl (fun hc => ⟨_, OpenTo.upd (t := 61) rfl (hc) (OpenTo.upd (t := 59) rfl (hc) (OpenTo.refl _)), pop_neqs rfl rfl⟩) ?_
   refine dp rfl (pop_picko rfl (.inl rfl) (.inr ⟨_, rfl, fun h => by simp_all⟩)) ?_
   refine dn ?_
   refine hw_cond rfl (fun h3 => ?_) (fun h4 => ?_)
   ·try simp at h3
    refine hw_exit ?_
    refine seqQ_x ?_
    refine blockQ_eq ?_
    refine seqQ_n ?_
    refine hw_reg1 ?_
    refine dp rfl (pop_add64 rfl rfl (by omega) (by omega)) ?_
    refine dp rfl (pop_move rfl) ?_
    refine dn ?_
    exact ⟨k + 1, ⟨by omega, trivial⟩, by dsimp only; omega, ⟨rfl, trivial⟩, (by repeat (first | exact keeps_refl | refine keeps_upd rfl ?_ | refine keeps_loop rfl rfl ?_)), perm_eq (by dsimp only; rw [lnGo_snoc hx, lnStep, if_neg (by rw [inLine_f hO19 h3]; simp)])⟩
   ·try simp at h4
    refine hw_skip ?_
    refine seqQ_n ?_
    refine hw_reg ?_
    refine dp rfl (pop_move rfl) ?_
    refine dp rfl (pop_fieldAddr ty30 rfl ty9 (by decide) rfl) ?_
    refine dp rfl (pop_load ty9 rfl rfl rfl) ?_
    refine de0 (eop_update_set (i := 1) ty63 ty9 rfl rfl rfl rfl ?_)
    refine dn ?_
    have hpx := ok x (List.mem_of_getElem? hx)
    obtain ⟨_, _, _, _, _, hcb, _⟩ := playFault_ok hpx
    have hlk := ln_ok (l := l) (m := l.take k) (trust := trust) (week := week) (n := n) (fun y hy => ok y (List.mem_of_mem_take hy))
    have hvb := hlk.val (x.Player, x.Stat)
    have hlt : ((l.take k).length : Int) ≤ 3000 := by rw [List.length_take]; omega
    refine hw_draw1 (fun M => M = [MObj.map m24 (kk eOf (em (HVal.int .i64) (lnGo l trust week n (l.take k)).c)), MObj.map m23 (sk (mset (sadd x.Player (lnGo l trust week n (l.take k)).S))), MObj.map b22 (kk eNum (em HVal.bool (goneL l n))), MObj.map b19 (sk (em HVal.str O19))] ∨ ∃ j st, kidx (x.Player, x.Stat) (kent (x.Player, x.Stat) (HVal.int .i64 0) (em (HVal.int .i64) (lnGo l trust week n (l.take k)).c)) = some j ∧ M = [MObj.mape m24 (kk eOf (kent (x.Player, x.Stat) (HVal.int .i64 0) (em (HVal.int .i64) (lnGo l trust week n (l.take k)).c))) j st, MObj.map m23 (sk (mset (sadd x.Player (lnGo l trust week n (l.take k)).S))), MObj.map b22 (kk eNum (em HVal.bool (goneL l n))), MObj.map b19 (sk (em HVal.str O19))]) [6] mixed ?_
    refine ahp 0 rfl rfl (by kernel_rfl) (by kernel_rfl) (pop_move rfl) ?_
    refine ahp 1 rfl rfl (by kernel_rfl) (by kernel_rfl) (pop_fieldAddr ty30 rfl ty9 (by decide) rfl) ?_
    refine ahp 2 rfl rfl (by kernel_rfl) (by kernel_rfl) (pop_load ty9 rfl rfl rfl) ?_
    refine ahp 3 rfl rfl (by kernel_rfl) (by kernel_rfl) (pop_fieldAddr ty30 rfl ty9 (by decide) rfl) ?_
    refine ahp 4 rfl rfl (by kernel_rfl) (by kernel_rfl) (pop_load ty9 rfl rfl rfl) ?_
    refine ahp 5 rfl rfl (by kernel_rfl) (by kernel_rfl) (pop_build (cs := [_, _]) ty122 pl122 rfl) ?_
    refine ahl 6 rfl rfl (by kernel_rfl) (by kernel_rfl) (by simp) (.inl rfl) (fun M hM => by
   rcases hM with rfl | ⟨j, st, hj, rfl⟩
   ·exact eop_lookupkA (i := 0) (s := (x.Player, x.Stat)) (z0 := (0 : Int)) ty120 ok122 ty3 rfl rfl rfl rfl ⟨rfl, rfl⟩
   ·exact eop_lookupke (i := 0) (s := (x.Player, x.Stat)) (z0 := (0 : Int)) (f := HVal.int .i64) ty120 ok122 ty3 rfl rfl rfl rfl ⟨rfl, rfl⟩) ?_
    refine ahp 7 rfl rfl (by kernel_rfl) (by kernel_rfl) (pop_fieldAddr ty30 rfl ty3 (by decide) rfl) ?_
    refine ahp 8 rfl rfl (by kernel_rfl) (by kernel_rfl) (pop_load ty3 rfl rfl rfl) ?_
    refine ahp 9 rfl rfl (by kernel_rfl) (by kernel_rfl) (pop_add64 rfl rfl (by omega) (by omega)) ?_
    refine ahe 10 rfl (by kernel_rfl) ?_
    refine hop_e rfl (eop_mapEntryA (i := 0) (s := (x.Player, x.Stat)) (z0 := (0 : Int)) (f := HVal.int .i64) ty120 ok122 ty3 rfl rfl rfl rfl fun j77 st77 hj77 => ?_)
    refine ⟨fun _ => .inl (.inr ⟨j77, st77, hj77, rfl⟩), ?_⟩
    refine ahp 11 rfl rfl (by kernel_rfl) (by kernel_rfl) (pop_extract rfl rfl) ?_
    refine ahe 12 rfl (by kernel_rfl) ?_
    refine hop_e0 (eop_entryStoreA (i := 0) (s := (x.Player, x.Stat)) (f := HVal.int .i64) (z0 := (0 : Int)) (v := (alk (x.Player, x.Stat) (lnGo l trust week n (l.take k)).c).getD 0 + x.Count) rfl rfl rfl rfl hj77 ?_)
    refine ⟨fun _ => .inr (by simp [Before, Region.binds]), ?_⟩
    refine ahz (by kernel_rfl) ?_
    refine blockQ_n ?_
    refine seqQ_n ?_
    refine hw_reg1 ?_
    refine dp rfl (pop_add64 rfl rfl (by omega) (by omega)) ?_
    refine dp rfl (pop_move rfl) ?_
    refine dn ?_
    exact ⟨k + 1, ⟨by omega, trivial⟩, by dsimp only; omega, ⟨rfl, trivial⟩, (by repeat (first | exact keeps_refl | refine keeps_upd rfl ?_ | refine keeps_loop rfl rfl ?_)), perm_eq (by dsimp only; rw [lnGo_snoc hx, lnStep, if_pos (inLine_t hO19 h4)]; rfl)⟩
  ·try simp at h2
   have hnk : l.length ≤ k := by omega
   obtain rfl : k = l.length := by omega
   refine hw_exit ?_
   refine seqQ_x ?_
   refine loopQ_x ?_
   refine blockQ_eq ?_
   refine seqQ_n ?_
   rw [List.take_length]
   have hok := ln_ok (l := l) (m := l) (trust := trust) (week := week) (n := n) ok
   refine hw_reg ?_
   refine dp rfl (pop_move rfl) ?_
   refine dp rfl (pop_move rfl) ?_
   refine dp rfl (pop_move rfl) ?_
   refine de rfl (eop_callf (M1 := [_, _]) (R := [_, _]) ca79 rfl (WeakL.refl _) (List.Perm.refl _) (c_play_counted_lines hT hok.c hok.S hok.k (Nat.le_trans hok.cl (by omega)) (Nat.le_trans hok.Sl (by omega))) ?_)
   rintro _ _ ⟨rfl, rfl⟩
   refine dp rfl (pop_extract rfl rfl) ?_
   refine dp rfl (pop_extract rfl rfl) ?_
   refine dp rfl (pop_assign rfl) ?_
   refine dp rfl (pop_assign rfl) ?_
   refine dn ?_
   refine hw_ret ?_
   exact ret_g Ghost.clear rfl ⟨rfl, rfl⟩

/-- benchwarmer/play.Lines -/
theorem c_play_Lines [Tracks] {l : List Play} {trust : List Str} {week n : Int} (hT : Tracks.on = false) (hl : l.length ≤ 1000000) (ht : trust.length ≤ 1000000) : ConP Tryz.prog 23 [ePlays l, eSs trust, .int .i64 week, .int .i64 n] (.tup [eLines (LinesL l trust week n), .int .i64 (LinesE l trust week n)]) := by
 refine Con.of_body Tryz.func23 rfl Tryz.ntmps23 rfl rfl ?_
 refine hw_reg ?_
 refine dp rfl (pop_assign rfl) ?_
 refine dp rfl (pop_assign rfl) ?_
 refine dn ?_
 refine hw_seq ?_
 refine hw_reg ?_
 refine dp rfl (pop_move rfl) ?_
 refine dp rfl (pop_call ca11 rfl (WeakL.refl _) (c_play_CheckPlays (by assumption))) ?_
 refine dp rfl (pop_move rfl) ?_
 refine dp rfl (pop_call ca48 rfl (WeakL.refl _) (c_play_CheckTrust (by assumption))) ?_
 refine dp rfl (pop_buildSlice (hs := [_, _]) ty67 ty34 rfl rfl (by decide) (by decide) rfl) ?_
 refine dp rfl (pop_call ca36 rfl (WeakL.refl _) (c_base_First (l := [_, _]) (by simp))) ?_
 refine dp rfl (pop_assign rfl) ?_
 refine dn ?_
 refine hw_reg ?_
 refine dp rfl (pop_move rfl) ?_
 refine dp rfl (pop_neq rfl rfl) ?_
 refine dn ?_
 refine hw_cond rfl (fun h1 => ?_) (fun h2 => ?_)
 ·try simp at h1
  refine hw_reg ?_
  refine dp rfl (pop_move rfl) ?_
  refine dp rfl (pop_assign rfl) ?_
  refine dp rfl (pop_assign rfl) ?_
  refine dn ?_
  refine hw_ret ?_
  exact ret_w rfl (weak_tup2 (by rw [LinesL, if_pos (by simpa using h1)]; exact weak_nil 3) (by rw [LinesE, if_pos (by simpa using h1)]; exact Weak.refl _))
 ·try simp at h2
  refine hw_skip ?_
  refine seqQ_n ?_
  refine hw_seq ?_
  refine hw_reg ?_
  refine dp rfl (pop_move rfl) ?_
  refine dp rfl (pop_call ca49 rfl (WeakL.refl _) c_base_Week) ?_
  refine dp rfl (pop_not rfl) ?_
  refine dp rfl (pop_move rfl) ?_
  refine dg rfl rfl (fun hc => ⟨_, OpenTo.refl _, pop_move rfl⟩) ?_
  refine dg rfl rfl (fun hc => ⟨_, OpenTo.upd (t := 24) rfl (hc) (OpenTo.refl _), pop_call ca50 rfl (WeakL.refl _) c_base_Moment⟩) ?_
  refine dg rfl rfl (fun hc => ⟨_, OpenTo.upd (t := 25) rfl (hc) (OpenTo.refl _), pop_not rfl⟩) ?_
  refine dp rfl (pop_picko rfl (.inl rfl) (.inr ⟨_, rfl, fun h => by simp_all⟩)) ?_
  refine dn ?_
  refine hw_cond rfl (fun h3 => ?_) (fun h4 => ?_)
  ·try simp at h3
   refine hw_reg ?_
   refine dp rfl (pop_assign rfl) ?_
   refine dp rfl (pop_assign rfl) ?_
   refine dn ?_
   refine hw_ret ?_
   exact ret_w rfl (weak_tup2 (by rw [LinesL, if_neg (by simpa using h2), if_pos (by simp_all)]; exact weak_nil 3) (by rw [LinesE, if_neg (by simpa using h2), if_pos (by simp_all)]; exact Weak.refl _))
  ·try simp at h4
   refine hw_skip ?_
   refine seqQ_n ?_
   refine hw_reg ?_
   refine dp rfl (pop_move rfl) ?_
   refine dp rfl (pop_move rfl) ?_
   refine dp rfl (pop_move rfl) ?_
   refine dp rfl (pop_move rfl) ?_
   refine dp rfl (pop_call ca51 rfl (WeakL.refl _) (c_play_lines hT (playsE_ok (okPT h2).1).1 ht (plays_fault (okPT h2).1))) ?_
   refine dp rfl (pop_extract rfl rfl) ?_
   refine dp rfl (pop_extract rfl rfl) ?_
   refine dp rfl (pop_assign rfl) ?_
   refine dp rfl (pop_assign rfl) ?_
   refine dn ?_
   refine hw_ret ?_
   (refine ret_p rfl ?_
    rw [LinesL, LinesE, if_neg (by simpa using h2), if_neg (by simp_all), if_neg (by simpa using h2), if_neg (by simp_all)])

end Go.Proofs.YtlankmahpaenhaaGreatDoor
end
section
namespace Go.Proofs.YtlankmahpaenhaaGreatDoor
open Go.HL
set_option maxRecDepth 100000
set_option linter.unusedVariables false
set_option linter.unusedSimpArgs false
/-- benchwarmer/draft.CheckSwaps -/
theorem c_draft_CheckSwaps [Tracks] {r : Room} {l : List Swap} (ht : r.Teams.length ≤ 1000000) (hp : r.Players.length ≤ 1000000) (hl : l.length ≤ 1000000) : ConP Tryz.prog 80 [eRoom r, eSwaps l] (.int .i64 (checkSwaps r l)) := by
 refine Con.of_body Tryz.func80 rfl Tryz.ntmps80 rfl rfl ?_
 refine hw_reg ?_
 refine dp rfl (pop_box rfl rfl) ?_
 refine dp rfl (pop_assign rfl) ?_
 refine dn ?_
 refine hw_seq ?_
 refine hw_reg ?_
 refine dp rfl (pop_loadw ty89 rfl rfl rfl rfl) ?_
 refine dp rfl (pop_call ca108 rfl (WeakL.refl _) (c_draft_CheckRoom (by assumption) (by assumption))) ?_
 refine dp rfl (pop_assign rfl) ?_
 refine dn ?_
 refine hw_reg ?_
 refine dp rfl (pop_move rfl) ?_
 refine dp rfl (pop_neq rfl rfl) ?_
 refine dn ?_
 refine hw_cond rfl (fun h1 => ?_) (fun h2 => ?_)
 ·try simp at h1
  refine hw_reg ?_
  refine dp rfl (pop_move rfl) ?_
  refine dp rfl (pop_assign rfl) ?_
  refine dn ?_
  refine hw_ret ?_
  refine ret_p rfl ?_
  show HVal.int .i64 _ = _
  (rw [checkSwaps, if_pos (by simp_all)]; done)
 ·try simp at h2
  refine hw_skip ?_
  refine seqQ_n ?_
  refine hw_seq ?_
  refine hw_reg ?_
  refine dp rfl (pop_move rfl) ?_
  refine dp rfl (pop_lenm ty124 rfl) ?_
  refine dp rfl (pop_gtr rfl rfl) ?_
  refine dn ?_
  refine hw_cond rfl (fun h3 => ?_) (fun h4 => ?_)
  ·try simp at h3
   refine hw_reg ?_
   refine dp rfl (pop_assign rfl) ?_
   refine dn ?_
   refine hw_ret ?_
   refine ret_p rfl ?_
   show HVal.int .i64 _ = _
   (rw [checkSwaps, if_neg (by simp_all), if_pos (by omega)]; done)
  ·try simp at h4
   refine hw_skip ?_
   refine seqQ_n ?_
   refine hw_seq ?_
   refine hw_reg ?_
   refine dp rfl (pop_move rfl) ?_
   refine dp rfl (pop_lenm ty124 rfl) ?_
   refine dp rfl (pop_move rfl) ?_
   refine dn ?_
   refine hw_block ?_
   refine hw_loopw [4, 6, 7, 18, 19, 20, 21, 22, 23, 24, 25, 26, 27, 28, 29, 30, 31, 32, 33, 34, 35, 36, 37, 38, 39, 40, 41, 42, 43, 44, 45, 46, 47, 48, 49, 50, 51, 52, 53, 54, 55, 56, 57, 58, 59, 60, 61, 62, 63, 64, 65, 66, 67, 68, 69, 70] (fun (k : Nat) => [(18, .int .i64 k)]) (fun (k : Nat) => []) (fun (k : Nat) => k ≤ l.length ∧ (checkSwaps r l = swapsGo r l k (l.drop k))) (fun (k : Nat) => l.length - k) (0) ?_ ?_ ?_ ?_
   ·refine ⟨Nat.zero_le _, ?_⟩
    rw [checkSwaps, if_neg (by simp_all), if_neg (by omega)]; rfl
   ·exact ⟨rfl, trivial⟩
   ·exact List.Perm.refl _
   ·intro k hinv
    obtain ⟨hk, hg⟩ := hinv
    refine hw_reg ?_
    refine dp rfl (pop_lss rfl rfl) ?_
    refine dn ?_
    refine hw_seq ?_
    refine hw_cond rfl (fun h5 => ?_) (fun h6 => ?_)
    ·try simp at h5
     obtain ⟨x, hx⟩ : ∃ x, l[k]? = some x := ⟨_, List.getElem?_eq_getElem h5⟩
     have hdx := drop_cons hx
     rw [hdx] at hg
     refine hw_skip ?_
     refine seqQ_n ?_
     refine hw_seq ?_
     refine hw_block ?_
     refine hw_reg ?_
     refine dp rfl (pop_move rfl) ?_
     refine dp rfl (pop_idx ty124 ty160 rfl rfl rfl (by assumption)) ?_
     refine dp rfl (pop_loadw ty160 rfl rfl rfl rfl) ?_
     refine de rfl (eop_alloc ty160 rfl fun b7 => ?_)
     refine dp rfl (pop_assign rfl) ?_
     refine de0 (eop_storew ty160 rfl rfl rfl rfl rfl ?_)
     refine dn ?_
     refine hw_ghost (Ghost.fc0 7 rfl) ?_
     refine hw_block ?_
     refine hw_reg ?_
     refine dp rfl (pop_fieldAddr ty160 rfl ty3 (by decide) rfl) ?_
     refine dp rfl (pop_load ty3 rfl rfl rfl) ?_
     refine dp rfl (pop_fieldAddr ty89 rfl ty3 (by decide) rfl) ?_
     refine dp rfl (pop_load ty3 rfl rfl rfl) ?_
     refine dp rfl (pop_call ca68 rfl (WeakL.refl _) c_base_Out) ?_
     refine dp rfl (pop_assign rfl) ?_
     refine dn ?_
     refine hw_cond rfl (fun h7 => ?_) (fun h8 => ?_)
     ·try simp at h7
      refine hw_reg ?_
      refine dp rfl (pop_assign rfl) ?_
      refine dn ?_
      refine hw_ret ?_
      refine ret_p rfl ?_
      show HVal.int .i64 _ = _
      (rw [hg, swapsGo]; simp_all; done)
     ·try simp at h8
      refine hw_reg ?_
      refine dp rfl (pop_fieldAddr ty89 rfl ty47 (by decide) rfl) ?_
      refine dp rfl (pop_load ty47 rfl rfl rfl) ?_
      refine dp rfl (pop_fieldAddr ty160 rfl ty9 (by decide) rfl) ?_
      refine dp rfl (pop_load ty9 rfl rfl rfl) ?_
      refine dp rfl (pop_call ca77 rfl (WeakL.refl _) (c_slices_Contains_string_string (by omega))) ?_
      refine dp rfl (pop_not rfl) ?_
      refine dp rfl (pop_move rfl) ?_
      refine dg rfl rfl (fun hc => ⟨_, OpenTo.refl _, pop_fieldAddr ty89 rfl ty47 (by decide) rfl⟩) ?_
      refine dg rfl rfl (fun hc => ⟨_, OpenTo.upd (t := 37) rfl (hc) (OpenTo.refl _), pop_load ty47 rfl rfl rfl⟩) ?_
      refine dg rfl rfl (fun hc => ⟨_, OpenTo.refl _, pop_fieldAddr ty160 rfl ty9 (by decide) rfl⟩) ?_
      refine dg rfl rfl (fun hc => ⟨_, OpenTo.upd (t := 39) rfl (hc) (OpenTo.refl _), pop_load ty9 rfl rfl rfl⟩) ?_
      refine dg rfl rfl (fun hc => by have hq := hc; (try simp at hq); exact ⟨_, OpenTo.upd (t := 40) rfl (hc) (OpenTo.upd (t := 38) rfl (hc) (OpenTo.refl _)), pop_call ca77 rfl (WeakL.refl _) (c_slices_Contains_string_string (by omega))⟩) ?_
      refine dg rfl rfl (fun hc => ⟨_, OpenTo.upd (t := 41) rfl (hc) (OpenTo.refl _), pop_not rfl⟩) ?_
      refine dp rfl (pop_picko rfl (.inl rfl) (.inr ⟨_, rfl, fun h => by simp_all⟩)) ?_
      refine dp rfl (pop_assign rfl) ?_
      refine dn ?_
      refine hw_cond rfl (fun h9 => ?_) (fun h10 => ?_)
      ·try simp at h9
       refine hw_reg ?_
       refine dp rfl (pop_assign rfl) ?_
       refine dn ?_
       refine hw_ret ?_
       refine ret_p rfl ?_
       show HVal.int .i64 _ = _
       (rw [hg, swapsGo]; simp_all; done)
      ·try simp at h10
       refine hw_draw (fun _ => True) [] mixed ?_
       refine ahp 0 rfl rfl (by kernel_rfl) (by kernel_rfl) (pop_move rfl) ?_
       refine ahp 1 rfl rfl (by kernel_rfl) (by kernel_rfl) (pop_gtr rfl rfl) ?_
       refine ahp 2 rfl rfl (by kernel_rfl) (by kernel_rfl) (pop_move rfl) ?_
       refine ahg 3 rfl rfl (by kernel_rfl) (by kernel_rfl) rfl (fun hc => ⟨_, OpenTo.refl _, pop_fieldAddr ty160 rfl ty3 (by decide) rfl⟩) ?_
       refine ahg 4 rfl rfl (by kernel_rfl) (by kernel_rfl) rfl (fun hc => ⟨_, OpenTo.upd (t := 48) rfl (hc) (OpenTo.refl _), pop_load ty3 rfl rfl rfl⟩) ?_
       refine ahg 5 rfl rfl (by kernel_rfl) (by kernel_rfl) rfl (fun hc => ⟨_, OpenTo.refl _, pop_move rfl⟩) ?_
       refine ahg 6 rfl rfl (by kernel_rfl) (by kernel_rfl) rfl (fun hc => ⟨_, OpenTo.refl _, pop_move rfl⟩) ?_
       refine ahg 7 rfl rfl (by kernel_rfl) (by kernel_rfl) rfl (fun hc => by have hq := hc; (try simp at hq); exact ⟨_, OpenTo.upd (t := 51) rfl (hc) (OpenTo.refl _), pop_sub64 rfl rfl (by omega) (by omega)⟩) ?_
       refine ahg 8 rfl rfl (by kernel_rfl) (by kernel_rfl) rfl (fun hc => by have hq := hc; (try simp at hq); exact ⟨_, OpenTo.upd (t := 52) rfl (hc) (OpenTo.upd (t := 50) rfl (hc) (OpenTo.refl _)), pop_idx (j := k - 1) (a := l.getD (k - 1) swap0) ty124 ty160 rfl rfl (by omega) (getD_some (by omega))⟩) ?_
       refine ahg 9 rfl rfl (by kernel_rfl) (by kernel_rfl) rfl (fun hc => ⟨_, OpenTo.upd (t := 53) rfl (hc) (OpenTo.refl _), pop_fieldAddr ty160 rfl ty3 (by decide) rfl⟩) ?_
       refine ahg 10 rfl rfl (by kernel_rfl) (by kernel_rfl) rfl (fun hc => ⟨_, OpenTo.upd (t := 54) rfl (hc) (OpenTo.refl _), pop_load ty3 rfl rfl rfl⟩) ?_
       refine ahg 11 rfl rfl (by kernel_rfl) (by kernel_rfl) rfl (fun hc => ⟨_, OpenTo.upd (t := 55) rfl (hc) (OpenTo.upd (t := 49) rfl (hc) (OpenTo.refl _)), pop_call ca67 rfl (WeakL.refl _) c_cmp_Compare_int⟩) ?_
       refine ahg 12 rfl rfl (by kernel_rfl) (by kernel_rfl) rfl (fun hc => ⟨_, OpenTo.refl _, pop_fieldAddr ty160 rfl ty9 (by decide) rfl⟩) ?_
       refine ahg 13 rfl rfl (by kernel_rfl) (by kernel_rfl) rfl (fun hc => ⟨_, OpenTo.upd (t := 57) rfl (hc) (OpenTo.refl _), pop_load ty9 rfl rfl rfl⟩) ?_
       refine ahg 14 rfl rfl (by kernel_rfl) (by kernel_rfl) rfl (fun hc => ⟨_, OpenTo.refl _, pop_move rfl⟩) ?_
       refine ahg 15 rfl rfl (by kernel_rfl) (by kernel_rfl) rfl (fun hc => ⟨_, OpenTo.refl _, pop_move rfl⟩) ?_
       refine ahg 16 rfl rfl (by kernel_rfl) (by kernel_rfl) rfl (fun hc => by have hq := hc; (try simp at hq); exact ⟨_, OpenTo.upd (t := 60) rfl (hc) (OpenTo.refl _), pop_sub64 rfl rfl (by omega) (by omega)⟩) ?_
       refine ahg 17 rfl rfl (by kernel_rfl) (by kernel_rfl) rfl (fun hc => by have hq := hc; (try simp at hq); exact ⟨_, OpenTo.upd (t := 61) rfl (hc) (OpenTo.upd (t := 59) rfl (hc) (OpenTo.refl _)), pop_idx (j := k - 1) (a := l.getD (k - 1) swap0) ty124 ty160 rfl rfl (by omega) (getD_some (by omega))⟩) ?_
       refine ahg 18 rfl rfl (by kernel_rfl) (by kernel_rfl) rfl (fun hc => ⟨_, OpenTo.upd (t := 62) rfl (hc) (OpenTo.refl _), pop_fieldAddr ty160 rfl ty9 (by decide) rfl⟩) ?_
       refine ahg 19 rfl rfl (by kernel_rfl) (by kernel_rfl) rfl (fun hc => ⟨_, OpenTo.upd (t := 63) rfl (hc) (OpenTo.refl _), pop_load ty9 rfl rfl rfl⟩) ?_
       refine ahg 20 rfl rfl (by kernel_rfl) (by kernel_rfl) rfl (fun hc => ⟨_, OpenTo.upd (t := 64) rfl (hc) (OpenTo.upd (t := 58) rfl (hc) (OpenTo.refl _)), pop_call ca66 rfl (WeakL.refl _) c_strings_Compare⟩) ?_
       refine ahg 21 rfl rfl (by kernel_rfl) (by kernel_rfl) rfl (fun hc => ⟨_, OpenTo.upd (t := 65) rfl (hc) (OpenTo.upd (t := 56) rfl (hc) (OpenTo.refl _)), pop_buildSlice (hs := [_, _]) ty22 ty3 rfl rfl (by decide) (by decide) rfl⟩) ?_
       refine ahg 22 rfl rfl (by kernel_rfl) (by kernel_rfl) rfl (fun hc => ⟨_, OpenTo.upd (t := 66) rfl (hc) (OpenTo.refl _), pop_call ca65 rfl (WeakL.refl _) (c_cmp_Or_int (l := [_, _]) (by simp))⟩) ?_
       refine ahg 23 rfl rfl (by kernel_rfl) (by kernel_rfl) rfl (fun hc => ⟨_, OpenTo.upd (t := 67) rfl (hc) (OpenTo.refl _), pop_leq rfl rfl⟩) ?_
       refine ahp 24 rfl rfl (by kernel_rfl) (by kernel_rfl) (pop_picko rfl (.inr ⟨_, rfl, fun h => by simp_all⟩) (.inl rfl)) ?_
       refine ahp 25 rfl rfl (by kernel_rfl) (by kernel_rfl) (pop_assign rfl) ?_
       refine ahz (by kernel_rfl) ?_
       refine hw_cond rfl (fun h11 => ?_) (fun h12 => ?_)
       ·try simp at h11
        refine hw_reg ?_
        refine dp rfl (pop_assign rfl) ?_
        refine dn ?_
        refine hw_ret ?_
        refine ret_p rfl ?_
        show HVal.int .i64 _ = _
        (rw [hg, swapsGo]; simp_all; done)
       ·try simp at h12
        refine hw_skip ?_
        refine blockQ_n ?_
        refine blockQ_n ?_
        refine seqQ_n ?_
        refine hw_reg1 ?_
        refine dp rfl (pop_add64 rfl rfl (by omega) (by omega)) ?_
        refine dp rfl (pop_move rfl) ?_
        refine dn ?_
        refine ⟨k + 1, ?_, ?_, ⟨rfl, trivial⟩, (by repeat (first | exact keeps_refl | refine keeps_upd rfl ?_ | refine keeps_loop rfl rfl ?_)), List.Perm.refl _⟩
        ·refine ⟨by omega, ?_⟩
         rw [hg, swapsGo]; simp_all
         intro h1 h2; have := h12 h1; omega
        ·dsimp only; omega
    ·try simp at h6
     have hnk : l.length ≤ k := by omega
     obtain rfl : k = l.length := by omega
     rw [drop_all (Nat.le_refl _)] at hg
     refine hw_exit ?_
     refine seqQ_x ?_
     refine loopQ_x ?_
     refine blockQ_eq ?_
     refine seqQ_n ?_
     refine hw_reg ?_
     refine dp rfl (pop_assign rfl) ?_
     refine dn ?_
     refine hw_ret ?_
     refine ret_p rfl ?_
     show HVal.int .i64 _ = _
     (rw [hg]; rfl)
end Go.Proofs.YtlankmahpaenhaaGreatDoor
end
section
namespace Go.Proofs.YtlankmahpaenhaaGreatDoor
open Go.HL
set_option maxRecDepth 100000
set_option linter.unusedVariables false
set_option linter.unusedSimpArgs false
/-- slices.Clone[[]string,string] -/
theorem c_slices_Clone_string_string [Tracks] {l : List Str} (hl : l.length ≤ 1000000) : ConA Tryz.prog 109 [eSs l] 1 (l.map .str) := by
 refine Con.of_body Tryz.func109 rfl Tryz.ntmps109 rfl rfl ?_
 refine hw_reg ?_
 refine dp rfl (pop_assign rfl) ?_
 refine dn ?_
 refine hw_seq ?_
 refine hw_reg ?_
 refine dp rfl (pop_move rfl) ?_
 refine de rfl (eop_eqnil ty47 rfl rfl fun b4 hb4 => ?_)
 refine dn ?_
 refine hw_cond rfl (fun h1 => ?_) (fun h2 => ?_)
 ·try simp at h1
  refine hw_reg ?_
  refine dp rfl (pop_assign rfl) ?_
  refine dn ?_
  refine hw_ret ?_
  exact ret_g (Ghost.arr_nil 1) rfl ⟨_, rfl, by simp_all⟩
 ·try simp at h2
  refine hw_skip ?_
  refine seqQ_n ?_
  refine hw_reg ?_
  refine de rfl (eop_mk0 ty47 ty9 fun v5 => ?_)
  refine dp rfl (pop_move rfl) ?_
  refine de rfl (eop_append (i := 0) ty47 ty9 rfl rfl rfl rfl rfl (by simp [flat, hcells]) (by simp; omega) fun v7 => ?_)
  refine dp rfl (pop_assign rfl) ?_
  refine dn ?_
  refine hw_ret ?_
  exact ret_a rfl rfl

/-- slices.Reverse[[]string,string] -/
theorem c_slices_Reverse_string_string [Tracks] {l : List Str} {v : Value} (hl : l.length ≤ 1000000) : Con Tryz.prog 111 [.raw v] [.arr v 1 (l.map .str)] (fun x M' => x = .tup [] ∧ M' = [.arr v 1 (l.reverse.map .str)]) := by
 refine Con.of_body Tryz.func111 rfl Tryz.ntmps111 rfl rfl ?_
 refine hw_reg ?_
 refine dp rfl (pop_move rfl) ?_
 refine de rfl (eop_len (i := 0) ty47 rfl rfl ?_)
 rw [List.length_map]
 refine dp rfl (pop_sub64 rfl rfl (by omega) (by omega)) ?_
 refine dp rfl (pop_assign rfl) ?_
 refine dp rfl (pop_assign rfl) ?_
 refine dn ?_
 refine hw_block ?_
 refine hw_loopw3 [2, 3, 7, 8, 9, 10, 11, 12, 13, 14, 15, 16, 17, 18, 19, 20, 21, 22, 23, 24, 25, 26, 27] (fun (i : Nat) (j : Int) (c : List Str) => [(2, .int .i64 i), (3, .int .i64 j)]) (fun (i : Nat) (j : Int) (c : List Str) => [.arr v 1 (c.map .str)]) (fun (i : Nat) (j : Int) (c : List Str) => i ≤ l.length ∧ j = (l.length : Int) - 1 - i ∧ Rev l c i) (fun (i : Nat) (j : Int) (c : List Str) => l.length - i) (0) ((l.length : Int) - 1) (l) ?_ ?_ ?_ ?_
 ·exact ⟨Nat.zero_le _, by omega, rev_start l⟩
 ·exact ⟨rfl, rfl, trivial⟩
 ·exact List.Perm.refl _
 ·intro i j c hinv
  obtain ⟨hi, hj, hr⟩ := hinv
  refine hw_seq ?_
  refine hw_reg ?_
  refine dp rfl (pop_move rfl) ?_
  refine dp rfl (pop_move rfl) ?_
  refine dp rfl (pop_lss rfl rfl) ?_
  refine dn ?_
  refine hw_cond rfl (fun h1 => ?_) (fun h2 => ?_)
  ·try simp at h1
   have hlen := hr.1
   obtain ⟨x, hx⟩ : ∃ x, c[i]? = some x := ⟨_, List.getElem?_eq_getElem (by omega)⟩
   obtain ⟨y, hy⟩ : ∃ y, c[l.length - 1 - i]? = some y := ⟨_, List.getElem?_eq_getElem (by omega)⟩
   refine hw_arr (i := 0) rfl (fun h0 he => ?_) (fun b off cap hv => ?_)
   ·exfalso; simp at he; subst he; simp at hlen; omega
   subst hv
   refine hw_skip ?_
   refine seqQ_n ?_
   refine hw_seq ?_
   refine hw_block ?_
   refine hw_draw1 (fun M => M = [.arr (.slice (some ⟨b, off, none⟩) (c.map HVal.str).length cap) 1 (c.map .str)]) [7, 11] mixed ?_
   refine ahp 0 rfl rfl (by kernel_rfl) (by kernel_rfl) (pop_move rfl) ?_
   refine ahp 1 rfl rfl (by kernel_rfl) (by kernel_rfl) (pop_move rfl) ?_
   refine ahp 2 rfl rfl (by kernel_rfl) (by kernel_rfl) (pop_move rfl) ?_
   refine ahp 3 rfl rfl (by kernel_rfl) (by kernel_rfl) (pop_move rfl) ?_
   refine ahp 4 rfl rfl (by kernel_rfl) (by kernel_rfl) (pop_move rfl) ?_
   refine ahp 5 rfl rfl (by kernel_rfl) (by kernel_rfl) (pop_move rfl) ?_
   refine ahp 6 rfl rfl (by kernel_rfl) (by kernel_rfl) (pop_idxraw (j := l.length - 1 - i) ty47 ty9 rfl rfl (by omega) (by simp; omega)) ?_
   refine ahl 7 rfl rfl (by kernel_rfl) (by kernel_rfl) (by simp) rfl (fun M hM => by subst hM; exact eop_load_arr (i := 0) (j := l.length - 1 - i) (f := 0) (y := .str y) ty9 rfl rfl rfl (by simp [hy]) (.inl ⟨rfl, rfl⟩) ⟨rfl, rfl⟩) ?_
   refine ahp 8 rfl rfl (by kernel_rfl) (by kernel_rfl) (pop_move rfl) ?_
   refine ahp 9 rfl rfl (by kernel_rfl) (by kernel_rfl) (pop_move rfl) ?_
   refine ahp 10 rfl rfl (by kernel_rfl) (by kernel_rfl) (pop_idxraw (j := i) ty47 ty9 rfl rfl rfl (by simp; omega)) ?_
   refine ahl 11 rfl rfl (by kernel_rfl) (by kernel_rfl) (by simp) rfl (fun M hM => by subst hM; exact eop_load_arr (i := 0) (j := i) (f := 0) (y := .str x) ty9 rfl rfl rfl (by simp [hx]) (.inl ⟨rfl, rfl⟩) ⟨rfl, rfl⟩) ?_
   refine ahp 12 rfl rfl (by kernel_rfl) (by kernel_rfl) (pop_idxraw (j := i) ty47 ty9 rfl rfl rfl (by simp; omega)) ?_
   refine ahe 13 rfl (by kernel_rfl) ?_
   refine hop_e0 (eop_store_arr (i := 0) (j := i) (f := 0) (y := .str x) (y' := .str y) ty9 rfl rfl rfl rfl (by simp [hx]) rfl rfl (by simp [hcells]) rfl ?_)
   refine ⟨fun _ => .inr (by simp [Before, Region.binds]), ?_⟩
   refine ahp 14 rfl rfl (by kernel_rfl) (by kernel_rfl) (pop_idxraw (j := l.length - 1 - i) ty47 ty9 rfl rfl (by omega) (by simp; omega)) ?_
   refine ahe 15 rfl (by kernel_rfl) ?_
   refine hop_e0 (eop_store_arr (i := 0) (j := l.length - 1 - i) (f := 0) (y := .str y) (y' := .str x) ty9 rfl rfl rfl rfl (by simp [List.getElem?_set]; rw [if_neg (by omega)]; simp [hy]) rfl rfl (by simp [hcells]) rfl ?_)
   refine ⟨fun _ => .inr (by simp [Before, Region.binds]), ?_⟩
   refine ahz (by kernel_rfl) ?_
   refine blockQ_n ?_
   refine seqQ_n ?_
   refine hw_reg1 ?_
   refine dp rfl (pop_move rfl) ?_
   refine dp rfl (pop_add64 rfl rfl (by omega) (by omega)) ?_
   refine dp rfl (pop_move rfl) ?_
   refine dp rfl (pop_sub64 rfl rfl (by omega) (by omega)) ?_
   refine dp rfl (pop_assign rfl) ?_
   refine dp rfl (pop_assign rfl) ?_
   refine dn ?_
   refine ⟨i + 1, j - 1, (c.set i y).set (l.length - 1 - i) x, ?_, ?_, ⟨rfl, rfl, trivial⟩, (by repeat (first | exact keeps_refl | refine keeps_upd rfl ?_ | refine keeps_loop rfl rfl ?_)), perm_eq (by simp [List.map_set])⟩
   ·exact ⟨by omega, by omega, rev_step hr (by omega) hx hy⟩
   ·dsimp only; omega
  ·try simp at h2
   have hend := rev_end hr (by omega)
   refine hw_exit ?_
   refine seqQ_x ?_
   refine loopQ3_x ?_
   refine blockQ_eq ?_
   exact ⟨_, _, Ghost.sub (Sub.refl _), _, _, rfl, Weak.refl _, rfl, by rw [hend]⟩
end Go.Proofs.YtlankmahpaenhaaGreatDoor
end
section
namespace Go.Proofs.YtlankmahpaenhaaGreatDoor
open Go.HL
set_option maxRecDepth 100000
set_option linter.unusedVariables false
set_option linter.unusedSimpArgs false
/-- benchwarmer/draft.turns -/
theorem c_draft_turns [Tracks] {r : Room} {s : List Swap} (ht : r.Teams.length ≤ 20) (hr0 : 1 ≤ r.Rounds) (hr : r.Rounds ≤ 30) (hl : s.length ≤ 1000000) : ConP Tryz.prog 81 [.vptr (hcells (eRoom r)) 0, eSwaps s] (eTurns (turns r s)) := by
 refine Con.of_body Tryz.func81 rfl Tryz.ntmps81 rfl rfl ?_
 refine hw_reg ?_
 refine dp rfl (pop_assign rfl) ?_
 refine dn ?_
 refine hw_reg ?_
 refine dp rfl (pop_assign rfl) ?_
 refine dn ?_
 refine hw_ghost (Ghost.arr_nil 3) ?_
 refine hw_seq ?_
 refine hw_reg ?_
 refine dp rfl (pop_assign rfl) ?_
 refine dn ?_
 refine hw_block ?_
 refine hw_loopw2 [5, 6, 7, 9, 10, 11, 12, 13, 14, 15, 16, 17, 18, 19, 20, 21, 22, 23, 24, 25, 26, 27, 28, 29, 30, 31, 32, 33, 34, 35, 36, 37, 38, 39, 40, 41, 42, 43, 44, 45, 46, 47] (fun (n : Nat) (v : Value) => [(6, .int .i64 ((n : Int) + 1)), (5, .raw v)]) (fun (n : Nat) (v : Value) => [.arr v 3 ((turnsFrom r s n).map eTurn)]) (fun (n : Nat) (v : Value) => n ≤ r.Rounds.toNat) (fun (n : Nat) (v : Value) => r.Rounds.toNat - n) (0) (.slice none 0 0) ?_ ?_ ?_ ?_
 ·exact Nat.zero_le _
 ·exact ⟨rfl, rfl, trivial⟩
 ·exact List.Perm.refl _
 ·intro n v hn
  refine hw_seq ?_
  refine hw_reg ?_
  refine dp rfl (pop_move rfl) ?_
  refine dp rfl (pop_move rfl) ?_
  refine dp rfl ((pop_nilCheck rfl)) ?_
  refine dp rfl (pop_fieldAddr ty89 rfl ty3 (by decide) rfl) ?_
  refine dp rfl (pop_load ty3 rfl rfl rfl) ?_
  refine dp rfl (pop_leq rfl rfl) ?_
  refine dn ?_
  refine hw_cond rfl (fun h1 => ?_) (fun h2 => ?_)
  ·try simp at h1
   have hn30 : n < r.Rounds.toNat := by omega
   refine hw_skip ?_
   refine seqQ_n ?_
   refine hw_seq ?_
   refine hw_block ?_
   refine hw_reg ?_
   refine dp rfl (pop_move rfl) ?_
   refine dp rfl ((pop_nilCheck rfl)) ?_
   refine dp rfl (pop_fieldAddr ty89 rfl ty47 (by decide) rfl) ?_
   refine dp rfl (pop_load ty47 rfl rfl rfl) ?_
   refine de rfl (eop_calla ca109 rfl (WeakL.refl _) (c_slices_Clone_string_string (by omega)) fun v22 => ?_)
   refine dp rfl (pop_assign rfl) ?_
   refine dn ?_
   refine hw_join [23, 24, 25, 26, 27, 28, 29, 30] (fun (L : List Str) => []) (fun (L : List Str) => [.arr v22 1 (L.map .str), .arr v 3 ((turnsFrom r s n).map eTurn)]) (fun (L : List Str) => L = if backwards r.Way ((n : Int) + 1) then r.Teams.reverse else r.Teams) ?_ ?_
   ·skip
    refine hw_reg ?_
    refine dp rfl (pop_move rfl) ?_
    refine dp rfl ((pop_nilCheck rfl)) ?_
    refine dp rfl (pop_fieldAddr ty89 rfl ty3 (by decide) rfl) ?_
    refine dp rfl (pop_load ty3 rfl rfl rfl) ?_
    refine dp rfl (pop_move rfl) ?_
    refine dp rfl (pop_call ca110 rfl (WeakL.refl _) c_draft_backwards) ?_
    refine dn ?_
    refine hw_cond rfl (fun h3 => ?_) (fun h4 => ?_)
    ·try simp at h3
     refine hw_reg1 ?_
     refine dp rfl (pop_move rfl) ?_
     refine de rfl (eop_callf (M1 := [_]) (R := [_]) ca111 rfl (WeakL.refl _) (List.Perm.refl _) (c_slices_Reverse_string_string (l := r.Teams) (by omega)) ?_)
     rintro _ _ ⟨rfl, rfl⟩
     refine dn ?_
     refine ⟨_, ?_, trivial, (by repeat (first | exact keeps_refl | refine keeps_upd rfl ?_ | refine keeps_loop rfl rfl ?_)), List.Perm.refl _⟩
     ·simp_all
    ·try simp at h4
     refine hw_skip ?_
     refine ⟨_, ?_, trivial, (by repeat (first | exact keeps_refl | refine keeps_upd rfl ?_ | refine keeps_loop rfl rfl ?_)), List.Perm.refl _⟩
     ·simp_all
   ·intro L hL
    have hLl : L.length = r.Teams.length := by rw [hL]; split <;> simp
    have hb := turnsFrom_len r s n
    have hm := Nat.mul_le_mul (show n ≤ 30 by omega) (show r.Teams.length ≤ 20 by omega)
    refine hw_ghost (Ghost.fa0 7 rfl) ?_
    refine hw_reg ?_
    refine dp rfl (pop_move rfl) ?_
    refine dp rfl (pop_lenm ty47 rfl) ?_
    refine dp rfl (pop_move rfl) ?_
    refine dn ?_
    refine hw_block ?_
    refine hw_loopw2 [5, 9, 33, 34, 35, 36, 37, 38, 39, 40, 41, 42, 43, 44, 45, 46, 47] (fun (k : Nat) (u : Value) => [(33, .int .i64 k), (5, .raw u)]) (fun (k : Nat) (u : Value) => [.arr u 3 ((turnsFrom r s n).map eTurn ++ (L.take k).map fun t => eTurn ⟨(n : Int) + 1, t, owner ((n : Int) + 1) t s⟩)]) (fun (k : Nat) (u : Value) => k ≤ L.length ∧ (True)) (fun (k : Nat) (u : Value) => L.length - k) (0) (v) ?_ ?_ ?_ ?_
    ·exact ⟨Nat.zero_le _, by simp_all⟩
    ·exact ⟨rfl, rfl, trivial⟩
    ·exact perm_eq (by simp)
    ·intro k u hinv
     obtain ⟨hk, -⟩ := hinv
     refine hw_reg ?_
     refine dp rfl (pop_lss rfl rfl) ?_
     refine dn ?_
     refine hw_seq ?_
     refine hw_cond rfl (fun h5 => ?_) (fun h6 => ?_)
     ·try simp at h5
      obtain ⟨x, hx⟩ : ∃ x, L[k]? = some x := ⟨_, List.getElem?_eq_getElem h5⟩
      have hdx := drop_cons hx
      refine hw_skip ?_
      refine seqQ_n ?_
      refine hw_seq ?_
      refine hw_block ?_
      refine hw_reg ?_
      refine dp rfl (pop_idx ty47 ty9 rfl rfl rfl (by assumption)) ?_
      refine dp rfl (pop_load ty9 rfl rfl rfl) ?_
      refine dp rfl (pop_assign rfl) ?_
      refine dn ?_
      refine hw_reg1 ?_
      refine dp rfl (pop_move rfl) ?_
      refine dp rfl (pop_move rfl) ?_
      refine dp rfl (pop_move rfl) ?_
      refine dp rfl (pop_move rfl) ?_
      refine dp rfl (pop_move rfl) ?_
      refine dp rfl (pop_move rfl) ?_
      refine dp rfl (pop_call ca112 rfl (WeakL.refl _) (c_draft_owner (by assumption))) ?_
      refine dp rfl (pop_build (cs := [_, _, _]) ty130 pl130 rfl) ?_
      refine dp rfl (pop_buildSlice (hs := [_]) ty126 ty130 rfl rfl (by decide) (by decide) rfl) ?_
      refine de rfl (eop_append (i := 0) ty126 ty130 rfl rfl rfl rfl rfl (by simp [flat, hcells]) (by simp; omega) fun v46 => ?_)
      refine dp rfl (pop_assign rfl) ?_
      refine dn ?_
      refine blockQ_n ?_
      refine seqQ_n ?_
      refine hw_reg1 ?_
      refine dp rfl (pop_add64 rfl rfl (by omega) (by omega)) ?_
      refine dp rfl (pop_move rfl) ?_
      refine dn ?_
      refine ⟨k + 1, _, ?_, ?_, ⟨rfl, rfl, trivial⟩, (by repeat (first | exact keeps_refl | refine keeps_upd rfl ?_ | refine keeps_loop rfl rfl ?_)), perm_eq (by simp [List.take_add_one, hx])⟩
      ·exact ⟨by omega, trivial⟩
      ·dsimp only; omega
     ·try simp at h6
      have hnk : L.length ≤ k := by omega
      obtain rfl : k = L.length := by omega
      refine hw_exit ?_
      refine seqQ_x ?_
      refine loopQ2_x ?_
      refine blockQ_eq ?_
      refine blockQ_n ?_
      refine seqQ_n ?_
      refine hw_reg1 ?_
      refine dp rfl (pop_move rfl) ?_
      refine dp rfl (pop_add64 rfl rfl (by omega) (by omega)) ?_
      refine dp rfl (pop_assign rfl) ?_
      refine dn ?_
      refine ⟨n + 1, _, ?_, ?_, ⟨rfl, rfl, trivial⟩, (by repeat (first | exact keeps_refl | refine keeps_upd rfl ?_ | refine keeps_loop rfl rfl ?_)), perm_eq (by simp [turnsFrom, roundTurns, hL, List.map_append, Function.comp_def])⟩
      ·omega
      ·dsimp only; omega
  ·try simp at h2
   obtain rfl : n = r.Rounds.toNat := by omega
   refine hw_exit ?_
   refine seqQ_x ?_
   refine loopQ2_x ?_
   refine blockQ_eq ?_
   refine seqQ_n ?_
   refine hw_reg ?_
   refine dp rfl (pop_move rfl) ?_
   refine dp rfl (pop_assign rfl) ?_
   refine dn ?_
   refine hw_ret ?_
   exact ret_fa (M := []) 4 rfl rfl rfl

/-- benchwarmer/draft.Turns -/
theorem c_draft_Turns [Tracks] {r : Room} {s : List Swap} (ht : r.Teams.length ≤ 1000000) (hp : r.Players.length ≤ 1000000) (hl : s.length ≤ 1000000) : ConP Tryz.prog 57 [eRoom r, eSwaps s] (.tup [eSs (turnTeams r s), .int .i64 (checkSwaps r s)]) := by
 refine Con.of_body Tryz.func57 rfl Tryz.ntmps57 rfl rfl ?_
 refine hw_reg ?_
 refine dp rfl (pop_box rfl rfl) ?_
 refine dp rfl (pop_assign rfl) ?_
 refine dp rfl (pop_assign rfl) ?_
 refine dn ?_
 refine hw_seq ?_
 refine hw_reg ?_
 refine dp rfl (pop_loadw ty89 rfl rfl rfl rfl) ?_
 refine dp rfl (pop_move rfl) ?_
 refine dp rfl (pop_call ca80 rfl (WeakL.refl _) (c_draft_CheckSwaps (by assumption) (by assumption) (by assumption))) ?_
 refine dp rfl (pop_assign rfl) ?_
 refine dn ?_
 refine hw_reg ?_
 refine dp rfl (pop_move rfl) ?_
 refine dp rfl (pop_neq rfl rfl) ?_
 refine dn ?_
 refine hw_cond rfl (fun h1 => ?_) (fun h2 => ?_)
 ·try simp at h1
  refine hw_reg ?_
  refine dp rfl (pop_move rfl) ?_
  refine dp rfl (pop_assign rfl) ?_
  refine dp rfl (pop_assign rfl) ?_
  refine dn ?_
  refine hw_ret ?_
  exact ret_w rfl (weak_tup2 (by rw [turnTeams, if_pos (by simp_all)]; exact weak_nil 1) (Weak.refl _))
 ·try simp at h2
  refine hw_skip ?_
  refine seqQ_n ?_
  refine hw_reg ?_
  refine dp rfl (pop_assign rfl) ?_
  refine dn ?_
  refine hw_ghost (Ghost.arr_nil 1) ?_
  refine hw_seq ?_
  refine hw_reg ?_
  obtain ⟨_, hq1, _, hq2, hq3, _⟩ := checkRoom_ok (r := r) ((checkSwaps_ok (l := s) h2).1)
  have hlen := turns_len (r := r) (s := s) (checkSwaps_ok h2).1
  refine dp rfl (pop_move rfl) ?_
  refine dp rfl (pop_call ca81 rfl (WeakL.refl _) (c_draft_turns (by assumption) (by assumption) (by assumption) (by assumption))) ?_
  refine dp rfl (pop_lenm ty126 rfl) ?_
  refine dp rfl (pop_move rfl) ?_
  refine dn ?_
  refine hw_block ?_
  refine hw_loopw2 [7, 9, 19, 20, 21, 22, 23, 24, 25, 26, 27, 28] (fun (k : Nat) (u : Value) => [(19, .int .i64 k), (7, .raw u)]) (fun (k : Nat) (u : Value) => [.arr u 1 (((turns r s).take k).map fun t => .str t.team)]) (fun (k : Nat) (u : Value) => k ≤ (turns r s).length ∧ (True)) (fun (k : Nat) (u : Value) => (turns r s).length - k) (0) (.slice none 0 0) ?_ ?_ ?_ ?_
  ·exact ⟨Nat.zero_le _, by simp_all⟩
  ·exact ⟨rfl, rfl, trivial⟩
  ·exact perm_eq (by simp)
  ·intro k u hinv
   obtain ⟨hk, -⟩ := hinv
   refine hw_reg ?_
   refine dp rfl (pop_lss rfl rfl) ?_
   refine dn ?_
   refine hw_seq ?_
   refine hw_cond rfl (fun h3 => ?_) (fun h4 => ?_)
   ·try simp at h3
    obtain ⟨x, hx⟩ : ∃ x, (turns r s)[k]? = some x := ⟨_, List.getElem?_eq_getElem h3⟩
    have hdx := drop_cons hx
    refine hw_skip ?_
    refine seqQ_n ?_
    refine hw_seq ?_
    refine hw_block ?_
    refine hw_reg ?_
    refine dp rfl (pop_idx ty126 ty130 rfl rfl rfl (by assumption)) ?_
    refine dp rfl (pop_loadw ty130 rfl rfl rfl rfl) ?_
    refine de rfl (eop_alloc ty130 rfl fun b9 => ?_)
    refine de0 (eop_storew ty130 rfl rfl rfl rfl rfl ?_)
    refine dn ?_
    refine hw_ghost (Ghost.fc0 9 rfl) ?_
    refine hw_reg1 ?_
    refine dp rfl (pop_move rfl) ?_
    refine dp rfl (pop_fieldAddr ty130 rfl ty9 (by decide) rfl) ?_
    refine dp rfl (pop_load ty9 rfl rfl rfl) ?_
    refine dp rfl (pop_buildSlice (hs := [_]) ty47 ty9 rfl rfl (by decide) (by decide) rfl) ?_
    refine de rfl (eop_append (i := 0) ty47 ty9 rfl rfl rfl rfl rfl (by simp [flat, hcells]) (by simp; omega) fun v27 => ?_)
    refine dp rfl (pop_assign rfl) ?_
    refine dn ?_
    refine blockQ_n ?_
    refine seqQ_n ?_
    refine hw_reg1 ?_
    refine dp rfl (pop_add64 rfl rfl (by omega) (by omega)) ?_
    refine dp rfl (pop_move rfl) ?_
    refine dn ?_
    refine ⟨k + 1, _, ?_, ?_, ⟨rfl, rfl, trivial⟩, (by repeat (first | exact keeps_refl | refine keeps_upd rfl ?_ | refine keeps_loop rfl rfl ?_)), perm_eq (by simp [List.take_add_one, hx])⟩
    ·exact ⟨by omega, trivial⟩
    ·dsimp only; omega
   ·try simp at h4
    have hnk : (turns r s).length ≤ k := by omega
    obtain rfl : k = (turns r s).length := by omega
    refine hw_exit ?_
    refine seqQ_x ?_
    refine loopQ2_x ?_
    refine blockQ_eq ?_
    refine seqQ_n ?_
    refine hw_reg ?_
    refine dp rfl (pop_move rfl) ?_
    refine dp rfl (pop_assign rfl) ?_
    refine dp rfl (pop_assign rfl) ?_
    refine dn ?_
    refine hw_ret ?_
    (refine ret_fa (M := []) 4 rfl rfl ?_
     simp_all [turnTeams, eSs, Function.comp_def, ofVal, ofVal1])

end Go.Proofs.YtlankmahpaenhaaGreatDoor
end
section
namespace Go.Proofs.YtlankmahpaenhaaGreatDoor
open Go.HL
set_option maxRecDepth 100000
set_option linter.unusedVariables false
set_option linter.unusedSimpArgs false
/-- strings.makeASCIISet -/
theorem c_strings_makeASCIISet [Tracks] {l : Str} (hl : l.length ≤ 1000000) (ha : ∀ c ∈ l, c.toNat < 128) : ConP Tryz.prog 118 [.str l] (.tup [.agg (asciiSet l), .bool true]) := by
 refine Con.of_bodyc Tryz.func118 rfl Tryz.ntmps118 rfl rfl ?_
 refine hw_reg ?_
 refine de rfl (eop_alloc ty169 rfl fun b2 => ?_)
 refine dp rfl (pop_assign rfl) ?_
 refine dn ?_
 refine hw_seq ?_
 refine hw_reg ?_
 refine dp rfl (pop_assign rfl) ?_
 refine dn ?_
 refine hw_block ?_
 refine hw_loopw [3, 4, 5, 6, 7, 8, 9, 10, 11, 12, 13, 14, 15, 16, 17, 18, 19] (fun (k : Nat) => [(4, .int .i64 k)]) (fun (k : Nat) => [.cells b2 (asciiSet (l.take k))]) (fun (k : Nat) => k ≤ l.length ∧ (True)) (fun (k : Nat) => l.length - k) (0) ?_ ?_ ?_ ?_
 ·exact ⟨Nat.zero_le _, by simp_all⟩
 ·exact ⟨rfl, trivial⟩
 ·exact perm_eq rfl
 ·intro k hinv
  obtain ⟨hk, -⟩ := hinv
  refine hw_seq ?_
  refine hw_reg ?_
  refine dp rfl (pop_move rfl) ?_
  refine dp rfl (pop_move rfl) ?_
  refine dp rfl (pop_lens ty9 rfl) ?_
  refine dp rfl (pop_lss rfl rfl) ?_
  refine dn ?_
  refine hw_cond rfl (fun h1 => ?_) (fun h2 => ?_)
  ·try simp at h1
   obtain ⟨x, hx⟩ : ∃ x, l[k]? = some x := ⟨_, List.getElem?_eq_getElem h1⟩
   have hdx := drop_cons hx
   have hc := ha x (List.mem_of_getElem? hx)
   refine hw_skip ?_
   refine seqQ_n ?_
   refine hw_seq ?_
   refine hw_block ?_
   refine hw_reg ?_
   refine dp rfl (pop_move rfl) ?_
   refine dp rfl (pop_move rfl) ?_
   refine dp rfl (pop_indexs ty9 rfl rfl rfl (by assumption)) ?_
   refine dp rfl (pop_assign rfl) ?_
   refine dn ?_
   refine hw_seq ?_
   refine hw_reg ?_
   refine dp rfl (pop_move rfl) ?_
   refine dp rfl (pop_geq rfl rfl) ?_
   refine dn ?_
   refine hw_cond rfl (fun h3 => ?_) (fun h3 => ?_)
   ·exfalso
    try simp at h3
    omega
   ·try simp at h3
    refine hw_skip ?_
    refine seqQ_n ?_
    refine hw_reg1 ?_
    refine dp rfl (pop_move rfl) ?_
    refine dp rfl (pop_idxa_raw ty169 ty4 rfl rfl rfl (by omega)) ?_
    refine de0 (eop_store (i := 0) ty4 rfl rfl rfl rfl rfl (by rw [asciiSet_len]; omega) ?_)
    refine dn ?_
    refine blockQ_n ?_
    refine seqQ_n ?_
    refine hw_reg1 ?_
    refine dp rfl (pop_move rfl) ?_
    refine dp rfl (pop_add64 rfl rfl (by omega) (by omega)) ?_
    refine dp rfl (pop_assign rfl) ?_
    refine dn ?_
    refine ⟨k + 1, ?_, ?_, ⟨rfl, trivial⟩, (by repeat (first | exact keeps_refl | refine keeps_upd rfl ?_ | refine keeps_loop rfl rfl ?_)), perm_eq (by show [MObj.cells b2 (setL _ (0 + x.toNat * 1) [.bool true])] = _; rw [asciiSet_add]; dsimp only; rw [List.take_add_one, hx]; rfl)⟩
    ·exact ⟨by omega, trivial⟩
    ·dsimp only; omega
  ·try simp at h2
   have hnk : l.length ≤ k := by omega
   obtain rfl : k = l.length := by omega
   refine hw_exit ?_
   refine seqQ_x ?_
   refine loopQ_x ?_
   refine blockQ_eq ?_
   refine seqQ_n ?_
   refine hw_ghost (Ghost.of_eq (M' := [.cells b2 (asciiSet l)]) (by rw [List.take_length])) ?_
   refine hw_reg ?_
   refine de rfl (eop_loadw (i := 0) (h := .agg (asciiSet l)) ty169 rfl rfl rfl rfl (asciiSet_len l) ?_)
   refine de0 (eop_storew (h := .agg (asciiSet l)) ty169 rfl rfl (by simp [okElem, asciiSet_len]) (asciiSet_flat l) (asciiSet_len l) ?_)
   refine dp rfl (pop_assign rfl) ?_
   refine dn ?_
   refine hw_ret ?_
   refine ⟨_, _, Ghost.fc0 2 rfl, [_, _], _, ⟨⟨_, _, _, _, _, rfl, ty169, .inr ⟨rfl, rfl, rfl⟩⟩, ⟨rfl, trivial⟩⟩, Weak.refl _, ?_, rfl⟩
   rfl

/-- (*strings.asciiSet).contains -/
theorem c_strings_asciiSet_contains [Tracks] {l : Str} {c : UInt8}  : ConP Tryz.prog 148 [.vptr (asciiSet l) 0, .int .u8 c.toNat] (.bool (l.contains c)) := by
 have hc := c.toNat_lt
 refine Con.of_body Tryz.func148 rfl Tryz.ntmps148 rfl rfl ?_
 refine hw_reg ?_
 refine dp rfl (pop_assign rfl) ?_
 refine dn ?_
 refine hw_reg ?_
 refine dp rfl (pop_move rfl) ?_
 refine dp rfl (pop_move rfl) ?_
 refine dp rfl ((pop_nilCheck rfl)) ?_
 refine dp rfl (pop_idxa ty169 ty4 rfl rfl rfl (by omega)) ?_
 refine dp rfl (pop_load ty4 rfl rfl (by rw [show 0 + c.toNat * 1 = c.toNat from by omega]; exact asciiSet_get l c)) ?_
 refine dp rfl (pop_assign rfl) ?_
 refine dn ?_
 refine hw_ret ?_
 refine ret_p rfl ?_
 rfl

/-- strings.trimLeftASCII -/
theorem c_strings_trimLeftASCII [Tracks] {s l : Str} (hl : s.length ≤ 1000000) : ConP Tryz.prog 119 [.str s, .vptr (asciiSet l) 0] (.str (s.dropWhile (l.contains ·))) := by
 refine Con.of_body Tryz.func119 rfl Tryz.ntmps119 rfl rfl ?_
 refine hw_reg ?_
 refine dp rfl (pop_assign rfl) ?_
 refine dn ?_
 refine hw_seq ?_
 refine hw_block ?_
 refine hw_loopw [0, 5, 6, 7, 8, 9, 10, 11, 12, 13, 14] (fun (t : Str) => [(0, .str t)]) (fun (t : Str) => []) (fun (t : Str) => t.length ≤ s.length ∧ s.dropWhile (l.contains ·) = t.dropWhile (l.contains ·)) (fun (t : Str) => t.length) (s) ?_ ?_ ?_ ?_
 ·exact ⟨Nat.le_refl _, rfl⟩
 ·exact ⟨rfl, trivial⟩
 ·exact List.Perm.refl _
 ·intro t hinv
  obtain ⟨ht, hg⟩ := hinv
  refine hw_seq ?_
  refine hw_reg ?_
  refine dp rfl (pop_move rfl) ?_
  refine dp rfl (pop_lens ty9 rfl) ?_
  refine dp rfl (pop_gtr rfl rfl) ?_
  refine dn ?_
  refine hw_cond rfl (fun h1 => ?_) (fun h2 => ?_)
  ·try simp at h1
   obtain ⟨x, u, rfl⟩ : ∃ x u, t = x :: u := by cases t with | nil => simp at h1 | cons x u => exact ⟨x, u, rfl⟩
   have hlen : (x :: u).length = u.length + 1 := rfl
   refine hw_skip ?_
   refine seqQ_n ?_
   refine hw_block ?_
   refine hw_seq ?_
   refine hw_reg ?_
   refine dp rfl (pop_move rfl) ?_
   refine dp rfl (pop_move rfl) ?_
   refine dp rfl (pop_indexs (j := 0) (b := x) ty9 rfl rfl rfl rfl) ?_
   refine dp rfl (pop_call ca148 rfl (WeakL.refl _) c_strings_asciiSet_contains) ?_
   refine dp rfl (pop_not rfl) ?_
   refine dn ?_
   refine hw_cond rfl (fun h3 => ?_) (fun h4 => ?_)
   ·try simp at h3
    refine hw_exit ?_
    refine seqQ_x ?_
    refine blockQ_ne rfl ?_
    refine loopQ_x ?_
    refine blockQ_eq ?_
    refine seqQ_n ?_
    refine hw_reg ?_
    refine dp rfl (pop_move rfl) ?_
    refine dp rfl (pop_assign rfl) ?_
    refine dn ?_
    refine hw_ret ?_
    refine ret_p rfl ?_
    show HVal.str _ = _
    rw [hg]; simp_all [List.dropWhile_cons]
   ·try simp at h4
    refine hw_skip ?_
    refine seqQ_n ?_
    refine hw_reg1 ?_
    refine dp rfl (pop_move rfl) ?_
    refine dp rfl (pop_slices (l := 1) ty9 rfl ⟨_, _, rfl, rfl⟩ rfl (by omega) (by omega)) ?_
    refine dp rfl (pop_assign rfl) ?_
    refine dn ?_
    refine blockQ_n ?_
    refine ⟨_, ?_, ?_, ⟨rfl, trivial⟩, (by repeat (first | exact keeps_refl | refine keeps_upd rfl ?_ | refine keeps_loop rfl rfl ?_)), List.Perm.refl _⟩
    ·refine ⟨by simp at ht ⊢; omega, ?_⟩
     rw [hg]; simp_all [List.dropWhile_cons]
    ·dsimp only; simp
  ·try simp at h2
   obtain rfl : t = [] := by simpa using h2
   refine hw_exit ?_
   refine seqQ_x ?_
   refine loopQ_x ?_
   refine blockQ_eq ?_
   refine seqQ_n ?_
   refine hw_reg ?_
   refine dp rfl (pop_move rfl) ?_
   refine dp rfl (pop_assign rfl) ?_
   refine dn ?_
   refine hw_ret ?_
   refine ret_p rfl ?_
   show HVal.str _ = _
   rw [hg]; simp_all [List.dropWhile_cons]

/-- strings.trimRightASCII -/
theorem c_strings_trimRightASCII [Tracks] {s l : Str} (hl : s.length ≤ 1000000) : ConP Tryz.prog 120 [.str s, .vptr (asciiSet l) 0] (.str (rtrim (l.contains ·) s)) := by
 refine Con.of_body Tryz.func120 rfl Tryz.ntmps120 rfl rfl ?_
 refine hw_reg ?_
 refine dp rfl (pop_assign rfl) ?_
 refine dn ?_
 refine hw_seq ?_
 refine hw_block ?_
 refine hw_loopw [0, 5, 6, 7, 8, 9, 10, 11, 12, 13, 14, 15, 16, 17, 18, 19, 20] (fun (t : Str) => [(0, .str t)]) (fun (t : Str) => []) (fun (t : Str) => t.length ≤ s.length ∧ rtrim (l.contains ·) s = rtrim (l.contains ·) t) (fun (t : Str) => t.length) (s) ?_ ?_ ?_ ?_
 ·exact ⟨Nat.le_refl _, rfl⟩
 ·exact ⟨rfl, trivial⟩
 ·exact List.Perm.refl _
 ·intro t hinv
  obtain ⟨ht, hg⟩ := hinv
  refine hw_seq ?_
  refine hw_reg ?_
  refine dp rfl (pop_move rfl) ?_
  refine dp rfl (pop_lens ty9 rfl) ?_
  refine dp rfl (pop_gtr rfl rfl) ?_
  refine dn ?_
  refine hw_cond rfl (fun h1 => ?_) (fun h2 => ?_)
  ·try simp at h1
   obtain ⟨u, x, rfl⟩ : ∃ u x, t = u ++ [x] := ⟨_, _, (List.dropLast_concat_getLast (by intro h0; subst h0; simp at h1)).symm⟩
   have hlen : (u ++ [x]).length = u.length + 1 := by simp
   refine hw_skip ?_
   refine seqQ_n ?_
   refine hw_block ?_
   refine hw_seq ?_
   refine hw_reg ?_
   refine dp rfl (pop_move rfl) ?_
   refine dp rfl (pop_move rfl) ?_
   refine dp rfl (pop_move rfl) ?_
   refine dp rfl (pop_lens ty9 rfl) ?_
   refine dp rfl (pop_sub64 rfl rfl (by omega) (by omega)) ?_
   refine dp rfl (pop_indexs (j := u.length) (b := x) ty9 rfl rfl (by omega) (by simp)) ?_
   refine dp rfl (pop_call ca148 rfl (WeakL.refl _) c_strings_asciiSet_contains) ?_
   refine dp rfl (pop_not rfl) ?_
   refine dn ?_
   refine hw_cond rfl (fun h3 => ?_) (fun h4 => ?_)
   ·try simp at h3
    refine hw_exit ?_
    refine seqQ_x ?_
    refine blockQ_ne rfl ?_
    refine loopQ_x ?_
    refine blockQ_eq ?_
    refine seqQ_n ?_
    refine hw_reg ?_
    refine dp rfl (pop_move rfl) ?_
    refine dp rfl (pop_assign rfl) ?_
    refine dn ?_
    refine hw_ret ?_
    refine ret_p rfl ?_
    show HVal.str _ = _
    rw [hg]; first | rfl | (rw [rtrim_snoc, if_neg (by simp_all)])
   ·try simp at h4
    refine hw_skip ?_
    refine seqQ_n ?_
    refine hw_reg1 ?_
    refine dp rfl (pop_move rfl) ?_
    refine dp rfl (pop_move rfl) ?_
    refine dp rfl (pop_lens ty9 rfl) ?_
    refine dp rfl (pop_sub64 rfl rfl (by omega) (by omega)) ?_
    refine dp rfl (pop_slices (l := 0) (h := u.length) ty9 rfl rfl ⟨_, _, rfl, by omega⟩ (by omega) (by omega)) ?_
    refine dp rfl (pop_assign rfl) ?_
    refine dn ?_
    refine blockQ_n ?_
    refine ⟨_, ?_, ?_, ⟨rfl, trivial⟩, (by repeat (first | exact keeps_refl | refine keeps_upd rfl ?_ | refine keeps_loop rfl rfl ?_)), List.Perm.refl _⟩
    ·refine ⟨by simp at ht ⊢; omega, ?_⟩
     rw [hg, rtrim_snoc, if_pos (by simp_all)]; simp
    ·dsimp only; simp
  ·try simp at h2
   obtain rfl : t = [] := by simpa using h2
   refine hw_exit ?_
   refine seqQ_x ?_
   refine loopQ_x ?_
   refine blockQ_eq ?_
   refine seqQ_n ?_
   refine hw_reg ?_
   refine dp rfl (pop_move rfl) ?_
   refine dp rfl (pop_assign rfl) ?_
   refine dn ?_
   refine hw_ret ?_
   refine ret_p rfl ?_
   show HVal.str _ = _
   rw [hg]; first | rfl | (rw [rtrim_snoc, if_neg (by simp_all)])

/-- strings.Trim -/
theorem c_strings_Trim [Tracks] {s l : Str} (hs : s.length ≤ 1000000) (hl : l.length ≤ 1000000) (h2l : 2 ≤ l.length) (ha : ∀ c ∈ l, c.toNat < 128) : ConP Tryz.prog 85 [.str s, .str l] (.str ((rtrim (l.contains ·) s).dropWhile (l.contains ·))) := by
 refine Con.of_body Tryz.func85 rfl Tryz.ntmps85 rfl rfl ?_
 refine hw_reg ?_
 refine dp rfl (pop_assign rfl) ?_
 refine dn ?_
 refine hw_seq ?_
 refine hw_reg ?_
 refine dp rfl (pop_move rfl) ?_
 refine dp rfl (pop_eqls rfl rfl) ?_
 refine dp rfl (pop_move rfl) ?_
 refine dg rfl rfl (fun hc => ⟨_, OpenTo.refl _, pop_move rfl⟩) ?_
 refine dg rfl rfl (fun hc => ⟨_, OpenTo.upd (t := 10) rfl (hc) (OpenTo.refl _), pop_eqls rfl rfl⟩) ?_
 refine dp rfl (pop_picko rfl (.inl rfl) (.inr ⟨_, rfl, fun h => by simp_all⟩)) ?_
 refine dn ?_
 refine hw_cond rfl (fun h1 => ?_) (fun h2 => ?_)
 ·try simp at h1
  refine hw_reg ?_
  refine dp rfl (pop_move rfl) ?_
  refine dp rfl (pop_assign rfl) ?_
  refine dn ?_
  refine hw_ret ?_
  refine ret_p rfl ?_
  show HVal.str _ = _
  (rcases h1 with rfl | rfl <;> first | (simp at h2l; done) | (simp [rtrim]; done))
 ·try simp at h2
  refine hw_skip ?_
  refine seqQ_n ?_
  refine hw_seq ?_
  refine hw_reg ?_
  refine dp rfl (pop_move rfl) ?_
  refine dp rfl (pop_lens ty9 rfl) ?_
  refine dp rfl (pop_eql rfl rfl) ?_
  refine dp rfl (pop_move rfl) ?_
  refine dg rfl rfl (fun hc => ⟨_, OpenTo.refl _, pop_move rfl⟩) ?_
  refine dg rfl rfl (fun hc => ⟨_, OpenTo.upd (t := 18) rfl (hc) (OpenTo.refl _), pop_indexs (j := 0) (b := l.headD 0) ty9 rfl rfl rfl (hd0 (by intro h0; subst h0; simp at h2l))⟩) ?_
  refine dg rfl rfl (fun hc => ⟨_, OpenTo.upd (t := 19) rfl (hc) (OpenTo.refl _), pop_lss rfl rfl⟩) ?_
  refine dp rfl (pop_picko rfl (.inr ⟨_, rfl, fun h => by simp_all⟩) (.inl rfl)) ?_
  refine dn ?_
  refine hw_cond rfl (fun h3 => ?_) (fun h3 => ?_)
  ·exfalso
   try simp at h3
   omega
  ·try simp at h3
   refine hw_skip ?_
   refine seqQ_n ?_
   refine hw_seq ?_
   refine hw_reg ?_
   refine dp rfl (pop_move rfl) ?_
   refine dp rfl (pop_call ca118 rfl (WeakL.refl _) (c_strings_makeASCIISet (by assumption) (by assumption))) ?_
   refine dp rfl (pop_move rfl) ?_
   refine dp rfl (pop_extract rfl rfl) ?_
   refine dp rfl (pop_extract rfl rfl) ?_
   refine de rfl (eop_alloc ty169 rfl fun b5 => ?_)
   refine de0 (eop_storew ty169 rfl rfl rfl rfl rfl ?_)
   refine dp rfl (pop_assign rfl) ?_
   refine dn ?_
   refine hw_ghost (Ghost.fc0 5 rfl) ?_
   refine hw_reg ?_
   refine dp rfl (pop_move rfl) ?_
   refine dn ?_
   refine hw_cond_t rfl ?_
   refine hw_reg ?_
   refine dp rfl (pop_move rfl) ?_
   refine dp rfl (pop_call ca120 rfl (WeakL.refl _) (c_strings_trimRightASCII (by assumption))) ?_
   refine dp rfl (pop_call ca119 rfl (WeakL.refl _) (c_strings_trimLeftASCII (Nat.le_trans (rtrim_len _ _) hs))) ?_
   refine dp rfl (pop_assign rfl) ?_
   refine dn ?_
   refine hw_ret ?_
   refine ret_p rfl ?_
   show HVal.str _ = _
   rfl

/-- internal/stringslite.IndexByte -/
theorem c_internal_stringslite_IndexByte [Tracks] {s : Str} {c : Int}  : ConP Tryz.prog 123 [.str s, .int .u8 c] (.int .i64 (Lib.indexByte s c.toNat.toUInt8)) := by
 refine Con.of_body Tryz.func123 rfl Tryz.ntmps123 rfl rfl ?_
 refine hw_reg ?_
 refine dp rfl (pop_assign rfl) ?_
 refine dn ?_
 refine hw_reg ?_
 refine dp rfl (pop_move rfl) ?_
 refine dp rfl (pop_move rfl) ?_
 refine dp rfl (pop_indexByte Tryz.func152 (by kernel_rfl) (by kernel_rfl) (by kernel_rfl) (by kernel_rfl) rfl rfl rfl) ?_
 refine dp rfl (pop_assign rfl) ?_
 refine dn ?_
 refine hw_ret ?_
 refine ret_p rfl ?_
 rfl

/-- strings.IndexByte -/
theorem c_strings_IndexByte [Tracks] {s : Str} {c : Int}  : ConP Tryz.prog 86 [.str s, .int .u8 c] (.int .i64 (Lib.indexByte s c.toNat.toUInt8)) := by
 refine Con.of_body Tryz.func86 rfl Tryz.ntmps86 rfl rfl ?_
 refine hw_reg ?_
 refine dp rfl (pop_assign rfl) ?_
 refine dn ?_
 refine hw_reg ?_
 refine dp rfl (pop_move rfl) ?_
 refine dp rfl (pop_move rfl) ?_
 refine dp rfl (pop_call ca123 rfl (WeakL.refl _) c_internal_stringslite_IndexByte) ?_
 refine dp rfl (pop_assign rfl) ?_
 refine dn ?_
 refine hw_ret ?_
 refine ret_p rfl ?_
 rfl

/-- benchwarmer/benchref1.in -/
theorem c_benchref1_in [Tracks] {n lo hi : Int}  : ConP Tryz.prog 62 [.int .i64 n, .int .i64 lo, .int .i64 hi] (.bool (!(out n lo hi))) := by
 refine Con.of_body Tryz.func62 rfl Tryz.ntmps62 rfl rfl ?_
 refine hw_reg ?_
 refine dp rfl (pop_assign rfl) ?_
 refine dn ?_
 refine hw_reg ?_
 refine dp rfl (pop_move rfl) ?_
 refine dp rfl (pop_move rfl) ?_
 refine dp rfl (pop_leq rfl rfl) ?_
 refine dp rfl (pop_move rfl) ?_
 refine dg rfl rfl (fun hc => ⟨_, OpenTo.refl _, pop_move rfl⟩) ?_
 refine dg rfl rfl (fun hc => ⟨_, OpenTo.refl _, pop_move rfl⟩) ?_
 refine dg rfl rfl (fun hc => ⟨_, OpenTo.upd (t := 12) rfl (hc) (OpenTo.upd (t := 11) rfl (hc) (OpenTo.refl _)), pop_leq rfl rfl⟩) ?_
 refine dp rfl (pop_picko rfl (.inr ⟨_, rfl, fun h => by simp_all⟩) (.inl rfl)) ?_
 refine dp rfl (pop_assign rfl) ?_
 refine dn ?_
 refine hw_ret ?_
 refine ret_p rfl ?_
 show HVal.bool _ = _
 congr 1; simp [out]; rw [Bool.eq_iff_iff]; simp; try omega

/-- benchwarmer/benchref1.Key -/
theorem c_benchref1_Key [Tracks] {s : Str} (hs : s.length ≤ 1000000) : ConP Tryz.prog 61 [.str s] (.bool (key s)) := by
 refine Con.of_body Tryz.func61 rfl Tryz.ntmps61 rfl rfl ?_
 refine hw_reg ?_
 refine dp rfl (pop_assign rfl) ?_
 refine dn ?_
 refine hw_reg ?_
 refine dp rfl (pop_move rfl) ?_
 refine dp rfl (pop_lens ty9 rfl) ?_
 refine dp rfl (pop_call ca62 rfl (WeakL.refl _) c_benchref1_in) ?_
 refine dp rfl (pop_move rfl) ?_
 refine dg rfl rfl (fun hc => ⟨_, OpenTo.refl _, pop_move rfl⟩) ?_
 refine dg rfl rfl (fun hc => ⟨_, OpenTo.upd (t := 7) rfl (hc) (OpenTo.refl _), pop_call ca85 rfl (WeakL.refl _) (c_strings_Trim (l := cut38) hs (by decide) (by decide) (by decide))⟩) ?_
 refine dg rfl rfl (fun hc => ⟨_, OpenTo.upd (t := 8) rfl (hc) (OpenTo.refl _), pop_eqls rfl rfl⟩) ?_
 refine dp rfl (pop_picko rfl (.inr ⟨_, rfl, fun h => by simp_all⟩) (.inl rfl)) ?_
 refine dp rfl (pop_move rfl) ?_
 refine dg rfl rfl (fun hc => ⟨_, OpenTo.refl _, pop_move rfl⟩) ?_
 refine dg rfl rfl (fun hc => ⟨_, OpenTo.upd (t := 12) rfl (hc) (OpenTo.refl _), pop_indexs (j := 0) (b := s.headD 0) ty9 rfl rfl rfl (hd0 (by rintro rfl; simp [out] at hc))⟩) ?_
 refine dg rfl rfl (fun hc => ⟨_, OpenTo.upd (t := 13) rfl (hc) (OpenTo.refl _), pop_call ca86 rfl (WeakL.refl _) c_strings_IndexByte⟩) ?_
 refine dg rfl rfl (fun hc => ⟨_, OpenTo.upd (t := 14) rfl (hc) (OpenTo.refl _), pop_geq rfl rfl⟩) ?_
 refine dp rfl (pop_picko rfl (.inr ⟨_, rfl, fun h => by simp_all⟩) (.inl rfl)) ?_
 refine dp rfl (pop_assign rfl) ?_
 refine dn ?_
 refine hw_ret ?_
 refine ret_p rfl ?_
 show HVal.bool _ = _
 rw [key_ref]
 simp [cut38, small26]

/-- benchwarmer/benchref1.SpanFault -/
theorem c_benchref1_SpanFault [Tracks] {n lo hi : Int}  : ConP Tryz.prog 87 [.int .i64 n, .int .i64 lo, .int .i64 hi] (.int .i64 (if out n lo hi then 1 else 0)) := by
 refine Con.of_body Tryz.func87 rfl Tryz.ntmps87 rfl rfl ?_
 refine hw_reg ?_
 refine dp rfl (pop_assign rfl) ?_
 refine dn ?_
 refine hw_seq ?_
 refine hw_reg ?_
 refine dp rfl (pop_move rfl) ?_
 refine dp rfl (pop_move rfl) ?_
 refine dp rfl (pop_move rfl) ?_
 refine dp rfl (pop_call ca62 rfl (WeakL.refl _) c_benchref1_in) ?_
 refine dp rfl (pop_not rfl) ?_
 refine dn ?_
 refine hw_cond rfl (fun h1 => ?_) (fun h2 => ?_)
 ·try simp at h1
  refine hw_reg ?_
  refine dp rfl (pop_assign rfl) ?_
  refine dn ?_
  refine hw_ret ?_
  refine ret_p rfl ?_
  show HVal.int .i64 _ = _
  simp_all
 ·try simp at h2
  refine hw_skip ?_
  refine seqQ_n ?_
  refine hw_reg ?_
  refine dp rfl (pop_assign rfl) ?_
  refine dn ?_
  refine hw_ret ?_
  refine ret_p rfl ?_
  show HVal.int .i64 _ = _
  simp_all

/-- benchwarmer/benchref1.MomentFault -/
theorem c_benchref1_MomentFault [Tracks] {n : Int}  : ConP Tryz.prog 63 [.int .i64 n] (.int .i64 (if moment n then 0 else 1)) := by
 refine Con.of_body Tryz.func63 rfl Tryz.ntmps63 rfl rfl ?_
 refine hw_reg ?_
 refine dp rfl (pop_assign rfl) ?_
 refine dn ?_
 refine hw_reg ?_
 refine dp rfl (pop_move rfl) ?_
 refine dp rfl (pop_call ca87 rfl (WeakL.refl _) c_benchref1_SpanFault) ?_
 refine dp rfl (pop_assign rfl) ?_
 refine dn ?_
 refine hw_ret ?_
 refine ret_p rfl ?_
 show HVal.int .i64 _ = _
 rw [moment_ref]
end Go.Proofs.YtlankmahpaenhaaGreatDoor
end
section
namespace Go.Proofs
open Go.Shelf
def Tryz.lays190_ren : Go.Shelf.Ren := ⟨fun | 190 => 115 | 125 => 72 | 258 => 147 | 128 => 99 | 129 => 100 | 302 => 169 | 303 => 170 | 304 => 171 | 305 => 172 | 306 => 173 | 307 => 174 | 308 => 175 | 309 => 176 | 310 => 177 | 333 => 193 | 329 => 127 | 330 => 128 | 334 => 194 | 335 => 195 | 336 => 196 | 344 => 204 | n => n, fun | 31 => 47 | 9 => 9 | 3 => 3 | 46 => 111 | 0 => 0 | 51 => 146 | 53 => 148 | 4 => 4 | 183 => 140 | 182 => 139 | 131 => 68 | 5 => 5 | 218 => 174 | 222 => 178 | 228 => 193 | 229 => 194 | n => n, fun | n => n⟩
theorem Tryz.lays190 : Go.Proofs.Lays.n190 Tryz.prog Tryz.lays190_ren := {
 mixed := by kernel_rfl
 f125 := Tryz.func72.trans (congrArg some (by kernel_rfl))
 f128 := Tryz.func99.trans (congrArg some (by kernel_rfl))
 f129 := Tryz.func100.trans (congrArg some (by kernel_rfl))
 f190 := Tryz.func115.trans (congrArg some (by kernel_rfl))
 f258 := Tryz.func147.trans (congrArg some (by kernel_rfl))
 f302 := Tryz.func169.trans (congrArg some (by kernel_rfl))
 f303 := Tryz.func170.trans (congrArg some (by kernel_rfl))
 f304 := Tryz.func171.trans (congrArg some (by kernel_rfl))
 f305 := Tryz.func172.trans (congrArg some (by kernel_rfl))
 f306 := Tryz.func173.trans (congrArg some (by kernel_rfl))
 f307 := Tryz.func174.trans (congrArg some (by kernel_rfl))
 f308 := Tryz.func175.trans (congrArg some (by kernel_rfl))
 f309 := Tryz.func176.trans (congrArg some (by kernel_rfl))
 f310 := Tryz.func177.trans (congrArg some (by kernel_rfl))
 f329 := Tryz.func127.trans (congrArg some (by kernel_rfl))
 f330 := Tryz.func128.trans (congrArg some (by kernel_rfl))
 f333 := Tryz.func193.trans (congrArg some (by kernel_rfl))
 f334 := Tryz.func194.trans (congrArg some (by kernel_rfl))
 f335 := Tryz.func195.trans (congrArg some (by kernel_rfl))
 f336 := Tryz.func196.trans (congrArg some (by kernel_rfl))
 f344 := Tryz.func204.trans (congrArg some (by kernel_rfl))
 t0 := Tryz.underlying0
 a0 := Tryz.isAgg0
 z0 := Tryz.sizeOf0
 v0 := Tryz.zeroValue0
 t3 := Tryz.underlying3
 a3 := Tryz.isAgg3
 z3 := Tryz.sizeOf3
 v3 := Tryz.zeroValue3
 t4 := Tryz.underlying4
 a4 := Tryz.isAgg4
 z4 := Tryz.sizeOf4
 v4 := Tryz.zeroValue4
 t5 := Tryz.underlying5
 a5 := Tryz.isAgg5
 z5 := Tryz.sizeOf5
 v5 := Tryz.zeroValue5
 t9 := Tryz.underlying9
 a9 := Tryz.isAgg9
 z9 := Tryz.sizeOf9
 v9 := Tryz.zeroValue9
 t31 := Tryz.underlying47
 a31 := Tryz.isAgg47
 z31 := Tryz.sizeOf47
 v31 := Tryz.zeroValue47
 t46 := Tryz.underlying111
 a46 := Tryz.isAgg111
 z46 := Tryz.sizeOf111
 v46 := Tryz.zeroValue111
 t51 := Tryz.underlying146
 a51 := Tryz.isAgg146
 z51 := Tryz.sizeOf146
 v51 := Tryz.zeroValue146
 t53 := Tryz.underlying148
 a53 := Tryz.isAgg148
 z53 := Tryz.sizeOf148
 v53 := Tryz.zeroValue148
 t131 := Tryz.underlying68
 a131 := Tryz.isAgg68
 z131 := Tryz.sizeOf68
 v131 := Tryz.zeroValue68
 t182 := Tryz.underlying139
 a182 := Tryz.isAgg139
 z182 := Tryz.sizeOf139
 v182 := Tryz.zeroValue139
 t183 := Tryz.underlying140
 a183 := Tryz.isAgg140
 z183 := Tryz.sizeOf140
 v183 := Tryz.zeroValue140
 t218 := Tryz.underlying174
 a218 := Tryz.isAgg174
 z218 := Tryz.sizeOf174
 v218 := Tryz.zeroValue174
 t222 := Tryz.underlying178
 a222 := Tryz.isAgg178
 z222 := Tryz.sizeOf178
 v222 := Tryz.zeroValue178
 t228 := Tryz.underlying193
 a228 := Tryz.isAgg193
 z228 := Tryz.sizeOf193
 v228 := Tryz.zeroValue193
 t229 := Tryz.underlying194
 a229 := Tryz.isAgg194
 z229 := Tryz.sizeOf194
 v229 := Tryz.zeroValue194 }
end Go.Proofs
end
section
namespace Go.Proofs.YtlankmahpaenhaaGreatDoor
open Go.HL
set_option maxRecDepth 100000
set_option linter.unusedVariables false
set_option linter.unusedSimpArgs false
/-- math/bits.Len64 -/
theorem c_math_bits_Len64 [Tracks]   : ConP Tryz.prog 100 [.int .u64 0] (.int .i64 0) := by
 refine Con.of_body Tryz.func100 rfl Tryz.ntmps100 rfl rfl ?_
 refine hw_reg ?_
 refine dp rfl (pop_assign rfl) ?_
 refine dn ?_
 refine hw_seq ?_
 refine hw_reg ?_
 refine dp rfl (pop_move rfl) ?_
 refine dp rfl (pop_geq rfl rfl) ?_
 refine dn ?_
 refine hw_cond_f rfl ?_
 refine hw_skip ?_
 refine seqQ_n ?_
 refine hw_seq ?_
 refine hw_reg ?_
 refine dp rfl (pop_move rfl) ?_
 refine dp rfl (pop_geq rfl rfl) ?_
 refine dn ?_
 refine hw_cond_f rfl ?_
 refine hw_skip ?_
 refine seqQ_n ?_
 refine hw_seq ?_
 refine hw_reg ?_
 refine dp rfl (pop_move rfl) ?_
 refine dp rfl (pop_geq rfl rfl) ?_
 refine dn ?_
 refine hw_cond_f rfl ?_
 refine hw_skip ?_
 refine seqQ_n ?_
 refine hw_reg ?_
 refine dp rfl (pop_move rfl) ?_
 refine dp rfl (pop_move rfl) ?_
 refine dp rfl (pop_conv ty148 ty5 rfl) ?_
 refine dp rfl (pop_indexs (j := 0) (b := 0) ty9 rfl rfl rfl rfl) ?_
 refine dp rfl (pop_conv ty5 ty3 rfl) ?_
 refine dp rfl (pop_add64 rfl rfl (by decide) (by decide)) ?_
 refine dp rfl (pop_assign rfl) ?_
 refine dn ?_
 refine hw_ret ?_
 refine ret_p rfl ?_
 rfl

/-- math/bits.Len -/
theorem c_math_bits_Len [Tracks]   : ConP Tryz.prog 72 [.int .u64 0] (.int .i64 0) := by
 refine Con.of_body Tryz.func72 rfl Tryz.ntmps72 rfl rfl ?_
 refine hw_reg ?_
 refine dp rfl (pop_assign rfl) ?_
 refine dn ?_
 refine hw_seq ?_
 refine hw_cond_f rfl ?_
 refine hw_skip ?_
 refine seqQ_n ?_
 refine hw_reg ?_
 refine dp rfl (pop_move rfl) ?_
 refine dp rfl (pop_call ca100 rfl (WeakL.refl _) c_math_bits_Len64) ?_
 refine dp rfl (pop_assign rfl) ?_
 refine dn ?_
 refine hw_ret ?_
 refine ret_p rfl ?_
 rfl

/-- slices.insertionSortOrdered[string] -/
theorem c_slices_insertionSortOrdered_string [Tracks]   : ConP Tryz.prog 169 [eSs [], .int .i64 0, .int .i64 0] (.tup []) := by
 refine Con.of_body Tryz.func169 rfl Tryz.ntmps169 rfl rfl ?_
 refine hw_reg ?_
 refine dp rfl (pop_move rfl) ?_
 refine dp rfl (pop_add64 rfl rfl (by omega) (by omega)) ?_
 refine dp rfl (pop_assign rfl) ?_
 refine dn ?_
 refine hw_block ?_
 refine hw_loopw [6, 7, 10, 11, 12, 13, 14, 15, 16, 17, 18, 19, 20, 21, 22, 23, 24, 25, 26, 27, 28, 29, 30, 31, 32, 33, 34, 35, 36, 37, 38, 39, 40, 41, 42, 43, 44, 45, 46, 47, 48] (fun (u : Unit) => [(6, .int .i64 1)]) (fun (u : Unit) => []) (fun (u : Unit) => True) (fun (u : Unit) => 0) (()) ?_ ?_ ?_ ?_
 ·trivial
 ·exact ⟨rfl, trivial⟩
 ·exact List.Perm.refl _
 ·intro u hu
  refine hw_seq ?_
  refine hw_reg ?_
  refine dp rfl (pop_move rfl) ?_
  refine dp rfl (pop_move rfl) ?_
  refine dp rfl (pop_lss rfl rfl) ?_
  refine dn ?_
  refine hw_cond_f rfl ?_
  refine hw_exit ?_
  refine seqQ_x ?_
  refine loopQ_x ?_
  refine blockQ_eq ?_
  refine ret_n rfl ?_
  rfl

/-- slices.pdqsortOrdered[string] -/
theorem c_slices_pdqsortOrdered_string [Tracks]   : ConP Tryz.prog 147 [eSs [], .int .i64 0, .int .i64 0, .int .i64 0] (.tup []) := by
 refine Con.of_body Tryz.func147 rfl Tryz.ntmps147 rfl rfl ?_
 refine hw_reg ?_
 refine dp rfl (pop_assign rfl) ?_
 refine dn ?_
 refine hw_reg ?_
 refine dp rfl (pop_assign rfl) ?_
 refine dn ?_
 refine hw_block ?_
 refine hw_loopw (1 :: 2 :: 3 :: 8 :: 9 :: 10 :: 11 :: 12 :: 13 :: 14 :: 15 :: 16 :: 17 :: 18 :: 19 :: 20 :: 21 :: 22 :: 23 :: 24 :: 25 :: 26 :: 27 :: 28 :: 29 :: 30 :: 31 :: 32 :: 33 :: 34 :: 35 :: 36 :: 37 :: 38 :: 39 :: 40 :: 41 :: 42 :: 43 :: 44 :: 45 :: 46 :: 47 :: 48 :: 49 :: 50 :: 51 :: 52 :: 53 :: 54 :: 55 :: 56 :: 57 :: 58 :: 59 :: 60 :: 61 :: 62 :: 63 :: 64 :: 65 :: 66 :: 67 :: 68 :: 69 :: 70 :: 71 :: 72 :: 73 :: 74 :: 75 :: 76 :: 77 :: 78 :: 79 :: 80 :: 81 :: 82 :: 83 :: 84 :: 85 :: 86 :: 87 :: 88 :: 89 :: 90 :: 91 :: 92 :: 93 :: 94 :: 95 :: 96 :: 97 :: 98 :: 99 :: 100 :: 101 :: 102 :: 103 :: 104 :: 105 :: 106 :: 107 :: 108 :: 109 :: 110 :: 111 :: 112 :: 113 :: 114 :: 115 :: 116 :: 117 :: 118 :: 119 :: 120 :: 121 :: 122 :: 123 :: 124 :: 125 :: 126 :: 127 :: 128 :: 129 :: 130 :: 131 :: 132 :: 133 :: []) (fun (u : Unit) => [(1, .int .i64 0), (2, .int .i64 0)]) (fun (u : Unit) => []) (fun (u : Unit) => True) (fun (u : Unit) => 0) (()) ?_ ?_ ?_ ?_
 ·trivial
 ·exact ⟨rfl, rfl, trivial⟩
 ·exact List.Perm.refl _
 ·intro u hu
  refine hw_block ?_
  refine hw_reg ?_
  refine dp rfl (pop_move rfl) ?_
  refine dp rfl (pop_move rfl) ?_
  refine dp rfl (pop_sub64 rfl rfl (by omega) (by omega)) ?_
  refine dp rfl (pop_assign rfl) ?_
  refine dn ?_
  refine hw_seq ?_
  refine hw_reg ?_
  refine dp rfl (pop_move rfl) ?_
  refine dp rfl (pop_leq rfl rfl) ?_
  refine dn ?_
  refine hw_cond_t rfl ?_
  refine hw_reg ?_
  refine dp rfl (pop_move rfl) ?_
  refine dp rfl (pop_move rfl) ?_
  refine dp rfl (pop_move rfl) ?_
  refine dp rfl (pop_call ca169 rfl (WeakL.refl _) c_slices_insertionSortOrdered_string) ?_
  refine dn ?_
  refine hw_ret ?_
  refine ret_p rfl ?_
  rfl

/-- slices.Sort[[]string,string] -/
theorem c_slices_Sort_nil [Tracks]   : ConP Tryz.prog 115 [eSs []] (.tup []) := by
 refine Con.of_body Tryz.func115 rfl Tryz.ntmps115 rfl rfl ?_
 refine hw_reg ?_
 refine dp rfl (pop_move rfl) ?_
 refine dp rfl (pop_lenm ty47 rfl) ?_
 refine dp rfl (pop_assign rfl) ?_
 refine dn ?_
 refine hw_reg1 ?_
 refine dp rfl (pop_move rfl) ?_
 refine dp rfl (pop_move rfl) ?_
 refine dp rfl (pop_move rfl) ?_
 refine dp rfl (pop_conv ty3 ty111 rfl) ?_
 refine dp rfl (pop_call ca72 rfl (WeakL.refl _) c_math_bits_Len) ?_
 refine dp rfl (pop_call ca147 rfl (WeakL.refl _) c_slices_pdqsortOrdered_string) ?_
 refine dn ?_
 refine ret_n rfl ?_
 rfl

/-- slices.Sort: the slice holds the same strings in order -/
theorem c_slices_Sort [Tracks] {l : List Str} {v : Value} (hl : l.length ≤ 1000000) : Con Tryz.prog 115 [.raw v] [.arr v 1 (l.map .str)] fun x M' => x = .tup [] ∧ M' = [.arr v 1 ((sortS l).map .str)] :=
 con_row (sortS_len l) (fun b off cap w h1 h2 _ => Any.slices_Sort_string Tryz.lays190 b off cap l w h1 h2 (by omega)) (fun _ => c_slices_Sort_nil)
end Go.Proofs.YtlankmahpaenhaaGreatDoor
end
section
namespace Go.Proofs.YtlankmahpaenhaaGreatDoor
open Go.HL
set_option maxRecDepth 100000
set_option linter.unusedVariables false
set_option linter.unusedSimpArgs false
/-- benchwarmer/benchmake.Below -/
theorem c_benchmake_Below [Tracks] {x n : Int} (hn : n ≤ 4000000000) : ConP Tryz.prog 60 [.int .i64 x, .int .i64 n] (.int .i64 (below x n)) := by
 refine Con.of_body Tryz.func60 rfl Tryz.ntmps60 rfl rfl ?_
 refine hw_reg ?_
 refine dp rfl (pop_assign rfl) ?_
 refine dn ?_
 refine hw_seq ?_
 refine hw_reg ?_
 refine dp rfl (pop_move rfl) ?_
 refine dp rfl (pop_lss rfl rfl) ?_
 refine dn ?_
 refine hw_cond rfl (fun h1 => ?_) (fun h2 => ?_)
 ·try simp at h1
  refine hw_reg ?_
  refine dp rfl (pop_assign rfl) ?_
  refine dn ?_
  refine hw_ret ?_
  refine ret_p rfl ?_
  show HVal.int .i64 _ = _
  simp_all [below]
  try omega
 ·try simp at h2
  refine hw_skip ?_
  refine seqQ_n ?_
  refine hw_reg ?_
  refine dp rfl (pop_move rfl) ?_
  refine dp rfl (pop_move rfl) ?_
  refine dp rfl (pop_rem rfl rfl (by omega)) ?_
  refine dp rfl (pop_assign rfl) ?_
  refine dn ?_
  refine hw_seq ?_
  refine hw_reg ?_
  refine dp rfl (pop_move rfl) ?_
  refine dp rfl (pop_lss rfl rfl) ?_
  refine dn ?_
  refine hw_cond rfl (fun h3 => ?_) (fun h4 => ?_)
  ·try simp at h3
   refine hw_reg1 ?_
   refine dp rfl (pop_move rfl) ?_
   refine dp rfl (pop_move rfl) ?_
   have hm := Int.tmod_lt_of_pos x (show 0 < n by omega)
   obtain ⟨y, hy1, hy2⟩ := below_nat x n
   have hb : below x n = x.tmod n + n := by unfold below; rw [if_neg (by omega), if_pos (by omega)]
   refine dp rfl (pop_add64 rfl rfl (by omega) (by omega)) ?_
   refine dp rfl (pop_assign rfl) ?_
   refine dn ?_
   refine seqQ_n ?_
   refine hw_reg ?_
   refine dp rfl (pop_move rfl) ?_
   refine dp rfl (pop_assign rfl) ?_
   refine dn ?_
   refine hw_ret ?_
   refine ret_p rfl ?_
   show HVal.int .i64 _ = _
   simp_all [below]
   try omega
  ·try simp at h4
   refine hw_skip ?_
   refine seqQ_n ?_
   refine hw_reg ?_
   refine dp rfl (pop_move rfl) ?_
   refine dp rfl (pop_assign rfl) ?_
   refine dn ?_
   refine hw_ret ?_
   refine ret_p rfl ?_
   show HVal.int .i64 _ = _
   simp_all [below]
   try omega

/-- (*benchwarmer/benchmake.Stream).Next -/
theorem c_benchmake_Stream_Next [Tracks] {b : Nat} {l : List Int} {a : Nat} {n : Int} (ha : a ≤ 1000000) (hn : n ≤ 4000000000) : Con Tryz.prog 29 [pAt b, .int .i64 n] [St b l a] (fun x M' => ∃ y : Nat, x = .int .i64 (y : Int) ∧ (y : Int) < max n 1 ∧ M' = [St b l (a + 1)]) := by
 refine Con.of_body Tryz.func29 rfl Tryz.ntmps29 rfl rfl ?_
 refine hw_reg ?_
 refine dp rfl (pop_assign rfl) ?_
 refine dn ?_
 refine hw_reg ?_
 refine dp rfl (pop_move rfl) ?_
 refine dp rfl ((pop_nilCheck_raw rfl)) ?_
 refine dp rfl (pop_fieldAddr_raw ty25 rfl ty3 (by decide) rfl) ?_
 refine de rfl (eop_load (i := 0) ty3 rfl rfl (.inl ⟨rfl, rfl⟩) ?_)
 refine dp rfl (pop_add64 rfl rfl (by omega) (by omega)) ?_
 refine dp rfl ((pop_nilCheck_raw rfl)) ?_
 refine dp rfl (pop_fieldAddr_raw ty25 rfl ty3 (by decide) rfl) ?_
 refine de0 (eop_store (i := 0) ty3 rfl rfl rfl rfl rfl (Nat.le_of_ble_eq_true rfl) ?_)
 refine dn ?_
 refine hw_seq ?_
 refine hw_reg ?_
 refine dp rfl (pop_move rfl) ?_
 refine dp rfl ((pop_nilCheck_raw rfl)) ?_
 refine dp rfl (pop_fieldAddr_raw ty25 rfl ty22 (by decide) rfl) ?_
 refine de rfl (eop_load (i := 0) ty22 rfl rfl (.inl ⟨rfl, rfl⟩) ?_)
 refine dp rfl (pop_lenm ty22 rfl) ?_
 refine dp rfl (pop_eql rfl rfl) ?_
 refine dn ?_
 refine hw_cond rfl (fun h1 => ?_) (fun h2 => ?_)
 ·try simp at h1
  refine hw_reg ?_
  refine dp rfl (pop_move rfl) ?_
  refine dp rfl ((pop_nilCheck_raw rfl)) ?_
  refine dp rfl (pop_fieldAddr_raw ty25 rfl ty3 (by decide) rfl) ?_
  refine de rfl (eop_load (i := 0) ty3 rfl rfl (.inl ⟨rfl, rfl⟩) ?_)
  refine dp rfl (pop_mul rfl rfl) ?_
  refine dp rfl (pop_move rfl) ?_
  refine dp rfl (pop_call ca60 rfl (WeakL.refl _) (c_benchmake_Below (by assumption))) ?_
  refine dp rfl (pop_assign rfl) ?_
  refine dn ?_
  refine hw_ret ?_
  refine ret_q rfl ?_
  obtain ⟨y, h1, h2⟩ := below_nat _ n
  exact ⟨y, congrArg _ h1, h2, rfl⟩
 ·try simp at h2
  refine hw_skip ?_
  refine seqQ_n ?_
  have hl0 : 0 < l.length := List.length_pos_iff.2 (by simpa using h2)
  refine hw_draw (fun M => ∃ i : Nat, M[i]? = some (St b l (a + 1))) [3, 8] mixed ?_
  refine ahp 0 rfl rfl (by kernel_rfl) (by kernel_rfl) (pop_move rfl) ?_
  refine ahp 1 rfl rfl (by kernel_rfl) (by kernel_rfl) ((pop_nilCheck_raw rfl)) ?_
  refine ahp 2 rfl rfl (by kernel_rfl) (by kernel_rfl) (pop_fieldAddr_raw ty25 rfl ty3 (by decide) rfl) ?_
  refine ahl 3 rfl rfl (by kernel_rfl) (by kernel_rfl) (by simp) (⟨0, rfl⟩) (fun M hM => by obtain ⟨i, hi⟩ := hM; exact eop_load (i := i) ty3 rfl hi (.inl ⟨rfl, rfl⟩) ⟨rfl, rfl⟩) ?_
  refine ahp 4 rfl rfl (by kernel_rfl) (by kernel_rfl) (pop_sub64 rfl rfl (by omega) (by omega)) ?_
  refine ahp 5 rfl rfl (by kernel_rfl) (by kernel_rfl) (pop_move rfl) ?_
  refine ahp 6 rfl rfl (by kernel_rfl) (by kernel_rfl) ((pop_nilCheck_raw rfl)) ?_
  refine ahp 7 rfl rfl (by kernel_rfl) (by kernel_rfl) (pop_fieldAddr_raw ty25 rfl ty22 (by decide) rfl) ?_
  refine ahl 8 rfl rfl (by kernel_rfl) (by kernel_rfl) (by simp) (⟨0, rfl⟩) (fun M hM => by obtain ⟨i, hi⟩ := hM; exact eop_load (i := i) ty22 rfl hi (.inl ⟨rfl, rfl⟩) ⟨rfl, rfl⟩) ?_
  refine ahp 9 rfl rfl (by kernel_rfl) (by kernel_rfl) (pop_lenm ty22 rfl) ?_
  refine ahp 10 rfl rfl (by kernel_rfl) (by kernel_rfl) (pop_eq (h' := .int .i64 ((a % l.length : Nat) : Int)) (pop_rem rfl rfl (by omega)) (by show HVal.int .i64 (((a : Int) + 1 - 1).tmod _) = _; rw [show ((a : Int) + 1 - 1) = (a : Int) by omega]; exact congrArg _ (tmod_nat _ _))) ?_
  refine ahp 11 rfl rfl (by kernel_rfl) (by kernel_rfl) (pop_assign rfl) ?_
  refine ahz (by kernel_rfl) ?_
  refine hw_draw (fun M => ∃ i : Nat, M[i]? = some (St b l (a + 1))) [3, 8] mixed ?_
  refine ahp 0 rfl rfl (by kernel_rfl) (by kernel_rfl) (pop_move rfl) ?_
  refine ahp 1 rfl rfl (by kernel_rfl) (by kernel_rfl) ((pop_nilCheck_raw rfl)) ?_
  refine ahp 2 rfl rfl (by kernel_rfl) (by kernel_rfl) (pop_fieldAddr_raw ty25 rfl ty3 (by decide) rfl) ?_
  refine ahl 3 rfl rfl (by kernel_rfl) (by kernel_rfl) (by simp) (⟨0, rfl⟩) (fun M hM => by obtain ⟨i, hi⟩ := hM; exact eop_load (i := i) ty3 rfl hi (.inl ⟨rfl, rfl⟩) ⟨rfl, rfl⟩) ?_
  refine ahp 4 rfl rfl (by kernel_rfl) (by kernel_rfl) (pop_sub64 rfl rfl (by omega) (by omega)) ?_
  refine ahp 5 rfl rfl (by kernel_rfl) (by kernel_rfl) (pop_move rfl) ?_
  refine ahp 6 rfl rfl (by kernel_rfl) (by kernel_rfl) ((pop_nilCheck_raw rfl)) ?_
  refine ahp 7 rfl rfl (by kernel_rfl) (by kernel_rfl) (pop_fieldAddr_raw ty25 rfl ty22 (by decide) rfl) ?_
  refine ahl 8 rfl rfl (by kernel_rfl) (by kernel_rfl) (by simp) (⟨0, rfl⟩) (fun M hM => by obtain ⟨i, hi⟩ := hM; exact eop_load (i := i) ty22 rfl hi (.inl ⟨rfl, rfl⟩) ⟨rfl, rfl⟩) ?_
  refine ahp 9 rfl rfl (by kernel_rfl) (by kernel_rfl) (pop_lenm ty22 rfl) ?_
  refine ahp 10 rfl rfl (by kernel_rfl) (by kernel_rfl) (pop_quo rfl rfl (by omega)) ?_
  refine ahp 11 rfl rfl (by kernel_rfl) (by kernel_rfl) (pop_assign rfl) ?_
  refine ahz (by kernel_rfl) ?_
  refine hw_reg ?_
  refine dp rfl (pop_move rfl) ?_
  refine dp rfl ((pop_nilCheck_raw rfl)) ?_
  refine dp rfl (pop_fieldAddr_raw ty25 rfl ty22 (by decide) rfl) ?_
  refine de rfl (eop_load (i := 0) ty22 rfl rfl (.inl ⟨rfl, rfl⟩) ?_)
  refine dp rfl (pop_move rfl) ?_
  refine dp rfl (pop_idx (j := a % l.length) (a := l[a % l.length]'(Nat.mod_lt _ (by omega))) ty22 ty3 rfl rfl rfl (List.getElem?_eq_getElem _)) ?_
  refine dp rfl (pop_load ty3 rfl rfl rfl) ?_
  refine dp rfl (pop_call ca60 rfl (WeakL.refl _) (c_benchmake_Below (by omega))) ?_
  refine dp rfl (pop_move rfl) ?_
  refine dp rfl (pop_move rfl) ?_
  refine dp rfl (pop_add rfl rfl) ?_
  refine dp rfl (pop_mul rfl rfl) ?_
  refine dp rfl (pop_add rfl rfl) ?_
  refine dp rfl (pop_move rfl) ?_
  refine dp rfl (pop_call ca60 rfl (WeakL.refl _) (c_benchmake_Below (by assumption))) ?_
  refine dp rfl (pop_assign rfl) ?_
  refine dn ?_
  refine hw_ret ?_
  refine ret_q rfl ?_
  obtain ⟨y, h1, h2⟩ := below_nat _ n
  exact ⟨y, congrArg _ h1, h2, rfl⟩

/-- (*benchwarmer/benchmake.Stream).Range -/
theorem c_benchmake_Stream_Range [Tracks] {b : Nat} {l : List Int} {a : Nat} {lo hi : Int} (ha : a ≤ 1000000) (hlh : lo ≤ hi) (h0 : -1000000000 ≤ lo) (h1 : hi ≤ 1000000000) : Con Tryz.prog 22 [pAt b, .int .i64 lo, .int .i64 hi] [St b l a] (fun x M' => ∃ y : Int, x = .int .i64 y ∧ (lo ≤ y ∧ y ≤ hi) ∧ M' = [St b l (a + 1)]) := by
 refine Con.of_body Tryz.func22 rfl Tryz.ntmps22 rfl rfl ?_
 refine hw_reg ?_
 refine dp rfl (pop_assign rfl) ?_
 refine dn ?_
 refine hw_seq ?_
 refine hw_reg ?_
 refine dp rfl (pop_move rfl) ?_
 refine dp rfl (pop_move rfl) ?_
 refine dp rfl (pop_lss rfl rfl) ?_
 refine dn ?_
 refine hw_cond rfl (fun h1 => ?_) (fun h1 => ?_)
 ·exfalso
  try simp at h1
  omega
 ·try simp at h1
  refine hw_skip ?_
  refine seqQ_n ?_
  refine hw_reg ?_
  refine dp rfl (pop_move rfl) ?_
  refine dp rfl (pop_move rfl) ?_
  refine dp rfl (pop_move rfl) ?_
  refine dp rfl (pop_move rfl) ?_
  refine dp rfl (pop_sub64 rfl rfl (by omega) (by omega)) ?_
  refine dp rfl (pop_add64 rfl rfl (by omega) (by omega)) ?_
  refine de rfl (eop_callx (i := 0) ca29 rfl (WeakL.refl _) rfl (c_benchmake_Stream_Next (by assumption) (by omega)) ?_)
  rintro _ _ ⟨y17, rfl, hy17, rfl⟩
  refine dp rfl (pop_add64 rfl rfl (by omega) (by omega)) ?_
  refine dp rfl (pop_assign rfl) ?_
  refine dn ?_
  refine hw_ret ?_
  exact ret_q rfl ⟨_, rfl, by omega, rfl⟩

/-- (*benchwarmer/benchmake.Stream).Flip -/
theorem c_benchmake_Stream_Flip [Tracks] {b : Nat} {l : List Int} {a : Nat} {n : Int} (ha : a ≤ 1000000) (hn : n ≤ 4000000000) : Con Tryz.prog 7 [pAt b, .int .i64 n] [St b l a] (fun x M' => ∃ y : Bool, x = .bool y ∧ M' = [St b l (a + 1)]) := by
 refine Con.of_body Tryz.func7 rfl Tryz.ntmps7 rfl rfl ?_
 refine hw_reg ?_
 refine dp rfl (pop_assign rfl) ?_
 refine dn ?_
 refine hw_reg ?_
 refine dp rfl (pop_move rfl) ?_
 refine dp rfl (pop_move rfl) ?_
 refine de rfl (eop_callx (i := 0) ca29 rfl (WeakL.refl _) rfl (c_benchmake_Stream_Next (by assumption) (by assumption)) ?_)
 rintro _ _ ⟨y7, rfl, hy7, rfl⟩
 refine dp rfl (pop_eql rfl rfl) ?_
 refine dp rfl (pop_assign rfl) ?_
 refine dn ?_
 refine hw_ret ?_
 exact ret_q rfl ⟨_, rfl, rfl⟩

/-- (*benchwarmer/benchmake.Stream).Pick -/
theorem c_benchmake_Stream_Pick [Tracks] {b : Nat} {l : List Int} {a : Nat} {L : List Int} (ha : a ≤ 1000000) (h0 : 0 < L.length) (h1 : L.length ≤ 1000000) : Con Tryz.prog 28 [pAt b, .slice 1 (L.map (.int .i64))] [St b l a] (fun x M' => ∃ y : Int, x = .int .i64 y ∧ y ∈ L ∧ M' = [St b l (a + 1)]) := by
 refine Con.of_body Tryz.func28 rfl Tryz.ntmps28 rfl rfl ?_
 refine hw_reg ?_
 refine dp rfl (pop_assign rfl) ?_
 refine dn ?_
 refine hw_reg ?_
 refine dp rfl (pop_move rfl) ?_
 refine dp rfl (pop_move rfl) ?_
 refine dp rfl (pop_move rfl) ?_
 refine dp rfl (pop_lenm ty22 rfl) ?_
 refine de rfl (eop_callx (i := 0) ca29 rfl (WeakL.refl _) rfl (c_benchmake_Stream_Next (by assumption) (by omega)) ?_)
 rintro _ _ ⟨y9, rfl, hy9, rfl⟩
 obtain ⟨z, hz, hm⟩ := getI hy9 h0
 refine dp rfl (pop_idx (j := y9) (a := z) ty22 ty3 rfl rfl rfl hz) ?_
 refine dp rfl (pop_load ty3 rfl rfl rfl) ?_
 refine dp rfl (pop_assign rfl) ?_
 refine dn ?_
 refine hw_ret ?_
 exact ret_q rfl ⟨_, rfl, hm, rfl⟩

/-- (*benchwarmer/benchmake.Stream).Some -/
theorem c_benchmake_Stream_Some [Tracks] {b : Nat} {l : List Int} {a : Nat} {L : List Str} (ha : a ≤ 1000000) (h0 : 0 < L.length) (h1 : L.length ≤ 1000000) : Con Tryz.prog 30 [pAt b, eSs L] [St b l a] (fun x M' => ∃ y : Str, x = .str y ∧ y ∈ L ∧ M' = [St b l (a + 1)]) := by
 refine Con.of_body Tryz.func30 rfl Tryz.ntmps30 rfl rfl ?_
 refine hw_reg ?_
 refine dp rfl (pop_assign rfl) ?_
 refine dn ?_
 refine hw_reg ?_
 refine dp rfl (pop_move rfl) ?_
 refine dp rfl (pop_move rfl) ?_
 refine dp rfl (pop_move rfl) ?_
 refine dp rfl (pop_lenm ty47 rfl) ?_
 refine de rfl (eop_callx (i := 0) ca29 rfl (WeakL.refl _) rfl (c_benchmake_Stream_Next (by assumption) (by omega)) ?_)
 rintro _ _ ⟨y9, rfl, hy9, rfl⟩
 obtain ⟨z, hz, hm⟩ := getS hy9 h0
 refine dp rfl (pop_idx (j := y9) (a := z) ty47 ty9 rfl rfl rfl hz) ?_
 refine dp rfl (pop_load ty9 rfl rfl rfl) ?_
 refine dp rfl (pop_assign rfl) ?_
 refine dn ?_
 refine hw_ret ?_
 exact ret_q rfl ⟨_, rfl, hm, rfl⟩
end Go.Proofs.YtlankmahpaenhaaGreatDoor
end
section
namespace Go.Proofs.YtlankmahpaenhaaGreatDoor
open Go.HL
set_option maxRecDepth 100000
set_option linter.unusedVariables false
set_option linter.unusedSimpArgs false

end Go.Proofs.YtlankmahpaenhaaGreatDoor
end
section
namespace Go.HL
section
variable {P : Program} {ops : Array Oper} {n : Nat} {S : List MObj → Prop} {ld : List Nat} {K : Env → List MObj → Prop} {e : Env} {M : List MObj} {listed : Array Bool} {fuel : Nat} {d : Nat} {op : Op} {ty : TypeId} {pos : String} {af : Array Edge} {h : HVal}
/-- A load under a guard out of owned objects of which S knows enough is taken first. -/
theorem ahgl [Tracks] (i : Nat) {j : Nat} {want c : Bool} (hi : ops[i]? = some ⟨some d, op, ty, pos, af, some (j, want)⟩) (hd : Nat.blt d n = true) (hf : Region.free .any ops listed i = true) (hr : (Region.ready .any ops listed).contains i = true) (hl : i ∈ ld) (hS : S M)
 (hg : guardC ops e j want = some c) (hp : c = true → ∃ e2, OpenTo e e2 ∧ ∀ M, S M → EOp P e2 M ⟨some d, op, ty, pos, af, some (j, want)⟩ fun x M' => x = h ∧ M' = M)
 (k : HAny P ops n S ld K fuel (listed.setIfInBounds i true) (upd e d (.opt c h)) M) : HAny P ops n S ld K (fuel + 1) listed e M :=
 HAny.first (T := S) hi (fun t ht => by simp at ht; subst ht; exact blt_lt hd) (.inr ⟨rfl, hl⟩) fuel listed e M (Region.free_spec hi hf) (by simpa using hr)
  ⟨c, hg, fun hc M hM => by
   obtain ⟨e2, h1, h2⟩ := hp hc
   intro I F a w ho hs
   exact Oper.wp_noQ (fun _ _ ⟨v, x, M', J, h3, h4, ⟨e1, e3⟩, h5, h6⟩ => ⟨v, .opt c h, M, J, h3, h4, ⟨rfl, rfl⟩, .opt (fun _ => e1 ▸ h5) (fun hf => by rw [hc] at hf; cases hf), e3 ▸ h6⟩) (h2 M hM I F a w (ho.open h1) hs),
   fun hc => ⟨h, by rw [hc]⟩⟩ hS k
end
theorem wrap8 {x : Nat} (h : x < 16) : IntKind.wrap .u8 (x : Int) = (x : Int) := by
 have : (List.range 16).all (fun x => IntKind.wrap .u8 (x : Int) == (x : Int)) = true := by decide
 simpa using List.all_eq_true.1 this x (List.mem_range.2 h)
theorem wrapu64 {x : Nat} (h : x < 16) : IntKind.wrap .u64 (x : Int) = (x : Int) := by
 have : (List.range 16).all (fun x => IntKind.wrap .u64 (x : Int) == (x : Int)) = true := by decide
 simpa using List.all_eq_true.1 this x (List.mem_range.2 h)
theorem some_int {k : IntKind} {a b : Int} (h : a = b) : some (HVal.int k a) = some (.int k b) := by rw [h]
section
variable {α : Type} {c : α → α → Int}
theorem isort_take1 (l : List α) : isort c (l.take 1) ++ l.drop 1 = l := by
 cases l with
 | nil => rfl
 | cons x r => simp [isort, insB, insF]
theorem get_mid {A R : List α} {x : α} : (A ++ x :: R)[A.length]? = some x := by simp
theorem get_before {A R : List α} {x : α} (h : 0 < A.length) : (A ++ x :: R)[A.length - 1]? = some ((A[A.length - 1]?).getD x) := by
 rw [List.getElem?_append_left (by omega), List.getElem?_eq_getElem (by omega)]
 simp [List.getElem?_eq_getElem (show A.length - 1 < A.length by omega)]
theorem snoc_of {A : List α} (h : 0 < A.length) : ∃ B y, A = B ++ [y] := by
 have hne : A ≠ [] := fun e => by subst e; simp at h
 exact ⟨_, _, (List.dropLast_concat_getLast hne).symm⟩
theorem getD_snoc {A : List α} {y d : α} : ((A ++ [y])[(A ++ [y]).length - 1]?).getD d = y := by simp
theorem swap_mid {A R : List α} {x y : α} : (((A ++ [y]) ++ x :: R).set (A ++ [y]).length y).set ((A ++ [y]).length - 1) x = A ++ x :: y :: R := by
 have e1 : ((A ++ [y]) ++ x :: R).set (A ++ [y]).length y = (A ++ [y]) ++ y :: R := by rw [List.set_append_right _ _ (Nat.le_refl _)]; simp
 rw [e1, List.append_assoc]
 have e2 : (A ++ [y]).length - 1 = A.length := by simp
 rw [e2, List.set_append_right _ _ (Nat.le_refl _)]
 simp
/-- The inner loop ends. -/
theorem ins_exit {l A B : List α} {x : α} {k : Nat} (hx : l[k]? = some x) (hB : insB c x (isort c (l.take k)) = insB c x A ++ B) (h : 0 < A.length → ¬ c x ((A[A.length - 1]?).getD x) < 0) : A ++ x :: (B ++ l.drop (k + 1)) = isort c (l.take (k + 1)) ++ l.drop (k + 1) := by
 rw [take_snoc' hx, isort_snoc, hB]
 rcases Nat.eq_zero_or_pos A.length with h0 | h0
 ·obtain rfl := List.length_eq_zero_iff.1 h0
  simp [insB_nil]
 ·obtain ⟨A', y, rfl⟩ := snoc_of h0
  have := h h0
  rw [getD_snoc] at this
  rw [insB_snoc, if_neg this]; simp
theorem ins_step {A B : List α} {x y : α} {S : List α} (hB : insB c x S = insB c x (A ++ [y]) ++ B) (h : c x y < 0) : insB c x S = insB c x A ++ (y :: B) := by
 rw [hB, insB_snoc, if_pos h]; simp
end
end Go.HL
namespace Go.HL
section
variable {α : Type} {p : α → Bool}
/-- What slices.DeleteFunc has done when it looks at place j. -/
structure DelInv (p : α → Bool) (l : List α) (j : Nat) (D : List α) : Prop where
 len : D.length = l.length
 jle : j ≤ l.length
 lt : ((l.take j).filter (fun x => !p x)).length < j
 kept : D.take ((l.take j).filter (fun x => !p x)).length = (l.take j).filter (fun x => !p x)
 rest : D.drop j = l.drop j
theorem filter_snoc {l : List α} {j : Nat} {x : α} (hx : l[j]? = some x) : (l.take (j + 1)).filter (fun x => !p x) = (l.take j).filter (fun x => !p x) ++ if p x then [] else [x] := by
 rw [take_snoc' hx, List.filter_append]
 by_cases h : p x <;> simp [h]
theorem DelInv.get {l D : List α} {j : Nat} {x : α} (h : DelInv p l j D) (hx : l[j]? = some x) : D[j]? = some x := by
 have h1 := congrArg (fun t => t[0]?) h.rest
 simp only [List.getElem?_drop, Nat.add_zero] at h1
 rw [h1]; exact hx
theorem DelInv.start {l : List α} {i : Nat} {x : α} (hi : i < l.length) (hx : l[i]? = some x) (hp : p x = true) (hb : ∀ y ∈ l.take i, p y = false) : DelInv p l (i + 1) l ∧ ((l.take (i + 1)).filter (fun x => !p x)).length = i := by
 have e := filter_snoc (p := p) hx
 rw [if_pos hp, List.append_nil, (List.filter_eq_self (l := l.take i) (p := fun x => !p x)).2 (fun y hy => by simp [hb y hy])] at e
 have hl : (l.take i).length = i := by simp; omega
 refine ⟨⟨rfl, by omega, by rw [e]; omega, by rw [e, hl], rfl⟩, by rw [e, hl]⟩
end
theorem slOff_or {cap off sz m n : Nat} (h1 : m ≤ n) (h2 : n ≤ cap) : n - m = 0 ∨ slOff cap off sz m = off + m * sz := by
 unfold slOff
 by_cases h : cap = m
 ·exact .inl (by omega)
 ·exact .inr (by rw [if_neg h])
end Go.HL
namespace Go.HL
end Go.HL
end
section
namespace Go.Proofs.YtlankmahpaenhaaGreatDoor
open Go.HL
set_option maxRecDepth 100000
set_option linter.unusedVariables false
set_option linter.unusedSimpArgs false
/-- math/bits.Len64 -/
theorem c_bits_Len64_s [Tracks] {x : Nat} (hx : x < 16) : Con Tryz.prog 100 [.int .u64 (x : Int)] [] (fun y M' => ∃ n : Int, y = .int .i64 n ∧ M' = []) := by
 refine Con.of_body Tryz.func100 rfl Tryz.ntmps100 rfl rfl ?_
 refine hw_reg ?_
 refine dp rfl (pop_assign rfl) ?_
 refine dn ?_
 refine hw_seq ?_
 refine hw_reg ?_
 refine dp rfl (pop_move rfl) ?_
 refine dp rfl (pop_geq rfl rfl) ?_
 refine dn ?_
 refine hw_cond rfl (fun h1 => ?_) (fun h1 => ?_)
 ·exfalso
  try simp at h1
  omega
 ·try simp at h1
  refine hw_skip ?_
  refine seqQ_n ?_
  refine hw_seq ?_
  refine hw_reg ?_
  refine dp rfl (pop_move rfl) ?_
  refine dp rfl (pop_geq rfl rfl) ?_
  refine dn ?_
  refine hw_cond rfl (fun h2 => ?_) (fun h2 => ?_)
  ·exfalso
   try simp at h2
   omega
  ·try simp at h2
   refine hw_skip ?_
   refine seqQ_n ?_
   refine hw_seq ?_
   refine hw_reg ?_
   refine dp rfl (pop_move rfl) ?_
   refine dp rfl (pop_geq rfl rfl) ?_
   refine dn ?_
   refine hw_cond rfl (fun h3 => ?_) (fun h3 => ?_)
   ·exfalso
    try simp at h3
    omega
   ·try simp at h3
    refine hw_skip ?_
    refine seqQ_n ?_
    refine hw_reg ?_
    refine dp rfl (pop_move rfl) ?_
    refine dp rfl (pop_move rfl) ?_
    refine dp rfl (pop_conv ty148 ty5 rfl) ?_
    refine dp rfl (pop_indexs (j := x) ty9 rfl rfl (wrap8 hx) (List.getElem?_eq_getElem (Nat.lt_of_lt_of_le hx (Nat.le_of_ble_eq_true (by kernel_rfl))))) ?_
    refine dp rfl (pop_conv ty5 ty3 rfl) ?_
    refine dp rfl (pop_add rfl rfl) ?_
    refine dp rfl (pop_assign rfl) ?_
    refine dn ?_
    refine hw_ret ?_
    exact ret_q rfl ⟨_, rfl, rfl⟩

/-- math/bits.Len -/
theorem c_bits_Len_s [Tracks] {x : Nat} (hx : x < 16) : Con Tryz.prog 72 [.int .u64 (x : Int)] [] (fun y M' => ∃ n : Int, y = .int .i64 n ∧ M' = []) := by
 refine Con.of_body Tryz.func72 rfl Tryz.ntmps72 rfl rfl ?_
 refine hw_reg ?_
 refine dp rfl (pop_assign rfl) ?_
 refine dn ?_
 refine hw_seq ?_
 refine hw_cond_f rfl ?_
 refine hw_skip ?_
 refine seqQ_n ?_
 refine hw_reg ?_
 refine dp rfl (pop_move rfl) ?_
 refine de rfl (eop_callf (M1 := []) (R := []) ca100 rfl (WeakL.refl _) (List.Perm.refl _) (c_bits_Len64_s hx) ?_)
 rintro _ _ ⟨n7, rfl, rfl⟩
 refine dp rfl (pop_assign rfl) ?_
 refine dn ?_
 refine hw_ret ?_
 exact ret_q rfl ⟨_, rfl, rfl⟩

set_option maxHeartbeats 1000000 in
/-- slices.insertionSortCmpFunc[benchwarmer/api.Asset] -/
theorem c_slices_insertionSortCmpFunc_api_Asset [Tracks] {l : List Asset} {v : Value} {fid : FuncId} {caps : List HVal} {c : Asset → Asset → Int} {n : Int} (hca : Callable Tryz.prog fid) (hp : ∀ x y, ConP Tryz.prog fid ([eAsset x, eAsset y] ++ caps) (.int .i64 (c x y))) (hn : n = l.length) (hl : l.length ≤ 1000000) : Con Tryz.prog 185 [.raw v, .int .i64 0, .int .i64 n, .fn (.func fid) [] caps] [.arr v 3 (l.map eAsset)] (fun x M' => x = .tup [] ∧ M' = [.arr v 3 ((isort c l).map eAsset)]) := by
 subst hn
 refine Con.of_body Tryz.func185 rfl Tryz.ntmps185 rfl rfl ?_
 refine hw_reg ?_
 refine dp rfl (pop_move rfl) ?_
 refine dp rfl (pop_add64 rfl rfl (by omega) (by omega)) ?_
 refine dp rfl (pop_assign rfl) ?_
 refine dn ?_
 refine hw_block ?_
 refine hw_loopw [8, 9, 12, 13, 14, 15, 16, 17, 18, 19, 20, 21, 22, 23, 24, 25, 26, 27, 28, 29, 30, 31, 32, 33, 34, 35, 36, 37, 38, 39, 40, 41, 42, 43, 44, 45, 46, 47, 48, 49, 50, 51, 52] (fun (k : Nat) => [(8, .int .i64 (k : Int))]) (fun (k : Nat) => [.arr v 3 ((isort c (l.take k) ++ l.drop k).map eAsset)]) (fun (k : Nat) => 1 ≤ k) (fun (k : Nat) => l.length - k) (1) ?_ ?_ ?_ ?_
 ·exact Nat.le_refl _
 ·exact ⟨rfl, trivial⟩
 ·exact perm_eq (by rw [isort_take1])
 ·intro k hk
  refine hw_seq ?_
  refine hw_reg ?_
  refine dp rfl (pop_move rfl) ?_
  refine dp rfl (pop_move rfl) ?_
  refine dp rfl (pop_lss rfl rfl) ?_
  refine dn ?_
  refine hw_cond rfl (fun h1 => ?_) (fun h2 => ?_)
  ·try simp at h1
   obtain ⟨x, hx⟩ : ∃ x, l[k]? = some x := ⟨_, List.getElem?_eq_getElem (by omega)⟩
   refine hw_arrc (i := 0) rfl (fun h0 he => ?_) (fun b off cap hv hcap => ?_)
   ·exfalso; have := congrArg List.length he; simp [isort_len] at this; omega
   rw [show ((isort c (l.take k) ++ l.drop k).map eAsset).length = l.length by simp [isort_len]; omega] at hv
   subst hv
   refine hw_skip ?_
   refine seqQ_n ?_
   refine hw_seq ?_
   refine hw_block ?_
   refine hw_reg ?_
   refine dp rfl (pop_move rfl) ?_
   refine dp rfl (pop_assign rfl) ?_
   refine dn ?_
   refine hw_block ?_
   refine hw_loopw2 [9, 18, 19, 20, 21, 22, 23, 24, 25, 26, 27, 28, 29, 30, 31, 32, 33, 34, 35, 36, 37, 38, 39, 40, 41, 42, 43, 44, 45, 46, 47, 48, 49, 50, 51, 52] (fun (A : List Asset) (B : List Asset) => [(9, .int .i64 (A.length : Int))]) (fun (A : List Asset) (B : List Asset) => [.arr (.slice (some ⟨b, off, none⟩) l.length cap) 3 ((A ++ x :: (B ++ l.drop (k + 1))).map eAsset)]) (fun (A : List Asset) (B : List Asset) => A.length + B.length = k ∧ insB c x (isort c (l.take k)) = insB c x A ++ B) (fun (A : List Asset) (B : List Asset) => A.length) (isort c (l.take k)) ([]) ?_ ?_ ?_ ?_
   ·exact ⟨by simp [isort_len]; omega, by simp⟩
   ·exact ⟨some_int (by simp [isort_len]; omega), trivial⟩
   ·exact perm_eq (by rw [drop_cons hx]; rfl)
   ·intro A B hinv
    obtain ⟨hA, hB⟩ := hinv
    have hlA : A.length < l.length := by omega
    have hll : ((A ++ x :: (B ++ l.drop (k + 1)))).length = l.length := by simp; omega
    refine hw_seq ?_
    refine hw_draw (fun M => M = [.arr (.slice (some ⟨b, off, none⟩) l.length cap) 3 ((A ++ x :: (B ++ l.drop (k + 1))).map eAsset)]) [8, 13] mixed ?_
    refine ahp 0 rfl rfl (by kernel_rfl) (by kernel_rfl) (pop_move rfl) ?_
    refine ahp 1 rfl rfl (by kernel_rfl) (by kernel_rfl) (pop_move rfl) ?_
    refine ahp 2 rfl rfl (by kernel_rfl) (by kernel_rfl) (pop_gtr rfl rfl) ?_
    refine ahp 3 rfl rfl (by kernel_rfl) (by kernel_rfl) (pop_move rfl) ?_
    refine ahg 4 rfl rfl (by kernel_rfl) (by kernel_rfl) rfl (fun hc => ⟨_, OpenTo.refl _, pop_move rfl⟩) ?_
    refine ahg 5 rfl rfl (by kernel_rfl) (by kernel_rfl) rfl (fun hc => ⟨_, OpenTo.refl _, pop_move rfl⟩) ?_
    refine ahg 6 rfl rfl (by kernel_rfl) (by kernel_rfl) rfl (fun hc => ⟨_, OpenTo.refl _, pop_move rfl⟩) ?_
    refine ahg 7 rfl rfl (by kernel_rfl) (by kernel_rfl) rfl (fun hc => by
     have hq : 0 < A.length := by simpa using hc
     exact ⟨_, OpenTo.upd (t := 24) rfl (hc) (OpenTo.upd (t := 23) rfl (hc) (OpenTo.refl _)), pop_idxraw (j := A.length) ty96 ty95 rfl rfl (by rfl) (by omega)⟩) ?_
    refine ahgl 8 rfl rfl (by kernel_rfl) (by kernel_rfl) (by simp) rfl rfl (fun hc => ⟨_, OpenTo.upd (t := 25) rfl (hc) (OpenTo.refl _), fun M hM => by
     subst hM; exact eop_load_elw (i := 0) (j := A.length) ty95 rfl rfl rfl get_mid rfl rfl rfl ⟨rfl, rfl⟩
     ⟩) ?_
    refine ahg 9 rfl rfl (by kernel_rfl) (by kernel_rfl) rfl (fun hc => ⟨_, OpenTo.refl _, pop_move rfl⟩) ?_
    refine ahg 10 rfl rfl (by kernel_rfl) (by kernel_rfl) rfl (fun hc => ⟨_, OpenTo.refl _, pop_move rfl⟩) ?_
    refine ahg 11 rfl rfl (by kernel_rfl) (by kernel_rfl) rfl (fun hc => by
     have hq : 0 < A.length := by simpa using hc
     exact ⟨_, OpenTo.upd (t := 28) rfl (hc) (OpenTo.refl _), pop_sub64 rfl rfl (by omega) (by omega)⟩) ?_
    refine ahg 12 rfl rfl (by kernel_rfl) (by kernel_rfl) rfl (fun hc => by
     have hq : 0 < A.length := by simpa using hc
     exact ⟨_, OpenTo.upd (t := 29) rfl (hc) (OpenTo.upd (t := 27) rfl (hc) (OpenTo.refl _)), pop_idxraw (j := A.length - 1) ty96 ty95 rfl rfl (by omega) (by omega)⟩) ?_
    refine ahgl 13 rfl rfl (by kernel_rfl) (by kernel_rfl) (by simp) rfl rfl (fun hc => ⟨_, OpenTo.upd (t := 30) rfl (hc) (OpenTo.refl _), fun M hM => by
     have hq : 0 < A.length := by simpa using hc
     subst hM; exact eop_load_elw (i := 0) (j := A.length - 1) ty95 rfl rfl rfl (get_before hq) rfl rfl rfl ⟨rfl, rfl⟩
     ⟩) ?_
    refine ahg 14 rfl rfl (by kernel_rfl) (by kernel_rfl) rfl (fun hc => ⟨_, OpenTo.upd (t := 31) rfl (hc) (OpenTo.upd (t := 26) rfl (hc) (OpenTo.upd (t := 22) rfl (hc) (OpenTo.refl _))), pop_callv hca rfl rfl (WeakL.refl _) (hp _ _)⟩) ?_
    refine ahg 15 rfl rfl (by kernel_rfl) (by kernel_rfl) rfl (fun hc => ⟨_, OpenTo.upd (t := 32) rfl (hc) (OpenTo.refl _), pop_lss rfl rfl⟩) ?_
    refine ahp 16 rfl rfl (by kernel_rfl) (by kernel_rfl) (pop_picko rfl (.inr ⟨_, rfl, fun h => by simp_all⟩) (.inl rfl)) ?_
    refine ahz (by kernel_rfl) ?_
    refine hw_cond rfl (fun h3 => ?_) (fun h4 => ?_)
    ·try simp at h3
     obtain ⟨hA0, hcx⟩ := h3
     obtain ⟨A1, y, rfl⟩ := snoc_of hA0
     rw [getD_snoc] at hcx
     refine hw_skip ?_
     refine seqQ_n ?_
     refine hw_seq ?_
     refine hw_block ?_
     refine hw_draw1 (fun M => M = [.arr (.slice (some ⟨b, off, none⟩) l.length cap) 3 (((A1 ++ [y]) ++ x :: (B ++ l.drop (k + 1))).map eAsset)]) [9, 13] mixed ?_
     refine ahp 0 rfl rfl (by kernel_rfl) (by kernel_rfl) (pop_move rfl) ?_
     refine ahp 1 rfl rfl (by kernel_rfl) (by kernel_rfl) (pop_move rfl) ?_
     refine ahp 2 rfl rfl (by kernel_rfl) (by kernel_rfl) (pop_move rfl) ?_
     refine ahp 3 rfl rfl (by kernel_rfl) (by kernel_rfl) (pop_move rfl) ?_
     refine ahp 4 rfl rfl (by kernel_rfl) (by kernel_rfl) (pop_sub64 rfl rfl (by omega) (by omega)) ?_
     refine ahp 5 rfl rfl (by kernel_rfl) (by kernel_rfl) (pop_move rfl) ?_
     refine ahp 6 rfl rfl (by kernel_rfl) (by kernel_rfl) (pop_move rfl) ?_
     refine ahp 7 rfl rfl (by kernel_rfl) (by kernel_rfl) (pop_sub64 rfl rfl (by omega) (by omega)) ?_
     refine ahp 8 rfl rfl (by kernel_rfl) (by kernel_rfl) (pop_idxraw (j := (A1 ++ [y]).length - 1) ty96 ty95 rfl rfl (by omega) (by omega)) ?_
     refine ahl 9 rfl rfl (by kernel_rfl) (by kernel_rfl) (by simp) rfl (fun M hM => by subst hM; exact eop_load_elw (i := 0) (j := (A1 ++ [y]).length - 1) ty95 rfl rfl rfl ((get_before hA0).trans (by rw [getD_snoc])) rfl rfl rfl ⟨rfl, rfl⟩) ?_
     refine ahp 10 rfl rfl (by kernel_rfl) (by kernel_rfl) (pop_move rfl) ?_
     refine ahp 11 rfl rfl (by kernel_rfl) (by kernel_rfl) (pop_move rfl) ?_
     refine ahp 12 rfl rfl (by kernel_rfl) (by kernel_rfl) (pop_idxraw (j := (A1 ++ [y]).length) ty96 ty95 rfl rfl rfl (by omega)) ?_
     refine ahl 13 rfl rfl (by kernel_rfl) (by kernel_rfl) (by simp) rfl (fun M hM => by subst hM; exact eop_load_elw (i := 0) (j := (A1 ++ [y]).length) ty95 rfl rfl rfl get_mid rfl rfl rfl ⟨rfl, rfl⟩) ?_
     refine ahp 14 rfl rfl (by kernel_rfl) (by kernel_rfl) (pop_idxraw (j := (A1 ++ [y]).length) ty96 ty95 rfl rfl rfl (by omega)) ?_
     refine ahe 15 rfl (by kernel_rfl) ?_
     refine hop_e0 (eop_store_elw (i := 0) (j := (A1 ++ [y]).length) (y := x) (y' := y) ty95 rfl rfl rfl rfl get_mid rfl rfl rfl ?_)
     refine ⟨fun _ => .inr (by simp [Before, Region.binds]), ?_⟩
     refine ahp 16 rfl rfl (by kernel_rfl) (by kernel_rfl) (pop_idxraw (j := (A1 ++ [y]).length - 1) ty96 ty95 rfl rfl (by omega) (by omega)) ?_
     refine ahe 17 rfl (by kernel_rfl) ?_
     refine hop_e0 (eop_store_elw (i := 0) (j := (A1 ++ [y]).length - 1) (y := y) (y' := x) ty95 rfl rfl rfl rfl (by rw [List.getElem?_set_ne (by simp)]; exact (get_before hA0).trans (by rw [getD_snoc])) rfl rfl rfl ?_)
     refine ⟨fun _ => .inr (by simp [Before, Region.binds]), ?_⟩
     refine ahz (by kernel_rfl) ?_
     refine blockQ_n ?_
     refine seqQ_n ?_
     refine hw_reg1 ?_
     refine dp rfl (pop_move rfl) ?_
     refine dp rfl (pop_sub64 rfl rfl (by omega) (by omega)) ?_
     refine dp rfl (pop_assign rfl) ?_
     refine dn ?_
     exact ⟨A1, y :: B, ⟨by simp at hA ⊢; omega, ins_step hB hcx⟩, by dsimp only; simp, ⟨some_int (by simp), trivial⟩, (by repeat (first | exact keeps_refl | refine keeps_upd rfl ?_ | refine keeps_loop rfl rfl ?_)), perm_eq (by rw [swap_mid]; rfl)⟩
    ·try simp at h4
     have hins := ins_exit (l := l) (k := k) hx hB (by intro h0; have := h4 h0; omega)
     refine hw_exit ?_
     refine seqQ_x ?_
     refine loopQ2_x ?_
     refine blockQ_eq ?_
     refine blockQ_n ?_
     refine seqQ_n ?_
     refine hw_reg1 ?_
     refine dp rfl (pop_move rfl) ?_
     refine dp rfl (pop_add64 rfl rfl (by omega) (by omega)) ?_
     refine dp rfl (pop_assign rfl) ?_
     refine dn ?_
     refine ⟨k + 1, ?_, ?_, ⟨rfl, trivial⟩, (by repeat (first | exact keeps_refl | refine keeps_upd rfl ?_ | refine keeps_loop rfl rfl ?_)), perm_eq (by rw [hins])⟩
     ·omega
     ·dsimp only; omega
  ·try simp at h2
   have hend : isort c (l.take k) ++ l.drop k = isort c l := by rw [List.take_of_length_le (by omega), drop_all (by omega)]; simp
   refine hw_exit ?_
   refine seqQ_x ?_
   refine loopQ_x ?_
   refine blockQ_eq ?_
   exact ⟨_, _, Ghost.sub (Sub.refl _), _, _, rfl, Weak.refl _, rfl, by rw [hend]⟩

/-- slices.pdqsortCmpFunc[benchwarmer/api.Asset] -/
theorem c_slices_pdqsortCmpFunc_api_Asset [Tracks] {l : List Asset} {v : Value} {fid : FuncId} {caps : List HVal} {c : Asset → Asset → Int} {lim : Int} (hca : Callable Tryz.prog fid) (hp : ∀ x y, ConP Tryz.prog fid ([eAsset x, eAsset y] ++ caps) (.int .i64 (c x y))) (hl : l.length ≤ 12) : Con Tryz.prog 168 [.raw v, .int .i64 0, .int .i64 (l.length : Int), .int .i64 lim, .fn (.func fid) [] caps] [.arr v 3 (l.map eAsset)] (fun x M' => x = .tup [] ∧ M' = [.arr v 3 ((isort c l).map eAsset)]) := by
 refine Con.of_body Tryz.func168 rfl Tryz.ntmps168 rfl rfl ?_
 refine hw_reg ?_
 refine dp rfl (pop_assign rfl) ?_
 refine dn ?_
 refine hw_reg ?_
 refine dp rfl (pop_assign rfl) ?_
 refine dn ?_
 refine hw_block ?_
 refine hw_loopw (1 :: 2 :: 3 :: 10 :: 11 :: 12 :: 13 :: 14 :: 15 :: 16 :: 17 :: 18 :: 19 :: 20 :: 21 :: 22 :: 23 :: 24 :: 25 :: 26 :: 27 :: 28 :: 29 :: 30 :: 31 :: 32 :: 33 :: 34 :: 35 :: 36 :: 37 :: 38 :: 39 :: 40 :: 41 :: 42 :: 43 :: 44 :: 45 :: 46 :: 47 :: 48 :: 49 :: 50 :: 51 :: 52 :: 53 :: 54 :: 55 :: 56 :: 57 :: 58 :: 59 :: 60 :: 61 :: 62 :: 63 :: 64 :: 65 :: 66 :: 67 :: 68 :: 69 :: 70 :: 71 :: 72 :: 73 :: 74 :: 75 :: 76 :: 77 :: 78 :: 79 :: 80 :: 81 :: 82 :: 83 :: 84 :: 85 :: 86 :: 87 :: 88 :: 89 :: 90 :: 91 :: 92 :: 93 :: 94 :: 95 :: 96 :: 97 :: 98 :: 99 :: 100 :: 101 :: 102 :: 103 :: 104 :: 105 :: 106 :: 107 :: 108 :: 109 :: 110 :: 111 :: 112 :: 113 :: 114 :: 115 :: 116 :: 117 :: 118 :: 119 :: 120 :: 121 :: 122 :: 123 :: 124 :: 125 :: 126 :: 127 :: 128 :: 129 :: 130 :: 131 :: 132 :: 133 :: 134 :: 135 :: 136 :: 137 :: 138 :: 139 :: 140 :: 141 :: 142 :: 143 :: 144 :: 145 :: 146 :: 147 :: []) (fun (u : Unit) => [(1, .int .i64 0), (2, .int .i64 (l.length : Int))]) (fun (u : Unit) => [.arr v 3 (l.map eAsset)]) (fun (u : Unit) => True) (fun (u : Unit) => 0) (()) ?_ ?_ ?_ ?_
 ·trivial
 ·exact ⟨rfl, rfl, trivial⟩
 ·exact List.Perm.refl _
 ·intro u hu
  refine hw_block ?_
  refine hw_reg ?_
  refine dp rfl (pop_move rfl) ?_
  refine dp rfl (pop_move rfl) ?_
  refine dp rfl (pop_sub64 rfl rfl (by omega) (by omega)) ?_
  refine dp rfl (pop_assign rfl) ?_
  refine dn ?_
  refine hw_seq ?_
  refine hw_reg ?_
  refine dp rfl (pop_move rfl) ?_
  refine dp rfl (pop_leq rfl rfl) ?_
  refine dn ?_
  refine hw_cond rfl (fun h1 => ?_) (fun h1 => ?_)
  ·try simp at h1
   refine hw_reg ?_
   refine dp rfl (pop_move rfl) ?_
   refine dp rfl (pop_move rfl) ?_
   refine dp rfl (pop_move rfl) ?_
   refine dp rfl (pop_move rfl) ?_
   refine de rfl (eop_callx (i := 0) ca185 rfl (WeakL.refl _) rfl (c_slices_insertionSortCmpFunc_api_Asset (l := l) hca hp (by omega) (by omega)) ?_)
   rintro _ _ ⟨rfl, rfl⟩
   refine dn ?_
   refine hw_ret ?_
   exact ret_q rfl ⟨rfl, rfl⟩
  ·exfalso
   try simp at h1
   omega

/-- slices.SortFunc[[]benchwarmer/api.Asset,benchwarmer/api.Asset] -/
theorem c_slices_SortFunc_api_Asset_api_Asset [Tracks] {l : List Asset} {v : Value} {fid : FuncId} {caps : List HVal} {c : Asset → Asset → Int} (hca : Callable Tryz.prog fid) (hp : ∀ x y, ConP Tryz.prog fid ([eAsset x, eAsset y] ++ caps) (.int .i64 (c x y))) (hl : l.length ≤ 12) : Con Tryz.prog 145 [.raw v, .fn (.func fid) [] caps] [.arr v 3 (l.map eAsset)] (fun x M' => x = .tup [] ∧ M' = [.arr v 3 ((isort c l).map eAsset)]) := by
 refine Con.of_body Tryz.func145 rfl Tryz.ntmps145 rfl rfl ?_
 refine hw_reg ?_
 refine dp rfl (pop_move rfl) ?_
 refine de rfl (eop_lenm (i := 0) ty96 rfl rfl ?_)
 refine dp rfl (pop_assign rfl) ?_
 refine dn ?_
 refine hw_reg1 ?_
 refine dp rfl (pop_move rfl) ?_
 refine dp rfl (pop_move rfl) ?_
 refine dp rfl (pop_move rfl) ?_
 refine dp rfl (pop_eq (pop_conv ty3 ty111 rfl) (congrArg _ (wrapu64 (by omega)))) ?_
 refine de rfl (eop_callf (M1 := []) (R := [_]) ca72 rfl (WeakL.refl _) (List.Perm.refl _) (c_bits_Len_s (x := l.length) (by omega)) ?_)
 rintro _ _ ⟨n11, rfl, rfl⟩
 refine dp rfl (pop_move rfl) ?_
 refine de rfl (eop_callx (i := 0) ca168 rfl (WeakL.refl _) rfl (c_slices_pdqsortCmpFunc_api_Asset hca hp hl) ?_)
 rintro _ _ ⟨rfl, rfl⟩
 refine dn ?_
 exact ⟨_, _, Ghost.sub (Sub.refl _), _, _, rfl, Weak.refl _, rfl, rfl⟩
end Go.Proofs.YtlankmahpaenhaaGreatDoor
end
section
namespace Go.Proofs.YtlankmahpaenhaaGreatDoor
open Go.HL
set_option maxRecDepth 100000
set_option linter.unusedVariables false
set_option linter.unusedSimpArgs false

end Go.Proofs.YtlankmahpaenhaaGreatDoor
end
section
namespace Go.Proofs.YtlankmahpaenhaaGreatDoor
open Go.HL
set_option maxRecDepth 100000
set_option linter.unusedVariables false
set_option linter.unusedSimpArgs false
/-- benchwarmer/value.assetFault -/
theorem c_value_assetFault [Tracks] {x : Asset}  : ConP Tryz.prog 113 [eAsset x] (.int .i64 (assetFault x)) := by
 refine Con.of_body Tryz.func113 rfl Tryz.ntmps113 rfl rfl ?_
 refine hw_reg ?_
 refine dp rfl (pop_box rfl rfl) ?_
 refine dp rfl (pop_assign rfl) ?_
 refine dn ?_
 refine hw_seq ?_
 refine hw_block ?_
 refine hw_reg ?_
 refine dp rfl (pop_fieldAddr ty95 rfl ty9 (by decide) rfl) ?_
 refine dp rfl (pop_load ty9 rfl rfl rfl) ?_
 refine dp rfl (pop_call ca54 rfl (WeakL.refl _) c_base_Key) ?_
 refine dp rfl (pop_not rfl) ?_
 refine dp rfl (pop_move rfl) ?_
 refine dg rfl rfl (fun hc => ⟨_, OpenTo.refl _, pop_fieldAddr ty95 rfl ty9 (by decide) rfl⟩) ?_
 refine dg rfl rfl (fun hc => ⟨_, OpenTo.upd (t := 9) rfl (hc) (OpenTo.refl _), pop_load ty9 rfl rfl rfl⟩) ?_
 refine dg rfl rfl (fun hc => ⟨_, OpenTo.upd (t := 10) rfl (hc) (OpenTo.refl _), pop_call ca54 rfl (WeakL.refl _) c_base_Key⟩) ?_
 refine dg rfl rfl (fun hc => ⟨_, OpenTo.upd (t := 11) rfl (hc) (OpenTo.refl _), pop_not rfl⟩) ?_
 refine dp rfl (pop_picko rfl (.inl rfl) (.inr ⟨_, rfl, fun h => by simp_all⟩)) ?_
 refine dp rfl (pop_assign rfl) ?_
 refine dn ?_
 refine hw_cond rfl (fun h1 => ?_) (fun h2 => ?_)
 ·try simp at h1
  refine hw_reg ?_
  refine dp rfl (pop_assign rfl) ?_
  refine dn ?_
  refine hw_ret ?_
  refine ret_p rfl ?_
  show HVal.int .i64 _ = _
  simp_all [assetFault]
 ·try simp at h2
  refine hw_reg ?_
  refine dp rfl (pop_fieldAddr ty95 rfl ty3 (by decide) rfl) ?_
  refine dp rfl (pop_load ty3 rfl rfl rfl) ?_
  refine dp rfl (pop_call ca68 rfl (WeakL.refl _) c_base_Out) ?_
  refine dp rfl (pop_assign rfl) ?_
  refine dn ?_
  refine hw_cond rfl (fun h3 => ?_) (fun h4 => ?_)
  ·try simp at h3
   refine hw_reg ?_
   refine dp rfl (pop_assign rfl) ?_
   refine dn ?_
   refine hw_ret ?_
   refine ret_p rfl ?_
   show HVal.int .i64 _ = _
   simp_all [assetFault]
  ·try simp at h4
   refine hw_skip ?_
   refine blockQ_n ?_
   refine seqQ_n ?_
   refine hw_reg ?_
   refine dp rfl (pop_assign rfl) ?_
   refine dn ?_
   refine hw_ret ?_
   refine ret_p rfl ?_
   show HVal.int .i64 _ = _
   simp_all [assetFault]

/-- benchwarmer/value.CheckAssets -/
theorem c_value_CheckAssets [Tracks] {l : List Asset} (hl : l.length ≤ 1000000) : ConP Tryz.prog 82 [eAssets l] (.int .i64 (checkAssets l)) := by
 refine Con.of_body Tryz.func82 rfl Tryz.ntmps82 rfl rfl ?_
 refine hw_reg ?_
 refine dp rfl (pop_assign rfl) ?_
 refine dn ?_
 refine hw_seq ?_
 refine hw_reg ?_
 refine dp rfl (pop_move rfl) ?_
 refine dp rfl (pop_lenm ty96 rfl) ?_
 refine dp rfl (pop_gtr rfl rfl) ?_
 refine dn ?_
 refine hw_cond rfl (fun h1 => ?_) (fun h2 => ?_)
 ·try simp at h1
  refine hw_reg ?_
  refine dp rfl (pop_assign rfl) ?_
  refine dn ?_
  refine hw_ret ?_
  refine ret_p rfl ?_
  show HVal.int .i64 _ = _
  (rw [checkAssets, if_pos (by omega)]; done)
 ·try simp at h2
  refine hw_skip ?_
  refine seqQ_n ?_
  refine hw_seq ?_
  refine hw_reg ?_
  refine dp rfl (pop_move rfl) ?_
  refine dp rfl (pop_lenm ty96 rfl) ?_
  refine dp rfl (pop_move rfl) ?_
  refine dn ?_
  refine hw_block ?_
  refine hw_loopw [2, 3, 4, 5, 11, 12, 13, 14, 15, 16, 17, 18, 19, 20, 21, 22, 23, 24, 25, 26, 27, 28, 29, 30, 31, 32, 33, 34] (fun (k : Nat) => [(11, .int .i64 k)]) (fun (k : Nat) => []) (fun (k : Nat) => k ≤ l.length ∧ (checkAssets l = assetsGo l k (l.drop k))) (fun (k : Nat) => l.length - k) (0) ?_ ?_ ?_ ?_
  ·refine ⟨Nat.zero_le _, ?_⟩
   rw [checkAssets, if_neg (by omega)]; rfl
  ·exact ⟨rfl, trivial⟩
  ·exact List.Perm.refl _
  ·intro k hinv
   obtain ⟨hk, hg⟩ := hinv
   refine hw_reg ?_
   refine dp rfl (pop_lss rfl rfl) ?_
   refine dn ?_
   refine hw_seq ?_
   refine hw_cond rfl (fun h3 => ?_) (fun h4 => ?_)
   ·try simp at h3
    obtain ⟨x, hx⟩ : ∃ x, l[k]? = some x := ⟨_, List.getElem?_eq_getElem h3⟩
    have hdx := drop_cons hx
    rw [hdx] at hg
    refine hw_skip ?_
    refine seqQ_n ?_
    refine hw_seq ?_
    refine hw_block ?_
    refine hw_reg ?_
    refine dp rfl (pop_move rfl) ?_
    refine dp rfl (pop_idx ty96 ty95 rfl rfl rfl (by assumption)) ?_
    refine dp rfl (pop_loadw ty95 rfl rfl rfl rfl) ?_
    refine de rfl (eop_alloc ty95 rfl fun b4 => ?_)
    refine dp rfl (pop_assign rfl) ?_
    refine de0 (eop_storew ty95 rfl rfl rfl rfl rfl ?_)
    refine dn ?_
    refine hw_ghost (Ghost.fc0 4 rfl) ?_
    refine hw_seq ?_
    refine hw_reg ?_
    refine dp rfl (pop_loadw ty95 rfl rfl rfl rfl) ?_
    refine dp rfl (pop_call ca113 rfl (WeakL.refl _) c_value_assetFault) ?_
    refine dp rfl (pop_assign rfl) ?_
    refine dn ?_
    refine hw_reg ?_
    refine dp rfl (pop_move rfl) ?_
    refine dp rfl (pop_neq rfl rfl) ?_
    refine dn ?_
    refine hw_cond rfl (fun h5 => ?_) (fun h6 => ?_)
    ·try simp at h5
     refine hw_reg ?_
     refine dp rfl (pop_move rfl) ?_
     refine dp rfl (pop_assign rfl) ?_
     refine dn ?_
     refine hw_ret ?_
     refine ret_p rfl ?_
     show HVal.int .i64 _ = _
     (rw [hg]; simp_all [assetsGo, leS]; done)
    ·try simp at h6
     refine hw_skip ?_
     refine seqQ_n ?_
     refine hw_draw (fun _ => True) [] mixed ?_
     refine ahp 0 rfl rfl (by kernel_rfl) (by kernel_rfl) (pop_move rfl) ?_
     refine ahp 1 rfl rfl (by kernel_rfl) (by kernel_rfl) (pop_gtr rfl rfl) ?_
     refine ahp 2 rfl rfl (by kernel_rfl) (by kernel_rfl) (pop_move rfl) ?_
     refine ahg 3 rfl rfl (by kernel_rfl) (by kernel_rfl) rfl (fun hc => ⟨_, OpenTo.refl _, pop_fieldAddr ty95 rfl ty9 (by decide) rfl⟩) ?_
     refine ahg 4 rfl rfl (by kernel_rfl) (by kernel_rfl) rfl (fun hc => ⟨_, OpenTo.upd (t := 24) rfl (hc) (OpenTo.refl _), pop_load ty9 rfl rfl rfl⟩) ?_
     refine ahg 5 rfl rfl (by kernel_rfl) (by kernel_rfl) rfl (fun hc => ⟨_, OpenTo.refl _, pop_move rfl⟩) ?_
     refine ahg 6 rfl rfl (by kernel_rfl) (by kernel_rfl) rfl (fun hc => ⟨_, OpenTo.refl _, pop_move rfl⟩) ?_
     refine ahg 7 rfl rfl (by kernel_rfl) (by kernel_rfl) rfl (fun hc => by have hq := hc; (try simp at hq); exact ⟨_, OpenTo.upd (t := 27) rfl (hc) (OpenTo.refl _), pop_sub64 rfl rfl (by omega) (by omega)⟩) ?_
     refine ahg 8 rfl rfl (by kernel_rfl) (by kernel_rfl) rfl (fun hc => by have hq := hc; (try simp at hq); exact ⟨_, OpenTo.upd (t := 28) rfl (hc) (OpenTo.upd (t := 26) rfl (hc) (OpenTo.refl _)), pop_idx (j := k - 1) (a := l.getD (k - 1) asset0) ty96 ty95 rfl rfl (by omega) (getD_some (by omega))⟩) ?_
     refine ahg 9 rfl rfl (by kernel_rfl) (by kernel_rfl) rfl (fun hc => ⟨_, OpenTo.upd (t := 29) rfl (hc) (OpenTo.refl _), pop_fieldAddr ty95 rfl ty9 (by decide) rfl⟩) ?_
     refine ahg 10 rfl rfl (by kernel_rfl) (by kernel_rfl) rfl (fun hc => ⟨_, OpenTo.upd (t := 30) rfl (hc) (OpenTo.refl _), pop_load ty9 rfl rfl rfl⟩) ?_
     refine ahg 11 rfl rfl (by kernel_rfl) (by kernel_rfl) rfl (fun hc => ⟨_, OpenTo.upd (t := 31) rfl (hc) (OpenTo.upd (t := 25) rfl (hc) (OpenTo.refl _)), pop_leqs rfl rfl⟩) ?_
     refine ahp 12 rfl rfl (by kernel_rfl) (by kernel_rfl) (pop_picko rfl (.inr ⟨_, rfl, fun h => by simp_all⟩) (.inl rfl)) ?_
     refine ahz (by kernel_rfl) ?_
     refine hw_cond rfl (fun h7 => ?_) (fun h8 => ?_)
     ·try simp at h7
      refine hw_reg ?_
      refine dp rfl (pop_assign rfl) ?_
      refine dn ?_
      refine hw_ret ?_
      refine ret_p rfl ?_
      show HVal.int .i64 _ = _
      (rw [hg]; simp_all [assetsGo, leS]; done)
     ·try simp at h8
      refine hw_skip ?_
      refine blockQ_n ?_
      refine seqQ_n ?_
      refine hw_reg1 ?_
      refine dp rfl (pop_add64 rfl rfl (by omega) (by omega)) ?_
      refine dp rfl (pop_move rfl) ?_
      refine dn ?_
      refine ⟨k + 1, ?_, ?_, ⟨rfl, trivial⟩, (by repeat (first | exact keeps_refl | refine keeps_upd rfl ?_ | refine keeps_loop rfl rfl ?_)), List.Perm.refl _⟩
      ·refine ⟨by omega, ?_⟩
       rw [hg]; simp_all [assetsGo, leS]
      ·dsimp only; omega
   ·try simp at h4
    have hnk : l.length ≤ k := by omega
    obtain rfl : k = l.length := by omega
    rw [drop_all (Nat.le_refl _)] at hg
    refine hw_exit ?_
    refine seqQ_x ?_
    refine loopQ_x ?_
    refine blockQ_eq ?_
    refine seqQ_n ?_
    refine hw_reg ?_
    refine dp rfl (pop_assign rfl) ?_
    refine dn ?_
    refine hw_ret ?_
    refine ret_p rfl ?_
    show HVal.int .i64 _ = _
    (rw [hg]; simp_all [assetsGo, leS]; done)

/-- benchwarmer/value.CheckPlaces -/
theorem c_value_CheckPlaces [Tracks] {l : List HL.Place} (hl : l.length ≤ 1000000) : ConP Tryz.prog 83 [ePlaces l] (.int .i64 (checkPlaces l)) := by
 refine Con.of_body Tryz.func83 rfl Tryz.ntmps83 rfl rfl ?_
 refine hw_reg ?_
 refine dp rfl (pop_assign rfl) ?_
 refine dn ?_
 refine hw_seq ?_
 refine hw_reg ?_
 refine dp rfl (pop_move rfl) ?_
 refine dp rfl (pop_lenm ty99 rfl) ?_
 refine dp rfl (pop_gtr rfl rfl) ?_
 refine dn ?_
 refine hw_cond rfl (fun h1 => ?_) (fun h2 => ?_)
 ·try simp at h1
  refine hw_reg ?_
  refine dp rfl (pop_assign rfl) ?_
  refine dn ?_
  refine hw_ret ?_
  refine ret_p rfl ?_
  show HVal.int .i64 _ = _
  (rw [checkPlaces, if_pos (by omega)]; done)
 ·try simp at h2
  refine hw_skip ?_
  refine seqQ_n ?_
  refine hw_seq ?_
  refine hw_reg ?_
  refine dp rfl (pop_move rfl) ?_
  refine dp rfl (pop_lenm ty99 rfl) ?_
  refine dp rfl (pop_move rfl) ?_
  refine dn ?_
  refine hw_block ?_
  refine hw_loopw [2, 3, 4, 10, 11, 12, 13, 14, 15, 16, 17, 18, 19, 20, 21, 22, 23, 24, 25, 26, 27, 28, 29, 30, 31, 32, 33, 34, 35, 36, 37, 38] (fun (k : Nat) => [(10, .int .i64 k)]) (fun (k : Nat) => []) (fun (k : Nat) => k ≤ l.length ∧ (checkPlaces l = placesGo l k (l.drop k))) (fun (k : Nat) => l.length - k) (0) ?_ ?_ ?_ ?_
  ·refine ⟨Nat.zero_le _, ?_⟩
   rw [checkPlaces, if_neg (by omega)]; rfl
  ·exact ⟨rfl, trivial⟩
  ·exact List.Perm.refl _
  ·intro k hinv
   obtain ⟨hk, hg⟩ := hinv
   refine hw_reg ?_
   refine dp rfl (pop_lss rfl rfl) ?_
   refine dn ?_
   refine hw_seq ?_
   refine hw_cond rfl (fun h3 => ?_) (fun h4 => ?_)
   ·try simp at h3
    obtain ⟨x, hx⟩ : ∃ x, l[k]? = some x := ⟨_, List.getElem?_eq_getElem h3⟩
    have hdx := drop_cons hx
    rw [hdx] at hg
    refine hw_skip ?_
    refine seqQ_n ?_
    refine hw_seq ?_
    refine hw_block ?_
    refine hw_reg ?_
    refine dp rfl (pop_move rfl) ?_
    refine dp rfl (pop_idx ty99 ty98 rfl rfl rfl (by assumption)) ?_
    refine dp rfl (pop_loadw ty98 rfl rfl rfl rfl) ?_
    refine de rfl (eop_alloc ty98 rfl fun b4 => ?_)
    refine dp rfl (pop_assign rfl) ?_
    refine de0 (eop_storew ty98 rfl rfl rfl rfl rfl ?_)
    refine dn ?_
    refine hw_ghost (Ghost.fc0 4 rfl) ?_
    refine hw_block ?_
    refine hw_reg ?_
    refine dp rfl (pop_fieldAddr ty98 rfl ty9 (by decide) rfl) ?_
    refine dp rfl (pop_load ty9 rfl rfl rfl) ?_
    refine dp rfl (pop_call ca54 rfl (WeakL.refl _) c_base_Key) ?_
    refine dp rfl (pop_not rfl) ?_
    refine dp rfl (pop_assign rfl) ?_
    refine dn ?_
    refine hw_cond rfl (fun h5 => ?_) (fun h6 => ?_)
    ·try simp at h5
     refine hw_reg ?_
     refine dp rfl (pop_assign rfl) ?_
     refine dn ?_
     refine hw_ret ?_
     refine ret_p rfl ?_
     show HVal.int .i64 _ = _
     (rw [hg]; simp_all [placesGo, leS]; done)
    ·try simp at h6
     refine hw_reg ?_
     refine dp rfl (pop_fieldAddr ty98 rfl ty3 (by decide) rfl) ?_
     refine dp rfl (pop_load ty3 rfl rfl rfl) ?_
     refine dp rfl (pop_call ca68 rfl (WeakL.refl _) c_base_Out) ?_
     refine dp rfl (pop_assign rfl) ?_
     refine dn ?_
     refine hw_cond rfl (fun h7 => ?_) (fun h8 => ?_)
     ·try simp at h7
      refine hw_reg ?_
      refine dp rfl (pop_assign rfl) ?_
      refine dn ?_
      refine hw_ret ?_
      refine ret_p rfl ?_
      show HVal.int .i64 _ = _
      (rw [hg]; simp_all [placesGo, leS]; done)
     ·try simp at h8
      refine hw_draw (fun _ => True) [] mixed ?_
      refine ahp 0 rfl rfl (by kernel_rfl) (by kernel_rfl) (pop_move rfl) ?_
      refine ahp 1 rfl rfl (by kernel_rfl) (by kernel_rfl) (pop_gtr rfl rfl) ?_
      refine ahp 2 rfl rfl (by kernel_rfl) (by kernel_rfl) (pop_move rfl) ?_
      refine ahg 3 rfl rfl (by kernel_rfl) (by kernel_rfl) rfl (fun hc => ⟨_, OpenTo.refl _, pop_fieldAddr ty98 rfl ty9 (by decide) rfl⟩) ?_
      refine ahg 4 rfl rfl (by kernel_rfl) (by kernel_rfl) rfl (fun hc => ⟨_, OpenTo.upd (t := 28) rfl (hc) (OpenTo.refl _), pop_load ty9 rfl rfl rfl⟩) ?_
      refine ahg 5 rfl rfl (by kernel_rfl) (by kernel_rfl) rfl (fun hc => ⟨_, OpenTo.refl _, pop_move rfl⟩) ?_
      refine ahg 6 rfl rfl (by kernel_rfl) (by kernel_rfl) rfl (fun hc => ⟨_, OpenTo.refl _, pop_move rfl⟩) ?_
      refine ahg 7 rfl rfl (by kernel_rfl) (by kernel_rfl) rfl (fun hc => by have hq := hc; (try simp at hq); exact ⟨_, OpenTo.upd (t := 31) rfl (hc) (OpenTo.refl _), pop_sub64 rfl rfl (by omega) (by omega)⟩) ?_
      refine ahg 8 rfl rfl (by kernel_rfl) (by kernel_rfl) rfl (fun hc => by have hq := hc; (try simp at hq); exact ⟨_, OpenTo.upd (t := 32) rfl (hc) (OpenTo.upd (t := 30) rfl (hc) (OpenTo.refl _)), pop_idx (j := k - 1) (a := l.getD (k - 1) place0) ty99 ty98 rfl rfl (by omega) (getD_some (by omega))⟩) ?_
      refine ahg 9 rfl rfl (by kernel_rfl) (by kernel_rfl) rfl (fun hc => ⟨_, OpenTo.upd (t := 33) rfl (hc) (OpenTo.refl _), pop_fieldAddr ty98 rfl ty9 (by decide) rfl⟩) ?_
      refine ahg 10 rfl rfl (by kernel_rfl) (by kernel_rfl) rfl (fun hc => ⟨_, OpenTo.upd (t := 34) rfl (hc) (OpenTo.refl _), pop_load ty9 rfl rfl rfl⟩) ?_
      refine ahg 11 rfl rfl (by kernel_rfl) (by kernel_rfl) rfl (fun hc => ⟨_, OpenTo.upd (t := 35) rfl (hc) (OpenTo.upd (t := 29) rfl (hc) (OpenTo.refl _)), pop_leqs rfl rfl⟩) ?_
      refine ahp 12 rfl rfl (by kernel_rfl) (by kernel_rfl) (pop_picko rfl (.inr ⟨_, rfl, fun h => by simp_all⟩) (.inl rfl)) ?_
      refine ahp 13 rfl rfl (by kernel_rfl) (by kernel_rfl) (pop_assign rfl) ?_
      refine ahz (by kernel_rfl) ?_
      refine hw_cond rfl (fun h9 => ?_) (fun h10 => ?_)
      ·try simp at h9
       refine hw_reg ?_
       refine dp rfl (pop_assign rfl) ?_
       refine dn ?_
       refine hw_ret ?_
       refine ret_p rfl ?_
       show HVal.int .i64 _ = _
       (rw [hg]; simp_all [placesGo, leS]; done)
      ·try simp at h10
       refine hw_skip ?_
       refine blockQ_n ?_
       refine blockQ_n ?_
       refine seqQ_n ?_
       refine hw_reg1 ?_
       refine dp rfl (pop_add64 rfl rfl (by omega) (by omega)) ?_
       refine dp rfl (pop_move rfl) ?_
       refine dn ?_
       refine ⟨k + 1, ?_, ?_, ⟨rfl, trivial⟩, (by repeat (first | exact keeps_refl | refine keeps_upd rfl ?_ | refine keeps_loop rfl rfl ?_)), List.Perm.refl _⟩
       ·refine ⟨by omega, ?_⟩
        rw [hg]; simp_all [placesGo, leS]
       ·dsimp only; omega
   ·try simp at h4
    have hnk : l.length ≤ k := by omega
    obtain rfl : k = l.length := by omega
    rw [drop_all (Nat.le_refl _)] at hg
    refine hw_exit ?_
    refine seqQ_x ?_
    refine loopQ_x ?_
    refine blockQ_eq ?_
    refine seqQ_n ?_
    refine hw_reg ?_
    refine dp rfl (pop_assign rfl) ?_
    refine dn ?_
    refine hw_ret ?_
    refine ret_p rfl ?_
    show HVal.int .i64 _ = _
    (rw [hg]; simp_all [placesGo, leS]; done)

/-- benchwarmer/value.byValue -/
theorem c_value_byValue [Tracks] {x y : Asset}  : ConP Tryz.prog 146 [eAsset x, eAsset y] (.int .i64 (byValue x y)) := by
 refine Con.of_body Tryz.func146 rfl Tryz.ntmps146 rfl rfl ?_
 refine hw_reg ?_
 refine dp rfl (pop_box rfl rfl) ?_
 refine dp rfl (pop_box rfl rfl) ?_
 refine dp rfl (pop_assign rfl) ?_
 refine dn ?_
 refine hw_draw (fun _ => True) [] mixed ?_
 refine ahp 0 rfl rfl (by kernel_rfl) (by kernel_rfl) (pop_fieldAddr ty95 rfl ty3 (by decide) rfl) ?_
 refine ahp 1 rfl rfl (by kernel_rfl) (by kernel_rfl) (pop_load ty3 rfl rfl rfl) ?_
 refine ahp 2 rfl rfl (by kernel_rfl) (by kernel_rfl) (pop_fieldAddr ty95 rfl ty3 (by decide) rfl) ?_
 refine ahp 3 rfl rfl (by kernel_rfl) (by kernel_rfl) (pop_load ty3 rfl rfl rfl) ?_
 refine ahp 4 rfl rfl (by kernel_rfl) (by kernel_rfl) (pop_call ca67 rfl (WeakL.refl _) c_cmp_Compare_int) ?_
 refine ahp 5 rfl rfl (by kernel_rfl) (by kernel_rfl) (pop_fieldAddr ty95 rfl ty9 (by decide) rfl) ?_
 refine ahp 6 rfl rfl (by kernel_rfl) (by kernel_rfl) (pop_load ty9 rfl rfl rfl) ?_
 refine ahp 7 rfl rfl (by kernel_rfl) (by kernel_rfl) (pop_fieldAddr ty95 rfl ty9 (by decide) rfl) ?_
 refine ahp 8 rfl rfl (by kernel_rfl) (by kernel_rfl) (pop_load ty9 rfl rfl rfl) ?_
 refine ahp 9 rfl rfl (by kernel_rfl) (by kernel_rfl) (pop_call ca66 rfl (WeakL.refl _) c_strings_Compare) ?_
 refine ahp 10 rfl rfl (by kernel_rfl) (by kernel_rfl) (pop_buildSlice (hs := [_, _]) ty22 ty3 rfl rfl (by decide) (by decide) rfl) ?_
 refine ahp 11 rfl rfl (by kernel_rfl) (by kernel_rfl) (pop_call ca65 rfl (WeakL.refl _) (c_cmp_Or_int (l := [_, _]) (by simp))) ?_
 refine ahp 12 rfl rfl (by kernel_rfl) (by kernel_rfl) (pop_assign rfl) ?_
 refine ahz (by kernel_rfl) ?_
 refine hw_ret ?_
 refine ret_p rfl ?_
 rfl

/-- benchwarmer/value.of -/
theorem c_value_of [Tracks] {l : List Asset} {pos : Str} (hl : l.length ≤ 12) : ConP Tryz.prog 114 [eAssets l, .str pos] (eAssets (ofP l pos)) := by
 refine Con.of_body Tryz.func114 rfl Tryz.ntmps114 rfl rfl ?_
 refine hw_reg ?_
 refine dp rfl (pop_assign rfl) ?_
 refine dn ?_
 refine hw_reg ?_
 refine dp rfl (pop_assign rfl) ?_
 refine dn ?_
 refine hw_ghost (Ghost.arr_nil 3) ?_
 refine hw_seq ?_
 refine hw_reg ?_
 refine dp rfl (pop_move rfl) ?_
 refine dp rfl (pop_lenm ty96 rfl) ?_
 refine dp rfl (pop_move rfl) ?_
 refine dn ?_
 refine hw_block ?_
 refine hw_loopw2 [5, 7, 10, 11, 12, 13, 14, 15, 16, 17, 18, 19, 20, 21, 22] (fun (k : Nat) (u : Value) => [(10, .int .i64 k), (5, .raw u)]) (fun (k : Nat) (u : Value) => [.arr u 3 ((atPos (l.take k) pos).map eAsset)]) (fun (k : Nat) (u : Value) => k ≤ l.length ∧ (True)) (fun (k : Nat) (u : Value) => l.length - k) (0) (.slice none 0 0) ?_ ?_ ?_ ?_
 ·exact ⟨Nat.zero_le _, by simp_all⟩
 ·exact ⟨rfl, rfl, trivial⟩
 ·exact perm_eq (by simp [atPos])
 ·intro k u hinv
  obtain ⟨hk, -⟩ := hinv
  refine hw_reg ?_
  refine dp rfl (pop_lss rfl rfl) ?_
  refine dn ?_
  refine hw_seq ?_
  refine hw_cond rfl (fun h1 => ?_) (fun h2 => ?_)
  ·try simp at h1
   obtain ⟨x, hx⟩ : ∃ x, l[k]? = some x := ⟨_, List.getElem?_eq_getElem h1⟩
   have hdx := drop_cons hx
   refine hw_skip ?_
   refine seqQ_n ?_
   refine hw_seq ?_
   refine hw_block ?_
   refine hw_reg ?_
   refine dp rfl (pop_idx ty96 ty95 rfl rfl rfl (by assumption)) ?_
   refine dp rfl (pop_loadw ty95 rfl rfl rfl rfl) ?_
   refine de rfl (eop_alloc ty95 rfl fun b7 => ?_)
   refine de0 (eop_storew ty95 rfl rfl rfl rfl rfl ?_)
   refine dn ?_
   refine hw_ghost (Ghost.fc0 7 rfl) ?_
   refine hw_reg ?_
   refine dp rfl (pop_fieldAddr ty95 rfl ty9 (by decide) rfl) ?_
   refine dp rfl (pop_load ty9 rfl rfl rfl) ?_
   refine dp rfl (pop_move rfl) ?_
   refine dp rfl (pop_eqls rfl rfl) ?_
   refine dn ?_
   refine hw_cond rfl (fun h3 => ?_) (fun h4 => ?_)
   ·try simp at h3
    refine hw_reg1 ?_
    refine dp rfl (pop_move rfl) ?_
    refine dp rfl (pop_loadw ty95 rfl rfl rfl rfl) ?_
    refine dp rfl (pop_buildSlice (hs := [_]) ty96 ty95 rfl rfl (by decide) (by decide) rfl) ?_
    have hal : (atPos (l.take k) pos).length ≤ 12 := Nat.le_trans (atPos_le _ _) (by simp; omega)
    refine de rfl (eop_append (i := 0) ty96 ty95 rfl rfl rfl rfl rfl (by simp [flat, hcells]) (by simp; omega) fun v21 => ?_)
    refine dp rfl (pop_assign rfl) ?_
    refine dn ?_
    refine blockQ_n ?_
    refine seqQ_n ?_
    refine hw_reg1 ?_
    refine dp rfl (pop_add64 rfl rfl (by omega) (by omega)) ?_
    refine dp rfl (pop_move rfl) ?_
    refine dn ?_
    exact ⟨k + 1, _, ⟨by omega, trivial⟩, by dsimp only; omega, ⟨rfl, rfl, trivial⟩, (by repeat (first | exact keeps_refl | refine keeps_upd rfl ?_ | refine keeps_loop rfl rfl ?_)), perm_eq (by dsimp only; rw [atPos_snoc hx, if_pos (by simp_all)]; simp)⟩
   ·try simp at h4
    refine hw_skip ?_
    refine blockQ_n ?_
    refine seqQ_n ?_
    refine hw_reg1 ?_
    refine dp rfl (pop_add64 rfl rfl (by omega) (by omega)) ?_
    refine dp rfl (pop_move rfl) ?_
    refine dn ?_
    exact ⟨k + 1, _, ⟨by omega, trivial⟩, by dsimp only; omega, ⟨rfl, rfl, trivial⟩, (by repeat (first | exact keeps_refl | refine keeps_upd rfl ?_ | refine keeps_loop rfl rfl ?_)), perm_eq (by dsimp only; rw [atPos_snoc hx, if_neg (by simp_all)]; simp)⟩
  ·try simp at h2
   have hnk : l.length ≤ k := by omega
   obtain rfl : k = l.length := by omega
   rw [List.take_length]
   refine hw_exit ?_
   refine seqQ_x ?_
   refine loopQ2_x ?_
   refine blockQ_eq ?_
   refine seqQ_n ?_
   have hal := atPos_le l pos
   refine hw_reg ?_
   refine dp rfl (pop_move rfl) ?_
   refine de rfl (eop_callx (i := 0) ca145 rfl (WeakL.refl _) rfl (c_slices_SortFunc_api_Asset_api_Asset (l := atPos l pos) (c := byValue) (caps := []) ca146 (fun x y => c_value_byValue) (by omega)) ?_)
   rintro _ _ ⟨rfl, rfl⟩
   refine dn ?_
   refine hw_reg ?_
   refine dp rfl (pop_move rfl) ?_
   refine dp rfl (pop_assign rfl) ?_
   refine dn ?_
   refine hw_ret ?_
   exact ret_fa (M := []) 4 rfl rfl rfl

set_option maxHeartbeats 1000000 in
/-- benchwarmer/value.fielded -/
theorem c_value_fielded [Tracks] {l : List Asset} {p : List HL.Place} (hl : l.length ≤ 12) (hp : p.length ≤ 10) (hm : ∀ x ∈ p, 0 ≤ x.Many) (hv : ∀ x ∈ l, -1000000 ≤ x.Value ∧ x.Value ≤ 1000000) : ConP Tryz.prog 84 [eAssets l, ePlaces p] (.tup [.int .i64 (sumV (fieldedL (ofP l) p)), eSs (namesV (fieldedL (ofP l) p))]) := by
 have hon : ∀ s, (ofP l s).length ≤ 12 := fun s => Nat.le_trans (ofP_len l s) hl
 refine Con.of_body Tryz.func84 rfl Tryz.ntmps84 rfl rfl ?_
 refine hw_reg ?_
 refine dp rfl (pop_assign rfl) ?_
 refine dp rfl (pop_assign rfl) ?_
 refine dn ?_
 refine hw_reg ?_
 refine dp rfl (pop_assign rfl) ?_
 refine dn ?_
 refine hw_reg ?_
 refine dp rfl (pop_assign rfl) ?_
 refine dn ?_
 refine hw_ghost (Ghost.arr_nil 1) ?_
 refine hw_seq ?_
 refine hw_reg ?_
 refine dp rfl (pop_move rfl) ?_
 refine dp rfl (pop_lenm ty99 rfl) ?_
 refine dp rfl (pop_move rfl) ?_
 refine dn ?_
 refine hw_block ?_
 refine hw_loopw2 [6, 7, 9, 10, 12, 15, 16, 17, 18, 19, 20, 21, 22, 23, 24, 25, 26, 27, 28, 29, 30, 31, 32, 33, 34, 35, 36, 37, 38, 39, 40, 41, 42, 43, 44, 45, 46, 47, 48] (fun (i : Nat) (u : Value) => [(15, .int .i64 i), (6, .int .i64 (sumV (fieldedL (ofP l) (p.take i)))), (7, .raw u)]) (fun (i : Nat) (u : Value) => [.arr u 1 (((fieldedL (ofP l) (p.take i)).map (·.Player)).map .str)]) (fun (i : Nat) (u : Value) => i ≤ p.length ∧ (True)) (fun (i : Nat) (u : Value) => p.length - i) (0) (.slice none 0 0) ?_ ?_ ?_ ?_
 ·exact ⟨Nat.zero_le _, by simp_all⟩
 ·exact ⟨rfl, some_int (by simp [fieldedL, sumV]), rfl, trivial⟩
 ·exact perm_eq (by simp [fieldedL])
 ·intro i u hinv
  obtain ⟨hi, -⟩ := hinv
  refine hw_reg ?_
  refine dp rfl (pop_lss rfl rfl) ?_
  refine dn ?_
  refine hw_seq ?_
  refine hw_cond rfl (fun h1 => ?_) (fun h2 => ?_)
  ·try simp at h1
   obtain ⟨x, hx⟩ : ∃ x, p[i]? = some x := ⟨_, List.getElem?_eq_getElem h1⟩
   have hdx := drop_cons hx
   refine hw_skip ?_
   refine seqQ_n ?_
   refine hw_seq ?_
   refine hw_block ?_
   refine hw_reg ?_
   refine dp rfl (pop_idx ty99 ty98 rfl rfl rfl (by assumption)) ?_
   refine dp rfl (pop_loadw ty98 rfl rfl rfl rfl) ?_
   refine de rfl (eop_alloc ty98 rfl fun b9 => ?_)
   refine de0 (eop_storew ty98 rfl rfl rfl rfl rfl ?_)
   refine dn ?_
   refine hw_ghost (Ghost.fc0 9 rfl) ?_
   refine hw_reg ?_
   refine dp rfl (pop_move rfl) ?_
   refine dp rfl (pop_fieldAddr ty98 rfl ty9 (by decide) rfl) ?_
   refine dp rfl (pop_load ty9 rfl rfl rfl) ?_
   refine dp rfl (pop_call ca114 rfl (WeakL.refl _) (c_value_of (by assumption))) ?_
   refine dp rfl (pop_assign rfl) ?_
   refine dn ?_
   have hx0 := hm x (List.mem_of_getElem? hx)
   have hon1 := hon x.Position
   obtain ⟨N, hN⟩ : ∃ N : Nat, (if ((ofP l x.Position).length : Int) < x.Many then ((ofP l x.Position).length : Int) else x.Many) = (N : Int) := ⟨_, (Int.toNat_of_nonneg (by split <;> omega)).symm⟩
   have hNle : N ≤ (ofP l x.Position).length := by split at hN <;> omega
   refine hw_reg ?_
   refine dp rfl (pop_move rfl) ?_
   refine dp rfl (pop_fieldAddr ty98 rfl ty3 (by decide) rfl) ?_
   refine dp rfl (pop_load ty3 rfl rfl rfl) ?_
   refine dp rfl (pop_move rfl) ?_
   refine dp rfl (pop_lenm ty96 rfl) ?_
   refine dp rfl (pop_eq (pop_min rfl rfl) (congrArg _ hN)) ?_
   refine dp rfl (pop_slicem (h := N) ty96 ty95 rfl rfl ⟨_, _, rfl, rfl⟩ (by omega) hNle) ?_
   refine dp rfl (pop_lenm ty96 rfl) ?_
   refine dp rfl (pop_move rfl) ?_
   refine dn ?_
   have hCl : ((List.drop 0 (List.take N (ofP l x.Position)))).length ≤ 12 := by simp; omega
   have hCm : ∀ y ∈ (List.drop 0 (List.take N (ofP l x.Position))), y ∈ l := fun y hy => by
    have := List.mem_of_mem_take (List.mem_of_mem_drop hy)
    unfold ofP atPos at this
    exact (List.mem_filter.1 ((isort_mem _).1 this)).1
   generalize hCd : List.drop 0 (List.take N (ofP l x.Position)) = C at *
   refine hw_block ?_
   refine hw_loopw2 [6, 7, 12, 31, 32, 33, 34, 35, 36, 37, 38, 39, 40, 41, 42, 43, 44, 45, 46, 47] (fun (k : Nat) (w : Value) => [(31, .int .i64 k), (6, .int .i64 (sumV ((fieldedL (ofP l) (p.take i)) ++ ((C.take k).filter (fun y => decide (0 < y.Value)))))), (7, .raw w)]) (fun (k : Nat) (w : Value) => [.arr w 1 ((((fieldedL (ofP l) (p.take i)) ++ ((C.take k).filter (fun y => decide (0 < y.Value)))).map (·.Player)).map .str)]) (fun (k : Nat) (w : Value) => k ≤ C.length ∧ (True)) (fun (k : Nat) (w : Value) => C.length - k) (0) (u) ?_ ?_ ?_ ?_
   ·exact ⟨Nat.zero_le _, by simp_all⟩
   ·exact ⟨rfl, some_int (by simp), rfl, trivial⟩
   ·exact perm_eq (by simp)
   ·intro k w hinv
    obtain ⟨hk, -⟩ := hinv
    refine hw_reg ?_
    refine dp rfl (pop_lss rfl rfl) ?_
    refine dn ?_
    refine hw_seq ?_
    refine hw_cond rfl (fun h3 => ?_) (fun h4 => ?_)
    ·try simp at h3
     obtain ⟨y, hy⟩ : ∃ y, C[k]? = some y := ⟨_, List.getElem?_eq_getElem h3⟩
     have hdy := drop_cons hy
     refine hw_skip ?_
     refine seqQ_n ?_
     refine hw_seq ?_
     refine hw_block ?_
     refine hw_reg ?_
     refine dp rfl (pop_idx ty96 ty95 rfl rfl rfl (by assumption)) ?_
     refine dp rfl (pop_loadw ty95 rfl rfl rfl rfl) ?_
     refine de rfl (eop_alloc ty95 rfl fun b12 => ?_)
     refine de0 (eop_storew ty95 rfl rfl rfl rfl rfl ?_)
     refine dn ?_
     refine hw_ghost (Ghost.fc0 12 rfl) ?_
     refine hw_reg ?_
     refine dp rfl (pop_fieldAddr ty95 rfl ty3 (by decide) rfl) ?_
     refine dp rfl (pop_load ty3 rfl rfl rfl) ?_
     refine dp rfl (pop_gtr rfl rfl) ?_
     refine dn ?_
     refine hw_cond rfl (fun h5 => ?_) (fun h6 => ?_)
     ·try simp at h5
      refine hw_reg ?_
      refine dp rfl (pop_move rfl) ?_
      refine dp rfl (pop_fieldAddr ty95 rfl ty3 (by decide) rfl) ?_
      refine dp rfl (pop_load ty3 rfl rfl rfl) ?_
      have hb1 := field_bd (f := ofP l) (p := p) (i := i) (fun s m y => mem_chosen) hon hp hv
      have hb2 := pos_bd (k := k) hCm hCl hv
      have hb3 := hv y (hCm y (List.mem_of_getElem? hy))
      have hb4 := sumV_app (fieldedL (ofP l) (p.take i)) ((C.take k).filter (fun y => decide (0 < y.Value)))
      refine dp rfl (pop_add64 rfl rfl (by omega) (by omega)) ?_
      refine dp rfl (pop_assign rfl) ?_
      refine dn ?_
      refine hw_reg1 ?_
      refine dp rfl (pop_move rfl) ?_
      refine dp rfl (pop_fieldAddr ty95 rfl ty9 (by decide) rfl) ?_
      refine dp rfl (pop_load ty9 rfl rfl rfl) ?_
      refine dp rfl (pop_buildSlice (hs := [_]) ty47 ty9 rfl rfl (by decide) (by decide) rfl) ?_
      refine de rfl (eop_append (i := 0) ty47 ty9 rfl rfl rfl rfl rfl (by simp [flat, hcells]) (by simp only [List.length_map, List.length_append, List.length_cons, List.length_nil]; omega) fun v46 => ?_)
      refine dp rfl (pop_assign rfl) ?_
      refine dn ?_
      refine blockQ_n ?_
      refine seqQ_n ?_
      refine hw_reg1 ?_
      refine dp rfl (pop_add64 rfl rfl (by omega) (by omega)) ?_
      refine dp rfl (pop_move rfl) ?_
      refine dn ?_
      exact ⟨k + 1, _, ⟨by omega, trivial⟩, by dsimp only; omega, ⟨rfl, some_int (by rw [pos_snoc hy, if_pos (by simp_all), ← List.append_assoc, sumV_app _ [y]]; simp [sumV]), rfl, trivial⟩, (by repeat (first | exact keeps_refl | refine keeps_upd rfl ?_ | refine keeps_loop rfl rfl ?_)), perm_eq (by dsimp only; rw [pos_snoc hy, if_pos (by simp_all)]; simp)⟩
     ·try simp at h6
      refine hw_skip ?_
      refine blockQ_n ?_
      refine seqQ_n ?_
      refine hw_reg1 ?_
      refine dp rfl (pop_add64 rfl rfl (by omega) (by omega)) ?_
      refine dp rfl (pop_move rfl) ?_
      refine dn ?_
      exact ⟨k + 1, _, ⟨by omega, trivial⟩, by dsimp only; omega, ⟨rfl, some_int (by rw [pos_snoc hy, if_neg (by omega)]; simp), rfl, trivial⟩, (by repeat (first | exact keeps_refl | refine keeps_upd rfl ?_ | refine keeps_loop rfl rfl ?_)), perm_eq (by dsimp only; rw [pos_snoc hy, if_neg (by omega)]; simp)⟩
    ·try simp at h4
     have hnk : C.length ≤ k := by omega
     obtain rfl : k = C.length := by omega
     refine hw_exit ?_
     refine seqQ_x ?_
     refine loopQ2_x ?_
     refine blockQ_eq ?_
     refine blockQ_n ?_
     refine seqQ_n ?_
     refine hw_reg1 ?_
     refine dp rfl (pop_add64 rfl rfl (by omega) (by omega)) ?_
     refine dp rfl (pop_move rfl) ?_
     refine dn ?_
     exact ⟨i + 1, _, ⟨by omega, trivial⟩, by dsimp only; omega, ⟨rfl, some_int (by rw [fieldedL_snoc _ hx, chosen_eq hN, hCd, List.take_length]), rfl, trivial⟩, (by repeat (first | exact keeps_refl | refine keeps_upd rfl ?_ | refine keeps_loop rfl rfl ?_)), perm_eq (by dsimp only; rw [fieldedL_snoc _ hx, chosen_eq hN, hCd, List.take_length])⟩
  ·try simp at h2
   have hni : p.length ≤ i := by omega
   obtain rfl : i = p.length := by omega
   refine hw_exit ?_
   refine seqQ_x ?_
   refine loopQ2_x ?_
   refine blockQ_eq ?_
   refine seqQ_n ?_
   rw [List.take_length]
   refine hw_reg ?_
   refine dp rfl (pop_move rfl) ?_
   refine de rfl (eop_callx (i := 0) ca115 rfl (WeakL.refl _) rfl (c_slices_Sort (l := (fieldedL (ofP l) p).map (·.Player)) (by have hb1 := field_bd (f := ofP l) (p := p) (i := p.length) (fun s m y => mem_chosen) hon hp hv; rw [List.take_length] at hb1; simp; omega)) ?_)
   rintro _ _ ⟨rfl, rfl⟩
   refine dn ?_
   refine hw_reg ?_
   refine dp rfl (pop_move rfl) ?_
   refine dp rfl (pop_move rfl) ?_
   refine dp rfl (pop_assign rfl) ?_
   refine dp rfl (pop_assign rfl) ?_
   refine dn ?_
   refine hw_ret ?_
   exact ret_fa (M := []) 5 rfl rfl rfl
end Go.Proofs.YtlankmahpaenhaaGreatDoor
end
section
namespace Go.Proofs.YtlankmahpaenhaaGreatDoor
open Go.HL
set_option maxRecDepth 100000
set_option linter.unusedVariables false
set_option linter.unusedSimpArgs false
/-- benchwarmer/value.Fielded -/
theorem c_value_Fielded [Tracks] {l : List Asset} {p : List HL.Place} (hl : l.length ≤ 11) (hp : p.length ≤ 1000000) : ConP Tryz.prog 58 [eAssets l, ePlaces p] (.tup [.int .i64 (if okAP l p != 0 then 0 else sumF l p), eSs (if okAP l p != 0 then [] else namesV (fieldedL (ofP l) p)), .int .i64 (okAP l p)]) := by
 refine Con.of_body Tryz.func58 rfl Tryz.ntmps58 rfl rfl ?_
 refine hw_reg ?_
 refine dp rfl (pop_assign rfl) ?_
 refine dp rfl (pop_assign rfl) ?_
 refine dp rfl (pop_assign rfl) ?_
 refine dn ?_
 refine hw_seq ?_
 refine hw_reg ?_
 refine dp rfl (pop_move rfl) ?_
 refine dp rfl (pop_call ca82 rfl (WeakL.refl _) (c_value_CheckAssets (by omega))) ?_
 refine dp rfl (pop_move rfl) ?_
 refine dp rfl (pop_call ca83 rfl (WeakL.refl _) (c_value_CheckPlaces (by assumption))) ?_
 refine dp rfl (pop_buildSlice (hs := [_, _]) ty67 ty34 rfl rfl (by decide) (by decide) rfl) ?_
 refine dp rfl (pop_call ca36 rfl (WeakL.refl _) (c_base_First (l := [_, _]) (by simp))) ?_
 refine dp rfl (pop_assign rfl) ?_
 refine dn ?_
 refine hw_reg ?_
 refine dp rfl (pop_move rfl) ?_
 refine dp rfl (pop_neq rfl rfl) ?_
 refine dn ?_
 refine hw_cond rfl (fun h1 => ?_) (fun h2 => ?_)
 ·try simp at h1
  refine hw_reg ?_
  refine dp rfl (pop_move rfl) ?_
  refine dp rfl (pop_assign rfl) ?_
  refine dp rfl (pop_assign rfl) ?_
  refine dp rfl (pop_assign rfl) ?_
  refine dn ?_
  refine hw_ret ?_
  (refine ret_w rfl (weak_tup3 ?_ ?_ (Weak.refl _))
   ·rw [if_pos (by simpa [okAP] using h1)]; exact Weak.refl _
   ·rw [if_pos (by simpa [okAP] using h1)]; exact weak_nil 1)
 ·try simp at h2
  refine hw_skip ?_
  refine seqQ_n ?_
  obtain ⟨hca0, hcp0⟩ := okAP_ok (l := l) (p := p) (by simpa [okAP] using h2)
  obtain ⟨hsr, haf⟩ := checkAssets_ok hca0
  obtain ⟨hmm, hp10⟩ := checkPlaces_ok hcp0
  have hvv : ∀ x ∈ l, -1000000 ≤ x.Value ∧ x.Value ≤ 1000000 := fun x hx => (assetFault_ok (haf x hx)).2.2
  refine hw_reg ?_
  refine dp rfl (pop_move rfl) ?_
  refine dp rfl (pop_move rfl) ?_
  refine dp rfl (pop_call ca84 rfl (WeakL.refl _) (c_value_fielded (by omega) (by assumption) (by simp_all) (by assumption))) ?_
  refine dp rfl (pop_move rfl) ?_
  refine dp rfl (pop_extract rfl rfl) ?_
  refine dp rfl (pop_extract rfl rfl) ?_
  refine dp rfl (pop_assign rfl) ?_
  refine dp rfl (pop_assign rfl) ?_
  refine dn ?_
  refine hw_reg ?_
  refine dp rfl (pop_move rfl) ?_
  refine dp rfl (pop_move rfl) ?_
  refine dp rfl (pop_assign rfl) ?_
  refine dp rfl (pop_assign rfl) ?_
  refine dp rfl (pop_assign rfl) ?_
  refine dn ?_
  refine hw_ret ?_
  (refine ret_p rfl ?_
   have h0 : okAP l p = 0 := by simpa [okAP] using h2
   simp [h0, sumF, ofVal, ofVal1])

end Go.Proofs.YtlankmahpaenhaaGreatDoor
end
section
namespace Go.Proofs.YtlankmahpaenhaaGreatDoor
open Go.HL
set_option maxRecDepth 100000
set_option linter.unusedVariables false
set_option linter.unusedSimpArgs false

end Go.Proofs.YtlankmahpaenhaaGreatDoor
end
section
namespace Go.Proofs.YtlankmahpaenhaaGreatDoor
open Go.HL
set_option maxRecDepth 100000
set_option linter.unusedVariables false
set_option linter.unusedSimpArgs false

end Go.Proofs.YtlankmahpaenhaaGreatDoor
end
section
namespace Go.Proofs.YtlankmahpaenhaaGreatDoor
open Go.HL
set_option maxRecDepth 100000
set_option linter.unusedVariables false
set_option linter.unusedSimpArgs false

end Go.Proofs.YtlankmahpaenhaaGreatDoor
end
section
namespace Go.HL
def room1 : Room := ⟨[[97], [98]], 2, 2, [[112], [113], [114], [115]], 1000, 0⟩
theorem room1_ok : checkSwaps room1 [] = 0 := by kernel_rfl
theorem room1_turns : turnTeams room1 [] = [[97], [98], [98], [97]] := by kernel_rfl
end Go.HL
end
section
namespace Go.HL
open Op (bytesLess)
abbrev pick0 : Pick := ⟨0, [], [], 0, false⟩
theorem pw_tri {α : Type} {R : α → α → Prop} : ∀ {l : List α}, l.Pairwise R → ∀ x ∈ l, ∀ y ∈ l, x = y ∨ R x y ∨ R y x
 | [], _, x, hx, _, _ => by simp at hx
 | a :: l, h, x, hx, y, hy => by
   obtain ⟨h1, h2⟩ := List.pairwise_cons.1 h
   rcases List.mem_cons.1 hx with e | hx' <;> rcases List.mem_cons.1 hy with e' | hy'
   ·exact .inl (e.trans e'.symm)
   ·exact .inr (.inl (e ▸ h1 y hy'))
   ·exact .inr (.inr (e' ▸ h1 x hx'))
   ·exact pw_tri h2 x hx' y hy'
/-! keeps that are right -/
def kLt (a b : Keep) : Prop := bytesLess a.Team b.Team = true ∨ (a.Team = b.Team ∧ a.Round < b.Round)
structure KeepsOk (r : Room) (k : List Keep) : Prop where
 all : ∀ x ∈ k, x.Team ∈ r.Teams ∧ x.Player ∈ r.Players ∧ 1 ≤ x.Round ∧ x.Round ≤ r.Rounds
 lt : k.Pairwise kLt
theorem risingGo_key {l : List Str} : ∀ (r : List Str) (k : Nat), risingGo l k r = 0 → ∀ s ∈ r, key s = true
 | [], _, _, s, hs => by simp at hs
 | x :: r, k, h, s, hs => by
   simp only [risingGo] at h
   split at h
   ·omega
   ·rename_i h1
    split at h
    ·omega
    ·rcases List.mem_cons.1 hs with rfl | hs
     ·simpa using h1
     ·exact risingGo_key r (k + 1) h s hs
structure RoomOk (r : Room) : Prop where
 sorted : SortedS r.Players
 t20 : r.Teams.length ≤ 20
 t0 : 0 < r.Teams.length
 r1 : 1 ≤ r.Rounds
 r30 : r.Rounds ≤ 30
 p500 : r.Players.length ≤ 500
 ne : ∀ s ∈ r.Players, s ≠ []
 many : (r.Teams.length : Int) * r.Rounds ≤ r.Players.length
 clock : 1000 ≤ r.Clock ∧ r.Clock ≤ 86400000
 start : moment r.Start = true
theorem room_ok {r : Room} (h : checkRoom r = 0) : RoomOk r := by
 obtain ⟨a1, a2, a3, a4, a5, a6⟩ := checkRoom_ok h
 unfold checkRoom at h
 split at h
 ·rename_i hc; simp [h] at hc
 ·split at h
  ·omega
  ·split at h
   ·omega
   ·split at h
    ·rename_i hc; simp [h] at hc
    ·rename_i hp
     split at h
     ·omega
     ·rename_i hcl
      split at h
      ·omega
      ·rename_i hm
       simp at hcl hp
       refine ⟨a1, a2, a3, a4, a5, a6, fun s hs e => ?_, by omega, out_f hcl.1, hcl.2⟩
       unfold playersFault at hp
       split at hp
       ·omega
       ·have := risingGo_key _ 0 hp s hs
        subst e; simp [key, keyHd] at this
def fits (t : Turn) (x : Keep) : Bool := decide (x.Team = t.of ∧ x.Round = t.round)
theorem keepIn_fix (r : Room) (t : Turn) : ∀ (k : List Keep) (p : Pick), (keepIn r t p k).No = p.No ∧ (keepIn r t p k).Team = p.Team
 | [], p => ⟨rfl, rfl⟩
 | x :: k, p => by
   obtain ⟨h1, h2⟩ := keepIn_fix r t k (if x.Team = t.of ∧ x.Round = t.round then { p with Player := x.Player, At := r.Start } else p)
   simp only [keepIn]; rw [h1, h2]
   split <;> exact ⟨rfl, rfl⟩
theorem KeepsOk.one {r : Room} {k : List Keep} (h : KeepsOk r k) {t : Turn} {x y : Keep} (hx : x ∈ k) (hy : y ∈ k) (fx : fits t x = true) (fy : fits t y = true) : y = x := by
 simp [fits] at fx fy
 rcases pw_tri h.lt x hx y hy with e | e | e
 ·exact e.symm
 ·exfalso
  rcases e with e | ⟨e1, e2⟩
  ·rw [fx.1, fy.1, less_irrefl] at e; cases e
  ·omega
 ·exfalso
  rcases e with e | ⟨e1, e2⟩
  ·rw [fx.1, fy.1, less_irrefl] at e; cases e
  ·omega
def freeP (r : Room) (k : List Keep) (s : List Swap) : List Pick := (open1 r k s).filter fun p => p.Player == []
def goneB (k : List Keep) (l : List Pick) (s : Str) : Bool := k.any (fun x => x.Player == s) || l.any (fun p => p.Player == s)
end Go.HL
end
section
namespace Go.HL
def lastAt (r : Room) (l : List Pick) : Int := match l.getLast? with | some p => p.At | none => r.Start
def pkF (r : Room) (k : List Keep) (fr l : List Pick) (p : Pick) : Int :=
 if !(moment p.At) then 1 else if !(p.No == (fr.getD l.length pick0).No) then 7 else if !(p.Team == (fr.getD l.length pick0).Team) then 13
 else if !(r.Players.contains p.Player) then 8 else if goneB k l p.Player then 6 else if p.At < lastAt r l then 11 else 0
def pksGo (r : Room) (k : List Keep) (fr l : List Pick) : Nat → List Pick → Int
 | _, [] => 0
 | i, p :: t => if pkF r k fr (l.take i) p != 0 then pkF r k fr (l.take i) p else pksGo r k fr l (i + 1) t
def pksR (r : Room) (k : List Keep) (s : List Swap) (l : List Pick) : Int := if (freeP r k s).length < l.length then 2 else pksGo r k (freeP r k s) l 0 l
def picksE (r : Room) (k : List Keep) (s : List Swap) (l : List Pick) : Int := if openFault r k s != 0 then openFault r k s else pksR r k s l
theorem pgo_ne {r : Room} {k : List Keep} {fr l : List Pick} {i : Nat} {p : Pick} {t : List Pick} (h : pkF r k fr (l.take i) p ≠ 0) : pksGo r k fr l i (p :: t) = pkF r k fr (l.take i) p := by
 rw [pksGo, if_pos (by simpa using h)]
theorem pgo_z {r : Room} {k : List Keep} {fr l : List Pick} {i : Nat} {p : Pick} {t : List Pick} (h : pkF r k fr (l.take i) p = 0) : pksGo r k fr l i (p :: t) = pksGo r k fr l (i + 1) t := by
 rw [pksGo, if_neg (by simp [h])]
section
variable {r : Room} {k : List Keep} {fr l : List Pick} {p : Pick}
theorem pkF_ok (h : pkF r k fr l p = 0) : moment p.At = true ∧ p.No = (fr.getD l.length pick0).No ∧ p.Team = (fr.getD l.length pick0).Team ∧ p.Player ∈ r.Players ∧ goneB k l p.Player = false := by
 unfold pkF at h
 split at h
 ·omega
 ·rename_i h1
  split at h
  ·omega
  ·rename_i h2
   split at h
   ·omega
   ·rename_i h3
    split at h
    ·omega
    ·rename_i h4
     split at h
     ·omega
     ·rename_i h5
      simp at h1 h2 h3 h4 h5
      exact ⟨h1, h2, h3, h4, h5⟩
end
theorem picksE_ok {r : Room} {k : List Keep} {s : List Swap} {l : List Pick} (h : picksE r k s l = 0) : openFault r k s = 0 ∧ l.length ≤ (freeP r k s).length ∧ pksGo r k (freeP r k s) l 0 l = 0 := by
 unfold picksE at h
 split at h
 ·rename_i hc; simp [h] at hc
 ·rename_i hc
  unfold pksR at h
  split at h
  ·omega
  ·exact ⟨by simpa using hc, by omega, h⟩
theorem pksGo_at {r : Room} {k : List Keep} {fr l : List Pick} : ∀ (t : List Pick) (i : Nat), l.drop i = t → pksGo r k fr l i t = 0 → ∀ (j : Nat) (p : Pick), i ≤ j → l[j]? = some p → pkF r k fr (l.take j) p = 0
 | [], i, hd, _, j, p, hj, hp => by
   have := lt_of_get hp
   have h2 : l.length ≤ i := by rw [← List.drop_eq_nil_iff]; exact hd
   omega
 | x :: t, i, hd, h, j, p, hj, hp => by
   have hk : l[i]? = some x := by
    have := congrArg (fun q => q[0]?) hd
    simpa using this
   have hd' : l.drop (i + 1) = t := by
    have := drop_cons hk
    rw [hd] at this; simp at this; exact this.symm
   by_cases e : pkF r k fr (l.take i) x = 0
   ·rw [pgo_z e] at h
    by_cases hij : i = j
    ·subst hij; rw [hk] at hp; cases hp; exact e
    ·exact pksGo_at t (i + 1) hd' h j p (by omega) hp
   ·rw [pgo_ne e] at h; exact absurd h e
structure Wish where
 Team : Str
 Players : List Str
theorem goneB_snoc (k : List Keep) (l : List Pick) (p : Pick) (s : Str) : goneB k (l ++ [p]) s = (goneB k l s || p.Player == s) := by
 simp [goneB, Bool.or_assoc]
/-! what a run holds -/
structure RunOk (r : Room) (k : List Keep) (s : List Swap) (l : List Pick) (S : List Str) : Prop where
 gone : ∀ x ∈ r.Players, S.contains x = goneB k l x
theorem RunOk.add {r : Room} {k : List Keep} {s : List Swap} {l : List Pick} {S : List Str} (ok : RunOk r k s l S) (p : Pick) : RunOk r k s (l ++ [p]) (sadd p.Player S) :=
 ⟨fun x hx => by rw [goneB_snoc, sadd_contains, ok.gone x hx]⟩
end Go.HL
end
section
namespace Go.HL
section
variable {r : Room} {w : List Wish} {k : Nat} {x : Wish} {t : List Wish}
end
end Go.HL
end
section
namespace Go.Proofs.YtlankmahpaenhaaGreatDoor
open Go.HL
set_option maxRecDepth 100000
set_option linter.unusedVariables false
set_option linter.unusedSimpArgs false

end Go.Proofs.YtlankmahpaenhaaGreatDoor
end
section
namespace Go.Proofs.YtlankmahpaenhaaGreatDoor
open Go.HL
set_option maxRecDepth 100000
set_option linter.unusedVariables false
set_option linter.unusedSimpArgs false

end Go.Proofs.YtlankmahpaenhaaGreatDoor
end
section
namespace Go.Proofs.YtlankmahpaenhaaGreatDoor
open Go.HL
set_option maxRecDepth 100000
set_option linter.unusedVariables false
set_option linter.unusedSimpArgs false

end Go.Proofs.YtlankmahpaenhaaGreatDoor
end
section
namespace Go.Proofs.YtlankmahpaenhaaGreatDoor
open Go.HL
set_option maxRecDepth 100000
set_option linter.unusedVariables false
set_option linter.unusedSimpArgs false

end Go.Proofs.YtlankmahpaenhaaGreatDoor
end
section
namespace Go.Proofs.YtlankmahpaenhaaGreatDoor
open Go.HL
set_option maxRecDepth 100000
set_option linter.unusedVariables false
set_option linter.unusedSimpArgs false

end Go.Proofs.YtlankmahpaenhaaGreatDoor
end
section
namespace Go.Proofs.YtlankmahpaenhaaGreatDoor
open Go.HL
set_option maxRecDepth 100000
set_option linter.unusedVariables false
set_option linter.unusedSimpArgs false

end Go.Proofs.YtlankmahpaenhaaGreatDoor
end
section
namespace Go.Proofs.YtlankmahpaenhaaGreatDoor
open Go.HL
set_option maxRecDepth 100000
set_option linter.unusedVariables false
set_option linter.unusedSimpArgs false

end Go.Proofs.YtlankmahpaenhaaGreatDoor
end
section
namespace Go.Proofs.YtlankmahpaenhaaGreatDoor
open Go.HL
set_option maxRecDepth 100000
set_option linter.unusedVariables false
set_option linter.unusedSimpArgs false

end Go.Proofs.YtlankmahpaenhaaGreatDoor
end
section
namespace Go.HL
section
variable {r : Room} {k : List Keep} {s : List Swap} {l : List Pick} {w : List Wish} {n : Int}
end
end Go.HL
end
section
namespace Go.HL
section
variable {r : Room} {k : List Keep} {s : List Swap} {l : List Pick}
def putNo (A : List Pick) (p : Pick) : List Pick := A.set p.No.toNat p
def NoInc (A : List Pick) : Prop := ∀ (i : Nat) (p : Pick), A[i]? = some p → p.No = (i : Int)
theorem openFrom_no : ∀ (t : List Turn) (i j : Nat) (p : Pick), (openFrom r k i t)[j]? = some p → p.No = ((i + j : Nat) : Int)
 | [], i, j, p, h => by simp [openFrom] at h
 | x :: t, i, 0, p, h => by
   simp only [openFrom, List.getElem?_cons_zero, Option.some.injEq] at h
   subst h; rw [(keepIn_fix r x k _).1]; rfl
 | x :: t, i, j + 1, p, h => by
   simp only [openFrom, List.getElem?_cons_succ] at h
   rw [openFrom_no t (i + 1) j p h]; congr 1; omega
theorem open_no : NoInc (open1 r k s) := fun i p h => by
 have := openFrom_no _ 0 i p h
 rw [this]; congr 1; omega
theorem NoInc.pw {A : List Pick} (h : NoInc A) : A.Pairwise fun a b => a.No < b.No :=
 List.pairwise_iff_getElem.2 fun i j hi hj hij => by
  rw [h i _ (List.getElem?_eq_getElem hi), h j _ (List.getElem?_eq_getElem hj)]; omega
theorem NoInc.put {A : List Pick} (h : NoInc A) {p : Pick} (hp : 0 ≤ p.No) : NoInc (putNo A p) := fun i x hx => by
 unfold putNo at hx
 by_cases e : p.No.toNat = i
 ·subst e
  have hlt := lt_of_get hx
  rw [List.length_set] at hlt
  rw [List.getElem?_set_self hlt] at hx; cases hx; omega
 ·rw [List.getElem?_set_ne e] at hx; exact h i x hx
theorem filter_set {α : Type} (q : α → Bool) {x y : α} (hx : q x = true) (hy : q y = false) : ∀ {A : List α} {j : Nat}, A[j]? = some y → ((A.set j x).filter q).Perm (A.filter q ++ [x])
 | [], j, h => by simp at h
 | a :: A, 0, h => by
   simp at h; subst h
   simp only [List.set_cons_zero, List.filter_cons, hx, hy, if_true, Bool.false_eq_true, if_false]
   exact (List.perm_append_comm (l₁ := [x]))
 | a :: A, j + 1, h => by
   simp only [List.getElem?_cons_succ] at h
   have := filter_set q hx hy h
   simp only [List.set_cons_succ, List.filter_cons]
   split
   ·exact this.cons a
   ·exact this
def isP (p : Pick) : Bool := !(p.Player == [])
structure AllOk (r : Room) (k : List Keep) (s : List Swap) (l : List Pick) (i : Nat) (A : List Pick) : Prop where
 inc : NoInc A
 len : A.length = (open1 r k s).length
 free : ∀ (j : Nat) (p : Pick), i ≤ j → (freeP r k s)[j]? = some p → A[p.No.toNat]? = some p
 perm : (A.filter isP).Perm ((open1 r k s).filter isP ++ l.take i)
theorem free_mem {j : Nat} {p : Pick} (h : (freeP r k s)[j]? = some p) : p ∈ open1 r k s ∧ p.Player = [] := by
 have := List.mem_filter.1 (List.mem_of_getElem? h)
 exact ⟨this.1, by simpa using this.2⟩
theorem free_at {j : Nat} {p : Pick} (h : (freeP r k s)[j]? = some p) : 0 ≤ p.No ∧ (open1 r k s)[p.No.toNat]? = some p := by
 obtain ⟨m, hm⟩ := List.getElem?_of_mem (free_mem h).1
 have := open_no m p hm
 exact ⟨by omega, by rw [this]; simpa using hm⟩
theorem pick_at (h : picksE r k s l = 0) {i : Nat} {x : Pick} (hx : l[i]? = some x) : ∃ p, (freeP r k s)[i]? = some p ∧ x.No = p.No ∧ x.Player ≠ [] := by
 obtain ⟨h1, h2, h3⟩ := picksE_ok h
 have hi := lt_of_get hx
 obtain ⟨_, a2, _, a4, _⟩ := pkF_ok (pksGo_at l 0 rfl h3 i x (Nat.zero_le _) hx)
 have hg := getD_some (d := pick0) (show i < (freeP r k s).length by omega)
 refine ⟨_, hg, ?_, (room_ok (openFault_ok h1).1).ne _ a4⟩
 rw [a2]; congr 2; simp; omega
theorem AllOk.step (h : picksE r k s l = 0) {i : Nat} {x : Pick} (hx : l[i]? = some x) {A : List Pick} (ok : AllOk r k s l i A) : AllOk r k s l (i + 1) (putNo A x) ∧ 0 ≤ x.No ∧ x.No.toNat < A.length ∧ ∃ y, A[x.No.toNat]? = some y := by
 obtain ⟨p, hp, hn, hpl⟩ := pick_at h hx
 obtain ⟨n0, _⟩ := free_at hp
 have hA := ok.free i p (Nat.le_refl _) hp
 have hlt := lt_of_get hA
 refine ⟨⟨ok.inc.put (by omega), by unfold putNo; rw [List.length_set]; exact ok.len, fun j q hj hq => ?_, ?_⟩, by omega, by rw [hn]; exact hlt, p, by rw [hn]; exact hA⟩
 ·have hq1 := ok.free j q (by omega) hq
  have hne : p.No < q.No := by
   have hpw : (freeP r k s).Pairwise fun a b => a.No < b.No := (open_no (r := r) (k := k) (s := s)).pw.sublist List.filter_sublist
   obtain ⟨hi', e1⟩ := List.getElem?_eq_some_iff.1 hp
   obtain ⟨hj', e2⟩ := List.getElem?_eq_some_iff.1 hq
   have := List.pairwise_iff_getElem.1 hpw i j hi' hj' (by omega)
   rw [e1, e2] at this; exact this
  unfold putNo
  rw [List.getElem?_set_ne (by omega)]; exact hq1
 ·have hf := filter_set isP (x := x) (y := p) (by unfold isP; simpa using hpl) (by unfold isP; simp [(free_mem hp).2]) hA
  unfold putNo
  rw [hn, take_snoc' hx, ← List.append_assoc]
  exact hf.trans (ok.perm.append_right _)
end
end Go.HL
end
section
namespace Go.HL
section
variable {P : Program} {e : Env} {dst : Option Tmp} {ty : TypeId} {pos : String} {af : Array Edge} {g : Option (Nat × Bool)} {M : List MObj} {K : HVal → List MObj → Prop}
theorem pop_capraw [Tracks] {x : Operand} {t el : TypeId} {size bytes : Nat} {zero : Value} {p : Option Addr} {n c : Nat} (hf : Fits P t (.slice el) size bytes zero) (hx : evalO e x = some (.raw (.slice p n c))) :
 POp P e ⟨dst, .call ⟨.builtin .cap, #[x], #[t]⟩, ty, pos, af, g⟩ (.int .i64 c) :=
 POp.of_val fun I a w ho => by
  have h1 := (ho.one (x := x) (by simp [Op.operands, Call.operands]) hx).raw_inv
  exact ⟨_, by simp [execOp, resolve, invoke, builtin, Builtin.cap_, h1, run_underlying hf.slice, goInt], .int _ _⟩
theorem pop_slnil [Tracks] {x y : Operand} {t el : TypeId} {size bytes s2 b2 : Nat} {zero z2 : Value} {d : TD} (hf : Fits P t (.slice el) size bytes zero) (hel : Fits P el d s2 b2 z2) (hx : evalO e x = some (.raw (.slice none 0 0))) (hy : evalO e y = some (.int .i64 0)) :
 POp P e ⟨dst, .slice t x none (some y) none, ty, pos, af, g⟩ (.raw (.slice none 0 0)) :=
 POp.of_val fun I a w ho => by
  have h1 := (ho.one (x := x) (by simp [Op.operands]) hx).raw_inv
  have h2 := (ho.one (x := y) (by simp [Op.operands]) hy).int_inv
  exact ⟨_, by simp [execOp, h1, h2, Instr.sliceAt, Instr.slice, Instr.sliceBounds, Instr.sliceBound, asIntOf, run_underlying hf.slice, hel.run_sizeOf], .raw _ rfl⟩
/-- append(nil, make([]T, n)...). -/
theorem eop_appendmk [Tracks] {x y : Operand} {t el it : TypeId} {size bytes sz b2 s3 b3 n : Nat} {zero z2 z3 : Value} {d : TD} {q : Int}
 (hf : Fits P t (.slice el) size bytes zero) (hel : Fits P el d sz b2 z2) (hit : Fits P it (.int .i64) s3 b3 z3) (hz : z2.cells.size = sz) (hby : Nat.ble b2 100000 = true)
 (hx : evalO e x = some (.raw (.slice none 0 0))) (hy : evalO e y = some (.int .i64 q)) (hq : q = (n : Int)) (hn : n ≤ 1000000) (h0 : 0 < n)
 (hk : ∀ b nc cells, n ≤ nc → nc ≤ 9223372036854775807 → cells.size = nc * sz → K (.raw (.slice (some ⟨b, 0, none⟩) n nc)) (.obj b (.cells cells el (0, 0)) :: M)) :
 EOp P e M ⟨dst, .call ⟨.builtin .append, #[x, y], #[t, it]⟩, ty, pos, af, g⟩ K :=
 EOp.of_run fun I F a w ho hs => by
  subst hq
  have h1 := (ho.one (x := x) (by simp [Op.operands, Call.operands]) hx).raw_inv
  have h2 := (ho.one (x := y) (by simp [Op.operands, Call.operands]) hy).int_inv
  let nc := (Question.appendCap n 0 el).cut (w.tape w.drawn (.appendCap n 0 el))
  have hnc : n ≤ nc := by simp only [nc, Question.cut]; omega
  have hnm : nc ≤ 9223372036854775807 := by
   simp only [nc, Question.cut]
   have := Nat.mod_lt (w.tape w.drawn (.appendCap n 0 el)) (show 0 < 2 ^ 63 - n by omega)
   omega
  let cells : Array Value := #[] ++ Builtin.zeroCells z2.cells n ++ Builtin.zeroCells z2.cells (nc - n)
  have hcs : cells.size = nc * sz := by
   simp only [cells, Array.size_append, zeroCells_size, hz, List.size_toArray, List.length_nil]
   rw [Nat.zero_add, ← Nat.add_mul]; congr 1; omega
  have hsz0 : ¬ n * sz = 0 ∨ Builtin.zeroCells z2.cells n = #[] := by
   by_cases h : n * sz = 0
   ·right; apply Array.eq_empty_of_size_eq_zero; rw [zeroCells_size, hz, h]
   ·exact .inl h
  obtain ⟨ti, t1, t2, t3, t4⟩ := hel.typeInfo
  have hti : ∀ w1, (Go.typeInfo el).run P w1 = .ok ti w1 := fun w1 => by simp [Go.typeInfo, t1]
  have hwr : IntKind.i64.wrap (n : Int) = (n : Int) := wrap64 (by omega) (by omega)
  have hb0 : ¬ ((n : Int) * (b2 : Int) > 2 ^ 48) := by
   have e2 : b2 ≤ 100000 := Nat.le_of_ble_eq_true hby
   have : n * b2 ≤ 1000000 * 100000 := Nat.mul_le_mul hn e2
   have h9 : ((n * b2 : Nat) : Int) = (n : Int) * (b2 : Int) := Int.natCast_mul _ _
   omega
  have hb2 : ¬ ((n : Int) > IntKind.i64.max) := by
   have : IntKind.i64.max = 9223372036854775807 := by decide
   rw [this]; omega
  have hb3 : ¬ Builtin.nextslicecap n 0 * b2 > 2 ^ 48 := by
   have e1 := nextslicecap_le (need := n) (cap := 0) h0
   have e2 : b2 ≤ 100000 := Nat.le_of_ble_eq_true hby
   have : Builtin.nextslicecap n 0 * b2 ≤ (2 * 1000000 + 192) * 100000 := Nat.mul_le_mul (by omega) e2
   omega
  have hch : (choose (.appendCap n 0 el)).run P w = .ok nc { w with drawn := w.drawn + 1 } := by simp [Question.forced, nc]
  refine ⟨.slice (some ⟨w.heap.size, 0, none⟩) n nc, _, _, { w with heap := w.heap.push (.cells cells el (0, 0)), drawn := w.drawn + 1 }, I, ?_, .refl I, hk w.heap.size nc cells hnc hnm hcs, .raw _ rfl, ?_⟩
  ·have hap : ∀ w1 : World, ((if n * sz = 0 then pure #[] else do pure (Builtin.zeroCells (← zeroValue el).cells n) : Sem (Array Value))).run P w1 = .ok (Builtin.zeroCells z2.cells n) w1 := fun w1 => by
    rcases hsz0 with h | h
    ·rw [if_neg h]; simp [hel.run_zero]
    ·by_cases h' : n * sz = 0
     ·rw [if_pos h', h]; simp
     ·rw [if_neg h']; simp [hel.run_zero]
   rw [run_append]
   simp only [List.map_toArray, List.map_cons, List.map_nil, h1, h2, Builtin.append_, List.getElem?_toArray, List.getElem?_cons_zero, List.getElem?_cons_succ, Sem.run_bind, run_underlying hf.slice, run_underlying hit.intD, Result.andThen_ok,
    hel.run_sizeOf, Sem.run_pure, if_true, asInt, hwr, hti, t3]
   have hai : ∀ w1 : World, (asIntOf (Value.int IntKind.i64 (n : Int))).run P w1 = .ok (.i64, (n : Int)) w1 := fun w1 => by simp [asIntOf]
   simp only [hai, Result.andThen_ok, hwr]
   rw [if_neg (show ¬ (n : Int) < 0 by omega)]
   simp only [Sem.run_bind, hti, Result.andThen_ok, t3, Sem.run_pure]
   rw [if_neg hb0]
   simp only [Sem.run_bind, hti, Result.andThen_ok, t3, Sem.run_pure, Int.toNat_natCast, Nat.zero_add]
   rw [if_neg (show ¬ n ≤ 0 by omega)]
   simp only [Sem.run_bind, hti, Result.andThen_ok, t3, Sem.run_pure]
   rw [if_neg (fun h => hb2 h.1)]
   simp only [Sem.run_bind, hti, Result.andThen_ok, t3, Sem.run_pure]
   rw [if_neg hb3]
   simp only [Sem.run_bind, Sem.run_pure, hch, Result.andThen_ok, hti, run_askRoom, Builtin.firstCells, Bool.not_true, Bool.false_eq_true, if_false, hap, hel.run_zero, newRow, run_newObj]
   rfl
  ·have hs1 : Sat P I (M ++ F) { w with drawn := w.drawn + 1 } := hs.of_same (fun _ _ => rfl) (fun _ _ => rfl) rfl rfl rfl
   exact hs1.new_own (.cells cells el (0, 0)) (.obj w.heap.size (.cells cells el (0, 0))) rfl (by simp [MSat, push])
end
/-- New cells of which none is in use. -/
theorem Ghost.objarr [Tracks] {e : Env} {M : List MObj} {b nc sz : Nat} {cells : Array Value} {el : TypeId} (hc : cells.size = nc * sz) (hn : nc ≤ 9223372036854775807) : Ghost e (.obj b (.cells cells el (0, 0)) :: M) e (.arr (.slice (some ⟨b, 0, none⟩) 0 nc) sz [] :: M) := fun _ I F tmps w h1 hs => by
 refine ⟨I, .refl I, h1, Sat.change (m := .obj b (.cells cells el (0, 0))) hs (fun _ _ _ => rfl) (fun x hx => .inl hx) (by simp [MObj.blocks]) ?_ rfl rfl rfl⟩
 have := hs.obj (.obj b (.cells cells el (0, 0))) (by simp)
 exact .inr ⟨b, 0, nc, cells, el, (0, 0), rfl, this, Free.zero _, by simp, ⟨Nat.zero_le _, hn⟩, by omega, by simp⟩
theorem flat_take_snoc {α : Type} {LL : List (List α)} {i : Nat} {x : List α} (hx : LL[i]? = some x) : (LL.take (i + 1)).flatten.length = (LL.take i).flatten.length + x.length := by
 rw [List.take_add_one, hx]; simp
theorem flat_take_app {α : Type} {LL : List (List α)} {i : Nat} {x : List α} (hx : LL[i]? = some x) : (LL.take (i + 1)).flatten = (LL.take i).flatten ++ x := by
 rw [List.take_add_one, hx]; simp
theorem flat_take_le {α : Type} (LL : List (List α)) (i : Nat) : (LL.take i).flatten.length ≤ LL.flatten.length := by
 have := congrArg (fun q => q.flatten.length) (List.take_append_drop i LL)
 simp only [List.flatten_append, List.length_append] at this
 omega
end Go.HL
end
section
namespace Go.Proofs.YtlankmahpaenhaaGreatDoor
open Go.HL
set_option maxRecDepth 100000
set_option linter.unusedVariables false
set_option linter.unusedSimpArgs false

end Go.Proofs.YtlankmahpaenhaaGreatDoor
end
section
namespace Go.HL
def goalS : Str := [103, 111, 97, 108]
def play1 : Play := ⟨[115], 1, 0, 1, [109], [112], goalS, 2, 0⟩
def line1 : LineS := ⟨[112], 1, [⟨goalS, 2⟩]⟩
theorem ready_ln : lnGo [play1] [[115]] 1 5 [play1] = ⟨[[112]], [(([112], goalS), 2)]⟩ := by kernel_rfl
theorem ready_or : orI [playsE [play1], trustE [[115]]] = 0 := by kernel_rfl
theorem ready_full : fullB [(([112], goalS), 2)] [[112]] = false := by kernel_rfl
theorem ready_stats : statsOf [(([112], goalS), 2)] [112] = [⟨goalS, 2⟩] := by kernel_rfl
theorem ready_E : LinesE [play1] [[115]] 1 5 = 0 := by
 rw [LinesE, ready_or, if_neg (by decide), if_neg (by decide), linesE, ready_ln, clinesE, ready_full]; rfl
theorem ready_L : LinesL [play1] [[115]] 1 5 = [line1] := by
 rw [LinesL, ready_or, if_neg (by decide), if_neg (by decide), linesL, ready_ln, clinesL, ready_full, if_neg (by decide)]
 simp [sortS, ready_stats, line1]
end Go.HL
end
section
namespace Go.Proofs.YtlankmahpaenhaaGreatDoor
open Go.HL
set_option maxRecDepth 100000
set_option linter.unusedVariables false
set_option linter.unusedSimpArgs false
/-- benchwarmer/benchkeep1.ready -/
theorem c_benchkeep1_ready [Tracks]  (hT : Tracks.on = false) : ConP Tryz.prog 27 [] (.bool true) := by
 refine Con.of_body Tryz.func27 rfl Tryz.ntmps27 rfl rfl ?_
 refine hw_reg ?_
 refine dp rfl (pop_assign rfl) ?_
 refine dn ?_
 refine hw_reg ?_
 refine dp rfl (pop_build (cs := [_, _, _, _, _, _, _, _, _]) ty30 pl30 rfl) ?_
 refine dp rfl (pop_buildSlice (hs := [_]) ty26 ty30 rfl rfl (by decide) (by decide) rfl) ?_
 refine dp rfl (pop_buildSlice (hs := [_]) ty47 ty9 rfl rfl (by decide) (by decide) rfl) ?_
 refine dp rfl (pop_call (hs' := [ePlays [play1], eSs [[115]], .int .i64 1, .int .i64 5]) ca23 rfl (WeakL.refl _) (c_play_Lines hT (by decide) (by decide))) ?_
 refine dp rfl (pop_move rfl) ?_
 refine dp rfl (pop_extract rfl rfl) ?_
 refine dp rfl (pop_extract rfl rfl) ?_
 refine dp rfl (pop_assign rfl) ?_
 refine dp rfl (pop_assign rfl) ?_
 refine dn ?_
 simp only [ready_E, ready_L]
 refine hw_reg ?_
 refine dp rfl (pop_buildSlice (hs := [_, _]) ty47 ty9 rfl rfl (by decide) (by decide) rfl) ?_
 refine dp rfl (pop_buildSlice (hs := [_, _, _, _]) ty47 ty9 rfl rfl (by decide) (by decide) rfl) ?_
 refine dp rfl (pop_build (cs := [_, _, _, _, _, _]) ty89 pl89 rfl) ?_
 refine de rfl (eop_alloc ty89 rfl fun b3 => ?_)
 refine de0 (eop_storew ty89 rfl rfl rfl rfl rfl ?_)
 refine dn ?_
 refine hw_ghost (Ghost.fc0 3 rfl) ?_
 refine hw_reg ?_
 refine dp rfl (pop_loadw ty89 rfl rfl rfl rfl) ?_
 refine dp rfl (pop_call (hs' := [eRoom room1, eSwaps []]) ca57 rfl ⟨Weak.refl _, weak_nil 3, trivial⟩ (c_draft_Turns (r := room1) (s := []) (by decide) (by decide) (by decide))) ?_
 refine dp rfl (pop_move rfl) ?_
 refine dp rfl (pop_extract rfl rfl) ?_
 refine dp rfl (pop_extract rfl rfl) ?_
 refine dp rfl (pop_assign rfl) ?_
 refine dp rfl (pop_assign rfl) ?_
 refine dn ?_
 simp only [room1_turns, room1_ok]
 refine hw_reg ?_
 refine dp rfl (pop_build (cs := [_, _, _]) ty95 pl95 rfl) ?_
 refine dp rfl (pop_buildSlice (hs := [_]) ty96 ty95 rfl rfl (by decide) (by decide) rfl) ?_
 refine dp rfl (pop_build (cs := [_, _]) ty98 pl98 rfl) ?_
 refine dp rfl (pop_buildSlice (hs := [_]) ty99 ty98 rfl rfl (by decide) (by decide) rfl) ?_
 refine dp rfl (pop_call (hs' := [eAssets [asset1], ePlaces [place1]]) ca58 rfl (WeakL.refl _) (c_value_Fielded (l := [asset1]) (p := [place1]) (by decide) (by decide))) ?_
 refine dp rfl (pop_move rfl) ?_
 refine dp rfl (pop_extract rfl rfl) ?_
 refine dp rfl (pop_extract rfl rfl) ?_
 refine dp rfl (pop_extract rfl rfl) ?_
 refine dp rfl (pop_assign rfl) ?_
 refine dp rfl (pop_assign rfl) ?_
 refine dp rfl (pop_assign rfl) ?_
 refine dn ?_
 simp only [one_ok, one_sum, one_names]
 refine hw_reg ?_
 refine dp rfl (pop_move rfl) ?_
 refine dp rfl (pop_eql rfl rfl) ?_
 refine dp rfl (pop_move rfl) ?_
 refine dg rfl rfl (fun hc => ⟨_, OpenTo.refl _, pop_move rfl⟩) ?_
 refine dg rfl rfl (fun hc => ⟨_, OpenTo.upd (t := 36) rfl (hc) (OpenTo.refl _), pop_lenm ty49 rfl⟩) ?_
 refine dg rfl rfl (fun hc => ⟨_, OpenTo.upd (t := 37) rfl (hc) (OpenTo.refl _), pop_eql rfl rfl⟩) ?_
 refine dp rfl (pop_picko rfl (.inr ⟨_, rfl, fun h => by simp_all⟩) (.inl rfl)) ?_
 refine dp rfl (pop_move rfl) ?_
 refine dg rfl rfl (fun hc => ⟨_, OpenTo.refl _, pop_move rfl⟩) ?_
 refine dg rfl rfl (fun hc => ⟨_, OpenTo.upd (t := 41) rfl (hc) (OpenTo.refl _), pop_idx (j := 0) (a := line1) ty49 ty55 rfl rfl rfl rfl⟩) ?_
 refine dg rfl rfl (fun hc => ⟨_, OpenTo.upd (t := 42) rfl (hc) (OpenTo.refl _), pop_fieldAddr ty55 rfl ty53 (by decide) rfl⟩) ?_
 refine dg rfl rfl (fun hc => ⟨_, OpenTo.upd (t := 43) rfl (hc) (OpenTo.refl _), pop_load ty53 rfl rfl rfl⟩) ?_
 refine dg rfl rfl (fun hc => ⟨_, OpenTo.upd (t := 44) rfl (hc) (OpenTo.refl _), pop_lenm ty53 rfl⟩) ?_
 refine dg rfl rfl (fun hc => ⟨_, OpenTo.upd (t := 45) rfl (hc) (OpenTo.refl _), pop_eql rfl rfl⟩) ?_
 refine dp rfl (pop_picko rfl (.inr ⟨_, rfl, fun h => by simp_all⟩) (.inl rfl)) ?_
 refine dp rfl (pop_move rfl) ?_
 refine dg rfl rfl (fun hc => ⟨_, OpenTo.refl _, pop_move rfl⟩) ?_
 refine dg rfl rfl (fun hc => ⟨_, OpenTo.upd (t := 49) rfl (hc) (OpenTo.refl _), pop_eql rfl rfl⟩) ?_
 refine dp rfl (pop_picko rfl (.inr ⟨_, rfl, fun h => by simp_all⟩) (.inl rfl)) ?_
 refine dp rfl (pop_move rfl) ?_
 refine dg rfl rfl (fun hc => ⟨_, OpenTo.refl _, pop_move rfl⟩) ?_
 refine dg rfl rfl (fun hc => ⟨_, OpenTo.refl _, pop_buildSlice (hs := [_, _, _, _]) ty47 ty9 rfl rfl (by decide) (by decide) rfl⟩) ?_
 refine dg rfl rfl (fun hc => ⟨_, OpenTo.upd (t := 54) rfl (hc) (OpenTo.upd (t := 53) rfl (hc) (OpenTo.refl _)), pop_call ca59 rfl (WeakL.refl _) (c_slices_Equal_string_string (l := [[97], [98], [98], [97]]) (m := [[97], [98], [98], [97]]) (by decide))⟩) ?_
 refine dp rfl (pop_picko rfl (.inr ⟨_, rfl, fun h => by simp_all⟩) (.inl rfl)) ?_
 refine dp rfl (pop_move rfl) ?_
 refine dg rfl rfl (fun hc => ⟨_, OpenTo.refl _, pop_move rfl⟩) ?_
 refine dg rfl rfl (fun hc => ⟨_, OpenTo.upd (t := 58) rfl (hc) (OpenTo.refl _), pop_eql rfl rfl⟩) ?_
 refine dp rfl (pop_picko rfl (.inr ⟨_, rfl, fun h => by simp_all⟩) (.inl rfl)) ?_
 refine dp rfl (pop_move rfl) ?_
 refine dg rfl rfl (fun hc => ⟨_, OpenTo.refl _, pop_move rfl⟩) ?_
 refine dg rfl rfl (fun hc => ⟨_, OpenTo.upd (t := 62) rfl (hc) (OpenTo.refl _), pop_eql rfl rfl⟩) ?_
 refine dp rfl (pop_picko rfl (.inr ⟨_, rfl, fun h => by simp_all⟩) (.inl rfl)) ?_
 refine dp rfl (pop_assign rfl) ?_
 refine dn ?_
 refine hw_ret ?_
 refine ret_p rfl ?_
 rfl
end Go.Proofs.YtlankmahpaenhaaGreatDoor
end
section
namespace Go.HL
section
variable {κ : Type}
/-- The inner maps by the outer key: block and entries. -/
abbrev GrM (κ : Type) := List (Str × (Nat × List (κ × Int)))
end
end Go.HL
end
section
namespace Go.HL
section
variable {P : Program} {e : Env} {dst : Option Tmp} {ty : TypeId} {pos : String} {af : Array Edge} {g : Option (Nat × Bool)} {M : List MObj} {K : HVal → List MObj → Prop}
end
end Go.HL
end
section
namespace Go.HL
variable {P : Program}
open Go.Sort Go.Proofs
end Go.HL
end
section
namespace Go.HL
end Go.HL
end
section
namespace Go.HL
theorem Cmp.lt_trans {α : Type} {c : α → α → Int} {s : α → Prop} (h : Cmp c s) {x y z : α} (hx : s x) (hy : s y) (hz : s z) (h1 : c x y < 0) (h2 : c y z < 0) : c x z < 0 := by
 rcases Int.lt_or_le (c x z) 0 with q | q
 ·exact q
 ·exfalso
  have a1 := h.flip y z hy hz
  have a2 := h.flip z x hz hx
  have hzx : c z x ≤ 0 := by
   rcases Int.lt_or_le 0 (c z x) with r | r
   ·have := h.flip x z hx hz; omega
   ·exact r
  have := h.trans z x y hz hx hy hzx (by omega)
  omega
theorem byNo_flip (x y : Play) : byNo x y = -byNo y x := by
 unfold byNo
 rw [cmpI_flip, cmpS_flip x.Source, orI_flip]
theorem byNo_eq (x y : Play) : byNo x y = if cmpS x.Source y.Source ≠ 0 then cmpS x.Source y.Source else cmpI x.No y.No := by unfold byNo; rw [orI2]
theorem cmpS_lt_trans {a b c : Str} (h1 : cmpS a b ≤ 0) (h2 : cmpS b c ≤ 0) (h : cmpS a c = 0) : cmpS a b = 0 ∧ cmpS b c = 0 := by
 have e := cmpS_zero.1 h
 subst e
 rw [cmpS_flip b a] at *
 omega
theorem byNo_cmp : Cmp byNo (fun _ => True) where
 flip x y _ _ := by rw [byNo_flip x y]; omega
 trans x y z _ _ _ h1 h2 := by
  rw [byNo_eq] at *
  have k1 : cmpS x.Source y.Source ≤ 0 := by split at h1 <;> omega
  have k2 : cmpS y.Source z.Source ≤ 0 := by split at h2 <;> omega
  have k3 := cmpS_trans k1 k2
  split
  ·exact k3
  ·rename_i hz
   have hz' : cmpS x.Source z.Source = 0 := by simpa using hz
   obtain ⟨e1, e2⟩ := cmpS_lt_trans k1 k2 hz'
   rw [if_neg (by simp [e1]), cmpI_le] at h1
   rw [if_neg (by simp [e2]), cmpI_le] at h2
   rw [cmpI_le]; omega
theorem playsGo_adj {l : List Play} : ∀ (r : List Play) (k : Nat), playsGo l k r = 0 → r = l.drop k → ∀ (i : Nat) (x y : Play), k ≤ i → 0 < i → l[i]? = some x → l[i - 1]? = some y → 0 < byNo x y
 | [], k, _, e, i, x, y, hk, h0, hx, hy => by
   have := lt_of_get hx
   have h2 := congrArg List.length e
   simp at h2; omega
 | p :: r, k, h, e, i, x, y, hk, h0, hx, hy => by
   rw [playsGo] at h
   split at h
   ·contradiction
   ·split at h
    ·omega
    ·rename_i h1 h2
     have hp : l[k]? = some p := by
      have := congrArg (·[0]?) e
      simpa using this.symm
     rcases Nat.eq_or_lt_of_le hk with q | q
     ·subst q
      rw [hp] at hx; cases hx
      have : l.getD (k - 1) play0 = y := by simp [List.getD, hy]
      rw [this] at h2
      omega
     ·refine playsGo_adj r (k + 1) h ?_ i x y q h0 hx hy
      have := congrArg List.tail e
      simpa using this
theorem plays_rise {l : List Play} (h : playsE l = 0) : l.Pairwise fun a b => byNo a b < 0 := by
 have hadj := playsGo_adj l 0 (playsE_ok h).2 rfl
 rw [List.pairwise_iff_getElem]
 intro i j hi hj hij
 have key : ∀ d (hd : i + d + 1 < l.length), byNo l[i] l[i + d + 1] < 0 := by
  intro d
  induction d with
  | zero =>
    intro hd
    have := hadj (i + 1) _ _ (Nat.zero_le _) (by omega) (List.getElem?_eq_getElem hd) (List.getElem?_eq_getElem (by omega : i + 1 - 1 < l.length))
    rw [byNo_flip] at this
    simp only [Nat.add_sub_cancel] at this
    have h' : byNo l[i] l[i + 0 + 1] < 0 := by omega
    exact h'
  | succ d ih =>
    intro hd
    have h1 := ih (by omega)
    have h2 := hadj (i + (d + 1) + 1) _ _ (Nat.zero_le _) (by omega) (List.getElem?_eq_getElem hd) (List.getElem?_eq_getElem (by omega : i + (d + 1) + 1 - 1 < l.length))
    rw [byNo_flip] at h2
    simp only [Nat.add_sub_cancel] at h2
    exact byNo_cmp.lt_trans trivial trivial trivial h1 (by
     have e : i + (d + 1) = i + d + 1 := by omega
     simp only [e] at h2 ⊢; omega)
 have := key (j - i - 1) (by omega)
 have e : i + (j - i - 1) + 1 = j := by omega
 simpa only [e] using this
end Go.HL
end
section
namespace Go.HL
def SLt (a b : Str) : Prop := a ≤ b ∧ a ≠ b
theorem sortS_strict {l : List Str} (h : l.Nodup) : (sortS l).Pairwise SLt := by
 have hn : (sortS l).Nodup := (List.mergeSort_perm _ _).nodup_iff.2 h
 have hs := sortS_sorted l
 rw [List.pairwise_iff_getElem] at *
 intro i j hi hj hij
 exact ⟨hs i j hi hj hij, List.pairwise_iff_getElem.1 hn i j hi hj hij⟩
/-- The sums of one player. -/
def inner {κ : Type} (c : List ((Str × κ) × Int)) (s : Str) : List (κ × Int) := (c.filter fun e => e.1.1 == s).map fun e => (e.1.2, e.2)
theorem inner_put {κ : Type} [DecidableEq κ] (s : Str) (st : κ) (v : Int) (s' : Str) : ∀ c : List ((Str × κ) × Int), inner (aput (s, st) v c) s' = if s' = s then aput st v (inner c s) else inner c s'
 | [] => by
   by_cases e : s' = s
   ·subst e; simp [inner, aput]
   ·have : ¬ s = s' := fun q => e q.symm
    simp [inner, aput, e, this]
 | p :: r => by
   have ih := inner_put s st v s' r
   obtain ⟨⟨a, b⟩, w⟩ := p
   simp only [aput, Prod.mk.injEq]
   by_cases h1 : s = a
   ·subst h1
    by_cases h2 : st = b
    ·subst h2
     rw [if_pos ⟨rfl, rfl⟩]
     by_cases e : s' = s
     ·subst e; simp [inner, aput]
     ·have : ¬ s = s' := fun q => e q.symm
      simp [inner, e, this]
    ·rw [if_neg (fun q => h2 q.2)]
     by_cases e : s' = s
     ·subst e
      rw [if_pos rfl] at ih ⊢
      simp only [inner, List.filter_cons, beq_self_eq_true, if_true, List.map_cons, aput, if_neg h2] at ih ⊢
      rw [ih]
     ·have : ¬ s = s' := fun q => e q.symm
      rw [if_neg e] at ih ⊢
      simp only [inner, List.filter_cons, beq_iff_eq, if_neg this] at ih ⊢
      exact ih
   ·rw [if_neg (fun q => h1 q.1)]
    by_cases e : s' = s
    ·subst e
     have : ¬ a = s' := fun q => h1 q.symm
     rw [if_pos rfl] at ih ⊢
     simp only [inner, List.filter_cons, beq_iff_eq, if_neg this] at ih ⊢
     exact ih
    ·rw [if_neg e] at ih ⊢
     by_cases h3 : a = s'
     ·simp only [inner, List.filter_cons, beq_iff_eq, if_pos h3, List.map_cons] at ih ⊢
      rw [ih]
     ·simp only [inner, List.filter_cons, beq_iff_eq, if_neg h3] at ih ⊢
      exact ih
end Go.HL
end
section
namespace Go.HL
theorem statsOf_len (c : List (Of2 × Int)) (s : Str) : (statsOf c s).length = (rawStats c s).length := by unfold statsOf; rw [isort_len]
end Go.HL
end
section
namespace Go.HL
def byOf (a b : Of2) : Int := orI [cmpS a.1 b.1, cmpS a.2 b.2]
theorem byOf_eq (a b : Of2) : byOf a b = if cmpS a.1 b.1 ≠ 0 then cmpS a.1 b.1 else cmpS a.2 b.2 := by unfold byOf; rw [orI2]
theorem byOf_flip (a b : Of2) : byOf a b = -byOf b a := by
 unfold byOf
 rw [cmpS_flip a.1, cmpS_flip a.2, orI_flip]
theorem byOf_cmp : Cmp byOf (fun _ => True) where
 flip x y _ _ := by rw [byOf_flip x y]; omega
 trans x y z _ _ _ h1 h2 := by
  rw [byOf_eq] at *
  have k1 : cmpS x.1 y.1 ≤ 0 := by split at h1 <;> omega
  have k2 : cmpS y.1 z.1 ≤ 0 := by split at h2 <;> omega
  have k3 := cmpS_trans k1 k2
  split
  ·exact k3
  ·rename_i hz
   have hz' : cmpS x.1 z.1 = 0 := by simpa using hz
   obtain ⟨e1, e2⟩ := cmpS_lt_trans k1 k2 hz'
   rw [if_neg (by simp [e1])] at h1
   rw [if_neg (by simp [e2])] at h2
   exact cmpS_trans h1 h2
def OLt (a b : Of2) : Prop := byOf a b < 0
/-- The sums of each source: who told, and what they count. -/
structure DisS where
 S : List Str
 c : List ((Str × Of2) × Int)
def disKey (p : Play) : Str × Of2 := (p.Source, (p.Player, p.Stat))
def disPut (q : DisS) (p : Play) : List ((Str × Of2) × Int) := aput (disKey p) ((alk (disKey p) q.c).getD 0 + p.Count) q.c
end Go.HL
end
section
namespace Go.HL
theorem aput_keys' {α : Type} {s : Str} {v : α} : ∀ {G : List (Str × α)}, (aput s v G).map (·.1) = sadd s (G.map (·.1))
 | [] => by simp [aput, sadd]
 | p :: r => by
   have ih := aput_keys' (s := s) (v := v) (G := r)
   simp only [aput]
   by_cases h : s = p.1
   ·rw [if_pos h]
    unfold sadd
    rw [if_pos (by simp [h])]
    simp [h]
   ·rw [if_neg h, List.map_cons, ih]
    unfold sadd
    by_cases hc : (r.map (·.1)).contains s = true
    ·rw [if_pos hc, if_pos (by simp at hc ⊢; exact .inr hc)]; rfl
    ·rw [if_neg hc, if_neg (by simp at hc ⊢; exact ⟨h, hc⟩)]; rfl
theorem aput_mem' {α : Type} {s : Str} {v : α} {p : Str × α} : ∀ {G : List (Str × α)}, ANodup G → p ∈ aput s v G → p = (s, v) ∨ (p ∈ G ∧ p.1 ≠ s)
 | [], _, h => by simp [aput] at h; exact .inl h
 | q :: r, hn, h => by
   have h1 := List.nodup_cons.1 hn
   simp only [aput] at h
   by_cases hs : s = q.1
   ·rw [if_pos hs] at h
    rcases List.mem_cons.1 h with h | h
    ·exact .inl h
    ·refine .inr ⟨List.mem_cons_of_mem _ h, fun e => h1.1 ?_⟩
     show q.1 ∈ r.map (·.1)
     rw [← hs, ← e]; exact List.mem_map_of_mem h
   ·rw [if_neg hs] at h
    rcases List.mem_cons.1 h with h | h
    ·subst h; exact .inr ⟨by simp, fun e => hs e.symm⟩
    ·rcases aput_mem' h1.2 h with e | e
     ·exact .inl e
     ·exact .inr ⟨List.mem_cons_of_mem _ e.1, e.2⟩
section
variable {κ : Type}
/-- The maps of maps hold the flat sums. -/
structure GrOk (S : List Str) (c : List ((Str × κ) × Int)) (G : GrM κ) : Prop where
 keys : G.map (·.1) = S
 nodup : S.Nodup
 val : ∀ p ∈ G, p.2.2 = inner c p.1
 inS : ∀ e ∈ c, e.1.1 ∈ S
theorem GrOk.anodup {S : List Str} {c : List ((Str × κ) × Int)} {G : GrM κ} (h : GrOk S c G) : ANodup G := by unfold ANodup; rw [h.keys]; exact h.nodup
theorem GrOk.nil : GrOk ([] : List Str) ([] : List ((Str × κ) × Int)) [] := ⟨rfl, List.nodup_nil, (fun p h => by cases h), (fun e h => by cases h)⟩
theorem GrOk.get {S : List Str} {c : List ((Str × κ) × Int)} {G : GrM κ} (h : GrOk S c G) {s : Str} {b : Nat} {L : List (κ × Int)} (hq : alk s G = some (b, L)) : L = inner c s := h.val _ (alk_of_mem hq)
theorem GrOk.none {S : List Str} {c : List ((Str × κ) × Int)} {G : GrM κ} (h : GrOk S c G) {s : Str} : alk s G = none ↔ s ∉ S := by rw [alk_none, h.keys]
theorem inner_nil {S : List Str} {c : List ((Str × κ) × Int)} {s : Str} (h : ∀ e ∈ c, e.1.1 ∈ S) (hs : s ∉ S) : inner c s = [] := by
 unfold inner
 rw [List.map_eq_nil_iff, List.filter_eq_nil_iff]
 intro e he hq
 exact hs ((eq_of_beq hq) ▸ h e he)
theorem GrOk.add {S : List Str} {c : List ((Str × κ) × Int)} {G : GrM κ} (h : GrOk S c G) {s : Str} (b : Nat) (hs : alk s G = Option.none) : GrOk (sadd s S) c (aput s (b, []) G) := by
 have hn := h.none.1 hs
 refine ⟨by rw [aput_keys', h.keys], sadd_nodup h.nodup, fun p hp => ?_, fun e he => mem_sadd.2 (.inr (h.inS e he))⟩
 rcases aput_mem' h.anodup hp with rfl | ⟨hp, _⟩
 ·exact (inner_nil h.inS hn).symm
 ·exact h.val p hp
variable [DecidableEq κ]
theorem GrOk.put {S : List Str} {c : List ((Str × κ) × Int)} {G : GrM κ} (h : GrOk S c G) {s : Str} {b : Nat} {L : List (κ × Int)} (hq : alk s G = some (b, L)) (k : κ) (v : Int) : GrOk S (aput (s, k) v c) (aput s (b, aput k v L) G) := by
 have hs : s ∈ S := by
  refine Decidable.not_not.1 fun hn => ?_
  have := h.none.2 hn
  rw [this] at hq; cases hq
 refine ⟨?_, h.nodup, fun p hp => ?_, fun e he => ?_⟩
 ·rw [aput_keys', h.keys]
  unfold sadd
  rw [if_pos (by simpa using hs)]
 ·rw [inner_put]
  rcases aput_mem' h.anodup hp with rfl | ⟨hp, hne⟩
  ·rw [if_pos rfl, ← h.get hq]
  ·rw [if_neg hne]; exact h.val p hp
 ·rcases mem_aput he with rfl | he
  ·exact hs
  ·exact h.inS e he
end
end Go.HL
end
section
namespace Go.HL
end Go.HL
end
section
namespace Go.HL
/-- A list without the things that equal the one before (p ahead of the first). -/
def uniqO (p : Option Of2) : List Of2 → List Of2
 | [] => []
 | x :: r => if p = some x then uniqO (some x) r else x :: uniqO (some x) r
theorem OLt.trans {a b c : Of2} (h1 : OLt a b) (h2 : OLt b c) : OLt a c := byOf_cmp.lt_trans trivial trivial trivial h1 h2
end Go.HL
end
section
namespace Go.HL
/-- The plays of the sources that count. -/
def keptB (l : List Play) (trust : List Str) (n : Int) (x : Play) : Bool := decide (srcOf l trust n x.Match = some x.Source)
def kept (l : List Play) (trust : List Str) (n : Int) : List Play := l.filter (keptB l trust n)
end Go.HL
end
section
namespace Go.HL
theorem nodup_le {α : Type} [DecidableEq α] : ∀ {a b : List α}, a.Nodup → (∀ x ∈ a, x ∈ b) → a.length ≤ b.length
 | [], b, _, _ => by simp
 | x :: a, b, hn, h => by
   obtain ⟨h1, h2⟩ := List.nodup_cons.1 hn
   have hx := h x (by simp)
   have ih := nodup_le (a := a) (b := b.erase x) h2 fun y hy => (List.mem_erase_of_ne (fun e => h1 (by rw [← e]; exact hy))).2 (h y (List.mem_cons_of_mem _ hy))
   rw [List.length_erase_of_mem hx] at ih
   have := List.length_pos_of_mem hx
   rw [List.length_cons]; omega
structure ChkIs (q : ChkS) (l : List Play) : Prop where
 sn : q.S.Nodup
 s : ∀ s, s ∈ q.S ↔ ∃ x ∈ l, x.Source = s
 wn : ANodup q.W
 w : ∀ m, m ∈ q.W.map (·.1) ↔ ∃ x ∈ l, x.Match = m
 wv : ∀ m v, alk m q.W = some v → ∃ x ∈ l, x.Match = m ∧ x.Week = v
 c : q.c = false ↔ ∀ x ∈ l, ∀ y ∈ l, x.Match = y.Match → x.Week = y.Week
theorem ChkIs.step {q : ChkS} {l : List Play} (h : ChkIs q l) (p : Play) : ChkIs (chkStep q p) (l ++ [p]) where
 sn := sadd_nodup h.sn
 s s := by
  show s ∈ sadd p.Source q.S ↔ _
  rw [mem_sadd, h.s]
  constructor
  ·rintro (rfl | ⟨x, hx, e⟩)
   ·exact ⟨p, by simp, rfl⟩
   ·exact ⟨x, List.mem_append_left _ hx, e⟩
  ·rintro ⟨x, hx, e⟩
   rcases List.mem_append.1 hx with hx | hx
   ·exact .inr ⟨x, hx, e⟩
   ·rw [List.mem_singleton.1 hx] at e; exact .inl e.symm
 wn := h.wn.put
 w m := by
  show m ∈ (aput p.Match p.Week q.W).map (·.1) ↔ _
  rw [aput_keys, h.w]
  constructor
  ·rintro (rfl | ⟨x, hx, e⟩)
   ·exact ⟨p, by simp, rfl⟩
   ·exact ⟨x, List.mem_append_left _ hx, e⟩
  ·rintro ⟨x, hx, e⟩
   rcases List.mem_append.1 hx with hx | hx
   ·exact .inr ⟨x, hx, e⟩
   ·rw [List.mem_singleton.1 hx] at e; exact .inl e.symm
 wv m v hv := by
  have hv' : alk m (aput p.Match p.Week q.W) = some v := hv
  rw [alk_put] at hv'
  by_cases e : m = p.Match
  ·rw [if_pos e] at hv'; cases hv'
   exact ⟨p, by simp, e.symm, rfl⟩
  ·rw [if_neg e] at hv'
   obtain ⟨x, hx, e1⟩ := h.wv m v hv'
   exact ⟨x, List.mem_append_left _ hx, e1⟩
 c := by
  show (q.c || ((alk p.Match q.W).isSome && ((alk p.Match q.W).getD 0 != p.Week))) = false ↔ _
  rw [Bool.or_eq_false_iff, h.c]
  constructor
  ·rintro ⟨h1, h2⟩
   have hp : ∀ x ∈ l, x.Match = p.Match → x.Week = p.Week := fun x hx e => by
    have hk : p.Match ∈ q.W.map (·.1) := (h.w _).2 ⟨x, hx, e⟩
    have hne : ¬ alk p.Match q.W = none := by rw [alk_none]; exact fun z => z hk
    obtain ⟨v, hv⟩ := Option.ne_none_iff_exists'.1 hne
    rw [hv] at h2
    simp at h2
    obtain ⟨y, hy, e1, e2⟩ := h.wv _ _ hv
    rw [h1 x hx y hy (by rw [e, e1]), e2, h2]
   intro x hx y hy e
   rcases List.mem_append.1 hx with hx | hx <;> rcases List.mem_append.1 hy with hy | hy
   ·exact h1 x hx y hy e
   ·rw [List.mem_singleton.1 hy] at e ⊢; exact hp x hx e
   ·rw [List.mem_singleton.1 hx] at e ⊢; exact (hp y hy e.symm).symm
   ·rw [List.mem_singleton.1 hx, List.mem_singleton.1 hy]
  ·intro hall
   refine ⟨fun x hx y hy e => hall x (List.mem_append_left _ hx) y (List.mem_append_left _ hy) e, ?_⟩
   cases hv : alk p.Match q.W with
   | none => rfl
   | some v =>
     obtain ⟨y, hy, e1, e2⟩ := h.wv _ _ hv
     have := hall y (List.mem_append_left _ hy) p (by simp) e1
     simp
     rw [← e2, this]
theorem chk_is (l : List Play) : ChkIs (chkSt l) l := by
 have key : ∀ k, k ≤ l.length → ChkIs (chkSt (l.take k)) (l.take k) := by
  intro k
  induction k with
  | zero =>
    intro _
    refine ⟨List.nodup_nil, fun s => ?_, ANodup.nil, fun m => ?_, fun m v hv => ?_, ?_⟩
    ·simp [chkSt]
    ·simp [chkSt]
    ·simp [chkSt, alk] at hv
    ·simp [chkSt]
  | succ k ih =>
    intro hk
    have hx := List.getElem?_eq_getElem (l := l) (i := k) (by omega)
    rw [chkSt_snoc hx, take_snoc' hx]
    exact (ih (by omega)).step _
 have := key l.length (Nat.le_refl _)
 rwa [List.take_length] at this
theorem playsGo_of {l : List Play} (hs : l.Pairwise fun a b => byNo a b < 0) : ∀ (t : List Play) (k : Nat), (∀ x ∈ t, playFault x = 0) → t = l.drop k → playsGo l k t = 0
 | [], _, _, _ => rfl
 | x :: t, k, h, e => by
   have hk : l[k]? = some x := by
    have := congrArg (·[0]?) e
    simpa using this.symm
   have hlt := lt_of_get hk
   have hno : 0 < k → ¬ byNo x (l.getD (k - 1) play0) ≤ 0 := fun h0 => by
    have hj : k - 1 < l.length := by omega
    have hg := getD_some (d := play0) hj
    have h1 := List.pairwise_iff_getElem.1 hs (k - 1) k hj hlt (by omega)
    obtain ⟨_, e1⟩ := List.getElem?_eq_some_iff.1 hg
    obtain ⟨_, e2⟩ := List.getElem?_eq_some_iff.1 hk
    rw [e1, e2, byNo_flip] at h1
    omega
   rw [playsGo_ne (h x (by simp)) hno]
   refine playsGo_of hs t (k + 1) (fun y hy => h y (List.mem_cons_of_mem _ hy)) ?_
   have := congrArg List.tail e
   simpa using this
/-- A part of right plays is right. -/
theorem plays_part {l : List Play} (h : playsE l = 0) (c : Play → Bool) : playsE (l.filter c) = 0 := by
 obtain ⟨h1, h2⟩ := playsE_ok h
 have hf := playsGo_ok l 0 h2
 have hlen := List.length_filter_le c l
 have hgo : playsGo (l.filter c) 0 (l.filter c) = 0 := playsGo_of ((plays_rise h).filter c) _ 0 (fun x hx => hf x (List.mem_filter.1 hx).1) rfl
 rw [playsE_tail (by omega) hgo]
 rw [playsE_tail h1 h2] at h
 have a := chk_is l
 have b := chk_is (l.filter c)
 unfold playsTail at h ⊢
 have hS : (chkSt (l.filter c)).S.length ≤ (chkSt l).S.length := nodup_le b.sn fun s hs => by
  obtain ⟨x, hx, e⟩ := (b.s s).1 hs
  exact (a.s s).2 ⟨x, (List.mem_filter.1 hx).1, e⟩
 have hW : (chkSt (l.filter c)).W.length ≤ (chkSt l).W.length := by
  have bn : ((chkSt (l.filter c)).W.map fun q : Str × Int => q.1).Nodup := b.wn
  have := nodup_le (b := (chkSt l).W.map fun q : Str × Int => q.1) bn fun m hm => by
   obtain ⟨x, hx, e⟩ := (b.w m).1 hm
   exact (a.w m).2 ⟨x, (List.mem_filter.1 hx).1, e⟩
  simpa using this
 split at h
 ·omega
 ·rename_i hq
  rw [if_neg (by omega)]
  split at h
  ·omega
  ·rename_i hc
   have hca := a.c.1 (by simpa using hc)
   have := b.c.2 fun x hx y hy e => hca x (List.mem_filter.1 hx).1 y (List.mem_filter.1 hy).1 e
   rw [this]; rfl
end Go.HL
end
section
namespace Go.HL
theorem wk_pos {p : Play} (h : playFault p = 0) : 1 ≤ p.Week := by
 have h1 := (playFault_ok h).2.2.2.1
 unfold weekB at h1
 have := out_f (n := p.Week) (lo := 1) (hi := 60) (by simpa using h1)
 omega
theorem chk_pos {l : List Play} (hok : ∀ y ∈ l, playFault y = 0) {m : Str} {v : Int} (h : alk m (chkSt l).W = some v) : 1 ≤ v := by
 obtain ⟨x, hx, _, rfl⟩ := (chk_is l).wv m v h
 exact wk_pos (hok x hx)
/-- Two weeks of a match, asked as the references ask. -/
theorem chk_ref {l : List Play} (hok : ∀ y ∈ l, playFault y = 0) (p : Play) :
 ((chkSt l).c || ((alk p.Match (chkSt l).W).getD 0 != 0 && (alk p.Match (chkSt l).W).getD 0 != p.Week)) = (chkStep (chkSt l) p).c := by
 unfold chkStep
 dsimp only
 cases h : alk p.Match (chkSt l).W with
 | none => simp
 | some v =>
   have := chk_pos hok h
   have h0 : (v != 0) = true := by simp; omega
   simp [h0]
/-! statistics -/
end Go.HL
end
section
namespace Go.HL
def GoodPl1 (x : Play) : Prop := Sh x.Source ∧ Sh x.Match ∧ Sh x.Player ∧ Sh x.Stat
structure GoodPl (k : List Play) : Prop where
 len : k.length ≤ 15
 all : ∀ x ∈ k, GoodPl1 x
def src3 : List Str := [[102, 97], [102, 98], [102, 99]]
theorem src3_sh : ∀ s ∈ src3, Sh s := fun s hs => by simp [src3] at hs; rcases hs with rfl | rfl | rfl <;> (unfold Sh; simp)
def week3 : List Int := [1, 1, 2]
def match3 : List Str := [[109, 97], [109, 98], [109, 99]]
theorem match3_sh (k : Nat) : Sh (match3.getD k []) := by
 match k with
 | 0 => unfold Sh; simp [match3]
 | 1 => unfold Sh; simp [match3]
 | 2 => unfold Sh; simp [match3]
 | n + 3 => unfold Sh; simp [match3]
instance : DecidableEq PairS := fun a b => by
 obtain ⟨x, y⟩ := a; obtain ⟨u, v⟩ := b
 exact if h : x = u ∧ y = v then isTrue (by rw [h.1, h.2]) else isFalse fun e => by cases e; exact h ⟨rfl, rfl⟩
end Go.HL
end
