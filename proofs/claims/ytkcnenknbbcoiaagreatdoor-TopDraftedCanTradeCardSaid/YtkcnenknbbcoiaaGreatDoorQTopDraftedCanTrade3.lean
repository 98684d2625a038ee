/- Part 3 of the proof: a program logic, contracts of functions and plain facts; no conditions. -/
import Derived.Test.YtkcnenknbbcoiaaGreatDoorQTopDraftedCanTrade2
import Derived.Ground.Names2Prog
import Derived.Shelf.SlIter.Collect
import Derived.Shelf.SlIter.Keys
import Derived.Shelf.SlIter.Sorted
import Derived.Shelf.SlSortCmp.NoneTotal
import Derived.Shelf.Slices.CompactS
import Derived.Shelf.Slices.Delete
import Derived.Shelf.Sort.Plain
import Derived.Shelf.SortM.Plain
import Derived.Shelf.SortM.SortNone
import Derived.Shelf.Strconv.Atoi
import Derived.Shelf.Strconv.Itoa3
import Derived.Shelf.Strings.Prefix
import Derived.Test.YtkcnenknbbcoiaaGreatDoorProg
set_option linter.unusedVariables false
set_option linter.unusedSimpArgs false
namespace Go.HL
section
variable {P : Program}
open Go.Sort Go.Proofs Go.Shelf Go.RowKit
theorem zny [Tracks] {w w' : World} {J : Imm} {M : List MObj} (hT : Tracks.on = true) (hl : Le (zbr w) J) (hs : Sat P J M w') : ∃ q os, w' = grow (w.drewN q) os := by
 have hb := ziy hl hs
 have hd : w.drawn ≤ w'.drawn := Nat.le_trans (hl.low hT) (hs.low hT)
 refine ⟨w'.drawn - w.drawn, w'.heap.extract w.heap.size w'.heap.size, ?_⟩
 have hh : w'.heap = w.heap ++ w'.heap.extract w.heap.size w'.heap.size := by
  apply Array.ext_getElem?
  intro i
  by_cases hi : i < w.heap.size
  ·rw [Array.getElem?_append_left hi]; exact hb.block i hi
  ·rw [Array.getElem?_append_right (by omega), Array.getElem?_extract]
   have := hb.size
   split
   ·congr 1; omega
   ·rw [Array.getElem?_eq_none (by omega)]
 have h1 := hb.os
 have h2 := hb.tape
 have h3 := hb.output
 obtain ⟨a1, a2, a3, a4, a5⟩ := w'
 obtain ⟨b1, b2, b3, b4, b5⟩ := w
 simp only at h1 h2 h3 hd hh
 subst h1 h2 h3
 simp only [grow, World.drewN, World.mk.injEq]
 exact ⟨hh, trivial, by omega, trivial, trivial⟩
theorem ConP.calls [Tracks] {f : FuncId} {hargs : List HVal} {h : HVal} (hT : Tracks.on = true) (hc : ConP P f hargs h) {w : World} (ht : TabI P (zbr w)) {args : List Value} (ha : VL (zbr w) hargs args) :
 Calls P f args.toArray w fun e w' => ∃ v, e = .returned v ∧ V (zbr w') h v ∧ ∃ q os, w' = grow (w.drewN q) os := by
 refine (hc (zbr w) [] w args ha (zom ht)).mono ?_
 rintro e w' ⟨v, x, M', J, rfl, hle, ⟨rfl, rfl⟩, hV, hs⟩
 exact ⟨v, rfl, hV.mono hs.le_all, zny hT hle hs⟩
@[reducible] def zfB : Tracks := ⟨true⟩
/-- A row of cells that reads as an element. -/
abbrev zdi {A : Type} (I : Imm) (e : A → HVal) (k : Nat) : Type := { p : A × List Value // p.2.length = k ∧ (∀ v ∈ p.2, v.oneCell' = true) ∧ VL I (zl (e p.1)) p.2 }
theorem zoi [Tracks] {A : Type} {I : Imm} {e : A → HVal} {k : Nat} (hk : ∀ x, (zl (e x)).length = k) (hf : ∀ x, za6 (zl (e x)) = true) {rc : Array Value} : ∀ (l : List A) (off : Nat), off + l.length * k ≤ rc.size →
 (∀ (i j : Nat) (x : A) (c : HVal) (v : Value), l[i]? = some x → (zl (e x))[j]? = some c → rc[off + i * k + j]? = some v → V I c v) →
 ∃ d : List (zdi I e k), d.map (·.1.1) = l ∧ ∀ (i j : Nat) (p : zdi I e k), d[i]? = some p → j < k → rc[off + i * k + j]? = p.1.2[j]?
 | [], off, _, _ => ⟨[], rfl, fun i j p h => by simp at h⟩
 | x :: l, off, hb, hV => by
   have hb' : off + k + l.length * k ≤ rc.size := by simp [Nat.add_mul] at hb; omega
   obtain ⟨d, h1, h2⟩ := zoi hk hf l (off + k) hb' fun i j y c v a1 a2 a3 => hV (i + 1) j y c v (by simpa using a1) a2 (by rw [Nat.add_mul, Nat.one_mul]; rw [show off + (i * k + k) + j = off + k + i * k + j by omega]; exact a3)
   have hlen : (rc.extract off (off + k)).toList.length = k := by simp; omega
   have hg : ∀ j, j < k → (rc.extract off (off + k)).toList[j]? = rc[off + j]? := fun j hj => by
    rw [Array.getElem?_toList, Array.getElem?_extract, if_pos (by omega)]
   have hvl : VL I (zl (e x)) (rc.extract off (off + k)).toList := ⟨by rw [hlen, hk], fun j c v a1 a2 => by
    have hj : j < k := by have := zC a1; rw [hk] at this; exact this
    rw [hg j hj] at a2
    exact hV 0 j x c v rfl a1 (by simpa using a2)⟩
   refine ⟨⟨(x, (rc.extract off (off + k)).toList), hlen, zhv hvl (hf x), hvl⟩ :: d, by simp [h1], fun i j p hp hj => ?_⟩
   cases i with
   | zero =>
     simp only [List.getElem?_cons_zero, Option.some.injEq] at hp
     subst hp
     simp only [Nat.zero_mul, Nat.add_zero]
     exact (hg j hj).symm
   | succ i =>
     simp only [List.getElem?_cons_succ] at hp
     rw [← h2 i j p hp hj, Nat.add_mul, Nat.one_mul]
     congr 1; omega
section
variable {A : Type} {e : A → HVal} {k : Nat}
theorem zlW {α : Type} [Inhabited α] {enc : α → List Value} {w : World} {b off m : Nat} {dk : Array α} {os : Array Obj} {c : Nat} (hc : c < w.heap.size) (hb : c ≠ b) : (sortWorldK enc k w b off m dk os).heap[c]? = w.heap[c]? := by
 simp only [sortWorldK, grow, putRowK, putRow, mapBlock, Sort.ahead]
 rw [Array.getElem?_append_left (by simpa using hc), Array.getElem?_modify, if_neg (Ne.symm hb)]
theorem zim {α : Type} [Inhabited α] {enc : α → List Value} {w : World} {b off m : Nat} {dk : Array α} {os : Array Obj} {rc : Array Value} {el : TypeId} {fr : Nat × Nat} (hb : w.heap[b]? = some (.cells rc el fr)) :
 (sortWorldK enc k w b off m dk os).heap[b]? = some (.cells (putCells id off (flatK enc k dk) rc) el fr) := by
 have hlt : b < w.heap.size := lt_of_get' hb
 simp only [sortWorldK, grow, putRowK, putRow, mapBlock, Sort.ahead]
 rw [Array.getElem?_append_left (by simpa using hlt), Array.getElem?_modify, if_pos rfl, hb]
 rfl
where
 lt_of_get' {α : Type} {a : Array α} {i : Nat} {x : α} (h : a[i]? = some x) : i < a.size := by
  rcases Nat.lt_or_ge i a.size with h' | h'
  ·exact h'
  ·simp [Array.getElem?_eq_none h'] at h
theorem zlE {α : Type} [Inhabited α] {enc : α → List Value} (hk : ∀ x, (enc x).length = k) {dk : Array α} {i j : Nat} {x : α} (hx : dk[i]? = some x) (hj : j < k) : some ((flatK enc k dk)[i * k + j]!) = (enc x)[j]? := by
 have hi : i < dk.size := by
  rcases Nat.lt_or_ge i dk.size with h' | h'
  ·exact h'
  ·simp [Array.getElem?_eq_none h'] at hx
 have hle : (i + 1) * k ≤ dk.size * k := Nat.mul_le_mul_right _ hi
 rw [Nat.add_mul, Nat.one_mul] at hle
 rw [get_flatK enc k dk _ (by omega)]
 have e1 : (i * k + j) / k = i := by rw [Nat.mul_comm, Nat.mul_add_div (by omega), Nat.div_eq_of_lt hj]; rfl
 have e2 : (i * k + j) % k = j := by rw [Nat.mul_comm, Nat.mul_add_mod, Nat.mod_eq_of_lt hj]
 rw [e1, e2]
 have e3 : dk[i]! = x := by rw [getElem!_pos dk i hi]; rw [Array.getElem?_eq_getElem hi] at hx; exact Option.some.inj hx
 rw [e3]
 have hjl : j < (enc x).length := by rw [hk]; exact hj
 rw [List.getElem?_eq_getElem hjl, getElem!_pos (enc x) j hjl]
set_option maxHeartbeats 1000000 in
/-- slices.SortFunc: a permutation that is sorted. -/
theorem zl4 [Tracks] {ρ : Ren} (L : SlLaysF0.n6 P ρ) (aE : ∀ w, (isAgg (ρ.t 24)).run P w = .ok true w) (zE : ∀ w, (Go.sizeOf (ρ.t 24)).run P w = .ok k w) (hk : ∀ x, (zl (e x)).length = k) (ha : ∀ x, e x = .agg (zl (e x))) (hf : ∀ x, za6 (zl (e x)) = true)
 {c : A → A → Int} (hO : SWO (ltOf c)) {g : FuncId} (hg : Callable P g) {cap : List HVal} (hc : ∀ x y, @ConP zfB P g (e x :: e y :: cap) (.int .i64 (c x y))) {l : List A} (hl : l.length ≤ 1000000) {v : Value} :
 Con P (ρ.f 6) [.raw v, .fn (.func g) [] cap] [.arr v k (l.map e)] fun x M' => ∃ l' : List A, x = .tup [] ∧ l'.Perm l ∧ l'.Pairwise (fun a b => ¬ c b a < 0) ∧ M' = [.arr v k (l'.map e)] := by
 intro I F w args hargs hs
 obtain ⟨n1, n2⟩ := hargs
 match args, n1, n2 with
 | [u, fv], _, n2 =>
   obtain rfl : u = v := (n2 0 _ _ rfl rfl).raw_inv
   obtain ⟨f1, cb, rfl, f2, f3⟩ := (n2 1 _ _ rfl rfl).fn_inv
   have hf1 : f1 = #[] := by have := f2.1; simp at this; exact this
   subst hf1
   by_cases h0 : l = []
   ·subst h0
    have hu : ∃ p cp, u = .slice p 0 cp := by
     rcases hs.obj (.arr u k (([] : List A).map e)) (by simp) with ⟨rfl, _⟩ | ⟨b, off, cp, rc, el, fr, rfl, _⟩
     ·exact ⟨_, _, rfl⟩
     ·exact ⟨_, _, rfl⟩
    obtain ⟨p, cp, rfl⟩ := hu
    refine (AnyF.slices_SortFunc_none L p cp _ w).mono ?_
    rintro _ _ ⟨rfl, rfl⟩
    exact ⟨_, .tup [], _, I, rfl, .refl I, ⟨[], rfl, .refl _, .nil, rfl⟩, .tup (by simp) (fun j c v h _ => by simp at h), hs⟩
   ·rcases hs.obj (.arr u k (l.map e)) (by simp) with ⟨_, hn⟩ | ⟨b, off, cp, rc, el, fr, rfl, _⟩
    ·simp at hn; exact absurd hn h0
    ·rw [List.length_map] at hs ⊢
     obtain ⟨_, rc, el, fr, h2, h3, h4, h5, h6, h7⟩ := zfM hs
     rw [List.length_map] at h5
     have hblt : b < w.heap.size := zim.lt_of_get' h2
     have hsz : off + l.length * k ≤ rc.size := by
      have : l.length * k ≤ cp * k := Nat.mul_le_mul_right _ h5.1
      omega
     obtain ⟨d, d1, d2⟩ := zoi (I := I) (e := e) hk hf (rc := rc) l off hsz fun i j x c v a1 a2 a3 => h7 i j (e x) c v (by simp [a1]) a2 a3
     have dl : d.length = l.length := by rw [← d1]; simp
     obtain ⟨p0, hp0⟩ : ∃ p, d[0]? = some p := ⟨_, List.getElem?_eq_getElem (by have := List.length_pos_iff.2 h0; omega)⟩
     haveI : Inhabited (zdi I e k) := ⟨p0⟩
     have hkr : ∀ x : zdi I e k, (x.1.2).length = k := fun x => x.2.1
     have hH : HoldsK (fun x : zdi I e k => x.1.2) k w b off d.toArray := fun j hj => by
      simp only [size_flatK, List.size_toArray, dl] at hj
      have hk0 : 0 < k := by rcases Nat.eq_zero_or_pos k with h | h; (subst h; simp at hj); exact h
      have hi : j / k < d.length := by rw [dl]; exact Nat.div_lt_of_lt_mul (by rw [Nat.mul_comm]; exact hj)
      have hjk := Nat.mod_lt j hk0
      have hdj : j / k * k + j % k = j := by rw [Nat.mul_comm]; exact Nat.div_add_mod j k
      have hg1 := d2 (j / k) (j % k) d[j / k] (List.getElem?_eq_getElem hi) hjk
      have hg2 := zlE (enc := fun x : zdi I e k => x.1.2) (k := k) hkr (dk := d.toArray) (i := j / k) (j := j % k) (x := d[j / k]) (by simp [hi]) hjk
      rw [hdj] at hg2
      constructor
      ·rw [zeK h2]
       rw [show off + j = off + j / k * k + j % k by omega, hg1, ← hg2]; rfl
      ·simp only [World.frozen?, h2]
       have := h3 (off + j) (by omega)
       simpa using this
     have hle : ∀ (m : Nat) (dk : Array (zdi I e k)) (os : Array Obj), Le I (zbr (sortWorldK (fun x : zdi I e k => x.1.2) k w b off m dk os)) := fun m dk os =>
      ⟨fun c o ho => by
       have hcb : c ≠ b := fun hh => by
        subst hh
        have := hs.apart c (by simp [blocks, MObj.blocks])
        rw [this] at ho; cases ho
       have h9 := hs.imm c o ho
       show (sortWorldK _ k w b off m dk os).heap[c]? = some o
       rw [zlW (zim.lt_of_get' h9) hcb]; exact h9, hs.os, hs.output, hs.tape, fun ht => Nat.le_trans (hs.low ht) (Nat.le_add_right _ _)⟩
     have hcmp : CmpLays P g cb (fun x : zdi I e k => x.1.2) k (fun x y => c x.1.1 y.1.1) b off d.toArray.size w := fun m os dk _ x y => by
      have hI := hle m dk os
      have hxa : ∀ z : zdi I e k, V (zbr (sortWorldK (fun x : zdi I e k => x.1.2) k w b off m dk os)) (e z.1.1) (.agg z.1.2.toArray) := fun z => by
       rw [ha]; exact V.mk_agg (by simpa using z.2.2.2.mono hI)
      have e9 : (#[Value.agg x.1.2.toArray, .agg y.1.2.toArray] ++ cb) = (Value.agg x.1.2.toArray :: .agg y.1.2.toArray :: cb.toList).toArray := by simp
      rw [e9]
      refine (@ConP.calls P zfB g _ _ rfl (hc x.1.1 y.1.1) _ (hs.tab.mono hI) _ (VL.cons (hxa x) (VL.cons (hxa y) (f3.mono hI)))).mono ?_
      rintro _ w' ⟨u, rfl, hu, q, os', rfl⟩
      exact ⟨by rw [hu.int_inv], q, os', rfl⟩
     have hO' : SWO (ltOf fun x y : zdi I e k => c x.1.1 y.1.1) := ⟨fun x => hO.irrefl x.1.1, fun x y z => hO.trans x.1.1 y.1.1 z.1.1, fun x y z => hO.ntrans x.1.1 y.1.1 z.1.1⟩
     have hrun := AnyQ.slices_SortFunc L k aE zE (fun x : zdi I e k => x.1.2) hkr (fun x => x.2.2.1) (fun x y => c x.1.1 y.1.1) hO' g cb b off cp d.toArray w (zdu hg) hcmp hH hblt (by simp; omega)
     rw [List.size_toArray, dl] at hrun
     refine hrun.mono ?_
     rintro _ w' ⟨rfl, d', m, os, ⟨q1, _, q3⟩, q4, rfl⟩
     simp only [List.size_toArray, dl] at q1
     have q3' : d'.toList.Perm d := by
      have e1 : (d'.extract 0 l.length) = d' := by rw [← q1]; exact Array.extract_size
      have e2 : (d.toArray.extract 0 l.length) = d.toArray := by have := Array.extract_size (xs := d.toArray); rw [List.size_toArray, dl] at this; exact this
      rw [e1, e2] at q3; simpa using q3
     refine ⟨_, .tup [], [.arr (.slice (some ⟨b, off, none⟩) l.length cp) k ((d'.toList.map (·.1.1)).map e)], I, rfl, .refl I, ⟨d'.toList.map (·.1.1), rfl, by rw [← d1]; exact q3'.map _, ?_, rfl⟩, .tup (by simp) (fun j c v h _ => by simp at h), ?_⟩
     ·refine List.pairwise_iff_getElem.2 fun i j hi hj hij => ?_
      simp only [List.length_map, Array.length_toList] at hi hj
      have := q4 i j (Nat.zero_le _) hij (by omega)
      rw [getElem!_pos d' i hi, getElem!_pos d' j hj] at this
      simp only [ltOf, decide_eq_false_iff_not] at this
      simpa using this
     ·have hchg : ∀ x, x < w.heap.size → x ∉ (MObj.arr (.slice (some ⟨b, off, none⟩) l.length cp) k (l.map e)).blocks → (sortWorldK (fun x : zdi I e k => x.1.2) k w b off m d' os).heap[x]? = w.heap[x]? := fun x hx hnx => zlW hx fun hh => hnx (by rw [hh]; simp [MObj.blocks])
      refine hs.change (m' := .arr (.slice (some ⟨b, off, none⟩) l.length cp) k ((d'.toList.map (·.1.1)).map e)) hchg (fun x hx => .inl hx) (by simp [MObj.blocks]) ?_ rfl rfl rfl (fun _ => Nat.le_add_right _ _)
      refine .inr ⟨b, off, cp, putCells id off (flatK (fun x : zdi I e k => x.1.2) k d') rc, el, fr, by simp [q1], zim h2, by simpa [putCells] using h3, ?_, by simp [q1]; exact h5, by simpa [putCells] using h6, ?_⟩
      ·intro y hy; obtain ⟨z, _, rfl⟩ := List.mem_map.1 hy; exact hk z
      ·intro i j y z v a1 a2 a3
       rw [List.map_map, List.getElem?_map] at a1
       cases hq : d'.toList[i]? with
       | none => rw [hq] at a1; simp at a1
       | some r =>
         rw [hq] at a1
         simp only [Option.map_some, Function.comp_apply, Option.some.injEq] at a1
         subst a1
         have hj : j < k := by have := zC a2; rw [hk] at this; exact this
         have hi : i < l.length := by have := zC hq; simp at this; omega
         have hle : (i + 1) * k ≤ l.length * k := Nat.mul_le_mul_right _ hi
         rw [Nat.add_mul, Nat.one_mul] at hle
         have hr : off + i * k + j < rc.size := by omega
         rw [putCells, Array.getElem?_mapIdx, Array.getElem?_eq_getElem hr, Option.map_some, if_pos ⟨by omega, by rw [size_flatK, q1]; omega⟩] at a3
         rw [show off + i * k + j - off = i * k + j by omega] at a3
         have hg2 := zlE (enc := fun x : zdi I e k => x.1.2) (k := k) hkr (dk := d') (i := i) (j := j) (x := r) (by simpa using hq) hj
         rw [show (id (flatK (fun x : zdi I e k => x.1.2) k d')[i * k + j]!) = (flatK (fun x : zdi I e k => x.1.2) k d')[i * k + j]! from rfl, hg2] at a3
         exact r.2.2.2.2 j z v a2 a3
end
end
section
open Go.Proofs Go.RowKit Go.Maps Go.Sort Go.Shelf
section
variable {P : Program}
def zll (H : Type) : Value → Option (DataW H × List MemPlace) := fun _ => some (.nil, [])
theorem zrm {I : Imm} {w : World} {b : Nat} {α : Type} {f : α → HVal} {L : List (Str × α)} (hm : MSat I w (.map b (sk (em f L)))) :
 ∃ es clk, w.heap[b]? = some (.map es clk) ∧ BornOk es clk ∧ es.size = L.length ∧ es.toList.map (·.key) = L.map fun p => encStr p.1 := by
 obtain ⟨es, clk, h1, ⟨h2, h4⟩, h3⟩ := hm
 have hl : es.size = L.length := by rw [h2]; simp [sk]
 refine ⟨es, clk, h1, h4, hl, List.ext_getElem? fun i => ?_⟩
 rw [List.getElem?_map, List.getElem?_map]
 rcases Nat.lt_or_ge i L.length with h | h
 ·have a1 : L[i]? = some L[i] := List.getElem?_eq_getElem h
  have a2 : es[i]? = some es[i] := Array.getElem?_eq_getElem (by omega)
  have a3 : (sk (em f L))[i]? = some (.str L[i].1, f L[i].2) := by simp [sk, a1]
  have a4 := (h3 i _ _ a3 a2).1.str_inv
  rw [a1, Array.getElem?_toList, a2]
  simp only [Option.map_some, Option.some.injEq]
  rw [a4]
  try rfl
 ·rw [List.getElem?_eq_none h, List.getElem?_eq_none (by rw [Array.length_toList]; omega)]; rfl
theorem zo0 {es : Array MapEntry} {clk : Nat} (h : BornOk es clk) : (es.toList.map (·.born)).Nodup := by
 refine List.pairwise_iff_getElem.2 fun i j hi hj hij e => ?_
 rw [List.getElem_map, List.getElem_map] at e
 rw [List.length_map, Array.length_toList] at hi hj
 have := h.2 i j es[i] es[j] (Array.getElem?_eq_getElem hi) (Array.getElem?_eq_getElem hj) (by simpa using e)
 omega
theorem znY {I : Imm} {w : World} {b : Nat} {α : Type} {f : α → HVal} {L : List (Str × α)} {k : TypeId} (hk : P.underlying k = some .string) (hm : MSat I w (.map b (sk (em f L)))) (hn : ANodup L)
 (hl : ∀ p ∈ L, p.1.length ≤ 1000000) (hs : L.length ≤ 1000000) : ∃ D : DataW Unit, w.ownsMap P k (zll Unit) b L.length D ∧ (strKeys D).Perm (L.map (·.1)) ∧ Maps.size D = L.length := by
 obtain ⟨es, clk, h1, h2, h3, h4⟩ := zrm hm
 have hx : ∀ x ∈ es.toList, ∃ p ∈ L, x.key = encStr p.1 := fun x hx => by
  have := List.mem_map_of_mem (f := (·.key)) hx
  rw [h4] at this
  obtain ⟨p, hp, e⟩ := List.mem_map.1 this
  exact ⟨p, hp, e.symm⟩
 have hrd : ∀ x ∈ es.toList, ∀ p ∈ L, x.key = encStr p.1 → WideElems.rd P k (zll Unit) x = some (.string p.1, .nil) := fun x _ p hp e => by
  have := hl p hp
  have hm : maxLen = 9223372036854775807 := by rfl
  simp [WideElems.rd, keyOf, hk, e, mapKey, encStr, zll, hm]
  rw [if_pos (by show p.1.toArray.size ≤ _; simp; omega)]
  rfl
 have hkeys : es.toList.map (fun x => strOf (WideElems.rg P k (zll Unit) x).1) = L.map (·.1) := by
  have e2 : es.toList.map (fun x => strOf (WideElems.rg P k (zll Unit) x).1) = (es.toList.map (·.key)).map fun v => match v with | .string s => s.data.toList | _ => [] := by
   rw [List.map_map]
   refine List.map_congr_left fun x hx' => ?_
   obtain ⟨p, hp, e⟩ := hx x hx'
   rw [WideElems.rg_of (hrd x hx' p hp e)]
   simp [e, encStr, strOf]
  rw [e2, h4, List.map_map]
  refine List.map_congr_left fun p _ => ?_
  simp [encStr]
 have hml : maxLen = 9223372036854775807 := by rfl
 refine ⟨_, ⟨es, clk, h1, ⟨by omega, ⟨fun x hx' => ?_, zo0 h2, ?_⟩, fun x hx' => ?_⟩, by omega, rfl⟩, ?_, ?_⟩
 ·obtain ⟨i, hi⟩ := List.getElem?_of_mem hx'
  exact h2.1 i x (by simpa using hi)
 ·rw [h4]
  have : (L.map fun p => encStr p.1) = (L.map (·.1)).map encStr := by rw [List.map_map]; rfl
  rw [this]
  exact List.Pairwise.map encStr (fun a b hab e => hab (encStr_inj e)) hn
 ·obtain ⟨p, hp, e⟩ := hx x hx'
  exact ⟨_, hrd x hx' p hp e⟩
 ·show ((List.foldr DataW.insert [] _).map fun p => strOf p.1).Perm _
  rw [← hkeys]
  have := (WideShapes.sorted_perm (es.toList.map (WideElems.rg P k (zll Unit)))).map fun p => strOf p.1
  rw [List.map_map] at this
  exact this
 ·show (List.foldr DataW.insert [] _).length = _
  rw [(WideShapes.sorted_perm _).length_eq, List.length_map, Array.length_toList, h3]
theorem zq5 [Tracks] {ρ : Ren} (L : SlLaysZ.n7 P ρ) {b : Nat} : Con P (ρ.f 7) [.raw (.map (some b))] [] fun x M' => ∃ bx, x = .fn (.func (ρ.f 10)) [] [.raw (.pointer (some ⟨bx, 0, none⟩))] ∧ M' = [.cells bx [.raw (.map (some b))]] := by
 intro I F w args ha hs
 obtain ⟨u, rfl, hu⟩ := ha.one
 obtain rfl := hu.raw_inv
 refine ((callsIn_wide (n := 1)).1 (AnyZ.keys_in L Fence.wide 1 trivial rfl (some b) w)).mono ?_
 rintro _ w' ⟨rfl, rfl⟩
 refine ⟨_, _, _, I, rfl, .refl I, ⟨w.heap.size, rfl, rfl⟩, .fn rfl rfl (fun j c v h _ => by simp at h) (fun j c v h1 h2 => ?_), ?_⟩
 ·exact (VL.cons (.raw _ rfl) VL.nil : VL I [.raw (.pointer (some ⟨w.heap.size, 0, none⟩))] [.pointer (some ⟨w.heap.size, 0, none⟩)]).2 j c v h1 (by simpa using h2)
 ·exact hs.new_own _ _ rfl ⟨#[.map (some b)], ρ.t 23, (0, 0), by simp, Free.zero _, VL.cons (.raw _ rfl) VL.nil⟩
theorem zpa [Tracks] (hT : Tracks.on = false) {ρ ρk : Ren} (L : SlLaysZ.n6 P ρ) (Lk : SlLaysZ.n7 P ρk) (hsort : ∀ m, AnyZ.SortsIn P ρ Fence.wide m)
 (e9 : ∀ args w, (callFunc (ρ.f 9) args).run P w = .ok (.enter (ρ.f 9) args) w) (eg : ∀ args w, (callFunc (ρk.f 10) args).run P w = .ok (.enter (ρk.f 10) args) w)
 {α : Type} {f : α → HVal} {l : List (Str × α)} (hn : ANodup l) (hl : ∀ p ∈ l, p.1.length ≤ 1000000) (hs : l.length ≤ 1000000) {b bx : Nat} :
 Con P (ρ.f 6) [.fn (.func (ρk.f 10)) [] [.raw (.pointer (some ⟨bx, 0, none⟩))]] [.cells bx [.raw (.map (some b))], .map b (sk (em f l))] fun x M' => ∃ v, x = .raw v ∧ M' = [.arr v 1 ((zar (l.map (·.1))).map .str), .map b (sk (em f l))] := by
 intro I F w args ha hsat
 obtain ⟨u, rfl, hu⟩ := ha.one
 obtain ⟨v1, v2, rfl, hv1, hv2, hc⟩ : ∃ v1 v2, u = .func (.func (ρk.f 10)) v1 v2 ∧ v1 = #[] ∧ v2.size = 1 ∧ ∀ (j : Nat) (c : HVal) (v : Value), [HVal.raw (.pointer (some ⟨bx, 0, none⟩))][j]? = some c → v2[j]? = some v → V I c v := by
  cases hu with
  | fn h1 h2 h3 h4 => exact ⟨_, _, rfl, Array.eq_empty_of_size_eq_zero (by simpa using h1), by simpa using h2, h4⟩
 subst hv1
 obtain rfl : v2 = #[.pointer (some ⟨bx, 0, none⟩)] := by
  match v2, hv2 with
  | ⟨[y]⟩, _ => have := (hc 0 _ y rfl rfl).raw_inv; rw [this]
 obtain ⟨rc, el, fr, c1, c2, c3⟩ := hsat.obj (.cells bx [.raw (.map (some b))]) (by simp)
 have hmap := hsat.obj (.map b (sk (em f l))) (by simp)
 obtain ⟨D, d1, d2, d3⟩ := znY (k := ρk.t 26) (by exact Lk.t26) hmap hn hl hs
 have hbx : bx < w.heap.size := (Array.getElem?_eq_some_iff.1 c1).1
 have hcell : w.cell? ⟨bx, 0, none⟩ = some (.map (some b)) := by
  have := c3.1
  match rc, this, c1, c3 with
  | ⟨[y]⟩, _, c1, c3 =>
    have hy := c3.head.raw_inv
    subst hy
    simp [World.cell?, c1]
 have hseq := AnyZ.keys_gives (ρ := ρk) { Lk with } Fence.wide 2 trivial rfl (by omega) bx b l.length D w hbx hcell d1
 have cS := AnyZ.sorted_in L Fence.wide 5 trivial trivial trivial trivial rfl (by omega) (hsort _) e9 (ρk.f 10) #[.pointer (some ⟨bx, 0, none⟩)] trivial eg _ _ (by rw [d3]; exact Nat.le_trans hs (by decide)) (by rw [d3]; omega) w hseq
 refine ((callsIn_wide (n := 5)).1 cS).mono ?_
 rintro e w' ⟨v, ss, rfl, hS, hrow, hnil, hb⟩
 have hss : (ss.mergeSort fun x y => decide (x ≤ y)) = zar (l.map (·.1)) := mergeSort_of_perm (hS.trans d2)
 rw [hss] at hrow
 have hlen : ss.length = (zar (l.map (·.1))).length := by rw [zch, (hS.trans d2).length_eq]
 have hmem : MSat I w' (.arr v 1 ((zar (l.map (·.1))).map .str)) := by
  rcases hrow.2 with ⟨rfl, hz⟩ | ⟨gb, cap, cur, rfl, hbase, hgb, r1, r2, r3, r4⟩
  ·refine .inl ⟨rfl, ?_⟩
   have : zar (l.map (·.1)) = [] := List.length_eq_zero_iff.1 (by omega)
   rw [this]; rfl
  ·refine .inr ⟨gb, 0, cap, cur, _, _, by rw [List.length_map, ← hlen], hgb, Free.zero _, fun e he => ?_, ⟨by rw [List.length_map]; omega, Nat.le_trans r2 (by decide)⟩, by omega, fun i j e c y h1 h2 h3 => ?_⟩
   ·obtain ⟨s, _, rfl⟩ := List.mem_map.1 he; rfl
   ·rw [List.getElem?_map] at h1
    cases hq : (zar (l.map (·.1)))[i]? with
    | none => rw [hq] at h1; cases h1
    | some s =>
      rw [hq] at h1
      simp only [Option.map_some, Option.some.injEq] at h1
      subst h1
      have hj : j = 0 := by
       cases j with
       | zero => rfl
       | succ j => simp [zl] at h2
      subst hj
      simp only [zl, List.getElem?_cons_zero, Option.some.injEq] at h2
      subst h2
      have hi := zC hq
      have h4 : (cur.toList.take (ss.length * 1))[i]? = some (encStr s) := by rw [r4, List.getElem?_map, hq]; rfl
      rw [List.getElem?_take_of_lt (by omega), Array.getElem?_toList] at h4
      have e0 : 0 + i * 1 + 0 = i := by omega
      rw [e0, h4] at h3
      cases h3
      exact .str s
 have hown : ∀ k, v.ownBlock = some k → w.heap.size ≤ k ∧ k < w'.heap.size := hrow.lt
 refine ⟨v, .raw v, _, I, rfl, .refl I, ⟨v, rfl, rfl⟩, ?_, ?_⟩
 ·rcases hrow.2 with ⟨rfl, _⟩ | ⟨gb, cap, cur, rfl, _⟩
  ·exact .raw _ rfl
  ·exact .raw _ rfl
 ·refine hsat.change (m' := .arr v 1 _) (fun k hk _ => hb.block k hk) (fun k hk => .inr ?_) ?_ hmem hb.os hb.output hb.tape (fun ht => by rw [hT] at ht; cases ht)
  ·rcases hrow.2 with ⟨rfl, _⟩ | ⟨gb, cap, cur, rfl, hbase, _⟩
   ·simp [MObj.blocks] at hk
   ·simp [MObj.blocks] at hk; omega
  ·rcases hrow.2 with ⟨rfl, _⟩ | ⟨gb, cap, cur, rfl, hbase, _⟩ <;> simp [MObj.blocks]
theorem zme [Tracks] (hT : Tracks.on = false) {ρ ρk : Ren} (L : SlLaysZ.n6 P ρ) (Lk : SlLaysZ.n7 P ρk) (hsort : ∀ m, AnyZ.SortsIn P ρ Fence.wide m)
 (e9 : ∀ args w, (callFunc (ρ.f 9) args).run P w = .ok (.enter (ρ.f 9) args) w) (eg : ∀ args w, (callFunc (ρk.f 10) args).run P w = .ok (.enter (ρk.f 10) args) w)
 {S : List Str} (hn : S.Nodup) (hl : ∀ s ∈ S, s.length ≤ 1000000) (hs : S.length ≤ 1000000) {b bx : Nat} :
 Con P (ρ.f 6) [.fn (.func (ρk.f 10)) [] [.raw (.pointer (some ⟨bx, 0, none⟩))]] [.cells bx [.raw (.map (some b))], .map b (sk (zaP S))] fun x M' => ∃ v, x = .raw v ∧ M' = [.arr v 1 ((zar S).map .str), .map b (sk (zaP S))] := by
 have e1 : zaP S = em HVal.bool (S.map fun s => (s, true)) := by simp [zaP]
 have e2 : (S.map fun s => (s, true)).map (·.1) = S := by simp [Function.comp_def]
 have := zpa hT L Lk hsort e9 eg (f := HVal.bool) (l := S.map fun s => (s, true)) (by unfold ANodup; rw [e2]; exact hn) (fun p hp => by obtain ⟨s, hs, rfl⟩ := List.mem_map.1 hp; exact hl s hs) (by simpa using hs) (b := b) (bx := bx)
 rw [e2, ← e1] at this
 exact this
end
end
section
variable {P : Program}
theorem V.hmap_inv {I : Imm} {ks vs : List HVal} {v : Value} (h : V I (.hmap ks vs) v) : ∃ b es clk, v = .map (some b) ∧ I.heap b = some (.map es clk) ∧ es.size = ks.length ∧ es.size = vs.length ∧
 (∀ (j : Nat) (c : HVal) (m : MapEntry), ks[j]? = some c → es[j]? = some m → V I c m.key) ∧ ∀ (j : Nat) (c : HVal) (m : MapEntry), vs[j]? = some c → es[j]? = some m → V I c m.val := by
 cases h with
 | hmap h1 h2 h3 h4 h5 => exact ⟨_, _, _, rfl, h1, h2, h3, h4, h5⟩
/-- A frozen map keyed by strings. -/
abbrev hsm (L : zcs) : HVal := .hmap (L.map fun p => .str p.1) (L.map (·.2))
abbrev zoK (S : List (List UInt8)) : HVal := hsm (zaP S)
theorem zqp (L : zcs) : (sk L).map (·.1) = L.map fun p => HVal.str p.1 := by simp [sk, Function.comp_def]
theorem zqn (L : zcs) : (sk L).map (·.2) = L.map (·.2) := by simp [sk, Function.comp_def]
section
variable {e : Env} {dst : Option Tmp} {ty : TypeId} {pos : String} {af : Array Edge} {g : Option (Nat × Bool)}
theorem ziD [Tracks] {x y : Operand} {t kt et : TypeId} {size bytes s2 b2 s3 b3 : Nat} {zero z2 z3 : Value} {d : TD} {ls : zcs} {s : List UInt8}
 (hf : Fits P t (.map kt et) size bytes zero) (hkt : Fits P kt .str s2 b2 z2) (het : Fits P et d s3 b3 z3) (hx : zn e x = some (hsm ls)) (hy : zn e y = some (.str s)) :
 POp P e ⟨dst, .lookup t x y false, ty, pos, af, g⟩ (match zaa s ls with | some p => p.2 | none => zbi z3) :=
 POp.of_run fun I F a w ho hs => by
  obtain ⟨b, es, clk, h1, h3, h4, h4', hK, hV⟩ := (ho.one (x := x) (by simp [Op.operands]) hx).hmap_inv
  have h2 := (ho.one (x := y) (by simp [Op.operands]) hy).str_inv
  have h3 := hs.imm _ _ h3
  have h5 : ∀ (i : Nat) (p : HVal × HVal) (m : MapEntry), (sk ls)[i]? = some p → es[i]? = some m → V I p.1 m.key ∧ V I p.2 m.val := fun i p m a1 a2 => by
   refine ⟨hK i _ m ?_ a2, hV i _ m ?_ a2⟩
   ·rw [← zqp, List.getElem?_map, a1]; rfl
   ·rw [← zqn, List.getElem?_map, a1]; rfl
  obtain ⟨h6, h7⟩ := zeG (by simpa [sk] using h4) h5
  obtain ⟨n1, n2⟩ := zff (I := I) (s := s) es.toList ls 0 h6 h7
  cases hq : zaa s ls with
  | none =>
    refine ⟨z3, w, I, ?_, .refl I, zde I z3, hs⟩
    simp only [execOp, h1, h2, Instr.lookup, Sem.run_bind, run_underlying hf.mapD, Result.andThen_ok, zaA h3, Sem.run_pure, zbv hkt.strD, Instr.findKey, run_underlying hkt.strD, n1 hq, het.run_zero]
    simp
  | some p =>
    obtain ⟨j, h⟩ := p
    obtain ⟨v, g1, g2⟩ := n2 j h hq
    refine ⟨v, w, I, ?_, .refl I, g2, hs⟩
    simp only [execOp, h1, h2, Instr.lookup, Sem.run_bind, run_underlying hf.mapD, Result.andThen_ok, zaA h3, Sem.run_pure, zbv hkt.strD, Instr.findKey, run_underlying hkt.strD, g1]
    simp
theorem zhR [Tracks] {x y : Operand} {t kt et : TypeId} {size bytes s2 b2 s3 b3 : Nat} {zero z2 : Value} {d : TD} {S : List (List UInt8)} {s : List UInt8}
 (hf : Fits P t (.map kt et) size bytes zero) (hkt : Fits P kt .str s2 b2 z2) (het : Fits P et d s3 b3 (.bool false)) (hx : zn e x = some (zoK S)) (hy : zn e y = some (.str s)) :
 POp P e ⟨dst, .lookup t x y false, ty, pos, af, g⟩ (.bool (S.contains s)) := by
 have := ziD (dst := dst) (ty := ty) (pos := pos) (af := af) (g := g) hf hkt het hx hy
 rw [← (zfu s S).1]
 exact this
end
/-- h, seen as h' while it is only read; objects may hold others. -/
inductive Bow (M : List MObj) : HVal → HVal → Prop
 | weak {h h' : HVal} (hw : Weak h h') : Bow M h h'
 | arr {i : Nat} {v : Value} {sz : Nat} {es : List HVal} (hm : M[i]? = some (.arr v sz es)) : Bow M (.raw v) (.slice sz es)
 | cells {i b off : Nat} {cs cs' : List HVal} (hm : M[i]? = some (.cells b cs)) (hl : cs.length = cs'.length) (h : ∀ (j : Nat) (c c' : HVal), cs[j]? = some c → cs'[j]? = some c' → Bow M c c') : Bow M (.raw (.pointer (some ⟨b, off, none⟩))) (.vptr cs' off)
 | map {i b : Nat} {L : zcs} (hm : M[i]? = some (.map b (sk L))) : Bow M (.raw (.map (some b))) (hsm L)
 | vptr {off : Nat} {l l' : List HVal} (hl : l.length = l'.length) (h : ∀ (j : Nat) (c c' : HVal), l[j]? = some c → l'[j]? = some c' → Bow M c c') : Bow M (.vptr l off) (.vptr l' off)
 | fn {f : Fn} {c1 l l' : List HVal} (hl : l.length = l'.length) (h : ∀ (j : Nat) (c c' : HVal), l[j]? = some c → l'[j]? = some c' → Bow M c c') : Bow M (.fn f c1 l) (.fn f c1 l')
def BowL (M : List MObj) : List HVal → List HVal → Prop
 | [], [] => True
 | h :: r, h' :: r' => Bow M h h' ∧ BowL M r r'
 | _, _ => False
theorem BowL.pt {M : List MObj} : ∀ {l l' : List HVal}, BowL M l l' → l.length = l'.length ∧ ∀ (j : Nat) (c c' : HVal), l[j]? = some c → l'[j]? = some c' → Bow M c c'
 | [], [], _ => ⟨rfl, fun j c c' h => by simp at h⟩
 | h :: r, h' :: r', hb => by
   obtain ⟨h1, h2⟩ := BowL.pt hb.2
   refine ⟨by simp [h1], fun j c c' a1 a2 => ?_⟩
   cases j with
   | zero => simp at a1 a2; subst a1 a2; exact hb.1
   | succ j => exact h2 j c c' (by simpa using a1) (by simpa using a2)
 | [], _ :: _, hb => hb.elim
 | _ :: _, [], hb => hb.elim
theorem Bow.cellsL {M : List MObj} {i b off : Nat} {cs cs' : List HVal} (hm : M[i]? = some (.cells b cs)) (h : BowL M cs cs') : Bow M (.raw (.pointer (some ⟨b, off, none⟩))) (.vptr cs' off) := .cells hm h.pt.1 h.pt.2
theorem Bow.vptrL {M : List MObj} {off : Nat} {l l' : List HVal} (h : BowL M l l') : Bow M (.vptr l off) (.vptr l' off) := .vptr h.pt.1 h.pt.2
theorem Bow.fnL {M : List MObj} {f : Fn} {c1 l l' : List HVal} (h : BowL M l l') : Bow M (.fn f c1 l) (.fn f c1 l') := .fn h.pt.1 h.pt.2
theorem Bow.refl {M : List MObj} {h : HVal} : Bow M h h := .weak (Weak.refl _)
theorem V.vptr_inv' {I : Imm} {cs : List HVal} {off : Nat} {v : Value} (h : V I (.vptr cs off) v) : ∃ b base rc el fr, v = .pointer (some ⟨b, base + off, none⟩) ∧ I.heap b = some (.cells rc el fr) ∧ base + cs.length ≤ rc.size ∧
 ∀ (j : Nat) (c : HVal) (v : Value), cs[j]? = some c → rc[base + j]? = some v → V I c v := by
 cases h with
 | vptr h1 h2 h3 => exact ⟨_, _, _, _, _, rfl, h1, h2, h3⟩
theorem Bow.v [Tracks] {M : List MObj} {I : Imm} {F : List MObj} {w : World} {h h' : HVal} (hb : Bow M h h') (hs : Sat P I (M ++ F) w) : ∀ {v : Value}, V I h v → V (zbr w) h' v := by
 induction hb with
 | weak hw => intro v hv; exact hw _ _ (hv.mono hs.le_all)
 | arr hm => intro v hv; exact (Bor.arr hm).v hs hv
 | @cells i b off cs cs' hm hl _ ih =>
   intro v hv
   rw [hv.raw_inv]
   obtain ⟨rc, el, fr, h2, h3, h4⟩ := hs.obj _ (List.mem_append_left _ (List.mem_of_getElem? hm))
   have := V.vptr (I := zbr w) (cs := cs') (off := off) (base := 0) h2 (by have := h4.1; simp at this; omega) fun j c v a1 a2 => by
    have hj := zC a1
    have hj' := List.getElem?_eq_getElem (l := cs) (i := j) (by omega)
    exact ih j _ c hj' a1 (h4.2 j _ v hj' (by simpa using a2))
   rwa [Nat.zero_add] at this
 | @map i b L hm =>
   intro v hv
   rw [hv.raw_inv]
   obtain ⟨es, clk, h1, h2, h3⟩ := hs.obj _ (List.mem_append_left _ (List.mem_of_getElem? hm))
   have hn : es.size = L.length := by simpa [sk] using h2.1
   refine .hmap (I := zbr w) h1 (by simp [hn]) (by simp [hn]) (fun j c m a1 a2 => ?_) (fun j c m a1 a2 => ?_)
   ·rw [← zqp, List.getElem?_map] at a1
    cases hq : (sk L)[j]? with
    | none => rw [hq] at a1; simp at a1
    | some p => rw [hq] at a1; simp at a1; subst a1; exact ((h3 j p m hq a2).1).mono hs.le_all
   ·rw [← zqn, List.getElem?_map] at a1
    cases hq : (sk L)[j]? with
    | none => rw [hq] at a1; simp at a1
    | some p => rw [hq] at a1; simp at a1; subst a1; exact ((h3 j p m hq a2).2).mono hs.le_all
 | @vptr off l l' hl _ ih =>
   intro v hv
   obtain ⟨b, base, rc, el, fr, rfl, h1, h2, h3⟩ := hv.vptr_inv'
   refine .vptr (I := zbr w) (hs.imm _ _ h1) (by omega) fun j c u a1 a2 => ?_
   have hj := zC a1
   have hj' := List.getElem?_eq_getElem (l := l) (i := j) (by omega)
   exact ih j _ c hj' a1 (h3 j _ u hj' a2)
 | @fn f c1 l l' hl _ ih =>
   intro v hv
   cases hv with
   | fn g1 g2 g3 g4 =>
     refine .fn g1 (by omega) (fun j c u a1 a2 => (g3 j c u a1 a2).mono hs.le_all) fun j c u a1 a2 => ?_
     have hj := zC a1
     have hj' := List.getElem?_eq_getElem (l := l) (i := j) (by omega)
     exact ih j _ c hj' a1 (g4 j _ u hj' a2)
theorem BowL.vl [Tracks] {M : List MObj} {I : Imm} {F : List MObj} {w : World} (hs : Sat P I (M ++ F) w) : ∀ {hs1 hs2 : List HVal} {vs : List Value}, BowL M hs1 hs2 → VL I hs1 vs → VL (zbr w) hs2 vs
 | [], [], vs, _, h => ⟨by have := h.1; simpa using this, fun j c v h1 _ => by simp at h1⟩
 | h :: r, h' :: r', [], _, hv => by have := hv.1; simp at this
 | h :: r, h' :: r', v :: vs, hb, hv => VL.cons (hb.1.v hs hv.head) (BowL.vl hs hb.2 hv.tail)
 | [], _ :: _, _, hb, _ => hb.elim
 | _ :: _, [], _, hb, _ => hb.elim
/-- A function that changes nothing, called while objects are owned that it reads; what it yields hangs on no memory. -/
theorem zgg [Tracks] {e : Env} {dst : Option Tmp} {ty : TypeId} {pos : String} {af : Array Edge} {g : Option (Nat × Bool)} {M : List MObj} {K : HVal → List MObj → Prop} {f : FuncId} {args : Array Operand} {ats : Array TypeId} {hs hs' : List HVal} {h : HVal} (hc : Callable P f) (ha : zcx e args.toList = some hs) (hb : BowL M hs hs') (hp : ConP P f hs' h)
 (hg : zfc h = true) (hk : K h M) : EOp P e M ⟨dst, .call ⟨.value (.func f), args, ats⟩, ty, pos, af, g⟩ K := fun I F a w ho hsat => by
 have hrun : (execOp a.eval ⟨dst, .call ⟨.value (.func f), args, ats⟩, ty, pos, af, g⟩).run P w = .ok (.enter f (args.toList.map a.eval).toArray) w := by
  simp [execOp, resolve, Act.eval, Deferred.ofValue, invoke, zdu hc]
  apply Array.ext'; simp
 have hv := zeZ (I := I) (f := a.eval) _ _ ha fun x hx h hh => ho.one (by simp only [Op.operands, Call.operands]; exact Array.mem_append_right _ (by simpa using hx)) hh
 simp only [Oper.wp, hrun, Oper.upon]
 refine (hp (zbr w) [] w _ (hb.vl hsat hv) (by simpa using zok hsat)).mono ?_
 rintro x w' ⟨v, y, M', J, rfl, h1, ⟨rfl, rfl⟩, h3, h4⟩
 exact ⟨v, _, M, I, rfl, .refl I, hk, zmH h3 hg, hsat.back h1 h4⟩
end
section
variable {P : Program}
theorem EOp.fzi [Tracks] {e : Env} {M N : List MObj} {o : Oper} {K : HVal → List MObj → Prop} {sz : Nat} {es : List HVal} (i : Nat) (h : EOp P e M o fun x M' => ∃ v, x = .raw v ∧ M'[i]? = some (.arr v sz es) ∧ M'.eraseIdx i = N) (hk : K (.slice sz es) N) : EOp P e M o K := fun I F a w ho hs =>
 Oper.wp_noQ (fun _ _ ⟨v, x, M', J, h1, h2, ⟨u, h3, h4, h5⟩, h6, h7⟩ => by
  subst h3 h5
  obtain ⟨J', g1, g2, g3⟩ := (h7.pull h4).freeze_arr
  exact ⟨v, _, _, J', h1, h2.trans g1, hk, by rw [h6.raw_inv]; exact g3, g2⟩) (h I F a w ho hs)
end
end Go.HL
namespace Go.Proofs.YtkcnenknbbcoiaaGreatDoor
set_option maxRecDepth 100000
set_option linter.unusedVariables false
set_option linter.unusedSimpArgs false
section
open Go.HL
/-- benchwarmer/play.undone -/
theorem zmg [Tracks] {l : List Play} {n : Int} (hl : l.length ≤ 1000000) : Con Tryz.prog 95 [zgO l, .int .i64 n] [] (fun x M' => ∃ b, x = .raw (.map (some b)) ∧ M' = [.map b (kk zhh (em HVal.bool (zhp l n)))]) := by
 refine Con.of_body Tryz.func95 rfl Tryz.ntmps95 rfl rfl ?_
 refine za ?_
 refine das rfl ?_
 refine dn ?_
 refine za ?_
 refine de rfl (za4 fun m14 => ?_)
 refine das rfl ?_
 refine dn ?_
 refine zf ?_
 refine za ?_
 refine dmv rfl ?_
 refine dq (zv zeP rfl) ?_
 refine dmv rfl ?_
 refine dn ?_
 refine zk ?_
 refine zab [7, 17, 18, 19, 20, 21, 22, 23, 24, 25, 26, 27, 28, 29, 30, 31, 32] (fun (k : Nat) => [(17, .int .i64 k)]) (fun (k : Nat) => [.map m14 (kk zhh (em zja (zjT (l.take k) n)))]) (fun (k : Nat) => k ≤ l.length ∧ (True)) (fun (k : Nat) => l.length - k) (0) ?_ ?_ ?_ ?_
 ·exact ⟨Nat.zero_le _, trivial⟩
 ·exact ⟨rfl, trivial⟩
 ·exact List.Perm.refl _
 ·intro k hinv
  obtain ⟨hk, -⟩ := hinv
  refine za ?_
  refine dq (zK rfl rfl) ?_
  refine dn ?_
  refine zf ?_
  refine ze rfl (fun h1 => ?_) (fun h2 => ?_)
  ·try simp at h1
   obtain ⟨x, hx⟩ : ∃ x, l[k]? = some x := ⟨_, List.getElem?_eq_getElem h1⟩
   have hdx := zI hx
   refine zi ?_
   refine zd ?_
   refine zf ?_
   refine zk ?_
   refine za ?_
   refine dq (zH zeP zY rfl rfl rfl (by assumption)) ?_
   refine dq (zB zY rfl rfl rfl rfl) ?_
   refine de rfl (zO zY rfl fun b7 => ?_)
   refine de0 (zR zY rfl rfl rfl rfl rfl ?_)
   refine dn ?_
   refine zF (Ghost.fc0 7 rfl) ?_
   refine za ?_
   refine dq (zb zY rfl ty3 (by decide) rfl) ?_
   refine dq (zc ty3 rfl rfl rfl) ?_
   refine dmv rfl ?_
   refine dq (zcF rfl rfl) ?_
   refine dn ?_
   refine ze rfl (fun h3 => ?_) (fun h4 => ?_)
   ·try simp at h3
    refine zy ?_
    refine dmv rfl ?_
    refine dq (zb zY rfl ty9 (by decide) rfl) ?_
    refine dq (zc ty9 rfl rfl rfl) ?_
    refine dq (zb zY rfl ty3 (by decide) rfl) ?_
    refine dq (zc ty3 rfl rfl rfl) ?_
    refine dq (zau (cs := [_, _]) zf7 zo9 rfl) ?_
    refine dq (zB zY rfl rfl rfl rfl) ?_
    refine de0 (zh6 (i := 0) (s := (x.Source, x.No)) (v := x) zrK zmt rfl rfl rfl rfl ?_)
    refine dn ?_
    refine zu ?_
    refine zd ?_
    refine zy ?_
    refine dq (zx rfl rfl (by omega) (by omega)) ?_
    refine dmv rfl ?_
    refine dn ?_
    exact ⟨k + 1, ⟨by omega, trivial⟩, by dsimp only; omega, ⟨rfl, trivial⟩, (by repeat (first | exact zo | refine zt rfl ?_ | refine zp rfl rfl ?_)), zU (by dsimp only; rw [zlS hx, zi1, if_pos (by simpa using h3)]; try rfl)⟩
   ·try simp at h4
    refine zi ?_
    refine zu ?_
    refine zd ?_
    refine zy ?_
    refine dq (zx rfl rfl (by omega) (by omega)) ?_
    refine dmv rfl ?_
    refine dn ?_
    exact ⟨k + 1, ⟨by omega, trivial⟩, by dsimp only; omega, ⟨rfl, trivial⟩, (by repeat (first | exact zo | refine zt rfl ?_ | refine zp rfl rfl ?_)), zU (by dsimp only; rw [zlS hx, zi1, if_neg (by simpa using h4)]; try rfl)⟩
  ·try simp at h2
   have hnk : l.length ≤ k := by omega
   obtain rfl : k = l.length := by omega
   refine zL ?_
   refine zS ?_
   refine zap ?_
   refine zD ?_
   refine zd ?_
   rw [List.take_length]
   refine za ?_
   refine de rfl (za4 fun m33 => ?_)
   refine das rfl ?_
   refine dn ?_
   refine zf ?_
   refine za ?_
   refine dmv rfl ?_
   refine dq (zv zeP rfl) ?_
   refine dmv rfl ?_
   refine dn ?_
   refine zk ?_
   refine zab [10, 11, 12, 13, 36, 37, 38, 39, 40, 41, 42, 43, 44, 45, 46, 47, 48, 49, 50, 51, 52, 53, 54, 55, 56, 57, 58, 59, 60, 61, 62, 63, 64, 65, 66, 67, 68, 69, 70, 71, 72, 73, 74, 75, 76, 77, 78, 79, 80, 81, 82, 83, 84, 85, 86, 87, 88, 89] (fun (k : Nat) => [(36, .int .i64 k)]) (fun (k : Nat) => [.map m33 (kk zhh (em HVal.bool (ziT (zjT l n) n (l.take k)))), .map m14 (kk zhh (em zja (zjT l n)))]) (fun (k : Nat) => k ≤ l.length ∧ (True)) (fun (k : Nat) => l.length - k) (0) ?_ ?_ ?_ ?_
   ·exact ⟨Nat.zero_le _, trivial⟩
   ·exact ⟨rfl, trivial⟩
   ·exact List.Perm.refl _
   ·intro k hinv
    obtain ⟨hk, -⟩ := hinv
    refine za ?_
    refine dq (zK rfl rfl) ?_
    refine dn ?_
    refine zf ?_
    refine ze rfl (fun h5 => ?_) (fun h6 => ?_)
    ·try simp at h5
     obtain ⟨x, hx⟩ : ∃ x, l[k]? = some x := ⟨_, List.getElem?_eq_getElem h5⟩
     have hdx := zI hx
     refine zi ?_
     refine zd ?_
     refine zf ?_
     refine zk ?_
     refine za ?_
     refine dq (zH zeP zY rfl rfl rfl (by assumption)) ?_
     refine dq (zB zY rfl rfl rfl rfl) ?_
     refine de rfl (zO zY rfl fun b10 => ?_)
     refine de0 (zR zY rfl rfl rfl rfl rfl ?_)
     refine dn ?_
     refine zF (Ghost.fc0 10 rfl) ?_
     refine zf ?_
     refine za ?_
     refine dq (zb zY rfl ty3 (by decide) rfl) ?_
     refine dq (zc ty3 rfl rfl rfl) ?_
     refine dmv rfl ?_
     refine dq (z6 rfl rfl) ?_
     refine dmv rfl ?_
     refine dg rfl rfl (fun hc => ⟨_, OpenTo.refl _, zb zY rfl ty3 (by decide) rfl⟩) ?_
     refine dg rfl rfl (fun hc => ⟨_, OpenTo.upd (t := 45) rfl (hc) (OpenTo.refl _), zc ty3 rfl rfl rfl⟩) ?_
     refine dg rfl rfl (fun hc => ⟨_, OpenTo.upd (t := 46) rfl (hc) (OpenTo.refl _), zaz rfl rfl⟩) ?_
     refine dq (zw rfl (.inl rfl) (.inr ⟨_, rfl, fun h => by simp_all⟩)) ?_
     refine dn ?_
     refine ze rfl (fun h7 => ?_) (fun h8 => ?_)
     ·try simp at h7
      refine zL ?_
      refine zS ?_
      refine zD ?_
      refine zd ?_
      refine zy ?_
      refine dq (zx rfl rfl (by omega) (by omega)) ?_
      refine dmv rfl ?_
      refine dn ?_
      exact ⟨k + 1, ⟨by omega, trivial⟩, by dsimp only; omega, ⟨rfl, trivial⟩, (by repeat (first | exact zo | refine zt rfl ?_ | refine zp rfl rfl ?_)), zU (by dsimp only; rw [zgj hx, zfN, if_pos (by simpa using h7)]; try rfl)⟩
     ·try simp at h8
      refine zi ?_
      refine zd ?_
      refine za ?_
      refine dq (zb zY rfl ty9 (by decide) rfl) ?_
      refine dq (zc ty9 rfl rfl rfl) ?_
      refine dq (zb zY rfl ty3 (by decide) rfl) ?_
      refine dq (zc ty3 rfl rfl rfl) ?_
      refine dq (zau (cs := [_, _]) zf7 zo9 rfl) ?_
      refine de rfl (zO zf7 rfl fun b11 => ?_)
      refine de0 (zR zf7 rfl rfl rfl rfl rfl ?_)
      refine dn ?_
      refine zF (Ghost.fc0 11 rfl) ?_
      refine za ?_
      refine dmv rfl ?_
      refine dq (zB zf7 rfl rfl rfl rfl) ?_
      refine de rfl (zmo (i := 1) (s := (x.Source, x.Undo)) (z0 := zkI) zrK zmt zY rfl rfl rfl rfl ?_)
      refine dmv rfl ?_
      refine dq (zJ rfl rfl) ?_
      refine dq (zJ rfl rfl) ?_
      refine de rfl (zO zY rfl fun b12 => ?_)
      refine de0 (zR zY rfl rfl rfl rfl rfl ?_)
      refine das rfl ?_
      refine dn ?_
      refine zF (Ghost.fc0 12 rfl) ?_
      refine za ?_
      refine dmv rfl ?_
      refine dmv rfl ?_
      refine dg rfl rfl (fun hc => ⟨_, OpenTo.refl _, zb zY rfl ty3 (by decide) rfl⟩) ?_
      refine dg rfl rfl (fun hc => ⟨_, OpenTo.upd (t := 62) rfl (hc) (OpenTo.refl _), zc ty3 rfl rfl rfl⟩) ?_
      refine dg rfl rfl (fun hc => ⟨_, OpenTo.upd (t := 63) rfl (hc) (OpenTo.refl _), zaz rfl rfl⟩) ?_
      refine dq (zw rfl (.inr ⟨_, rfl, fun h => by simp_all⟩) (.inl rfl)) ?_
      refine dmv rfl ?_
      refine dg rfl rfl (fun hc => ⟨_, OpenTo.refl _, zb zY rfl ty9 (by decide) rfl⟩) ?_
      refine dg rfl rfl (fun hc => ⟨_, OpenTo.upd (t := 67) rfl (hc) (OpenTo.refl _), zc ty9 rfl rfl rfl⟩) ?_
      refine dg rfl rfl (fun hc => ⟨_, OpenTo.refl _, zb zY rfl ty9 (by decide) rfl⟩) ?_
      refine dg rfl rfl (fun hc => ⟨_, OpenTo.upd (t := 69) rfl (hc) (OpenTo.refl _), zc ty9 rfl rfl rfl⟩) ?_
      refine dg rfl rfl (fun hc => ⟨_, OpenTo.upd (t := 70) rfl (hc) (OpenTo.upd (t := 68) rfl (hc) (OpenTo.refl _)), zbh rfl rfl⟩) ?_
      refine dq (zw rfl (.inr ⟨_, rfl, fun h => by simp_all⟩) (.inl rfl)) ?_
      refine dmv rfl ?_
      refine dg rfl rfl (fun hc => ⟨_, OpenTo.refl _, zb zY rfl ty9 (by decide) rfl⟩) ?_
      refine dg rfl rfl (fun hc => ⟨_, OpenTo.upd (t := 74) rfl (hc) (OpenTo.refl _), zc ty9 rfl rfl rfl⟩) ?_
      refine dg rfl rfl (fun hc => ⟨_, OpenTo.refl _, zb zY rfl ty9 (by decide) rfl⟩) ?_
      refine dg rfl rfl (fun hc => ⟨_, OpenTo.upd (t := 76) rfl (hc) (OpenTo.refl _), zc ty9 rfl rfl rfl⟩) ?_
      refine dg rfl rfl (fun hc => ⟨_, OpenTo.upd (t := 77) rfl (hc) (OpenTo.upd (t := 75) rfl (hc) (OpenTo.refl _)), zbh rfl rfl⟩) ?_
      refine dq (zw rfl (.inr ⟨_, rfl, fun h => by simp_all⟩) (.inl rfl)) ?_
      refine dmv rfl ?_
      refine dg rfl rfl (fun hc => ⟨_, OpenTo.refl _, zb zY rfl ty9 (by decide) rfl⟩) ?_
      refine dg rfl rfl (fun hc => ⟨_, OpenTo.upd (t := 81) rfl (hc) (OpenTo.refl _), zc ty9 rfl rfl rfl⟩) ?_
      refine dg rfl rfl (fun hc => ⟨_, OpenTo.refl _, zb zY rfl ty9 (by decide) rfl⟩) ?_
      refine dg rfl rfl (fun hc => ⟨_, OpenTo.upd (t := 83) rfl (hc) (OpenTo.refl _), zc ty9 rfl rfl rfl⟩) ?_
      refine dg rfl rfl (fun hc => ⟨_, OpenTo.upd (t := 84) rfl (hc) (OpenTo.upd (t := 82) rfl (hc) (OpenTo.refl _)), zbh rfl rfl⟩) ?_
      refine dq (zw rfl (.inr ⟨_, rfl, fun h => by simp_all⟩) (.inl rfl)) ?_
      refine dn ?_
      refine ze rfl (fun h9 => ?_) (fun h10 => ?_)
      ·try simp at h9
       refine zy ?_
       refine dmv rfl ?_
       refine dq (zB zf7 rfl rfl rfl rfl) ?_
       refine de0 (zh6 (i := 0) (s := (x.Source, x.Undo)) (v := true) zrJ zmt rfl rfl rfl rfl ?_)
       refine dn ?_
       refine zu ?_
       refine zd ?_
       refine zy ?_
       refine dq (zx rfl rfl (by omega) (by omega)) ?_
       refine dmv rfl ?_
       refine dn ?_
       exact ⟨k + 1, ⟨by omega, trivial⟩, by dsimp only; omega, ⟨rfl, trivial⟩, (by repeat (first | exact zo | refine zt rfl ?_ | refine zp rfl rfl ?_)), zU (by dsimp only; rw [zgj hx, zfN, if_neg (by simp_all; try omega), if_pos (by simp_all [znQ])]; try rfl)⟩
      ·try simp at h10
       refine zi ?_
       refine zu ?_
       refine zd ?_
       refine zy ?_
       refine dq (zx rfl rfl (by omega) (by omega)) ?_
       refine dmv rfl ?_
       refine dn ?_
       exact ⟨k + 1, ⟨by omega, trivial⟩, by dsimp only; omega, ⟨rfl, trivial⟩, (by repeat (first | exact zo | refine zt rfl ?_ | refine zp rfl rfl ?_)), zU (by dsimp only; rw [zgj hx, zfN, if_neg (by simp_all; try omega), if_neg (by simp_all [znQ])]; try rfl)⟩
    ·try simp at h6
     have hnk : l.length ≤ k := by omega
     obtain rfl : k = l.length := by omega
     refine zL ?_
     refine zS ?_
     refine zap ?_
     refine zD ?_
     refine zd ?_
     rw [List.take_length]
     refine zF (Ghost.only (i := 0) rfl) ?_
     refine za ?_
     refine dmv rfl ?_
     refine das rfl ?_
     refine dn ?_
     refine zg ?_
     exact zcw rfl ⟨_, rfl, rfl⟩

/-- benchwarmer/play.byName -/
theorem zmn [Tracks] {a b : StatS}  : ConP Tryz.prog 144 [zcg a, zcg b] (.int .i64 (zk6 a b)) := by
 refine Con.of_body Tryz.func144 rfl Tryz.ntmps144 rfl rfl ?_
 refine za ?_
 refine dq (zam rfl rfl) ?_
 refine dq (zam rfl rfl) ?_
 refine das rfl ?_
 refine dn ?_
 refine za ?_
 refine dq (zb zkP rfl ty9 (by decide) rfl) ?_
 refine dq (zc ty9 rfl rfl rfl) ?_
 refine dq (zb zkP rfl ty9 (by decide) rfl) ?_
 refine dq (zc ty9 rfl rfl rfl) ?_
 refine dq (zj zlg rfl (WeakL.refl _) zbE) ?_
 refine das rfl ?_
 refine dn ?_
 refine zg ?_
 refine zm rfl ?_
 rfl

/-- slices.SortFunc -/
theorem znZ [Tracks] {c : StatS → StatS → Int} (hO : Go.Sort.SWO (Go.Proofs.ltOf c)) {g : FuncId} (hg : Callable Tryz.prog g) {cap : List HVal} (hc : ∀ x y, @ConP zfB Tryz.prog g (zcg x :: zcg y :: cap) (.int .i64 (c x y))) {l : List StatS} (hl : l.length ≤ 1000000) {v : Value} :
 Con Tryz.prog 143 [.raw v, .fn (.func g) [] cap] [.arr v 2 (l.map zcg)] fun x M' => ∃ l' : List StatS, x = .tup [] ∧ l'.Perm l ∧ l'.Pairwise (fun a b => ¬ c b a < 0) ∧ M' = [.arr v 2 (l'.map zcg)] :=
 zl4 (e := zcg) Tryz.g143 (Tryz.isAgg218) (Tryz.sizeOf218) (fun _ => rfl) (fun _ => rfl) (fun _ => rfl) hO hg hc hl

theorem zoj [Tracks] (m : Nat) : Go.Proofs.AnyZ.SortsIn Tryz.prog Tryz.g8_ren Fence.wide m :=
 ⟨fun blk off cap ss W hH hblk hsz => callsIn_wide.2 (AnyM.slices_Sort_string Tryz.g35 blk off cap ss W hH hblk hsz), fun p cap W => callsIn_wide.2 (AnyM.slices_Sort_string_none Tryz.g35 p cap W)⟩
theorem zoQ [Tracks] {b : Nat} : Con Tryz.prog 142 [.raw (.map (some b))] [] fun x M' => ∃ bx, x = .fn (.func 172) [] [.raw (.pointer (some ⟨bx, 0, none⟩))] ∧ M' = [.cells bx [.raw (.map (some b))]] :=
 zq5 (ρ := Tryz.g142_ren) Tryz.g142
theorem zkL [Tracks] (hT : Tracks.on = false) {S : List Str} (hn : S.Nodup) (hl : ∀ s ∈ S, s.length ≤ 1000000) (hs : S.length ≤ 1000000) {b bx : Nat} :
 Con Tryz.prog 8 [.fn (.func 172) [] [.raw (.pointer (some ⟨bx, 0, none⟩))]] [.cells bx [.raw (.map (some b))], .map b (sk (zaP S))] fun x M' => ∃ v, x = .raw v ∧ M' = [.arr v 1 ((zar S).map .str), .map b (sk (zaP S))] :=
 zme hT (ρ := Tryz.g8_ren) (ρk := Tryz.g142_ren) Tryz.g8 Tryz.g142 zoj (enters_of Tryz.func35 (by kernel_rfl) rfl) (enters_of Tryz.func172 (by kernel_rfl) rfl) hn hl hs

set_option maxHeartbeats 1000000 in
/-- (benchwarmer/play.counted).lines -/
theorem zg7 [Tracks] {b0 b1 : Nat} {c : List (Of2 × Int)} {S : List Str} {week : Int} (hT : Tracks.on = false) (hn : ANodup c) (hSn : S.Nodup) (hSk : ∀ s ∈ S, s.length ≤ 40) (hc : c.length ≤ 1000000) (hSl : S.length ≤ 1000000) : Con Tryz.prog 96 [.raw (.map (some b0)), .raw (.map (some b1)), .int .i64 week] [.map b0 (kk eOf (em (HVal.int .i64) c)), .map b1 (sk (zaP S))] (fun x M' => x = .tup [zng (zfy c S week), .int .i64 (zfz c S)] ∧ M' = []) := by
 refine Con.of_body Tryz.func96 rfl Tryz.ntmps96 rfl rfl ?_
 refine za ?_
 refine das rfl ?_
 refine das rfl ?_
 refine dn ?_
 refine za ?_
 refine de rfl (za4 fun m15 => ?_)
 refine das rfl ?_
 refine dn ?_
 refine zf ?_
 refine za ?_
 refine dmv rfl ?_
 refine de rfl (zl8 (i := 1) zmu rfl rfl fun r => ?_)
 refine dn ?_
 refine zk ?_
 refine zdt [6, 7, 9, 10, 18, 19, 20, 21, 22, 23, 24, 25, 26, 27, 28, 29, 30, 31, 32, 33, 34, 35, 36, 37, 38, 39, 40, 41] (fun (vis : List Nat) (E : List (Of2 × Int)) (G : Grp StatS) => []) (fun (vis : List Nat) (E : List (Of2 × Int)) (G : Grp StatS) => [.map m15 (sk (em fG G)), .iter r b0 (kk eOf (em (HVal.int .i64) c)) vis, .map b1 (sk (zaP S))] ++ grp 2 zcg G) (fun (vis : List Nat) (E : List (Of2 × Int)) (G : Grp StatS) => VisOk (c) vis E ∧ (GOk E G ∧ ∀ y ∈ E, out y.2 (-100000) 100000 = false)) (fun (vis : List Nat) (E : List (Of2 × Int)) (G : Grp StatS) => (c).length - vis.length) ([]) ([]) ([]) ?_ ?_ ?_ ?_
 ·exact ⟨VisOk.nil _, GOk.nil, fun y h => by cases h⟩
 ·exact trivial
 ·exact zU rfl
 ·intro vis E G hinv
  obtain ⟨hvis, hG, hO⟩ := hinv
  refine za ?_
  refine de rfl (zlZ (i := 1) (L := c) (enc := (fun p : Of2 × Int => (eOf p.1, HVal.int .i64 p.2))) rfl rfl (zrH _ _ _) hvis.nd hvis.lt fun cb R vis' hnx => ?_)
  refine dq (zJ rfl rfl) ?_
  refine dn ?_
  refine zf ?_
  refine ze rfl (fun h1 => ?_) (fun h2 => ?_)
  ·try simp at h1
   obtain ⟨j, q, hq, hj, rfl⟩ := hnx.t h1
   have hroom := hvis.room hq hj
   have hstep := hvis.step hq hj
   have hqm := List.mem_of_getElem? hq
   refine zi ?_
   refine zd ?_
   refine zk ?_
   refine za ?_
   refine de rfl (zky (i := 1) (L := c) (enc := (fun p : Of2 × Int => (eOf p.1, HVal.int .i64 p.2))) rfl rfl (zrH _ _ _) hq ?_)
   refine dq (zJ rfl rfl) ?_
   refine dq (zJ rfl rfl) ?_
   refine de rfl (zO zg5 rfl fun b9 => ?_)
   refine de0 (zR zg5 rfl rfl rfl rfl rfl ?_)
   refine das rfl ?_
   refine dn ?_
   refine zF (Ghost.fc0 9 rfl) ?_
   refine zk ?_
   refine za ?_
   refine dmv rfl ?_
   refine dq (zj zcI rfl (WeakL.refl _) zaC) ?_
   refine das rfl ?_
   refine dn ?_
   refine ze rfl (fun h3 => ?_) (fun h4 => ?_)
   ·try simp at h3
    refine za ?_
    refine das rfl ?_
    refine das rfl ?_
    refine dn ?_
    refine zg ?_
    exact ⟨_, [], Ghost.clear, _, _, rfl, zbn (zaV 3) (Weak.refl _), by have hf := zpt (S := S) hqm (by simpa using h3); rw [zfy, zfz, hf]; rfl, rfl⟩
   ·try simp at h4
    refine za ?_
    refine dmv rfl ?_
    refine dq (zah rfl rfl) ?_
    refine das rfl ?_
    refine dn ?_
    refine ze rfl (fun h5 => ?_) (fun h6 => ?_)
    ·try simp at h5
     refine zF (Ghost.of_eq (M' := [.map m15 (sk (em fG G)), .iter r b0 (kk eOf (em (HVal.int .i64) c)) (vis ++ [j]), .map b1 (sk (zaP S))] ++ grp 2 zcg G) rfl) ?_
     refine zb2 (fun _ => True) [] mixed ?_
     refine ahp 0 rfl rfl (by kernel_rfl) (by kernel_rfl) (zh rfl) ?_
     refine ahp 1 rfl rfl (by kernel_rfl) (by kernel_rfl) ((zb zg5 rfl ty9 (by decide) rfl)) ?_
     refine ahp 2 rfl rfl (by kernel_rfl) (by kernel_rfl) (zc ty9 rfl rfl rfl) ?_
     refine ahp 3 rfl rfl (by kernel_rfl) (by kernel_rfl) (zh rfl) ?_
     refine ahp 4 rfl rfl (by kernel_rfl) (by kernel_rfl) ((zb zg5 rfl ty9 (by decide) rfl)) ?_
     refine ahp 5 rfl rfl (by kernel_rfl) (by kernel_rfl) (zc ty9 rfl rfl rfl) ?_
     refine ahp 7 rfl rfl (by kernel_rfl) (by kernel_rfl) ((zb zg5 rfl ty9 (by decide) rfl)) ?_
     refine ahp 8 rfl rfl (by kernel_rfl) (by kernel_rfl) (zc ty9 rfl rfl rfl) ?_
     refine ahp 9 rfl rfl (by kernel_rfl) (by kernel_rfl) (zh rfl) ?_
     refine ahp 10 rfl rfl (by kernel_rfl) (by kernel_rfl) (zau (cs := [_, _]) zkP ztD rfl) ?_
     refine ahp 11 rfl rfl (by kernel_rfl) (by kernel_rfl) (zG (hs := [_]) zg1 zkP rfl rfl (by decide) (by decide) rfl) ?_
     refine ahe 6 rfl (by kernel_rfl) ?_
     refine zaE rfl (zgl (i := 0) (z0 := gZ StatS) zo7 ty9 zg1 rfl rfl rfl rfl ?_)
     refine ⟨fun _ => .inl trivial, ?_⟩
     refine ahe 12 rfl (by kernel_rfl) ?_
     refine zaE rfl (zlv (A := [.map m15 (sk (em fG G)), .iter r b0 (kk eOf (em (HVal.int .i64) c)) (vis ++ [j]), .map b1 (sk (zaP S))]) (G := G) (s := q.1.1) (ys := [⟨q.1.2, q.2⟩]) (eb := zcg) zg1 zkP rfl rfl rfl rfl (by simp [za6, zl]) (by have := zjE E q.1.1; rw [← hG.raw] at this; have := hvis.len; simp only [List.length_cons, List.length_nil]; omega) fun v41 => ?_)
     refine ⟨fun _ => .inl trivial, ?_⟩
     refine ahe 13 rfl (by kernel_rfl) ?_
     refine zbq (zdV (i := 0) (f := fG) (L := G) (v := (v41, gL q.1.1 G ++ [⟨q.1.2, q.2⟩])) zo7 ty9 rfl rfl rfl rfl ?_)
     refine ⟨fun _ => .inl trivial, ?_⟩
     refine ahz (by kernel_rfl) ?_
     refine zu ?_
     refine zu ?_
     have hO' : ∀ y ∈ E ++ [q], out y.2 (-100000) 100000 = false := fun y hy => by
      rcases List.mem_append.1 hy with hy | hy
      ·exact hO y hy
      ·rw [List.mem_singleton.1 hy]; simpa using h4
     exact ⟨_, E ++ [q], _, ⟨hstep, hG.put (by simpa using h5) v41, hO'⟩, by dsimp only; rw [List.length_append]; simp only [List.length_cons, List.length_nil]; omega, trivial, (by repeat (first | exact zo | refine zt rfl ?_ | refine zp rfl rfl ?_)), zU rfl⟩
    ·try simp at h6
     refine zi ?_
     refine zu ?_
     refine zu ?_
     have hO' : ∀ y ∈ E ++ [q], out y.2 (-100000) 100000 = false := fun y hy => by
      rcases List.mem_append.1 hy with hy | hy
      ·exact hO y hy
      ·rw [List.mem_singleton.1 hy]; simpa using h4
     exact ⟨_, E ++ [q], G, ⟨hstep, hG.skip (by simpa using h6), hO'⟩, by dsimp only; rw [List.length_append]; simp only [List.length_cons, List.length_nil]; omega, trivial, (by repeat (first | exact zo | refine zt rfl ?_ | refine zp rfl rfl ?_)), zU rfl⟩
  ·try simp at h2
   obtain ⟨rfl, hlen⟩ := hnx.f h2
   have hEp := hvis.done hlen
   refine zL ?_
   refine zS ?_
   refine zee ?_
   refine zD ?_
   refine zd ?_
   refine zF (Ghost.iterOver (i := 1) rfl) ?_
   refine zF (Ghost.of_eq (M' := [.map m15 (sk (em fG G)), .map b0 (kk eOf (em (HVal.int .i64) c)), .map b1 (sk (zaP S))] ++ grp 2 zcg G) rfl) ?_
   refine za ?_
   refine das rfl ?_
   refine dn ?_
   refine zf ?_
   refine za ?_
   refine dmv rfl ?_
   refine de rfl (zaK (M1 := []) (R := _) ztN rfl (WeakL.refl _) (List.Perm.refl _) zoQ ?_)
   rintro _ _ ⟨bx, rfl, rfl⟩
   refine de rfl (EOp.fzi (N := [.map b1 (sk (zaP S)), .map b0 (kk eOf (em (HVal.int .i64) c))] ++ ([.map m15 (sk (em fG G))] ++ grp 2 zcg G)) (sz := 1) (es := (zar S).map .str) 0 (zaK (M1 := [.cells bx [.raw (.map (some b1))], .map b1 (sk (zaP S))]) (R := [.map b0 (kk eOf (em (HVal.int .i64) c))] ++ ([.map m15 (sk (em fG G))] ++ grp 2 zcg G)) ca8 rfl (WeakL.refl _) (by exact ztj) (zkL hT hSn (fun s hs => Nat.le_trans (hSk s hs) (by decide)) hSl) (by rintro _ _ ⟨v, rfl, rfl⟩; exact ⟨v, rfl, rfl, rfl⟩)) ?_)
   refine dq (zv zA rfl) ?_
   refine dmv rfl ?_
   refine dn ?_
   refine zF (Ghost.suffix (R := [_, _])) ?_
   refine zF (Ghost.arr_nil 3) ?_
   have hSSl : (zar S).length ≤ 1000000 := by rw [zch]; exact hSl
   have hSS : (zar S).Nodup := (zhc S).nodup_iff.2 hSn
   refine zk ?_
   refine zaS [6, 7, 11, 13, 14, 46, 47, 48, 49, 50, 51, 52, 53, 54, 55, 56, 57, 58, 59, 60, 61, 62, 63, 64, 65] (fun (k : Nat) (u : Value) => [(46, .int .i64 k), (11, .raw u)]) (fun (k : Nat) (u : Value) => [.arr u 3 (((zar S).take k).map fun s => zmw ⟨s, week, zeM c s⟩), .map m15 (sk (em fG G))] ++ grp 2 zcg (zev G ((zar S).take k))) (fun (k : Nat) (u : Value) => k ≤ (zar S).length ∧ (∀ s ∈ (zar S).take k, ¬ 40 < (zbe c s).length)) (fun (k : Nat) (u : Value) => (zar S).length - k) (0) (.slice none 0 0) ?_ ?_ ?_ ?_
   ·exact ⟨Nat.zero_le _, fun s h => by simp at h⟩
   ·exact ⟨rfl, rfl, trivial⟩
   ·exact zU (by simp [zq7])
   ·intro k u hinv
    obtain ⟨hk, hg⟩ := hinv
    refine za ?_
    refine dq (zK rfl rfl) ?_
    refine dn ?_
    refine zf ?_
    refine ze rfl (fun h7 => ?_) (fun h8 => ?_)
    ·try simp at h7
     obtain ⟨x, hx⟩ : ∃ x, (zar S)[k]? = some x := ⟨_, List.getElem?_eq_getElem h7⟩
     have hdx := zI hx
     refine zi ?_
     refine zd ?_
     refine zf ?_
     refine zk ?_
     refine za ?_
     refine dq (zH zA ty9 rfl rfl rfl (by assumption)) ?_
     refine dq (zc ty9 rfl rfl rfl) ?_
     refine das rfl ?_
     refine dn ?_
     refine za ?_
     refine dmv rfl ?_
     refine dmv rfl ?_
     refine de rfl (zgl (i := 1) (z0 := gZ StatS) zo7 ty9 zg1 rfl rfl rfl rfl ?_)
     refine das rfl ?_
     refine dn ?_
     have hnx := zph hSS hx
     have hxS : x ∈ S := (zhc S).mem_iff.1 (List.mem_of_getElem? hx)
     refine zF (Ghost.grp_take (A := [.arr u 3 (((zar S).take k).map fun s => zmw ⟨s, week, zeM c s⟩), .map m15 (sk (em fG G))]) (G := zev G ((zar S).take k)) (G' := G) (s := x) (zoU hG.nd) (zqU hnx)) ?_
     rw [zp0]
     refine zf ?_
     refine za ?_
     refine dmv rfl ?_
     refine de rfl (zj2 (i := 0) (es := gL x G) zg1 rfl rfl ?_)
     refine dq (z6 rfl rfl) ?_
     refine dn ?_
     refine ze rfl (fun h9 => ?_) (fun h10 => ?_)
     ·try simp at h9
      refine za ?_
      refine das rfl ?_
      refine das rfl ?_
      refine dn ?_
      refine zg ?_
      exact ⟨_, [], Ghost.clear, _, _, rfl, zbn (zaV 3) (Weak.refl _), by have hf := zpj (c := c) hxS (by rw [← zne hEp hG]; omega); rw [zfy, zfz, hf]; rfl, rfl⟩
     ·try simp at h10
      refine zi ?_
      refine zd ?_
      refine za ?_
      refine dmv rfl ?_
      refine de rfl (zaK (M1 := [.arr (gV x G) 2 ((gL x G).map zcg)]) (R := [.arr u 3 (((zar S).take k).map fun s => zmw ⟨s, week, zeM c s⟩), .map m15 (sk (em fG G))] ++ grp 2 zcg (zev G ((zar S).take k ++ [x]))) ztf rfl (WeakL.refl _) (List.Perm.refl _) (znZ (c := zk6) (zop znn) ztO (fun _ _ => @zmn zfB _ _) (l := gL x G) (by have := zjE c x; rw [zne hEp hG]; omega)) ?_)
      rintro _ _ ⟨l', rfl, hp', hw', rfl⟩
      obtain rfl := zmP hEp hn hG hp' hw'
      refine dn ?_
      refine zF (Ghost.fa 14 (i := 0) rfl rfl) ?_
      refine zy ?_
      refine dmv rfl ?_
      refine dmv rfl ?_
      refine dmv rfl ?_
      refine dmv rfl ?_
      refine dq (zau (cs := [_, _, _]) znD pl89 rfl) ?_
      refine dq (zG (hs := [_]) zpl znD rfl rfl (by decide) (by decide) rfl) ?_
      refine de rfl (zaO (i := 0) zpl znD rfl rfl rfl rfl rfl (by simp [za6, zl]) (by have := zch S; simp only [List.length_map, List.length_cons, List.length_nil, List.length_take]; omega) fun v64 => ?_)
      refine das rfl ?_
      refine dn ?_
      refine zu ?_
      refine zd ?_
      refine zy ?_
      refine dq (zx rfl rfl (by omega) (by omega)) ?_
      refine dmv rfl ?_
      refine dn ?_
      refine ⟨k + 1, v64, ⟨by omega, fun s hs => ?_⟩, by dsimp only; omega, ⟨rfl, rfl, trivial⟩, (by repeat (first | exact zo | refine zt rfl ?_ | refine zp rfl rfl ?_)), zU (by dsimp only; rw [zae hx, List.map_append]; rfl)⟩
      rw [zae hx] at hs
      rcases List.mem_append.1 hs with hs | hs
      ·exact hg s hs
      ·rw [List.mem_singleton.1 hs, ← zne hEp hG]; omega
    ·try simp at h8
     have hnk : (zar S).length ≤ k := by omega
     obtain rfl : k = (zar S).length := by omega
     refine zL ?_
     refine zS ?_
     refine za8 ?_
     refine zD ?_
     refine zd ?_
     rw [List.take_length] at hg ⊢
     refine zF (Ghost.only (i := 0) rfl) ?_
     refine za ?_
     refine dmv rfl ?_
     refine das rfl ?_
     refine das rfl ?_
     refine dn ?_
     refine zg ?_
     (refine zgU (M := []) 6 rfl rfl ?_
      have hf := zpS (c := c) (S := S) (fun y hy => hO y (hEp.mem_iff.2 hy)) (fun s hs => hg s ((zhc S).mem_iff.2 hs))
      rw [zfy, zfz, hf]; simp [Function.comp_def, zbi, zfa])

end
section
open Go.HL
set_option maxHeartbeats 1000000 in
/-- benchwarmer/play.lines -/
theorem znm [Tracks] {l : List Play} {trust : List Str} {week n : Int} (hT : Tracks.on = false) (hl : l.length ≤ 3000) (ht : trust.length ≤ 1000000) (ok : ∀ x ∈ l, playFault x = 0) : ConP Tryz.prog 56 [zgO l, eSs trust, .int .i64 week, .int .i64 n] (.tup [zng (znR l trust week n), .int .i64 (znx l trust week n)]) := by
 refine Con.of_body Tryz.func56 rfl Tryz.ntmps56 rfl rfl ?_
 refine za ?_
 refine das rfl ?_
 refine das rfl ?_
 refine dn ?_
 refine za ?_
 refine dmv rfl ?_
 refine dmv rfl ?_
 refine dmv rfl ?_
 refine de rfl (zaK (M1 := []) (R := []) ca94 rfl (WeakL.refl _) (List.Perm.refl _) (znW (l := l) (trust := trust) (n := n) (by omega) ht) ?_)
 rintro _ _ ⟨b19, O19, rfl, hn19, hO19, rfl⟩
 refine dmv rfl ?_
 refine dmv rfl ?_
 refine de rfl (zaK (M1 := []) (R := _) ca95 rfl (WeakL.refl _) (List.Perm.refl _) (zmg (l := l) (n := n) (by omega)) ?_)
 rintro _ _ ⟨b22, rfl, rfl⟩
 refine das rfl ?_
 refine das rfl ?_
 refine dn ?_
 refine za ?_
 refine de rfl (za4 fun m23 => ?_)
 refine de rfl (za4 fun m24 => ?_)
 refine das rfl ?_
 refine das rfl ?_
 refine dn ?_
 refine zf ?_
 refine za ?_
 refine dmv rfl ?_
 refine dq (zv zeP rfl) ?_
 refine dmv rfl ?_
 refine dn ?_
 refine zk ?_
 refine zab [15, 27, 28, 29, 30, 31, 32, 33, 34, 35, 36, 37, 38, 39, 40, 41, 42, 43, 44, 45, 46, 47, 48, 49, 50, 51, 52, 53, 54, 55, 56, 57, 58, 59, 60, 61, 62, 63, 64, 65, 66, 67, 68, 69, 70, 71, 72, 73, 74, 75, 76, 77, 78, 79] (fun (k : Nat) => [(27, .int .i64 k)]) (fun (k : Nat) => [.map m24 (kk eOf (em (HVal.int .i64) (zdr l trust week n (l.take k)).c)), .map m23 (sk (zaP (zdr l trust week n (l.take k)).S)), .map b22 (kk zhh (em HVal.bool (zhp l n))), .map b19 (sk (em HVal.str O19))]) (fun (k : Nat) => k ≤ l.length ∧ (True)) (fun (k : Nat) => l.length - k) (0) ?_ ?_ ?_ ?_
 ·exact ⟨Nat.zero_le _, trivial⟩
 ·exact ⟨rfl, trivial⟩
 ·exact zU rfl
 ·intro k hinv
  obtain ⟨hk, -⟩ := hinv
  refine za ?_
  refine dq (zK rfl rfl) ?_
  refine dn ?_
  refine zf ?_
  refine ze rfl (fun h1 => ?_) (fun h2 => ?_)
  ·try simp at h1
   obtain ⟨x, hx⟩ : ∃ x, l[k]? = some x := ⟨_, List.getElem?_eq_getElem h1⟩
   have hdx := zI hx
   refine zi ?_
   refine zd ?_
   refine zf ?_
   refine zk ?_
   refine za ?_
   refine dq (zH zeP zY rfl rfl rfl (by assumption)) ?_
   refine dq (zB zY rfl rfl rfl rfl) ?_
   refine de rfl (zO zY rfl fun b15 => ?_)
   refine de0 (zR zY rfl rfl rfl rfl rfl ?_)
   refine dn ?_
   refine zF (Ghost.fc0 15 rfl) ?_
   refine zf ?_
   refine za ?_
   refine dq (zb zY rfl ty3 (by decide) rfl) ?_
   refine dq (zc ty3 rfl rfl rfl) ?_
   refine dmv rfl ?_
   refine dq (z6 rfl rfl) ?_
   refine dmv rfl ?_
   refine dg rfl rfl (fun hc => ⟨_, OpenTo.refl _, zb zY rfl ty3 (by decide) rfl⟩) ?_
   refine dg rfl rfl (fun hc => ⟨_, OpenTo.upd (t := 36) rfl (hc) (OpenTo.refl _), zc ty3 rfl rfl rfl⟩) ?_
   refine dg rfl rfl (fun hc => ⟨_, OpenTo.refl _, zh rfl⟩) ?_
   refine dg rfl rfl (fun hc => ⟨_, OpenTo.upd (t := 38) rfl (hc) (OpenTo.upd (t := 37) rfl (hc) (OpenTo.refl _)), zah rfl rfl⟩) ?_
   refine dq (zw rfl (.inl rfl) (.inr ⟨_, rfl, fun h => by simp_all⟩)) ?_
   refine dmv rfl ?_
   refine dg rfl rfl (fun hc => ⟨_, OpenTo.refl _, zb zY rfl ty3 (by decide) rfl⟩) ?_
   refine dg rfl rfl (fun hc => ⟨_, OpenTo.upd (t := 42) rfl (hc) (OpenTo.refl _), zc ty3 rfl rfl rfl⟩) ?_
   refine dg rfl rfl (fun hc => ⟨_, OpenTo.upd (t := 43) rfl (hc) (OpenTo.refl _), z6 rfl rfl⟩) ?_
   refine dq (zw rfl (.inl rfl) (.inr ⟨_, rfl, fun h => by simp_all⟩)) ?_
   refine dmv rfl ?_
   refine dg rfl rfl (fun hc => ⟨_, OpenTo.refl _, zh rfl⟩) ?_
   refine dg rfl rfl (fun hc => ⟨_, OpenTo.refl _, zb zY rfl ty9 (by decide) rfl⟩) ?_
   refine dg rfl rfl (fun hc => ⟨_, OpenTo.upd (t := 48) rfl (hc) (OpenTo.refl _), zc ty9 rfl rfl rfl⟩) ?_
   refine dg rfl rfl (fun hc => ⟨_, OpenTo.refl _, zb zY rfl ty3 (by decide) rfl⟩) ?_
   refine dg rfl rfl (fun hc => ⟨_, OpenTo.upd (t := 50) rfl (hc) (OpenTo.refl _), zc ty3 rfl rfl rfl⟩) ?_
   refine dg rfl rfl (fun hc => ⟨_, OpenTo.upd (t := 51) rfl (hc) (OpenTo.upd (t := 49) rfl (hc) (OpenTo.refl _)), zau (cs := [_, _]) zf7 zo9 rfl⟩) ?_
   refine dgl rfl rfl (fun hc => ⟨_, OpenTo.upd (t := 52) rfl (hc) (OpenTo.upd (t := 47) rfl (hc) (OpenTo.refl _)), zij (i := 2) (s := (x.Source, x.No)) (z0 := false) zrJ zmt ty4 rfl rfl rfl rfl ⟨rfl, rfl⟩⟩) ?_
   refine dq (zw rfl (.inl rfl) (.inr ⟨_, rfl, fun h => by simp_all⟩)) ?_
   refine dmv rfl ?_
   refine dg rfl rfl (fun hc => ⟨_, OpenTo.refl _, zh rfl⟩) ?_
   refine dg rfl rfl (fun hc => ⟨_, OpenTo.refl _, zb zY rfl ty9 (by decide) rfl⟩) ?_
   refine dg rfl rfl (fun hc => ⟨_, OpenTo.upd (t := 57) rfl (hc) (OpenTo.refl _), zc ty9 rfl rfl rfl⟩) ?_
   refine dgl rfl rfl (fun hc => ⟨_, OpenTo.upd (t := 58) rfl (hc) (OpenTo.upd (t := 56) rfl (hc) (OpenTo.refl _)), zgl (i := 3) (z0 := ([] : Str)) zr0 ty9 ty9 rfl rfl rfl rfl ⟨rfl, rfl⟩⟩) ?_
   refine dg rfl rfl (fun hc => ⟨_, OpenTo.refl _, zb zY rfl ty9 (by decide) rfl⟩) ?_
   refine dg rfl rfl (fun hc => ⟨_, OpenTo.upd (t := 60) rfl (hc) (OpenTo.refl _), zc ty9 rfl rfl rfl⟩) ?_
   refine dg rfl rfl (fun hc => ⟨_, OpenTo.upd (t := 61) rfl (hc) (OpenTo.upd (t := 59) rfl (hc) (OpenTo.refl _)), zef rfl rfl⟩) ?_
   refine dq (zw rfl (.inl rfl) (.inr ⟨_, rfl, fun h => by simp_all⟩)) ?_
   refine dn ?_
   refine ze rfl (fun h3 => ?_) (fun h4 => ?_)
   ·try simp at h3
    refine zL ?_
    refine zS ?_
    refine zD ?_
    refine zd ?_
    refine zy ?_
    refine dq (zx rfl rfl (by omega) (by omega)) ?_
    refine dmv rfl ?_
    refine dn ?_
    exact ⟨k + 1, ⟨by omega, trivial⟩, by dsimp only; omega, ⟨rfl, trivial⟩, (by repeat (first | exact zo | refine zt rfl ?_ | refine zp rfl rfl ?_)), zU (by dsimp only; rw [zlX hx, zfL, if_neg (by rw [zqV hO19 h3]; simp)])⟩
   ·try simp at h4
    refine zi ?_
    refine zd ?_
    refine za ?_
    refine dmv rfl ?_
    refine dq (zb zY rfl ty9 (by decide) rfl) ?_
    refine dq (zc ty9 rfl rfl rfl) ?_
    refine de0 (zbZ (i := 1) zcM ty9 rfl rfl rfl rfl ?_)
    refine dn ?_
    have hpx := ok x (List.mem_of_getElem? hx)
    obtain ⟨_, _, _, _, _, hcb, _⟩ := zil hpx
    have hlk := zrI (l := l) (m := l.take k) (trust := trust) (week := week) (n := n) (fun y hy => ok y (List.mem_of_mem_take hy))
    have hvb := hlk.val (x.Player, x.Stat)
    have hlt : ((l.take k).length : Int) ≤ 3000 := by rw [List.length_take]; omega
    refine zb2 (fun M => M = [MObj.map m24 (kk eOf (em (HVal.int .i64) (zdr l trust week n (l.take k)).c)), MObj.map m23 (sk (zaP (zaY x.Player (zdr l trust week n (l.take k)).S))), MObj.map b22 (kk zhh (em HVal.bool (zhp l n))), MObj.map b19 (sk (em HVal.str O19))] ∨ ∃ j st, zbg (x.Player, x.Stat) (zcY (x.Player, x.Stat) (HVal.int .i64 0) (em (HVal.int .i64) (zdr l trust week n (l.take k)).c)) = some j ∧ M = [MObj.mape m24 (kk eOf (zcY (x.Player, x.Stat) (HVal.int .i64 0) (em (HVal.int .i64) (zdr l trust week n (l.take k)).c))) j st, MObj.map m23 (sk (zaP (zaY x.Player (zdr l trust week n (l.take k)).S))), MObj.map b22 (kk zhh (em HVal.bool (zhp l n))), MObj.map b19 (sk (em HVal.str O19))]) [6] mixed ?_
    refine ahp 0 rfl rfl (by kernel_rfl) (by kernel_rfl) (zh rfl) ?_
    refine ahp 1 rfl rfl (by kernel_rfl) (by kernel_rfl) (zb zY rfl ty9 (by decide) rfl) ?_
    refine ahp 2 rfl rfl (by kernel_rfl) (by kernel_rfl) (zc ty9 rfl rfl rfl) ?_
    refine ahp 3 rfl rfl (by kernel_rfl) (by kernel_rfl) (zb zY rfl ty9 (by decide) rfl) ?_
    refine ahp 4 rfl rfl (by kernel_rfl) (by kernel_rfl) (zc ty9 rfl rfl rfl) ?_
    refine ahp 5 rfl rfl (by kernel_rfl) (by kernel_rfl) (zau (cs := [_, _]) zg5 zs8 rfl) ?_
    refine ahl 6 rfl rfl (by kernel_rfl) (by kernel_rfl) (by simp) (.inl rfl) (fun M hM => by
   rcases hM with rfl | ⟨j, st, hj, rfl⟩
   ·exact zij (i := 0) (s := (x.Player, x.Stat)) (z0 := (0 : Int)) zmu zo5 ty3 rfl rfl rfl rfl ⟨rfl, rfl⟩
   ·exact zm2 (i := 0) (s := (x.Player, x.Stat)) (z0 := (0 : Int)) (f := HVal.int .i64) zmu zo5 ty3 rfl rfl rfl rfl ⟨rfl, rfl⟩) ?_
    refine ahp 7 rfl rfl (by kernel_rfl) (by kernel_rfl) (zb zY rfl ty3 (by decide) rfl) ?_
    refine ahp 8 rfl rfl (by kernel_rfl) (by kernel_rfl) (zc ty3 rfl rfl rfl) ?_
    refine ahp 9 rfl rfl (by kernel_rfl) (by kernel_rfl) (zx rfl rfl (by omega) (by omega)) ?_
    refine ahe 10 rfl (by kernel_rfl) ?_
    refine zaE rfl (zmf (i := 0) (s := (x.Player, x.Stat)) (z0 := (0 : Int)) (f := HVal.int .i64) zmu zo5 ty3 rfl rfl rfl rfl fun j77 st77 hj77 => ?_)
    refine ⟨fun _ => .inl (.inr ⟨j77, st77, hj77, rfl⟩), ?_⟩
    refine ahp 11 rfl rfl (by kernel_rfl) (by kernel_rfl) (zJ rfl rfl) ?_
    refine ahe 12 rfl (by kernel_rfl) ?_
    refine zbq (zko (i := 0) (s := (x.Player, x.Stat)) (f := HVal.int .i64) (z0 := (0 : Int)) (v := (alk (x.Player, x.Stat) (zdr l trust week n (l.take k)).c).getD 0 + x.Count) rfl rfl rfl rfl hj77 ?_)
    refine ⟨fun _ => .inr (by simp [zbU, Region.binds]), ?_⟩
    refine ahz (by kernel_rfl) ?_
    refine zu ?_
    refine zd ?_
    refine zy ?_
    refine dq (zx rfl rfl (by omega) (by omega)) ?_
    refine dmv rfl ?_
    refine dn ?_
    exact ⟨k + 1, ⟨by omega, trivial⟩, by dsimp only; omega, ⟨rfl, trivial⟩, (by repeat (first | exact zo | refine zt rfl ?_ | refine zp rfl rfl ?_)), zU (by dsimp only; rw [zlX hx, zfL, if_pos (zq4 hO19 h4)]; rfl)⟩
  ·try simp at h2
   have hnk : l.length ≤ k := by omega
   obtain rfl : k = l.length := by omega
   refine zL ?_
   refine zS ?_
   refine zap ?_
   refine zD ?_
   refine zd ?_
   rw [List.take_length]
   have hok := zrI (l := l) (m := l) (trust := trust) (week := week) (n := n) ok
   refine za ?_
   refine dmv rfl ?_
   refine dmv rfl ?_
   refine dmv rfl ?_
   refine de rfl (zaK (M1 := [_, _]) (R := [_, _]) ca96 rfl (WeakL.refl _) (List.Perm.refl _) (zg7 hT hok.c hok.S hok.k (Nat.le_trans hok.cl (by omega)) (Nat.le_trans hok.Sl (by omega))) ?_)
   rintro _ _ ⟨rfl, rfl⟩
   refine dq (zJ rfl rfl) ?_
   refine dq (zJ rfl rfl) ?_
   refine das rfl ?_
   refine das rfl ?_
   refine dn ?_
   refine zg ?_
   exact za2 Ghost.clear rfl ⟨rfl, rfl⟩

/-- benchwarmer/play.Lines -/
theorem znC [Tracks] {l : List Play} {trust : List Str} {week n : Int} (hT : Tracks.on = false) (hl : l.length ≤ 1000000) (ht : trust.length ≤ 1000000) : ConP Tryz.prog 27 [zgO l, eSs trust, .int .i64 week, .int .i64 n] (.tup [zng (zgI l trust week n), .int .i64 (zgY l trust week n)]) := by
 refine Con.of_body Tryz.func27 rfl Tryz.ntmps27 rfl rfl ?_
 refine za ?_
 refine das rfl ?_
 refine das rfl ?_
 refine dn ?_
 refine zf ?_
 refine za ?_
 refine dmv rfl ?_
 refine dq (zj ca52 rfl (WeakL.refl _) (zjj (by assumption))) ?_
 refine dmv rfl ?_
 refine dq (zj ca53 rfl (WeakL.refl _) (zjf (by assumption))) ?_
 refine dq (zG (hs := [_, _]) zjb zlc rfl rfl (by decide) (by decide) rfl) ?_
 refine dq (zj zpq rfl (WeakL.refl _) (zey (l := [_, _]) (by simp))) ?_
 refine das rfl ?_
 refine dn ?_
 refine za ?_
 refine dmv rfl ?_
 refine dq (zah rfl rfl) ?_
 refine dn ?_
 refine ze rfl (fun h1 => ?_) (fun h2 => ?_)
 ·try simp at h1
  refine za ?_
  refine dmv rfl ?_
  refine das rfl ?_
  refine das rfl ?_
  refine dn ?_
  refine zg ?_
  exact ze4 rfl (zbn (by rw [zgI, if_pos (by simpa using h1)]; exact zaV 3) (by rw [zgY, if_pos (by simpa using h1)]; exact Weak.refl _))
 ·try simp at h2
  refine zi ?_
  refine zd ?_
  refine zf ?_
  refine za ?_
  refine dmv rfl ?_
  refine dq (zj ca54 rfl (WeakL.refl _) zju) ?_
  refine dq (zW rfl) ?_
  refine dmv rfl ?_
  refine dg rfl rfl (fun hc => ⟨_, OpenTo.refl _, zh rfl⟩) ?_
  refine dg rfl rfl (fun hc => ⟨_, OpenTo.upd (t := 24) rfl (hc) (OpenTo.refl _), zj zpc rfl (WeakL.refl _) zd2⟩) ?_
  refine dg rfl rfl (fun hc => ⟨_, OpenTo.upd (t := 25) rfl (hc) (OpenTo.refl _), zW rfl⟩) ?_
  refine dq (zw rfl (.inl rfl) (.inr ⟨_, rfl, fun h => by simp_all⟩)) ?_
  refine dn ?_
  refine ze rfl (fun h3 => ?_) (fun h4 => ?_)
  ·try simp at h3
   refine za ?_
   refine das rfl ?_
   refine das rfl ?_
   refine dn ?_
   refine zg ?_
   exact ze4 rfl (zbn (by rw [zgI, if_neg (by simpa using h2), if_pos (by simp_all)]; exact zaV 3) (by rw [zgY, if_neg (by simpa using h2), if_pos (by simp_all)]; exact Weak.refl _))
  ·try simp at h4
   refine zi ?_
   refine zd ?_
   refine za ?_
   refine dmv rfl ?_
   refine dmv rfl ?_
   refine dmv rfl ?_
   refine dmv rfl ?_
   refine dq (zj ca56 rfl (WeakL.refl _) (znm hT (zlF (okPT h2).1).1 ht (zn9 (okPT h2).1))) ?_
   refine dq (zJ rfl rfl) ?_
   refine dq (zJ rfl rfl) ?_
   refine das rfl ?_
   refine das rfl ?_
   refine dn ?_
   refine zg ?_
   (refine zm rfl ?_
    rw [zgI, zgY, if_neg (by simpa using h2), if_neg (by simp_all), if_neg (by simpa using h2), if_neg (by simp_all)])

end
section
open Go.HL
/-- slices.BinarySearch[[]string,string] -/
theorem zbP [Tracks] {l : List Str} {s : Str} (hl : l.length ≤ 1000000) (hs : SortedS l) : ConP Tryz.prog 85 [eSs l, .str s] (.tup [.int .i64 (zcR l s), .bool (l.contains s)]) := by
 refine Con.of_body Tryz.func85 rfl Tryz.ntmps85 rfl rfl ?_
 refine za ?_
 refine das rfl ?_
 refine das rfl ?_
 refine dn ?_
 refine za ?_
 refine dmv rfl ?_
 refine dq (zv zA rfl) ?_
 refine das rfl ?_
 refine dn ?_
 refine za ?_
 refine dmv rfl ?_
 refine das rfl ?_
 refine das rfl ?_
 refine dn ?_
 refine zf ?_
 refine zk ?_
 refine zaS [7, 8, 9, 13, 14, 15, 16, 17, 18, 19, 20, 21, 22, 23, 24, 25, 26, 27, 28, 29, 30] (fun (i : Nat) (j : Nat) => [(7, .int .i64 i), (8, .int .i64 j)]) (fun (i : Nat) (j : Nat) => []) (fun (i : Nat) (j : Nat) => i ≤ j ∧ j ≤ l.length ∧ (∀ (k : Nat) (x : Str), k < i → l[k]? = some x → Op.bytesLess x s = true) ∧ (∀ (k : Nat) (x : Str), j ≤ k → l[k]? = some x → Op.bytesLess x s = false)) (fun (i : Nat) (j : Nat) => j - i) (0) (l.length) ?_ ?_ ?_ ?_
 ·exact ⟨Nat.zero_le _, Nat.le_refl _, fun k x h => by omega, fun k x h1 h2 => by have := zC h2; omega⟩
 ·exact ⟨rfl, rfl, trivial⟩
 ·exact List.Perm.refl _
 ·intro i j hinv
  obtain ⟨hij, hjl, ha, hb⟩ := hinv
  refine zf ?_
  refine za ?_
  refine dmv rfl ?_
  refine dmv rfl ?_
  refine dq (zK rfl rfl) ?_
  refine dn ?_
  refine ze rfl (fun h1 => ?_) (fun h2 => ?_)
  ·try simp at h1
   obtain ⟨x, hx⟩ : ∃ x, l[(i + j) / 2]? = some x := ⟨_, List.getElem?_eq_getElem (by omega)⟩
   have hm : (i + j) / 2 < j ∧ i ≤ (i + j) / 2 := by omega
   refine zi ?_
   refine zd ?_
   refine zk ?_
   refine za ?_
   refine dmv rfl ?_
   refine dmv rfl ?_
   refine dq (zx rfl rfl (by omega) (by omega)) ?_
   refine dq (zcn ty3 ziX rfl) ?_
   refine dq (zoB rfl rfl (by omega)) ?_
   refine dq (ze6 (zcn ziX ty3 rfl) (zql (i := i) (j := j) (by omega))) ?_
   refine das rfl ?_
   refine dn ?_
   refine za ?_
   refine dmv rfl ?_
   refine dmv rfl ?_
   refine dq (zH (j := (i + j) / 2) (a := x) zA ty9 rfl rfl rfl hx) ?_
   refine dq (zc ty9 rfl rfl rfl) ?_
   refine dmv rfl ?_
   refine dq (zj ztg rfl (WeakL.refl _) zjg) ?_
   refine dn ?_
   refine ze rfl (fun h3 => ?_) (fun h4 => ?_)
   ·try simp at h3
    refine zy ?_
    refine dmv rfl ?_
    refine dq (zx rfl rfl (by omega) (by omega)) ?_
    refine das rfl ?_
    refine dn ?_
    refine zu ?_
    exact ⟨(i + j) / 2 + 1, j, ⟨by omega, hjl, zrT hs hx h3, hb⟩, by dsimp only; omega, ⟨rfl, rfl, trivial⟩, (by repeat (first | exact zo | refine zt rfl ?_ | refine zp rfl rfl ?_)), List.Perm.refl _⟩
   ·try simp at h4
    refine zy ?_
    refine dmv rfl ?_
    refine das rfl ?_
    refine dn ?_
    refine zu ?_
    exact ⟨i, (i + j) / 2, ⟨by omega, by omega, ha, zrO hs hx h4⟩, by dsimp only; omega, ⟨rfl, rfl, trivial⟩, (by repeat (first | exact zo | refine zt rfl ?_ | refine zp rfl rfl ?_)), List.Perm.refl _⟩
  ·try simp at h2
   obtain rfl : i = j := by omega
   refine zL ?_
   refine zS ?_
   refine za8 ?_
   refine zD ?_
   refine zd ?_
   refine za ?_
   refine dmv rfl ?_
   refine dmv rfl ?_
   refine dmv rfl ?_
   refine dq (zK rfl rfl) ?_
   refine dmv rfl ?_
   refine dg rfl rfl (fun hc => ⟨_, OpenTo.refl _, zh rfl⟩) ?_
   refine dg rfl rfl (fun hc => ⟨_, OpenTo.refl _, zh rfl⟩) ?_
   refine dg rfl rfl (fun hc => by have hq := hc; (try simp at hq); exact ⟨_, OpenTo.upd (t := 37) rfl (hc) (OpenTo.upd (t := 36) rfl (hc) (OpenTo.refl _)), zH (j := i) (a := l.getD i []) zA ty9 rfl rfl rfl (getD_some (by omega))⟩) ?_
   refine dg rfl rfl (fun hc => ⟨_, OpenTo.upd (t := 38) rfl (hc) (OpenTo.refl _), zc ty9 rfl rfl rfl⟩) ?_
   refine dg rfl rfl (fun hc => ⟨_, OpenTo.refl _, zh rfl⟩) ?_
   refine dg rfl rfl (fun hc => ⟨_, OpenTo.upd (t := 40) rfl (hc) (OpenTo.upd (t := 39) rfl (hc) (OpenTo.refl _)), zbh rfl rfl⟩) ?_
   refine dg rfl rfl (fun hc => ⟨_, OpenTo.upd (t := 41) rfl (hc) (OpenTo.refl _), zh rfl⟩) ?_
   refine dg rfl rfl (fun hc => ⟨_, OpenTo.refl _, zh rfl⟩) ?_
   refine dg rfl rfl (fun hc => ⟨_, OpenTo.refl _, zh rfl⟩) ?_
   refine dg rfl rfl (fun hc => ⟨_, OpenTo.upd (t := 44) rfl (hc) (OpenTo.upd (t := 43) rfl (hc) (OpenTo.refl _)), zH (j := i) (a := l.getD i []) zA ty9 rfl rfl rfl (getD_some (by simp_all))⟩) ?_
   refine dg rfl rfl (fun hc => ⟨_, OpenTo.upd (t := 45) rfl (hc) (OpenTo.refl _), zc ty9 rfl rfl rfl⟩) ?_
   refine dg rfl rfl (fun hc => ⟨_, OpenTo.upd (t := 46) rfl (hc) (OpenTo.refl _), zj zrN rfl (WeakL.refl _) zei⟩) ?_
   refine dg rfl rfl (fun hc => ⟨_, OpenTo.upd (t := 47) rfl (hc) (OpenTo.refl _), zh rfl⟩) ?_
   refine dg rfl rfl (fun hc => ⟨_, OpenTo.refl _, zh rfl⟩) ?_
   refine dg rfl rfl (fun hc => ⟨_, OpenTo.upd (t := 49) rfl (hc) (OpenTo.refl _), zj zrN rfl (WeakL.refl _) zei⟩) ?_
   refine dg rfl rfl (fun hc => ⟨_, OpenTo.upd (t := 48) rfl (hc) (OpenTo.refl _), zw rfl (.inr ⟨_, rfl, fun h => by simp_all⟩) (.inl rfl)⟩) ?_
   refine dg rfl rfl (fun hc => ⟨_, OpenTo.upd (t := 42) rfl (hc) (OpenTo.refl _), zw rfl (.inl rfl) (.inr ⟨_, rfl, fun h => by simp_all⟩)⟩) ?_
   refine dq (zw rfl (.inr ⟨_, rfl, fun h => by simp_all⟩) (.inl rfl)) ?_
   refine das rfl ?_
   refine das rfl ?_
   refine dn ?_
   refine zg ?_
   refine zm rfl ?_
   rw [zlb hjl ha hb, ← znz hs hjl ha hb, ← zru false]

/-- benchwarmer/draft.CheckSwaps -/
theorem zfg [Tracks] {r : Room} {l : List Swap} (ht : r.Teams.length ≤ 1000000) (hp : r.Players.length ≤ 1000000) (hl : l.length ≤ 1000000) : ConP Tryz.prog 57 [zby r, zb7 l] (.int .i64 (zaI r l)) := by
 refine Con.of_body Tryz.func57 rfl Tryz.ntmps57 rfl rfl ?_
 refine za ?_
 refine dq (zam rfl rfl) ?_
 refine das rfl ?_
 refine dn ?_
 refine zf ?_
 refine za ?_
 refine dq (zB zV rfl rfl rfl rfl) ?_
 refine dq (zj zq0 rfl (WeakL.refl _) (zdS (by assumption) (by assumption))) ?_
 refine das rfl ?_
 refine dn ?_
 refine za ?_
 refine dmv rfl ?_
 refine dq (zah rfl rfl) ?_
 refine dn ?_
 refine ze rfl (fun h1 => ?_) (fun h2 => ?_)
 ·try simp at h1
  refine za ?_
  refine dmv rfl ?_
  refine das rfl ?_
  refine dn ?_
  refine zg ?_
  refine zm rfl ?_
  show HVal.int .i64 _ = _
  (rw [zaI, if_pos (by simp_all)]; done)
 ·try simp at h2
  refine zi ?_
  refine zd ?_
  refine zf ?_
  refine za ?_
  refine dmv rfl ?_
  refine dq (zv zhb rfl) ?_
  refine dq (z6 rfl rfl) ?_
  refine dn ?_
  refine ze rfl (fun h3 => ?_) (fun h4 => ?_)
  ·try simp at h3
   refine za ?_
   refine das rfl ?_
   refine dn ?_
   refine zg ?_
   refine zm rfl ?_
   show HVal.int .i64 _ = _
   (rw [zaI, if_neg (by simp_all), if_pos (by omega)]; done)
  ·try simp at h4
   refine zi ?_
   refine zd ?_
   refine zf ?_
   refine za ?_
   refine dmv rfl ?_
   refine dq (zv zhb rfl) ?_
   refine dmv rfl ?_
   refine dn ?_
   refine zk ?_
   refine zab [4, 6, 7, 18, 19, 20, 21, 22, 23, 24, 25, 26, 27, 28, 29, 30, 31, 32, 33, 34, 35, 36, 37, 38, 39, 40, 41, 42, 43, 44, 45, 46, 47, 48, 49, 50, 51, 52, 53, 54, 55, 56, 57, 58, 59, 60, 61, 62, 63, 64, 65, 66, 67, 68, 69, 70] (fun (k : Nat) => [(18, .int .i64 k)]) (fun (k : Nat) => []) (fun (k : Nat) => k ≤ l.length ∧ (zaI r l = zdd r l k (l.drop k))) (fun (k : Nat) => l.length - k) (0) ?_ ?_ ?_ ?_
   ·refine ⟨Nat.zero_le _, ?_⟩
    rw [zaI, if_neg (by simp_all), if_neg (by omega)]; rfl
   ·exact ⟨rfl, trivial⟩
   ·exact List.Perm.refl _
   ·intro k hinv
    obtain ⟨hk, hg⟩ := hinv
    refine za ?_
    refine dq (zK rfl rfl) ?_
    refine dn ?_
    refine zf ?_
    refine ze rfl (fun h5 => ?_) (fun h6 => ?_)
    ·try simp at h5
     obtain ⟨x, hx⟩ : ∃ x, l[k]? = some x := ⟨_, List.getElem?_eq_getElem h5⟩
     have hdx := zI hx
     rw [hdx] at hg
     refine zi ?_
     refine zd ?_
     refine zf ?_
     refine zk ?_
     refine za ?_
     refine dmv rfl ?_
     refine dq (zH zhb zbw rfl rfl rfl (by assumption)) ?_
     refine dq (zB zbw rfl rfl rfl rfl) ?_
     refine de rfl (zO zbw rfl fun b7 => ?_)
     refine das rfl ?_
     refine de0 (zR zbw rfl rfl rfl rfl rfl ?_)
     refine dn ?_
     refine zF (Ghost.fc0 7 rfl) ?_
     refine zk ?_
     refine za ?_
     refine dq (zb zbw rfl ty3 (by decide) rfl) ?_
     refine dq (zc ty3 rfl rfl rfl) ?_
     refine dq (zb zV rfl ty3 (by decide) rfl) ?_
     refine dq (zc ty3 rfl rfl rfl) ?_
     refine dq (zj zcI rfl (WeakL.refl _) zaC) ?_
     refine das rfl ?_
     refine dn ?_
     refine ze rfl (fun h7 => ?_) (fun h8 => ?_)
     ·try simp at h7
      refine za ?_
      refine das rfl ?_
      refine dn ?_
      refine zg ?_
      refine zm rfl ?_
      show HVal.int .i64 _ = _
      (rw [hg, zdd]; simp_all; done)
     ·try simp at h8
      refine za ?_
      refine dq (zb zV rfl zA (by decide) rfl) ?_
      refine dq (zc zA rfl rfl rfl) ?_
      refine dq (zb zbw rfl ty9 (by decide) rfl) ?_
      refine dq (zc ty9 rfl rfl rfl) ?_
      refine dq (zj zii rfl (WeakL.refl _) (zaj (by omega))) ?_
      refine dq (zW rfl) ?_
      refine dmv rfl ?_
      refine dg rfl rfl (fun hc => ⟨_, OpenTo.refl _, zb zV rfl zA (by decide) rfl⟩) ?_
      refine dg rfl rfl (fun hc => ⟨_, OpenTo.upd (t := 37) rfl (hc) (OpenTo.refl _), zc zA rfl rfl rfl⟩) ?_
      refine dg rfl rfl (fun hc => ⟨_, OpenTo.refl _, zb zbw rfl ty9 (by decide) rfl⟩) ?_
      refine dg rfl rfl (fun hc => ⟨_, OpenTo.upd (t := 39) rfl (hc) (OpenTo.refl _), zc ty9 rfl rfl rfl⟩) ?_
      refine dg rfl rfl (fun hc => by have hq := hc; (try simp at hq); exact ⟨_, OpenTo.upd (t := 40) rfl (hc) (OpenTo.upd (t := 38) rfl (hc) (OpenTo.refl _)), zj zii rfl (WeakL.refl _) (zaj (by omega))⟩) ?_
      refine dg rfl rfl (fun hc => ⟨_, OpenTo.upd (t := 41) rfl (hc) (OpenTo.refl _), zW rfl⟩) ?_
      refine dq (zw rfl (.inl rfl) (.inr ⟨_, rfl, fun h => by simp_all⟩)) ?_
      refine das rfl ?_
      refine dn ?_
      refine ze rfl (fun h9 => ?_) (fun h10 => ?_)
      ·try simp at h9
       refine za ?_
       refine das rfl ?_
       refine dn ?_
       refine zg ?_
       refine zm rfl ?_
       show HVal.int .i64 _ = _
       (rw [hg, zdd]; simp_all; done)
      ·try simp at h10
       refine zaF (fun _ => True) [] mixed ?_
       refine ahp 0 rfl rfl (by kernel_rfl) (by kernel_rfl) (zh rfl) ?_
       refine ahp 1 rfl rfl (by kernel_rfl) (by kernel_rfl) (z6 rfl rfl) ?_
       refine ahp 2 rfl rfl (by kernel_rfl) (by kernel_rfl) (zh rfl) ?_
       refine ahg 3 rfl rfl (by kernel_rfl) (by kernel_rfl) rfl (fun hc => ⟨_, OpenTo.refl _, zb zbw rfl ty3 (by decide) rfl⟩) ?_
       refine ahg 4 rfl rfl (by kernel_rfl) (by kernel_rfl) rfl (fun hc => ⟨_, OpenTo.upd (t := 48) rfl (hc) (OpenTo.refl _), zc ty3 rfl rfl rfl⟩) ?_
       refine ahg 5 rfl rfl (by kernel_rfl) (by kernel_rfl) rfl (fun hc => ⟨_, OpenTo.refl _, zh rfl⟩) ?_
       refine ahg 6 rfl rfl (by kernel_rfl) (by kernel_rfl) rfl (fun hc => ⟨_, OpenTo.refl _, zh rfl⟩) ?_
       refine ahg 7 rfl rfl (by kernel_rfl) (by kernel_rfl) rfl (fun hc => by have hq := hc; (try simp at hq); exact ⟨_, OpenTo.upd (t := 51) rfl (hc) (OpenTo.refl _), zal rfl rfl (by omega) (by omega)⟩) ?_
       refine ahg 8 rfl rfl (by kernel_rfl) (by kernel_rfl) rfl (fun hc => by have hq := hc; (try simp at hq); exact ⟨_, OpenTo.upd (t := 52) rfl (hc) (OpenTo.upd (t := 50) rfl (hc) (OpenTo.refl _)), zH (j := k - 1) (a := l.getD (k - 1) zmy) zhb zbw rfl rfl (by omega) (getD_some (by omega))⟩) ?_
       refine ahg 9 rfl rfl (by kernel_rfl) (by kernel_rfl) rfl (fun hc => ⟨_, OpenTo.upd (t := 53) rfl (hc) (OpenTo.refl _), zb zbw rfl ty3 (by decide) rfl⟩) ?_
       refine ahg 10 rfl rfl (by kernel_rfl) (by kernel_rfl) rfl (fun hc => ⟨_, OpenTo.upd (t := 54) rfl (hc) (OpenTo.refl _), zc ty3 rfl rfl rfl⟩) ?_
       refine ahg 11 rfl rfl (by kernel_rfl) (by kernel_rfl) rfl (fun hc => ⟨_, OpenTo.upd (t := 55) rfl (hc) (OpenTo.upd (t := 49) rfl (hc) (OpenTo.refl _)), zj zpw rfl (WeakL.refl _) zcv⟩) ?_
       refine ahg 12 rfl rfl (by kernel_rfl) (by kernel_rfl) rfl (fun hc => ⟨_, OpenTo.refl _, zb zbw rfl ty9 (by decide) rfl⟩) ?_
       refine ahg 13 rfl rfl (by kernel_rfl) (by kernel_rfl) rfl (fun hc => ⟨_, OpenTo.upd (t := 57) rfl (hc) (OpenTo.refl _), zc ty9 rfl rfl rfl⟩) ?_
       refine ahg 14 rfl rfl (by kernel_rfl) (by kernel_rfl) rfl (fun hc => ⟨_, OpenTo.refl _, zh rfl⟩) ?_
       refine ahg 15 rfl rfl (by kernel_rfl) (by kernel_rfl) rfl (fun hc => ⟨_, OpenTo.refl _, zh rfl⟩) ?_
       refine ahg 16 rfl rfl (by kernel_rfl) (by kernel_rfl) rfl (fun hc => by have hq := hc; (try simp at hq); exact ⟨_, OpenTo.upd (t := 60) rfl (hc) (OpenTo.refl _), zal rfl rfl (by omega) (by omega)⟩) ?_
       refine ahg 17 rfl rfl (by kernel_rfl) (by kernel_rfl) rfl (fun hc => by have hq := hc; (try simp at hq); exact ⟨_, OpenTo.upd (t := 61) rfl (hc) (OpenTo.upd (t := 59) rfl (hc) (OpenTo.refl _)), zH (j := k - 1) (a := l.getD (k - 1) zmy) zhb zbw rfl rfl (by omega) (getD_some (by omega))⟩) ?_
       refine ahg 18 rfl rfl (by kernel_rfl) (by kernel_rfl) rfl (fun hc => ⟨_, OpenTo.upd (t := 62) rfl (hc) (OpenTo.refl _), zb zbw rfl ty9 (by decide) rfl⟩) ?_
       refine ahg 19 rfl rfl (by kernel_rfl) (by kernel_rfl) rfl (fun hc => ⟨_, OpenTo.upd (t := 63) rfl (hc) (OpenTo.refl _), zc ty9 rfl rfl rfl⟩) ?_
       refine ahg 20 rfl rfl (by kernel_rfl) (by kernel_rfl) rfl (fun hc => ⟨_, OpenTo.upd (t := 64) rfl (hc) (OpenTo.upd (t := 58) rfl (hc) (OpenTo.refl _)), zj zlg rfl (WeakL.refl _) zbE⟩) ?_
       refine ahg 21 rfl rfl (by kernel_rfl) (by kernel_rfl) rfl (fun hc => ⟨_, OpenTo.upd (t := 65) rfl (hc) (OpenTo.upd (t := 56) rfl (hc) (OpenTo.refl _)), zG (hs := [_, _]) zbT ty3 rfl rfl (by decide) (by decide) rfl⟩) ?_
       refine ahg 22 rfl rfl (by kernel_rfl) (by kernel_rfl) rfl (fun hc => ⟨_, OpenTo.upd (t := 66) rfl (hc) (OpenTo.refl _), zj zoJ rfl (WeakL.refl _) (zez (l := [_, _]) (by simp))⟩) ?_
       refine ahg 23 rfl rfl (by kernel_rfl) (by kernel_rfl) rfl (fun hc => ⟨_, OpenTo.upd (t := 67) rfl (hc) (OpenTo.refl _), zcF rfl rfl⟩) ?_
       refine ahp 24 rfl rfl (by kernel_rfl) (by kernel_rfl) (zw rfl (.inr ⟨_, rfl, fun h => by simp_all⟩) (.inl rfl)) ?_
       refine ahp 25 rfl rfl (by kernel_rfl) (by kernel_rfl) (zaJ rfl) ?_
       refine ahz (by kernel_rfl) ?_
       refine ze rfl (fun h11 => ?_) (fun h12 => ?_)
       ·try simp at h11
        refine za ?_
        refine das rfl ?_
        refine dn ?_
        refine zg ?_
        refine zm rfl ?_
        show HVal.int .i64 _ = _
        (rw [hg, zdd]; simp_all; done)
       ·try simp at h12
        refine zi ?_
        refine zu ?_
        refine zu ?_
        refine zd ?_
        refine zy ?_
        refine dq (zx rfl rfl (by omega) (by omega)) ?_
        refine dmv rfl ?_
        refine dn ?_
        refine ⟨k + 1, ?_, ?_, ⟨rfl, trivial⟩, (by repeat (first | exact zo | refine zt rfl ?_ | refine zp rfl rfl ?_)), List.Perm.refl _⟩
        ·refine ⟨by omega, ?_⟩
         rw [hg, zdd]; simp_all
         intro h1 h2; have := h12 h1; omega
        ·dsimp only; omega
    ·try simp at h6
     have hnk : l.length ≤ k := by omega
     obtain rfl : k = l.length := by omega
     rw [zaq (Nat.le_refl _)] at hg
     refine zL ?_
     refine zS ?_
     refine zap ?_
     refine zD ?_
     refine zd ?_
     refine za ?_
     refine das rfl ?_
     refine dn ?_
     refine zg ?_
     refine zm rfl ?_
     show HVal.int .i64 _ = _
     (rw [hg]; rfl)

/-- benchwarmer/draft.openFault$1 -/
theorem zhO [Tracks] {y : Swap} {x : Keep}  : ConP Tryz.prog 152 [zmz y, .vptr (zl (zrW x)) 0] (.bool (zms x y)) := by
 refine Con.of_body Tryz.func152 rfl Tryz.ntmps152 rfl rfl ?_
 refine za ?_
 refine dq (zam rfl rfl) ?_
 refine das rfl ?_
 refine dn ?_
 refine za ?_
 refine dq (zb zbw rfl ty3 (by decide) rfl) ?_
 refine dq (zc ty3 rfl rfl rfl) ?_
 refine dq (zb zbd rfl ty3 (by decide) rfl) ?_
 refine dq (zc ty3 rfl rfl rfl) ?_
 refine dq (zaz rfl rfl) ?_
 refine dmv rfl ?_
 refine dg rfl rfl (fun hc => ⟨_, OpenTo.refl _, zb zbw rfl ty9 (by decide) rfl⟩) ?_
 refine dg rfl rfl (fun hc => ⟨_, OpenTo.upd (t := 10) rfl (hc) (OpenTo.refl _), zc ty9 rfl rfl rfl⟩) ?_
 refine dg rfl rfl (fun hc => ⟨_, OpenTo.refl _, zb zbd rfl ty9 (by decide) rfl⟩) ?_
 refine dg rfl rfl (fun hc => ⟨_, OpenTo.upd (t := 12) rfl (hc) (OpenTo.refl _), zc ty9 rfl rfl rfl⟩) ?_
 refine dg rfl rfl (fun hc => ⟨_, OpenTo.upd (t := 13) rfl (hc) (OpenTo.upd (t := 11) rfl (hc) (OpenTo.refl _)), zbh rfl rfl⟩) ?_
 refine dq (zw rfl (.inr ⟨_, rfl, fun h => by simp_all⟩) (.inl rfl)) ?_
 refine das rfl ?_
 refine dn ?_
 refine zg ?_
 refine zm rfl ?_
 simp [zms]
end
section
open Go.HL
/-- slices.Clone[[]string,string] -/
theorem zcy [Tracks] {l : List Str} (hl : l.length ≤ 1000000) : zpm Tryz.prog 20 [eSs l] 1 (l.map .str) := by
 refine Con.of_body Tryz.func20 rfl Tryz.ntmps20 rfl rfl ?_
 refine za ?_
 refine das rfl ?_
 refine dn ?_
 refine zf ?_
 refine za ?_
 refine dmv rfl ?_
 refine de rfl (zlR zA rfl rfl fun b4 hb4 => ?_)
 refine dn ?_
 refine ze rfl (fun h1 => ?_) (fun h2 => ?_)
 ·try simp at h1
  refine za ?_
  refine das rfl ?_
  refine dn ?_
  refine zg ?_
  exact za2 (Ghost.arr_nil 1) rfl ⟨_, rfl, by simp_all⟩
 ·try simp at h2
  refine zi ?_
  refine zd ?_
  refine za ?_
  refine de rfl (zoD zA ty9 fun v5 => ?_)
  refine dmv rfl ?_
  refine de rfl (zaO (i := 0) zA ty9 rfl rfl rfl rfl rfl (by simp [za6, zl]) (by simp; omega) fun v7 => ?_)
  refine das rfl ?_
  refine dn ?_
  refine zg ?_
  exact zmp rfl rfl

/-- slices.IndexFunc[[]benchwarmer/api.Swap,benchwarmer/api.Swap] -/
theorem zdv [Tracks] {l : List Swap} {fid : FuncId} {caps : List HVal} {p : Swap → Bool} (hc : Callable Tryz.prog fid) (hp : ∀ x, ConP Tryz.prog fid ([zmz x] ++ caps) (.bool (p x))) (hl : l.length ≤ 1000000) : ConP Tryz.prog 175 [zb7 l, .fn (.func fid) [] caps] (.int .i64 (zbm p l 0)) := by
 refine Con.of_body Tryz.func175 rfl Tryz.ntmps175 rfl rfl ?_
 refine za ?_
 refine das rfl ?_
 refine dn ?_
 refine zf ?_
 refine za ?_
 refine dmv rfl ?_
 refine dq (zv zhb rfl) ?_
 refine dmv rfl ?_
 refine dn ?_
 refine zk ?_
 refine zab [4, 5, 8, 9, 10, 11, 12, 13, 14, 15, 16, 17, 18] (fun (k : Nat) => [(8, .int .i64 k)]) (fun (k : Nat) => []) (fun (k : Nat) => k ≤ l.length ∧ (zbm p l 0 = zbm p (l.drop k) k)) (fun (k : Nat) => l.length - k) (0) ?_ ?_ ?_ ?_
 ·exact ⟨Nat.zero_le _, rfl⟩
 ·exact ⟨rfl, trivial⟩
 ·exact List.Perm.refl _
 ·intro k hinv
  obtain ⟨hk, hg⟩ := hinv
  refine za ?_
  refine dq (zK rfl rfl) ?_
  refine dn ?_
  refine zf ?_
  refine ze rfl (fun h1 => ?_) (fun h2 => ?_)
  ·try simp at h1
   obtain ⟨x, hx⟩ : ∃ x, l[k]? = some x := ⟨_, List.getElem?_eq_getElem h1⟩
   have hdx := zI hx
   rw [hdx] at hg
   refine zi ?_
   refine zd ?_
   refine zf ?_
   refine zk ?_
   refine za ?_
   refine dmv rfl ?_
   refine das rfl ?_
   refine dn ?_
   refine za ?_
   refine dmv rfl ?_
   refine dmv rfl ?_
   refine dmv rfl ?_
   refine dq (zH zhb zbw rfl rfl rfl (by assumption)) ?_
   refine dq (zB zbw rfl rfl rfl rfl) ?_
   refine dq (zej hc rfl rfl (WeakL.refl _) (hp _)) ?_
   refine dn ?_
   refine ze rfl (fun h3 => ?_) (fun h4 => ?_)
   ·try simp at h3
    refine za ?_
    refine dmv rfl ?_
    refine das rfl ?_
    refine dn ?_
    refine zg ?_
    refine zm rfl ?_
    show HVal.int .i64 _ = _
    (rw [hg]; simp_all [zbm])
   ·try simp at h4
    refine zi ?_
    refine zu ?_
    refine zd ?_
    refine zy ?_
    refine dq (zx rfl rfl (by omega) (by omega)) ?_
    refine dmv rfl ?_
    refine dn ?_
    refine ⟨k + 1, ?_, ?_, ⟨rfl, trivial⟩, (by repeat (first | exact zo | refine zt rfl ?_ | refine zp rfl rfl ?_)), List.Perm.refl _⟩
    ·refine ⟨by omega, ?_⟩
     rw [hg, zbm, if_neg (by simp_all)]; rfl
    ·dsimp only; omega
  ·try simp at h2
   have hnk : l.length ≤ k := by omega
   obtain rfl : k = l.length := by omega
   rw [zaq (Nat.le_refl _)] at hg
   refine zL ?_
   refine zS ?_
   refine zap ?_
   refine zD ?_
   refine zd ?_
   refine za ?_
   refine das rfl ?_
   refine dn ?_
   refine zg ?_
   refine zm rfl ?_
   show HVal.int .i64 _ = _
   (rw [hg]; rfl)

/-- slices.ContainsFunc[[]benchwarmer/api.Swap,benchwarmer/api.Swap] -/
theorem zc9 [Tracks] {l : List Swap} {fid : FuncId} {caps : List HVal} {p : Swap → Bool} (hc : Callable Tryz.prog fid) (hp : ∀ x, ConP Tryz.prog fid ([zmz x] ++ caps) (.bool (p x))) (hl : l.length ≤ 1000000) : ConP Tryz.prog 151 [zb7 l, .fn (.func fid) [] caps] (.bool (l.any p)) := by
 refine Con.of_body Tryz.func151 rfl Tryz.ntmps151 rfl rfl ?_
 refine za ?_
 refine das rfl ?_
 refine dn ?_
 refine za ?_
 refine dmv rfl ?_
 refine dmv rfl ?_
 refine dq (zj zs6 rfl (WeakL.refl _) (zdv hc hp hl)) ?_
 refine dq (zbD rfl rfl) ?_
 refine das rfl ?_
 refine dn ?_
 refine zg ?_
 refine zm rfl ?_
 congr 1; exact zdg p l 0 (by omega)

/-- slices.Reverse[[]string,string] -/
theorem zeA [Tracks] {l : List Str} {v : Value} (hl : l.length ≤ 1000000) : Con Tryz.prog 101 [.raw v] [.arr v 1 (l.map .str)] (fun x M' => x = .tup [] ∧ M' = [.arr v 1 (l.reverse.map .str)]) := by
 refine Con.of_body Tryz.func101 rfl Tryz.ntmps101 rfl rfl ?_
 refine za ?_
 refine dmv rfl ?_
 refine de rfl (zoo (i := 0) zA rfl rfl ?_)
 rw [List.length_map]
 refine dq (zal rfl rfl (by omega) (by omega)) ?_
 refine das rfl ?_
 refine das rfl ?_
 refine dn ?_
 refine zk ?_
 refine zdt [2, 3, 7, 8, 9, 10, 11, 12, 13, 14, 15, 16, 17, 18, 19, 20, 21, 22, 23, 24, 25, 26, 27] (fun (i : Nat) (j : Int) (c : List Str) => [(2, .int .i64 i), (3, .int .i64 j)]) (fun (i : Nat) (j : Int) (c : List Str) => [.arr v 1 (c.map .str)]) (fun (i : Nat) (j : Int) (c : List Str) => i ≤ l.length ∧ j = (l.length : Int) - 1 - i ∧ Rev l c i) (fun (i : Nat) (j : Int) (c : List Str) => l.length - i) (0) ((l.length : Int) - 1) (l) ?_ ?_ ?_ ?_
 ·exact ⟨Nat.zero_le _, by omega, zp9 l⟩
 ·exact ⟨rfl, rfl, trivial⟩
 ·exact List.Perm.refl _
 ·intro i j c hinv
  obtain ⟨hi, hj, hr⟩ := hinv
  refine zf ?_
  refine za ?_
  refine dmv rfl ?_
  refine dmv rfl ?_
  refine dq (zK rfl rfl) ?_
  refine dn ?_
  refine ze rfl (fun h1 => ?_) (fun h2 => ?_)
  ·try simp at h1
   have hlen := hr.1
   obtain ⟨x, hx⟩ : ∃ x, c[i]? = some x := ⟨_, List.getElem?_eq_getElem (by omega)⟩
   obtain ⟨y, hy⟩ : ∃ y, c[l.length - 1 - i]? = some y := ⟨_, List.getElem?_eq_getElem (by omega)⟩
   refine zsR (i := 0) rfl (fun h0 he => ?_) (fun b off cap hv => ?_)
   ·exfalso; simp at he; subst he; simp at hlen; omega
   subst hv
   refine zi ?_
   refine zd ?_
   refine zf ?_
   refine zk ?_
   refine zb2 (fun M => M = [.arr (.slice (some ⟨b, off, none⟩) (c.map HVal.str).length cap) 1 (c.map .str)]) [7, 11] mixed ?_
   refine ahp 0 rfl rfl (by kernel_rfl) (by kernel_rfl) (zh rfl) ?_
   refine ahp 1 rfl rfl (by kernel_rfl) (by kernel_rfl) (zh rfl) ?_
   refine ahp 2 rfl rfl (by kernel_rfl) (by kernel_rfl) (zh rfl) ?_
   refine ahp 3 rfl rfl (by kernel_rfl) (by kernel_rfl) (zh rfl) ?_
   refine ahp 4 rfl rfl (by kernel_rfl) (by kernel_rfl) (zh rfl) ?_
   refine ahp 5 rfl rfl (by kernel_rfl) (by kernel_rfl) (zh rfl) ?_
   refine ahp 6 rfl rfl (by kernel_rfl) (by kernel_rfl) (zbj (j := l.length - 1 - i) zA ty9 rfl rfl (by omega) (by simp; omega)) ?_
   refine ahl 7 rfl rfl (by kernel_rfl) (by kernel_rfl) (by simp) rfl (fun M hM => by subst hM; exact zeB (i := 0) (j := l.length - 1 - i) (f := 0) (y := .str y) ty9 rfl rfl rfl (by simp [hy]) (.inl ⟨rfl, rfl⟩) ⟨rfl, rfl⟩) ?_
   refine ahp 8 rfl rfl (by kernel_rfl) (by kernel_rfl) (zh rfl) ?_
   refine ahp 9 rfl rfl (by kernel_rfl) (by kernel_rfl) (zh rfl) ?_
   refine ahp 10 rfl rfl (by kernel_rfl) (by kernel_rfl) (zbj (j := i) zA ty9 rfl rfl rfl (by simp; omega)) ?_
   refine ahl 11 rfl rfl (by kernel_rfl) (by kernel_rfl) (by simp) rfl (fun M hM => by subst hM; exact zeB (i := 0) (j := i) (f := 0) (y := .str x) ty9 rfl rfl rfl (by simp [hx]) (.inl ⟨rfl, rfl⟩) ⟨rfl, rfl⟩) ?_
   refine ahp 12 rfl rfl (by kernel_rfl) (by kernel_rfl) (zbj (j := i) zA ty9 rfl rfl rfl (by simp; omega)) ?_
   refine ahe 13 rfl (by kernel_rfl) ?_
   refine zbq (zd5 (i := 0) (j := i) (f := 0) (y := .str x) (y' := .str y) ty9 rfl rfl rfl rfl (by simp [hx]) rfl rfl (by simp [zl]) rfl ?_)
   refine ⟨fun _ => .inr (by simp [zbU, Region.binds]), ?_⟩
   refine ahp 14 rfl rfl (by kernel_rfl) (by kernel_rfl) (zbj (j := l.length - 1 - i) zA ty9 rfl rfl (by omega) (by simp; omega)) ?_
   refine ahe 15 rfl (by kernel_rfl) ?_
   refine zbq (zd5 (i := 0) (j := l.length - 1 - i) (f := 0) (y := .str y) (y' := .str x) ty9 rfl rfl rfl rfl (by simp [List.getElem?_set]; rw [if_neg (by omega)]; simp [hy]) rfl rfl (by simp [zl]) rfl ?_)
   refine ⟨fun _ => .inr (by simp [zbU, Region.binds]), ?_⟩
   refine ahz (by kernel_rfl) ?_
   refine zu ?_
   refine zd ?_
   refine zy ?_
   refine dmv rfl ?_
   refine dq (zx rfl rfl (by omega) (by omega)) ?_
   refine dmv rfl ?_
   refine dq (zal rfl rfl (by omega) (by omega)) ?_
   refine das rfl ?_
   refine das rfl ?_
   refine dn ?_
   refine ⟨i + 1, j - 1, (c.set i y).set (l.length - 1 - i) x, ?_, ?_, ⟨rfl, rfl, trivial⟩, (by repeat (first | exact zo | refine zt rfl ?_ | refine zp rfl rfl ?_)), zU (by simp [List.map_set])⟩
   ·exact ⟨by omega, by omega, zrp hr (by omega) hx hy⟩
   ·dsimp only; omega
  ·try simp at h2
   have hend := zse hr (by omega)
   refine zL ?_
   refine zS ?_
   refine zee ?_
   refine zD ?_
   exact ⟨_, _, Ghost.sub (Sub.refl _), _, _, rfl, Weak.refl _, rfl, by rw [hend]⟩
end
section
open Go.HL
/-- benchwarmer/draft.has -/
theorem zgq [Tracks] {r : Room} {s : Str} (hp : r.Players.length ≤ 1000000) (hs : SortedS r.Players) : ConP Tryz.prog 110 [.vptr (zl (zby r)) 0, .str s] (.bool (r.Players.contains s)) := by
 refine Con.of_body Tryz.func110 rfl Tryz.ntmps110 rfl rfl ?_
 refine za ?_
 refine das rfl ?_
 refine dn ?_
 refine za ?_
 refine dmv rfl ?_
 refine dq ((zac rfl)) ?_
 refine dq (zb zV rfl zA (by decide) rfl) ?_
 refine dq (zc zA rfl rfl rfl) ?_
 refine dmv rfl ?_
 refine dq (zj ca85 rfl (WeakL.refl _) (zbP (by assumption) (by assumption))) ?_
 refine dmv rfl ?_
 refine dq (zJ rfl rfl) ?_
 refine dq (zJ rfl rfl) ?_
 refine das rfl ?_
 refine das rfl ?_
 refine dn ?_
 refine za ?_
 refine dmv rfl ?_
 refine das rfl ?_
 refine dn ?_
 refine zg ?_
 refine zm rfl ?_
 rfl

/-- benchwarmer/draft.CheckKeeps -/
theorem ziQ [Tracks] {r : Room} {l : List Keep} (ht : r.Teams.length ≤ 1000000) (hp : r.Players.length ≤ 1000000) (hl : l.length ≤ 1000000) : ConP Tryz.prog 150 [zby r, zeE l] (.int .i64 (zaT r l)) := by
 refine Con.of_body Tryz.func150 rfl Tryz.ntmps150 rfl rfl ?_
 refine za ?_
 refine dq (zam rfl rfl) ?_
 refine das rfl ?_
 refine dn ?_
 refine zf ?_
 refine za ?_
 refine dq (zB zV rfl rfl rfl rfl) ?_
 refine dq (zj zq0 rfl (WeakL.refl _) (zdS (by assumption) (by assumption))) ?_
 refine das rfl ?_
 refine dn ?_
 refine za ?_
 refine dmv rfl ?_
 refine dq (zah rfl rfl) ?_
 refine dn ?_
 refine ze rfl (fun h1 => ?_) (fun h2 => ?_)
 ·try simp at h1
  refine za ?_
  refine dmv rfl ?_
  refine das rfl ?_
  refine dn ?_
  refine zg ?_
  (refine zm rfl ?_
   show HVal.int .i64 _ = _
   first | (rw [zaT, if_pos (by simp_all)]; done) | (rw [zaT, if_neg (by simp_all), if_pos (by omega)]; done))
 ·try simp at h2
  refine zi ?_
  refine zd ?_
  refine zf ?_
  refine za ?_
  refine dmv rfl ?_
  refine dq (zv zht rfl) ?_
  refine dq (z6 rfl rfl) ?_
  refine dn ?_
  refine ze rfl (fun h3 => ?_) (fun h4 => ?_)
  ·try simp at h3
   refine za ?_
   refine das rfl ?_
   refine dn ?_
   refine zg ?_
   (refine zm rfl ?_
    show HVal.int .i64 _ = _
    first | (rw [zaT, if_pos (by simp_all)]; done) | (rw [zaT, if_neg (by simp_all), if_pos (by omega)]; done))
  ·try simp at h4
   refine zi ?_
   refine zd ?_
   refine za ?_
   refine de rfl (za4 fun m18 => ?_)
   refine das rfl ?_
   refine dn ?_
   refine za ?_
   refine das rfl ?_
   refine dn ?_
   refine zf ?_
   refine za ?_
   refine dmv rfl ?_
   refine dq (zv zht rfl) ?_
   refine dmv rfl ?_
   refine dn ?_
   refine zk ?_
   refine zdt (4 :: 7 :: 8 :: 9 :: 21 :: 22 :: 23 :: 24 :: 25 :: 26 :: 27 :: 28 :: 29 :: 30 :: 31 :: 32 :: 33 :: 34 :: 35 :: 36 :: 37 :: 38 :: 39 :: 40 :: 41 :: 42 :: 43 :: 44 :: 45 :: 46 :: 47 :: 48 :: 49 :: 50 :: 51 :: 52 :: 53 :: 54 :: 55 :: 56 :: 57 :: 58 :: 59 :: 60 :: 61 :: 62 :: 63 :: 64 :: 65 :: 66 :: 67 :: 68 :: 69 :: 70 :: 71 :: 72 :: 73 :: 74 :: 75 :: 76 :: 77 :: 78 :: 79 :: 80 :: 81 :: []) (fun (k : Nat) (kept : List Str) (tw : Bool) => [(21, .int .i64 k), (7, .bool tw)]) (fun (k : Nat) (kept : List Str) (tw : Bool) => [.map m18 (sk (zaP kept))]) (fun (k : Nat) (kept : List Str) (tw : Bool) => k ≤ l.length ∧ (zaT r l = zbJ r l k kept tw (l.drop k))) (fun (k : Nat) (kept : List Str) (tw : Bool) => l.length - k) (0) ([]) (false) ?_ ?_ ?_ ?_
   ·refine ⟨Nat.zero_le _, ?_⟩
    rw [zaT, if_neg (by simp_all), if_neg (by omega)]; rfl
   ·exact ⟨rfl, rfl, trivial⟩
   ·exact List.Perm.refl _
   ·intro k kept tw hinv
    obtain ⟨hk, hg⟩ := hinv
    have hs := (zb6 (r := r) (by simp_all)).1
    refine za ?_
    refine dq (zK rfl rfl) ?_
    refine dn ?_
    refine zf ?_
    refine ze rfl (fun h5 => ?_) (fun h6 => ?_)
    ·try simp at h5
     obtain ⟨x, hx⟩ : ∃ x, l[k]? = some x := ⟨_, List.getElem?_eq_getElem h5⟩
     have hdx := zI hx
     rw [hdx] at hg
     refine zi ?_
     refine zd ?_
     refine zf ?_
     refine zk ?_
     refine za ?_
     refine dmv rfl ?_
     refine dq (zH zht zbd rfl rfl rfl (by assumption)) ?_
     refine dq (zB zbd rfl rfl rfl rfl) ?_
     refine de rfl (zO zbd rfl fun b9 => ?_)
     refine das rfl ?_
     refine de0 (zR zbd rfl rfl rfl rfl rfl ?_)
     refine dn ?_
     refine zF (Ghost.fc0 9 rfl) ?_
     refine zf ?_
     refine zk ?_
     refine za ?_
     refine dq (zb zV rfl zA (by decide) rfl) ?_
     refine dq (zc zA rfl rfl rfl) ?_
     refine dq (zb zbd rfl ty9 (by decide) rfl) ?_
     refine dq (zc ty9 rfl rfl rfl) ?_
     refine dq (zj zii rfl (WeakL.refl _) (zaj (by omega))) ?_
     refine dq (zW rfl) ?_
     refine dmv rfl ?_
     refine dg rfl rfl (fun hc => ⟨_, OpenTo.refl _, zb zbd rfl ty9 (by decide) rfl⟩) ?_
     refine dg rfl rfl (fun hc => ⟨_, OpenTo.upd (t := 34) rfl (hc) (OpenTo.refl _), zc ty9 rfl rfl rfl⟩) ?_
     refine dg rfl rfl (fun hc => by have hq := hc; (try simp at hq); exact ⟨_, OpenTo.upd (t := 35) rfl (hc) (OpenTo.refl _), zj zoH rfl (WeakL.refl _) (zgq (by assumption) (by assumption))⟩) ?_
     refine dg rfl rfl (fun hc => ⟨_, OpenTo.upd (t := 36) rfl (hc) (OpenTo.refl _), zW rfl⟩) ?_
     refine dq (zw rfl (.inl rfl) (.inr ⟨_, rfl, fun h => by simp_all⟩)) ?_
     refine das rfl ?_
     refine dn ?_
     refine ze rfl (fun h7 => ?_) (fun h8 => ?_)
     ·try simp at h7
      refine za ?_
      refine das rfl ?_
      refine dn ?_
      refine zg ?_
      (refine za2 Ghost.drop rfl ⟨?_, rfl⟩
       show HVal.int .i64 _ = _
       first | (rw [hg, zbJ]; simp_all; done))
     ·try simp at h8
      refine za ?_
      refine dq (zb zbd rfl ty3 (by decide) rfl) ?_
      refine dq (zc ty3 rfl rfl rfl) ?_
      refine dq (zb zV rfl ty3 (by decide) rfl) ?_
      refine dq (zc ty3 rfl rfl rfl) ?_
      refine dq (zj zcI rfl (WeakL.refl _) zaC) ?_
      refine das rfl ?_
      refine dn ?_
      refine ze rfl (fun h9 => ?_) (fun h10 => ?_)
      ·try simp at h9
       refine za ?_
       refine das rfl ?_
       refine dn ?_
       refine zg ?_
       (refine za2 Ghost.drop rfl ⟨?_, rfl⟩
        show HVal.int .i64 _ = _
        first | (rw [hg, zbJ]; simp_all; done))
      ·try simp at h10
       refine zaF (fun _ => True) [] mixed ?_
       refine ahp 0 rfl rfl (by kernel_rfl) (by kernel_rfl) (zh rfl) ?_
       refine ahp 1 rfl rfl (by kernel_rfl) (by kernel_rfl) (z6 rfl rfl) ?_
       refine ahp 2 rfl rfl (by kernel_rfl) (by kernel_rfl) (zh rfl) ?_
       refine ahg 3 rfl rfl (by kernel_rfl) (by kernel_rfl) rfl (fun hc => ⟨_, OpenTo.refl _, zb zbd rfl ty9 (by decide) rfl⟩) ?_
       refine ahg 4 rfl rfl (by kernel_rfl) (by kernel_rfl) rfl (fun hc => ⟨_, OpenTo.upd (t := 49) rfl (hc) (OpenTo.refl _), zc ty9 rfl rfl rfl⟩) ?_
       refine ahg 5 rfl rfl (by kernel_rfl) (by kernel_rfl) rfl (fun hc => ⟨_, OpenTo.refl _, zh rfl⟩) ?_
       refine ahg 6 rfl rfl (by kernel_rfl) (by kernel_rfl) rfl (fun hc => ⟨_, OpenTo.refl _, zh rfl⟩) ?_
       refine ahg 7 rfl rfl (by kernel_rfl) (by kernel_rfl) rfl (fun hc => by have hq := hc; (try simp at hq); exact ⟨_, OpenTo.upd (t := 52) rfl (hc) (OpenTo.refl _), zal rfl rfl (by omega) (by omega)⟩) ?_
       refine ahg 8 rfl rfl (by kernel_rfl) (by kernel_rfl) rfl (fun hc => by have hq := hc; (try simp at hq); exact ⟨_, OpenTo.upd (t := 53) rfl (hc) (OpenTo.upd (t := 51) rfl (hc) (OpenTo.refl _)), zH (j := k - 1) (a := l.getD (k - 1) zmv) zht zbd rfl rfl (by omega) (getD_some (by omega))⟩) ?_
       refine ahg 9 rfl rfl (by kernel_rfl) (by kernel_rfl) rfl (fun hc => ⟨_, OpenTo.upd (t := 54) rfl (hc) (OpenTo.refl _), zb zbd rfl ty9 (by decide) rfl⟩) ?_
       refine ahg 10 rfl rfl (by kernel_rfl) (by kernel_rfl) rfl (fun hc => ⟨_, OpenTo.upd (t := 55) rfl (hc) (OpenTo.refl _), zc ty9 rfl rfl rfl⟩) ?_
       refine ahg 11 rfl rfl (by kernel_rfl) (by kernel_rfl) rfl (fun hc => ⟨_, OpenTo.upd (t := 56) rfl (hc) (OpenTo.upd (t := 50) rfl (hc) (OpenTo.refl _)), zj zlg rfl (WeakL.refl _) zbE⟩) ?_
       refine ahg 12 rfl rfl (by kernel_rfl) (by kernel_rfl) rfl (fun hc => ⟨_, OpenTo.refl _, zb zbd rfl ty3 (by decide) rfl⟩) ?_
       refine ahg 13 rfl rfl (by kernel_rfl) (by kernel_rfl) rfl (fun hc => ⟨_, OpenTo.upd (t := 58) rfl (hc) (OpenTo.refl _), zc ty3 rfl rfl rfl⟩) ?_
       refine ahg 14 rfl rfl (by kernel_rfl) (by kernel_rfl) rfl (fun hc => ⟨_, OpenTo.refl _, zh rfl⟩) ?_
       refine ahg 15 rfl rfl (by kernel_rfl) (by kernel_rfl) rfl (fun hc => ⟨_, OpenTo.refl _, zh rfl⟩) ?_
       refine ahg 16 rfl rfl (by kernel_rfl) (by kernel_rfl) rfl (fun hc => by have hq := hc; (try simp at hq); exact ⟨_, OpenTo.upd (t := 61) rfl (hc) (OpenTo.refl _), zal rfl rfl (by omega) (by omega)⟩) ?_
       refine ahg 17 rfl rfl (by kernel_rfl) (by kernel_rfl) rfl (fun hc => by have hq := hc; (try simp at hq); exact ⟨_, OpenTo.upd (t := 62) rfl (hc) (OpenTo.upd (t := 60) rfl (hc) (OpenTo.refl _)), zH (j := k - 1) (a := l.getD (k - 1) zmv) zht zbd rfl rfl (by omega) (getD_some (by omega))⟩) ?_
       refine ahg 18 rfl rfl (by kernel_rfl) (by kernel_rfl) rfl (fun hc => ⟨_, OpenTo.upd (t := 63) rfl (hc) (OpenTo.refl _), zb zbd rfl ty3 (by decide) rfl⟩) ?_
       refine ahg 19 rfl rfl (by kernel_rfl) (by kernel_rfl) rfl (fun hc => ⟨_, OpenTo.upd (t := 64) rfl (hc) (OpenTo.refl _), zc ty3 rfl rfl rfl⟩) ?_
       refine ahg 20 rfl rfl (by kernel_rfl) (by kernel_rfl) rfl (fun hc => ⟨_, OpenTo.upd (t := 65) rfl (hc) (OpenTo.upd (t := 59) rfl (hc) (OpenTo.refl _)), zj zpw rfl (WeakL.refl _) zcv⟩) ?_
       refine ahg 21 rfl rfl (by kernel_rfl) (by kernel_rfl) rfl (fun hc => ⟨_, OpenTo.upd (t := 66) rfl (hc) (OpenTo.upd (t := 57) rfl (hc) (OpenTo.refl _)), zG (hs := [_, _]) zbT ty3 rfl rfl (by decide) (by decide) rfl⟩) ?_
       refine ahg 22 rfl rfl (by kernel_rfl) (by kernel_rfl) rfl (fun hc => ⟨_, OpenTo.upd (t := 67) rfl (hc) (OpenTo.refl _), zj zoJ rfl (WeakL.refl _) (zez (l := [_, _]) (by simp))⟩) ?_
       refine ahg 23 rfl rfl (by kernel_rfl) (by kernel_rfl) rfl (fun hc => ⟨_, OpenTo.upd (t := 68) rfl (hc) (OpenTo.refl _), zcF rfl rfl⟩) ?_
       refine ahp 24 rfl rfl (by kernel_rfl) (by kernel_rfl) (zw rfl (.inr ⟨_, rfl, fun h => by simp_all⟩) (.inl rfl)) ?_
       refine ahp 25 rfl rfl (by kernel_rfl) (by kernel_rfl) (zaJ rfl) ?_
       refine ahz (by kernel_rfl) ?_
       refine ze rfl (fun h11 => ?_) (fun h12 => ?_)
       ·try simp at h11
        refine za ?_
        refine das rfl ?_
        refine dn ?_
        refine zg ?_
        (refine za2 Ghost.drop rfl ⟨?_, rfl⟩
         show HVal.int .i64 _ = _
         first | (rw [hg, zbJ]; simp_all; done))
       ·try simp at h12
        refine zi ?_
        refine zu ?_
        refine zd ?_
        refine za ?_
        refine dmv rfl ?_
        refine dmv rfl ?_
        refine dg rfl rfl (fun hc => ⟨_, OpenTo.refl _, zh rfl⟩) ?_
        refine dg rfl rfl (fun hc => ⟨_, OpenTo.refl _, zb zbd rfl ty9 (by decide) rfl⟩) ?_
        refine dg rfl rfl (fun hc => ⟨_, OpenTo.upd (t := 74) rfl (hc) (OpenTo.refl _), zc ty9 rfl rfl rfl⟩) ?_
        refine dgl rfl rfl (fun hc => ⟨_, OpenTo.upd (t := 75) rfl (hc) (OpenTo.upd (t := 73) rfl (hc) (OpenTo.refl _)), zgT (i := 0) zcM ty9 ty4 rfl rfl rfl ⟨rfl, rfl⟩⟩) ?_
        refine dq (zw rfl (.inl rfl) (.inr ⟨_, rfl, fun h => by simp_all⟩)) ?_
        refine das rfl ?_
        refine dn ?_
        refine zy ?_
        refine dmv rfl ?_
        refine dq (zb zbd rfl ty9 (by decide) rfl) ?_
        refine dq (zc ty9 rfl rfl rfl) ?_
        refine de0 (zbZ (i := 0) zcM ty9 rfl rfl rfl rfl ?_)
        refine dn ?_
        refine zu ?_
        refine zd ?_
        refine zy ?_
        refine dq (zx rfl rfl (by omega) (by omega)) ?_
        refine dmv rfl ?_
        refine dn ?_
        refine ⟨k + 1, zaY x.Player kept, tw || kept.contains x.Player, ?_, ?_, ⟨rfl, rfl, trivial⟩, (by repeat (first | exact zo | refine zt rfl ?_ | refine zp rfl rfl ?_)), List.Perm.refl _⟩
        ·refine ⟨by omega, ?_⟩
         rw [hg, zbJ]; simp_all
         intro h1 h2; have := h12 h1; omega
        ·dsimp only; omega
    ·try simp at h6
     have hnk : l.length ≤ k := by omega
     obtain rfl : k = l.length := by omega
     rw [zaq (Nat.le_refl _)] at hg
     refine zL ?_
     refine zS ?_
     refine zee ?_
     refine zD ?_
     refine zd ?_
     refine zf ?_
     refine za ?_
     refine dmv rfl ?_
     refine dn ?_
     refine ze rfl (fun h13 => ?_) (fun h14 => ?_)
     ·try simp at h13
      refine za ?_
      refine das rfl ?_
      refine dn ?_
      refine zg ?_
      (refine za2 Ghost.drop rfl ⟨?_, rfl⟩
       show HVal.int .i64 _ = _
       first | (rw [hg, zbJ]; simp_all; done))
     ·try simp at h14
      refine zi ?_
      refine zd ?_
      refine za ?_
      refine das rfl ?_
      refine dn ?_
      refine zg ?_
      (refine za2 Ghost.drop rfl ⟨?_, rfl⟩
       show HVal.int .i64 _ = _
       first | (rw [hg, zbJ]; simp_all; done))

/-- benchwarmer/draft.turns -/
theorem zhA [Tracks] {r : Room} {s : List Swap} (ht : r.Teams.length ≤ 20) (hr0 : 1 ≤ r.Rounds) (hr : r.Rounds ≤ 30) (hl : s.length ≤ 1000000) : ConP Tryz.prog 58 [.vptr (zl (zby r)) 0, zb7 s] (zsG (turns r s)) := by
 refine Con.of_body Tryz.func58 rfl Tryz.ntmps58 rfl rfl ?_
 refine za ?_
 refine das rfl ?_
 refine dn ?_
 refine za ?_
 refine das rfl ?_
 refine dn ?_
 refine zF (Ghost.arr_nil 3) ?_
 refine zf ?_
 refine za ?_
 refine das rfl ?_
 refine dn ?_
 refine zk ?_
 refine zaS [5, 6, 7, 9, 10, 11, 12, 13, 14, 15, 16, 17, 18, 19, 20, 21, 22, 23, 24, 25, 26, 27, 28, 29, 30, 31, 32, 33, 34, 35, 36, 37, 38, 39, 40, 41, 42, 43, 44, 45, 46, 47] (fun (n : Nat) (v : Value) => [(6, .int .i64 ((n : Int) + 1)), (5, .raw v)]) (fun (n : Nat) (v : Value) => [.arr v 3 ((zay r s n).map zkH)]) (fun (n : Nat) (v : Value) => n ≤ r.Rounds.toNat) (fun (n : Nat) (v : Value) => r.Rounds.toNat - n) (0) (.slice none 0 0) ?_ ?_ ?_ ?_
 ·exact Nat.zero_le _
 ·exact ⟨rfl, rfl, trivial⟩
 ·exact List.Perm.refl _
 ·intro n v hn
  refine zf ?_
  refine za ?_
  refine dmv rfl ?_
  refine dmv rfl ?_
  refine dq ((zac rfl)) ?_
  refine dq (zb zV rfl ty3 (by decide) rfl) ?_
  refine dq (zc ty3 rfl rfl rfl) ?_
  refine dq (zcF rfl rfl) ?_
  refine dn ?_
  refine ze rfl (fun h1 => ?_) (fun h2 => ?_)
  ·try simp at h1
   have hn30 : n < r.Rounds.toNat := by omega
   refine zi ?_
   refine zd ?_
   refine zf ?_
   refine zk ?_
   refine za ?_
   refine dmv rfl ?_
   refine dq ((zac rfl)) ?_
   refine dq (zb zV rfl zA (by decide) rfl) ?_
   refine dq (zc zA rfl rfl rfl) ?_
   refine de rfl (zgd ca20 rfl (WeakL.refl _) (zcy (by omega)) fun v22 => ?_)
   refine das rfl ?_
   refine dn ?_
   refine zk4 [23, 24, 25, 26, 27, 28, 29, 30] (fun (L : List Str) => []) (fun (L : List Str) => [.arr v22 1 (L.map .str), .arr v 3 ((zay r s n).map zkH)]) (fun (L : List Str) => L = if backwards r.Way ((n : Int) + 1) then r.Teams.reverse else r.Teams) ?_ ?_
   ·skip
    refine za ?_
    refine dmv rfl ?_
    refine dq ((zac rfl)) ?_
    refine dq (zb zV rfl ty3 (by decide) rfl) ?_
    refine dq (zc ty3 rfl rfl rfl) ?_
    refine dmv rfl ?_
    refine dq (zj ztx rfl (WeakL.refl _) zjn) ?_
    refine dn ?_
    refine ze rfl (fun h3 => ?_) (fun h4 => ?_)
    ·try simp at h3
     refine zy ?_
     refine dmv rfl ?_
     refine de rfl (zaK (M1 := [_]) (R := [_]) ztc rfl (WeakL.refl _) (List.Perm.refl _) (zeA (l := r.Teams) (by omega)) ?_)
     rintro _ _ ⟨rfl, rfl⟩
     refine dn ?_
     refine ⟨_, ?_, trivial, (by repeat (first | exact zo | refine zt rfl ?_ | refine zp rfl rfl ?_)), List.Perm.refl _⟩
     ·simp_all
    ·try simp at h4
     refine zi ?_
     refine ⟨_, ?_, trivial, (by repeat (first | exact zo | refine zt rfl ?_ | refine zp rfl rfl ?_)), List.Perm.refl _⟩
     ·simp_all
   ·intro L hL
    have hLl : L.length = r.Teams.length := by rw [hL]; split <;> simp
    have hb := zcb r s n
    have hm := Nat.mul_le_mul (show n ≤ 30 by omega) (show r.Teams.length ≤ 20 by omega)
    refine zF (Ghost.fa0 7 rfl) ?_
    refine za ?_
    refine dmv rfl ?_
    refine dq (zv zA rfl) ?_
    refine dmv rfl ?_
    refine dn ?_
    refine zk ?_
    refine zaS [5, 9, 33, 34, 35, 36, 37, 38, 39, 40, 41, 42, 43, 44, 45, 46, 47] (fun (k : Nat) (u : Value) => [(33, .int .i64 k), (5, .raw u)]) (fun (k : Nat) (u : Value) => [.arr u 3 ((zay r s n).map zkH ++ (L.take k).map fun t => zkH ⟨(n : Int) + 1, t, owner ((n : Int) + 1) t s⟩)]) (fun (k : Nat) (u : Value) => k ≤ L.length ∧ (True)) (fun (k : Nat) (u : Value) => L.length - k) (0) (v) ?_ ?_ ?_ ?_
    ·exact ⟨Nat.zero_le _, by simp_all⟩
    ·exact ⟨rfl, rfl, trivial⟩
    ·exact zU (by simp)
    ·intro k u hinv
     obtain ⟨hk, -⟩ := hinv
     refine za ?_
     refine dq (zK rfl rfl) ?_
     refine dn ?_
     refine zf ?_
     refine ze rfl (fun h5 => ?_) (fun h6 => ?_)
     ·try simp at h5
      obtain ⟨x, hx⟩ : ∃ x, L[k]? = some x := ⟨_, List.getElem?_eq_getElem h5⟩
      have hdx := zI hx
      refine zi ?_
      refine zd ?_
      refine zf ?_
      refine zk ?_
      refine za ?_
      refine dq (zH zA ty9 rfl rfl rfl (by assumption)) ?_
      refine dq (zc ty9 rfl rfl rfl) ?_
      refine das rfl ?_
      refine dn ?_
      refine zy ?_
      refine dmv rfl ?_
      refine dmv rfl ?_
      refine dmv rfl ?_
      refine dmv rfl ?_
      refine dmv rfl ?_
      refine dmv rfl ?_
      refine dq (zj ztb rfl (WeakL.refl _) (zmj (by assumption))) ?_
      refine dq (zau (cs := [_, _, _]) zcV ztn rfl) ?_
      refine dq (zG (hs := [_]) zi9 zcV rfl rfl (by decide) (by decide) rfl) ?_
      refine de rfl (zaO (i := 0) zi9 zcV rfl rfl rfl rfl rfl (by simp [za6, zl]) (by simp; omega) fun v46 => ?_)
      refine das rfl ?_
      refine dn ?_
      refine zu ?_
      refine zd ?_
      refine zy ?_
      refine dq (zx rfl rfl (by omega) (by omega)) ?_
      refine dmv rfl ?_
      refine dn ?_
      refine ⟨k + 1, _, ?_, ?_, ⟨rfl, rfl, trivial⟩, (by repeat (first | exact zo | refine zt rfl ?_ | refine zp rfl rfl ?_)), zU (by simp [List.take_add_one, hx])⟩
      ·exact ⟨by omega, trivial⟩
      ·dsimp only; omega
     ·try simp at h6
      have hnk : L.length ≤ k := by omega
      obtain rfl : k = L.length := by omega
      refine zL ?_
      refine zS ?_
      refine za8 ?_
      refine zD ?_
      refine zu ?_
      refine zd ?_
      refine zy ?_
      refine dmv rfl ?_
      refine dq (zx rfl rfl (by omega) (by omega)) ?_
      refine das rfl ?_
      refine dn ?_
      refine ⟨n + 1, _, ?_, ?_, ⟨rfl, rfl, trivial⟩, (by repeat (first | exact zo | refine zt rfl ?_ | refine zp rfl rfl ?_)), zU (by simp [zay, zbL, hL, List.map_append, Function.comp_def])⟩
      ·omega
      ·dsimp only; omega
  ·try simp at h2
   obtain rfl : n = r.Rounds.toNat := by omega
   refine zL ?_
   refine zS ?_
   refine za8 ?_
   refine zD ?_
   refine zd ?_
   refine za ?_
   refine dmv rfl ?_
   refine das rfl ?_
   refine dn ?_
   refine zg ?_
   exact zgU (M := []) 4 rfl rfl rfl

/-- benchwarmer/draft.Turns -/
theorem zmi [Tracks] {r : Room} {s : List Swap} (ht : r.Teams.length ≤ 1000000) (hp : r.Players.length ≤ 1000000) (hl : s.length ≤ 1000000) : ConP Tryz.prog 28 [zby r, zb7 s] (.tup [eSs (zcd r s), .int .i64 (zaI r s)]) := by
 refine Con.of_body Tryz.func28 rfl Tryz.ntmps28 rfl rfl ?_
 refine za ?_
 refine dq (zam rfl rfl) ?_
 refine das rfl ?_
 refine das rfl ?_
 refine dn ?_
 refine zf ?_
 refine za ?_
 refine dq (zB zV rfl rfl rfl rfl) ?_
 refine dmv rfl ?_
 refine dq (zj ca57 rfl (WeakL.refl _) (zfg (by assumption) (by assumption) (by assumption))) ?_
 refine das rfl ?_
 refine dn ?_
 refine za ?_
 refine dmv rfl ?_
 refine dq (zah rfl rfl) ?_
 refine dn ?_
 refine ze rfl (fun h1 => ?_) (fun h2 => ?_)
 ·try simp at h1
  refine za ?_
  refine dmv rfl ?_
  refine das rfl ?_
  refine das rfl ?_
  refine dn ?_
  refine zg ?_
  exact ze4 rfl (zbn (by rw [zcd, if_pos (by simp_all)]; exact zaV 1) (Weak.refl _))
 ·try simp at h2
  refine zi ?_
  refine zd ?_
  refine za ?_
  refine das rfl ?_
  refine dn ?_
  refine zF (Ghost.arr_nil 1) ?_
  refine zf ?_
  refine za ?_
  obtain ⟨_, hq1, _, hq2, hq3, _⟩ := zb6 (r := r) ((zfi (l := s) h2).1)
  have hlen := zhX (r := r) (s := s) (zfi h2).1
  refine dmv rfl ?_
  refine dq (zj ca58 rfl (WeakL.refl _) (zhA (by assumption) (by assumption) (by assumption) (by assumption))) ?_
  refine dq (zv zi9 rfl) ?_
  refine dmv rfl ?_
  refine dn ?_
  refine zk ?_
  refine zaS [7, 9, 19, 20, 21, 22, 23, 24, 25, 26, 27, 28] (fun (k : Nat) (u : Value) => [(19, .int .i64 k), (7, .raw u)]) (fun (k : Nat) (u : Value) => [.arr u 1 (((turns r s).take k).map fun t => .str t.team)]) (fun (k : Nat) (u : Value) => k ≤ (turns r s).length ∧ (True)) (fun (k : Nat) (u : Value) => (turns r s).length - k) (0) (.slice none 0 0) ?_ ?_ ?_ ?_
  ·exact ⟨Nat.zero_le _, by simp_all⟩
  ·exact ⟨rfl, rfl, trivial⟩
  ·exact zU (by simp)
  ·intro k u hinv
   obtain ⟨hk, -⟩ := hinv
   refine za ?_
   refine dq (zK rfl rfl) ?_
   refine dn ?_
   refine zf ?_
   refine ze rfl (fun h3 => ?_) (fun h4 => ?_)
   ·try simp at h3
    obtain ⟨x, hx⟩ : ∃ x, (turns r s)[k]? = some x := ⟨_, List.getElem?_eq_getElem h3⟩
    have hdx := zI hx
    refine zi ?_
    refine zd ?_
    refine zf ?_
    refine zk ?_
    refine za ?_
    refine dq (zH zi9 zcV rfl rfl rfl (by assumption)) ?_
    refine dq (zB zcV rfl rfl rfl rfl) ?_
    refine de rfl (zO zcV rfl fun b9 => ?_)
    refine de0 (zR zcV rfl rfl rfl rfl rfl ?_)
    refine dn ?_
    refine zF (Ghost.fc0 9 rfl) ?_
    refine zy ?_
    refine dmv rfl ?_
    refine dq (zb zcV rfl ty9 (by decide) rfl) ?_
    refine dq (zc ty9 rfl rfl rfl) ?_
    refine dq (zG (hs := [_]) zA ty9 rfl rfl (by decide) (by decide) rfl) ?_
    refine de rfl (zaO (i := 0) zA ty9 rfl rfl rfl rfl rfl (by simp [za6, zl]) (by simp; omega) fun v27 => ?_)
    refine das rfl ?_
    refine dn ?_
    refine zu ?_
    refine zd ?_
    refine zy ?_
    refine dq (zx rfl rfl (by omega) (by omega)) ?_
    refine dmv rfl ?_
    refine dn ?_
    refine ⟨k + 1, _, ?_, ?_, ⟨rfl, rfl, trivial⟩, (by repeat (first | exact zo | refine zt rfl ?_ | refine zp rfl rfl ?_)), zU (by simp [List.take_add_one, hx])⟩
    ·exact ⟨by omega, trivial⟩
    ·dsimp only; omega
   ·try simp at h4
    have hnk : (turns r s).length ≤ k := by omega
    obtain rfl : k = (turns r s).length := by omega
    refine zL ?_
    refine zS ?_
    refine za8 ?_
    refine zD ?_
    refine zd ?_
    refine za ?_
    refine dmv rfl ?_
    refine das rfl ?_
    refine das rfl ?_
    refine dn ?_
    refine zg ?_
    (refine zgU (M := []) 4 rfl rfl ?_
     simp_all [zcd, eSs, Function.comp_def, zbi, zfa])

/-- benchwarmer/draft.openFault -/
theorem zjm [Tracks] {r : Room} {k : List Keep} {s : List Swap} (ht : r.Teams.length ≤ 1000000) (hp : r.Players.length ≤ 1000000) (hk0 : k.length ≤ 1000000) (hl : s.length ≤ 1000000) : ConP Tryz.prog 105 [zby r, zeE k, zb7 s] (.int .i64 (openFault r k s)) := by
 refine Con.of_body Tryz.func105 rfl Tryz.ntmps105 rfl rfl ?_
 refine za ?_
 refine dq (zam rfl rfl) ?_
 refine das rfl ?_
 refine dn ?_
 refine zf ?_
 refine zaF (fun _ => True) [] mixed ?_
 refine ahp 0 rfl rfl (by kernel_rfl) (by kernel_rfl) (zB zV rfl rfl rfl rfl) ?_
 refine ahp 1 rfl rfl (by kernel_rfl) (by kernel_rfl) (zh rfl) ?_
 refine ahp 2 rfl rfl (by kernel_rfl) (by kernel_rfl) (zj ztC rfl (WeakL.refl _) (ziQ (by assumption) (by assumption) (by assumption))) ?_
 refine ahp 3 rfl rfl (by kernel_rfl) (by kernel_rfl) (zB zV rfl rfl rfl rfl) ?_
 refine ahp 4 rfl rfl (by kernel_rfl) (by kernel_rfl) (zh rfl) ?_
 refine ahp 5 rfl rfl (by kernel_rfl) (by kernel_rfl) (zj ca57 rfl (WeakL.refl _) (zfg (by assumption) (by assumption) (by assumption))) ?_
 refine ahp 6 rfl rfl (by kernel_rfl) (by kernel_rfl) (zG (hs := [_, _]) zjb zlc rfl rfl (by decide) (by decide) rfl) ?_
 refine ahp 7 rfl rfl (by kernel_rfl) (by kernel_rfl) (zj zpq rfl (WeakL.refl _) (zey (l := [_, _]) (by simp))) ?_
 refine ahp 8 rfl rfl (by kernel_rfl) (by kernel_rfl) (zaJ rfl) ?_
 refine ahz (by kernel_rfl) ?_
 refine za ?_
 refine dmv rfl ?_
 refine dq (zah rfl rfl) ?_
 refine dn ?_
 refine ze rfl (fun h1 => ?_) (fun h2 => ?_)
 ·try simp at h1
  refine za ?_
  refine dmv rfl ?_
  refine das rfl ?_
  refine dn ?_
  refine zg ?_
  refine zm rfl ?_
  show HVal.int .i64 _ = _
  (rw [openFault, if_pos (by simp_all)]; done)
 ·try simp at h2
  refine zi ?_
  refine zd ?_
  refine zf ?_
  refine za ?_
  refine dmv rfl ?_
  refine dq (zv zht rfl) ?_
  refine dmv rfl ?_
  refine dn ?_
  refine zk ?_
  refine zab [6, 9, 23, 24, 25, 26, 27, 28, 29, 30] (fun (i : Nat) => [(23, .int .i64 i)]) (fun (i : Nat) => []) (fun (i : Nat) => i ≤ k.length ∧ (openFault r k s = zfC s (k.drop i))) (fun (i : Nat) => k.length - i) (0) ?_ ?_ ?_ ?_
  ·refine ⟨Nat.zero_le _, ?_⟩
   rw [openFault, if_neg (by simp_all)]; rfl
  ·exact ⟨rfl, trivial⟩
  ·exact List.Perm.refl _
  ·intro i hinv
   obtain ⟨hi, hg⟩ := hinv
   refine za ?_
   refine dq (zK rfl rfl) ?_
   refine dn ?_
   refine zf ?_
   refine ze rfl (fun h3 => ?_) (fun h4 => ?_)
   ·try simp at h3
    obtain ⟨x, hx⟩ : ∃ x, k[i]? = some x := ⟨_, List.getElem?_eq_getElem h3⟩
    have hdx := zI hx
    rw [hdx] at hg
    refine zi ?_
    refine zd ?_
    refine zf ?_
    refine zk ?_
    refine za ?_
    refine dq (zH zht zbd rfl rfl rfl (by assumption)) ?_
    refine dq (zB zbd rfl rfl rfl rfl) ?_
    refine de rfl (zO zbd rfl fun b9 => ?_)
    refine de0 (zR zbd rfl rfl rfl rfl rfl ?_)
    refine dn ?_
    refine zF (Ghost.fc0 9 rfl) ?_
    refine za ?_
    refine dmv rfl ?_
    refine dq (zew rfl rfl) ?_
    refine dq (zj zts rfl (WeakL.refl _) (zc9 (p := zms x) ztK (fun _ => zhO) hl)) ?_
    refine dn ?_
    refine ze rfl (fun h5 => ?_) (fun h6 => ?_)
    ·try simp at h5
     refine za ?_
     refine das rfl ?_
     refine dn ?_
     refine zg ?_
     refine zm rfl ?_
     show HVal.int .i64 _ = _
     (rw [hg, zfC]; simp_all; done)
    ·try simp at h6
     refine zi ?_
     refine zu ?_
     refine zd ?_
     refine zy ?_
     refine dq (zx rfl rfl (by omega) (by omega)) ?_
     refine dmv rfl ?_
     refine dn ?_
     refine ⟨i + 1, ?_, ?_, ⟨rfl, trivial⟩, (by repeat (first | exact zo | refine zt rfl ?_ | refine zp rfl rfl ?_)), List.Perm.refl _⟩
     ·refine ⟨by omega, ?_⟩
      rw [hg, zfC]; simp_all
     ·dsimp only; omega
   ·try simp at h4
    have hni : k.length ≤ i := by omega
    obtain rfl : i = k.length := by omega
    rw [zaq (Nat.le_refl _)] at hg
    refine zL ?_
    refine zS ?_
    refine zap ?_
    refine zD ?_
    refine zd ?_
    refine za ?_
    refine das rfl ?_
    refine dn ?_
    refine zg ?_
    refine zm rfl ?_
    show HVal.int .i64 _ = _
    (rw [hg]; rfl)

end
section
open Go.HL
/-- strings.makeASCIISet -/
theorem zgk [Tracks] {l : Str} (hl : l.length ≤ 1000000) (ha : ∀ c ∈ l, c.toNat < 128) : ConP Tryz.prog 136 [.str l] (.tup [.agg (asciiSet l), .bool true]) := by
 refine Con.of_bodyc Tryz.func136 rfl Tryz.ntmps136 rfl rfl ?_
 refine za ?_
 refine de rfl (zO zf4 rfl fun b2 => ?_)
 refine das rfl ?_
 refine dn ?_
 refine zf ?_
 refine za ?_
 refine das rfl ?_
 refine dn ?_
 refine zk ?_
 refine zab [3, 4, 5, 6, 7, 8, 9, 10, 11, 12, 13, 14, 15, 16, 17, 18, 19] (fun (k : Nat) => [(4, .int .i64 k)]) (fun (k : Nat) => [.cells b2 (asciiSet (l.take k))]) (fun (k : Nat) => k ≤ l.length ∧ (True)) (fun (k : Nat) => l.length - k) (0) ?_ ?_ ?_ ?_
 ·exact ⟨Nat.zero_le _, by simp_all⟩
 ·exact ⟨rfl, trivial⟩
 ·exact zU rfl
 ·intro k hinv
  obtain ⟨hk, -⟩ := hinv
  refine zf ?_
  refine za ?_
  refine dmv rfl ?_
  refine dmv rfl ?_
  refine dq (zc4 ty9 rfl) ?_
  refine dq (zK rfl rfl) ?_
  refine dn ?_
  refine ze rfl (fun h1 => ?_) (fun h2 => ?_)
  ·try simp at h1
   obtain ⟨x, hx⟩ : ∃ x, l[k]? = some x := ⟨_, List.getElem?_eq_getElem h1⟩
   have hdx := zI hx
   have hc := ha x (List.mem_of_getElem? hx)
   refine zi ?_
   refine zd ?_
   refine zf ?_
   refine zk ?_
   refine za ?_
   refine dmv rfl ?_
   refine dmv rfl ?_
   refine dq (zbK ty9 rfl rfl rfl (by assumption)) ?_
   refine das rfl ?_
   refine dn ?_
   refine zf ?_
   refine za ?_
   refine dmv rfl ?_
   refine dq (zbD rfl rfl) ?_
   refine dn ?_
   refine ze rfl (fun h3 => ?_) (fun h3 => ?_)
   ·exfalso
    try simp at h3
    omega
   ·try simp at h3
    refine zi ?_
    refine zd ?_
    refine zy ?_
    refine dmv rfl ?_
    refine dq (zm0 zf4 ty4 rfl rfl rfl (by omega)) ?_
    refine de0 (zat (i := 0) ty4 rfl rfl rfl rfl rfl (by rw [zb4]; omega) ?_)
    refine dn ?_
    refine zu ?_
    refine zd ?_
    refine zy ?_
    refine dmv rfl ?_
    refine dq (zx rfl rfl (by omega) (by omega)) ?_
    refine das rfl ?_
    refine dn ?_
    refine ⟨k + 1, ?_, ?_, ⟨rfl, trivial⟩, (by repeat (first | exact zo | refine zt rfl ?_ | refine zp rfl rfl ?_)), zU (by show [MObj.cells b2 (zZ _ (0 + x.toNat * 1) [.bool true])] = _; rw [zmG]; dsimp only; rw [List.take_add_one, hx]; rfl)⟩
    ·exact ⟨by omega, trivial⟩
    ·dsimp only; omega
  ·try simp at h2
   have hnk : l.length ≤ k := by omega
   obtain rfl : k = l.length := by omega
   refine zL ?_
   refine zS ?_
   refine zap ?_
   refine zD ?_
   refine zd ?_
   refine zF (Ghost.of_eq (M' := [.cells b2 (asciiSet l)]) (by rw [List.take_length])) ?_
   refine za ?_
   refine de rfl (zgc (i := 0) (h := .agg (asciiSet l)) zf4 rfl rfl rfl rfl (zb4 l) ?_)
   refine de0 (zR (h := .agg (asciiSet l)) zf4 rfl rfl (by simp [zc7, zb4]) (zmd l) (zb4 l) ?_)
   refine das rfl ?_
   refine dn ?_
   refine zg ?_
   refine ⟨_, _, Ghost.fc0 2 rfl, [_, _], _, ⟨⟨_, _, _, _, _, rfl, zf4, .inr ⟨rfl, rfl, rfl⟩⟩, ⟨rfl, trivial⟩⟩, Weak.refl _, ?_, rfl⟩
   rfl

/-- (*strings.asciiSet).contains -/
theorem zcP [Tracks] {l : Str} {c : UInt8}  : ConP Tryz.prog 167 [.vptr (asciiSet l) 0, .int .u8 c.toNat] (.bool (l.contains c)) := by
 have hc := c.toNat_lt
 refine Con.of_body Tryz.func167 rfl Tryz.ntmps167 rfl rfl ?_
 refine za ?_
 refine das rfl ?_
 refine dn ?_
 refine za ?_
 refine dmv rfl ?_
 refine dmv rfl ?_
 refine dq ((zac rfl)) ?_
 refine dq (zrA zf4 ty4 rfl rfl rfl (by omega)) ?_
 refine dq (zc ty4 rfl rfl (by rw [show 0 + c.toNat * 1 = c.toNat from by omega]; exact ziP l c)) ?_
 refine das rfl ?_
 refine dn ?_
 refine zg ?_
 refine zm rfl ?_
 rfl

/-- strings.trimLeftASCII -/
theorem zfY [Tracks] {s l : Str} (hl : s.length ≤ 1000000) : ConP Tryz.prog 137 [.str s, .vptr (asciiSet l) 0] (.str (s.dropWhile (l.contains ·))) := by
 refine Con.of_body Tryz.func137 rfl Tryz.ntmps137 rfl rfl ?_
 refine za ?_
 refine das rfl ?_
 refine dn ?_
 refine zf ?_
 refine zk ?_
 refine zab [0, 5, 6, 7, 8, 9, 10, 11, 12, 13, 14] (fun (t : Str) => [(0, .str t)]) (fun (t : Str) => []) (fun (t : Str) => t.length ≤ s.length ∧ s.dropWhile (l.contains ·) = t.dropWhile (l.contains ·)) (fun (t : Str) => t.length) (s) ?_ ?_ ?_ ?_
 ·exact ⟨Nat.le_refl _, rfl⟩
 ·exact ⟨rfl, trivial⟩
 ·exact List.Perm.refl _
 ·intro t hinv
  obtain ⟨ht, hg⟩ := hinv
  refine zf ?_
  refine za ?_
  refine dmv rfl ?_
  refine dq (zc4 ty9 rfl) ?_
  refine dq (z6 rfl rfl) ?_
  refine dn ?_
  refine ze rfl (fun h1 => ?_) (fun h2 => ?_)
  ·try simp at h1
   obtain ⟨x, u, rfl⟩ : ∃ x u, t = x :: u := by cases t with | nil => simp at h1 | cons x u => exact ⟨x, u, rfl⟩
   have hlen : (x :: u).length = u.length + 1 := rfl
   refine zi ?_
   refine zd ?_
   refine zk ?_
   refine zf ?_
   refine za ?_
   refine dmv rfl ?_
   refine dmv rfl ?_
   refine dq (zbK (j := 0) (b := x) ty9 rfl rfl rfl rfl) ?_
   refine dq (zj zrX rfl (WeakL.refl _) zcP) ?_
   refine dq (zW rfl) ?_
   refine dn ?_
   refine ze rfl (fun h3 => ?_) (fun h4 => ?_)
   ·try simp at h3
    refine zL ?_
    refine zS ?_
    refine zl3 rfl ?_
    refine zap ?_
    refine zD ?_
    refine zd ?_
    refine za ?_
    refine dmv rfl ?_
    refine das rfl ?_
    refine dn ?_
    refine zg ?_
    refine zm rfl ?_
    show HVal.str _ = _
    rw [hg]; simp_all [List.dropWhile_cons]
   ·try simp at h4
    refine zi ?_
    refine zd ?_
    refine zy ?_
    refine dmv rfl ?_
    refine dq (zj9 (l := 1) ty9 rfl ⟨_, _, rfl, rfl⟩ rfl (by omega) (by omega)) ?_
    refine das rfl ?_
    refine dn ?_
    refine zu ?_
    refine ⟨_, ?_, ?_, ⟨rfl, trivial⟩, (by repeat (first | exact zo | refine zt rfl ?_ | refine zp rfl rfl ?_)), List.Perm.refl _⟩
    ·refine ⟨by simp at ht ⊢; omega, ?_⟩
     rw [hg]; simp_all [List.dropWhile_cons]
    ·dsimp only; simp
  ·try simp at h2
   obtain rfl : t = [] := by simpa using h2
   refine zL ?_
   refine zS ?_
   refine zap ?_
   refine zD ?_
   refine zd ?_
   refine za ?_
   refine dmv rfl ?_
   refine das rfl ?_
   refine dn ?_
   refine zg ?_
   refine zm rfl ?_
   show HVal.str _ = _
   rw [hg]; simp_all [List.dropWhile_cons]

/-- strings.trimRightASCII -/
theorem zfW [Tracks] {s l : Str} (hl : s.length ≤ 1000000) : ConP Tryz.prog 138 [.str s, .vptr (asciiSet l) 0] (.str (zd3 (l.contains ·) s)) := by
 refine Con.of_body Tryz.func138 rfl Tryz.ntmps138 rfl rfl ?_
 refine za ?_
 refine das rfl ?_
 refine dn ?_
 refine zf ?_
 refine zk ?_
 refine zab [0, 5, 6, 7, 8, 9, 10, 11, 12, 13, 14, 15, 16, 17, 18, 19, 20] (fun (t : Str) => [(0, .str t)]) (fun (t : Str) => []) (fun (t : Str) => t.length ≤ s.length ∧ zd3 (l.contains ·) s = zd3 (l.contains ·) t) (fun (t : Str) => t.length) (s) ?_ ?_ ?_ ?_
 ·exact ⟨Nat.le_refl _, rfl⟩
 ·exact ⟨rfl, trivial⟩
 ·exact List.Perm.refl _
 ·intro t hinv
  obtain ⟨ht, hg⟩ := hinv
  refine zf ?_
  refine za ?_
  refine dmv rfl ?_
  refine dq (zc4 ty9 rfl) ?_
  refine dq (z6 rfl rfl) ?_
  refine dn ?_
  refine ze rfl (fun h1 => ?_) (fun h2 => ?_)
  ·try simp at h1
   obtain ⟨u, x, rfl⟩ : ∃ u x, t = u ++ [x] := ⟨_, _, (List.dropLast_concat_getLast (by intro h0; subst h0; simp at h1)).symm⟩
   have hlen : (u ++ [x]).length = u.length + 1 := by simp
   refine zi ?_
   refine zd ?_
   refine zk ?_
   refine zf ?_
   refine za ?_
   refine dmv rfl ?_
   refine dmv rfl ?_
   refine dmv rfl ?_
   refine dq (zc4 ty9 rfl) ?_
   refine dq (zal rfl rfl (by omega) (by omega)) ?_
   refine dq (zbK (j := u.length) (b := x) ty9 rfl rfl (by omega) (by simp)) ?_
   refine dq (zj zrX rfl (WeakL.refl _) zcP) ?_
   refine dq (zW rfl) ?_
   refine dn ?_
   refine ze rfl (fun h3 => ?_) (fun h4 => ?_)
   ·try simp at h3
    refine zL ?_
    refine zS ?_
    refine zl3 rfl ?_
    refine zap ?_
    refine zD ?_
    refine zd ?_
    refine za ?_
    refine dmv rfl ?_
    refine das rfl ?_
    refine dn ?_
    refine zg ?_
    refine zm rfl ?_
    show HVal.str _ = _
    rw [hg]; first | rfl | (rw [zfw, if_neg (by simp_all)])
   ·try simp at h4
    refine zi ?_
    refine zd ?_
    refine zy ?_
    refine dmv rfl ?_
    refine dmv rfl ?_
    refine dq (zc4 ty9 rfl) ?_
    refine dq (zal rfl rfl (by omega) (by omega)) ?_
    refine dq (zj9 (l := 0) (h := u.length) ty9 rfl rfl ⟨_, _, rfl, by omega⟩ (by omega) (by omega)) ?_
    refine das rfl ?_
    refine dn ?_
    refine zu ?_
    refine ⟨_, ?_, ?_, ⟨rfl, trivial⟩, (by repeat (first | exact zo | refine zt rfl ?_ | refine zp rfl rfl ?_)), List.Perm.refl _⟩
    ·refine ⟨by simp at ht ⊢; omega, ?_⟩
     rw [hg, zfw, if_pos (by simp_all)]; simp
    ·dsimp only; simp
  ·try simp at h2
   obtain rfl : t = [] := by simpa using h2
   refine zL ?_
   refine zS ?_
   refine zap ?_
   refine zD ?_
   refine zd ?_
   refine za ?_
   refine dmv rfl ?_
   refine das rfl ?_
   refine dn ?_
   refine zg ?_
   refine zm rfl ?_
   show HVal.str _ = _
   rw [hg]; first | rfl | (rw [zfw, if_neg (by simp_all)])

/-- strings.Trim -/
theorem zk0 [Tracks] {s l : Str} (hs : s.length ≤ 1000000) (hl : l.length ≤ 1000000) (h2l : 2 ≤ l.length) (ha : ∀ c ∈ l, c.toNat < 128) : ConP Tryz.prog 89 [.str s, .str l] (.str ((zd3 (l.contains ·) s).dropWhile (l.contains ·))) := by
 refine Con.of_body Tryz.func89 rfl Tryz.ntmps89 rfl rfl ?_
 refine za ?_
 refine das rfl ?_
 refine dn ?_
 refine zf ?_
 refine za ?_
 refine dmv rfl ?_
 refine dq (zbh rfl rfl) ?_
 refine dmv rfl ?_
 refine dg rfl rfl (fun hc => ⟨_, OpenTo.refl _, zh rfl⟩) ?_
 refine dg rfl rfl (fun hc => ⟨_, OpenTo.upd (t := 10) rfl (hc) (OpenTo.refl _), zbh rfl rfl⟩) ?_
 refine dq (zw rfl (.inl rfl) (.inr ⟨_, rfl, fun h => by simp_all⟩)) ?_
 refine dn ?_
 refine ze rfl (fun h1 => ?_) (fun h2 => ?_)
 ·try simp at h1
  refine za ?_
  refine dmv rfl ?_
  refine das rfl ?_
  refine dn ?_
  refine zg ?_
  refine zm rfl ?_
  show HVal.str _ = _
  (rcases h1 with rfl | rfl <;> first | (simp at h2l; done) | (simp [zd3]; done))
 ·try simp at h2
  refine zi ?_
  refine zd ?_
  refine zf ?_
  refine za ?_
  refine dmv rfl ?_
  refine dq (zc4 ty9 rfl) ?_
  refine dq (zaz rfl rfl) ?_
  refine dmv rfl ?_
  refine dg rfl rfl (fun hc => ⟨_, OpenTo.refl _, zh rfl⟩) ?_
  refine dg rfl rfl (fun hc => ⟨_, OpenTo.upd (t := 18) rfl (hc) (OpenTo.refl _), zbK (j := 0) (b := l.headD 0) ty9 rfl rfl rfl (hd0 (by intro h0; subst h0; simp at h2l))⟩) ?_
  refine dg rfl rfl (fun hc => ⟨_, OpenTo.upd (t := 19) rfl (hc) (OpenTo.refl _), zK rfl rfl⟩) ?_
  refine dq (zw rfl (.inr ⟨_, rfl, fun h => by simp_all⟩) (.inl rfl)) ?_
  refine dn ?_
  refine ze rfl (fun h3 => ?_) (fun h3 => ?_)
  ·exfalso
   try simp at h3
   omega
  ·try simp at h3
   refine zi ?_
   refine zd ?_
   refine zf ?_
   refine za ?_
   refine dmv rfl ?_
   refine dq (zj ztl rfl (WeakL.refl _) (zgk (by assumption) (by assumption))) ?_
   refine dmv rfl ?_
   refine dq (zJ rfl rfl) ?_
   refine dq (zJ rfl rfl) ?_
   refine de rfl (zO zf4 rfl fun b5 => ?_)
   refine de0 (zR zf4 rfl rfl rfl rfl rfl ?_)
   refine das rfl ?_
   refine dn ?_
   refine zF (Ghost.fc0 5 rfl) ?_
   refine za ?_
   refine dmv rfl ?_
   refine dn ?_
   refine zlO rfl ?_
   refine za ?_
   refine dmv rfl ?_
   refine dq (zj ztd rfl (WeakL.refl _) (zfW (by assumption))) ?_
   refine dq (zj ztu rfl (WeakL.refl _) (zfY (Nat.le_trans (zp2 _ _) hs))) ?_
   refine das rfl ?_
   refine dn ?_
   refine zg ?_
   refine zm rfl ?_
   show HVal.str _ = _
   rfl

/-- internal/stringslite.IndexByte -/
theorem zeg [Tracks] {s : Str} {c : Int}  : ConP Tryz.prog 141 [.str s, .int .u8 c] (.int .i64 (Lib.indexByte s c.toNat.toUInt8)) := by
 refine Con.of_body Tryz.func141 rfl Tryz.ntmps141 rfl rfl ?_
 refine za ?_
 refine das rfl ?_
 refine dn ?_
 refine za ?_
 refine dmv rfl ?_
 refine dmv rfl ?_
 refine dq (zmb Tryz.func171 (by kernel_rfl) (by kernel_rfl) (by kernel_rfl) (by kernel_rfl) rfl rfl rfl) ?_
 refine das rfl ?_
 refine dn ?_
 refine zg ?_
 refine zm rfl ?_
 rfl

/-- strings.IndexByte -/
theorem zhL [Tracks] {s : Str} {c : Int}  : ConP Tryz.prog 90 [.str s, .int .u8 c] (.int .i64 (Lib.indexByte s c.toNat.toUInt8)) := by
 refine Con.of_body Tryz.func90 rfl Tryz.ntmps90 rfl rfl ?_
 refine za ?_
 refine das rfl ?_
 refine dn ?_
 refine za ?_
 refine dmv rfl ?_
 refine dmv rfl ?_
 refine dq (zj zth rfl (WeakL.refl _) zeg) ?_
 refine das rfl ?_
 refine dn ?_
 refine zg ?_
 refine zm rfl ?_
 rfl

/-- benchwarmer/benchref1.in -/
theorem zcB [Tracks] {n lo hi : Int}  : ConP Tryz.prog 24 [.int .i64 n, .int .i64 lo, .int .i64 hi] (.bool (!(out n lo hi))) := by
 refine Con.of_body Tryz.func24 rfl Tryz.ntmps24 rfl rfl ?_
 refine za ?_
 refine das rfl ?_
 refine dn ?_
 refine za ?_
 refine dmv rfl ?_
 refine dmv rfl ?_
 refine dq (zcF rfl rfl) ?_
 refine dmv rfl ?_
 refine dg rfl rfl (fun hc => ⟨_, OpenTo.refl _, zh rfl⟩) ?_
 refine dg rfl rfl (fun hc => ⟨_, OpenTo.refl _, zh rfl⟩) ?_
 refine dg rfl rfl (fun hc => ⟨_, OpenTo.upd (t := 12) rfl (hc) (OpenTo.upd (t := 11) rfl (hc) (OpenTo.refl _)), zcF rfl rfl⟩) ?_
 refine dq (zw rfl (.inr ⟨_, rfl, fun h => by simp_all⟩) (.inl rfl)) ?_
 refine das rfl ?_
 refine dn ?_
 refine zg ?_
 refine zm rfl ?_
 show HVal.bool _ = _
 congr 1; simp [out]; rw [Bool.eq_iff_iff]; simp; try omega

/-- benchwarmer/benchref1.Key -/
theorem zf8 [Tracks] {s : Str} (hs : s.length ≤ 1000000) : ConP Tryz.prog 48 [.str s] (.bool (key s)) := by
 refine Con.of_body Tryz.func48 rfl Tryz.ntmps48 rfl rfl ?_
 refine za ?_
 refine das rfl ?_
 refine dn ?_
 refine za ?_
 refine dmv rfl ?_
 refine dq (zc4 ty9 rfl) ?_
 refine dq (zj znN rfl (WeakL.refl _) zcB) ?_
 refine dmv rfl ?_
 refine dg rfl rfl (fun hc => ⟨_, OpenTo.refl _, zh rfl⟩) ?_
 refine dg rfl rfl (fun hc => ⟨_, OpenTo.upd (t := 7) rfl (hc) (OpenTo.refl _), zj ca89 rfl (WeakL.refl _) (zk0 (l := zho) hs (by decide) (by decide) (by decide))⟩) ?_
 refine dg rfl rfl (fun hc => ⟨_, OpenTo.upd (t := 8) rfl (hc) (OpenTo.refl _), zbh rfl rfl⟩) ?_
 refine dq (zw rfl (.inr ⟨_, rfl, fun h => by simp_all⟩) (.inl rfl)) ?_
 refine dmv rfl ?_
 refine dg rfl rfl (fun hc => ⟨_, OpenTo.refl _, zh rfl⟩) ?_
 refine dg rfl rfl (fun hc => ⟨_, OpenTo.upd (t := 12) rfl (hc) (OpenTo.refl _), zbK (j := 0) (b := s.headD 0) ty9 rfl rfl rfl (hd0 (by rintro rfl; simp [out] at hc))⟩) ?_
 refine dg rfl rfl (fun hc => ⟨_, OpenTo.upd (t := 13) rfl (hc) (OpenTo.refl _), zj ca90 rfl (WeakL.refl _) zhL⟩) ?_
 refine dg rfl rfl (fun hc => ⟨_, OpenTo.upd (t := 14) rfl (hc) (OpenTo.refl _), zbD rfl rfl⟩) ?_
 refine dq (zw rfl (.inr ⟨_, rfl, fun h => by simp_all⟩) (.inl rfl)) ?_
 refine das rfl ?_
 refine dn ?_
 refine zg ?_
 refine zm rfl ?_
 show HVal.bool _ = _
 rw [zr2]
 simp [zho, zi0]

/-- benchwarmer/benchref1.SpanFault -/
theorem zgF [Tracks] {n lo hi : Int}  : ConP Tryz.prog 50 [.int .i64 n, .int .i64 lo, .int .i64 hi] (.int .i64 (if out n lo hi then 1 else 0)) := by
 refine Con.of_body Tryz.func50 rfl Tryz.ntmps50 rfl rfl ?_
 refine za ?_
 refine das rfl ?_
 refine dn ?_
 refine zf ?_
 refine za ?_
 refine dmv rfl ?_
 refine dmv rfl ?_
 refine dmv rfl ?_
 refine dq (zj znN rfl (WeakL.refl _) zcB) ?_
 refine dq (zW rfl) ?_
 refine dn ?_
 refine ze rfl (fun h1 => ?_) (fun h2 => ?_)
 ·try simp at h1
  refine za ?_
  refine das rfl ?_
  refine dn ?_
  refine zg ?_
  refine zm rfl ?_
  show HVal.int .i64 _ = _
  simp_all
 ·try simp at h2
  refine zi ?_
  refine zd ?_
  refine za ?_
  refine das rfl ?_
  refine dn ?_
  refine zg ?_
  refine zm rfl ?_
  show HVal.int .i64 _ = _
  simp_all

/-- benchwarmer/benchref1.MomentFault -/
theorem zfZ [Tracks] {n : Int}  : ConP Tryz.prog 26 [.int .i64 n] (.int .i64 (if zaL n then 0 else 1)) := by
 refine Con.of_body Tryz.func26 rfl Tryz.ntmps26 rfl rfl ?_
 refine za ?_
 refine das rfl ?_
 refine dn ?_
 refine za ?_
 refine dmv rfl ?_
 refine dq (zj ca50 rfl (WeakL.refl _) zgF) ?_
 refine das rfl ?_
 refine dn ?_
 refine zg ?_
 refine zm rfl ?_
 show HVal.int .i64 _ = _
 rw [zpi]

/-- benchwarmer/benchref1.teamsFault -/
theorem zgo [Tracks] {l : List Str} (hl : l.length ≤ 1000000) (hs : ∀ s ∈ l, s.length ≤ 1000000) : ConP Tryz.prog 23 [eSs l] (.int .i64 (teamsFault l)) := by
 refine Con.of_body Tryz.func23 rfl Tryz.ntmps23 rfl rfl ?_
 refine za ?_
 refine das rfl ?_
 refine dn ?_
 refine zf ?_
 refine zk ?_
 refine za ?_
 refine dmv rfl ?_
 refine dq (zv zA rfl) ?_
 refine dq (zaz rfl rfl) ?_
 refine das rfl ?_
 refine dn ?_
 refine ze rfl (fun h1 => ?_) (fun h2 => ?_)
 ·try simp at h1
  refine za ?_
  refine das rfl ?_
  refine dn ?_
  refine zg ?_
  refine zm rfl ?_
  show HVal.int .i64 _ = _
  (rw [teamsFault, if_pos (by simp_all)]; done)
 ·try simp at h2
  refine za ?_
  refine dmv rfl ?_
  refine dq (zv zA rfl) ?_
  refine dq (z6 rfl rfl) ?_
  refine das rfl ?_
  refine dn ?_
  refine ze rfl (fun h3 => ?_) (fun h4 => ?_)
  ·try simp at h3
   refine za ?_
   refine das rfl ?_
   refine dn ?_
   refine zg ?_
   refine zm rfl ?_
   show HVal.int .i64 _ = _
   (rw [teamsFault, if_neg (by simp_all), if_pos (by omega)]; done)
  ·try simp at h4
   refine zi ?_
   refine zu ?_
   refine zd ?_
   refine zf ?_
   refine za ?_
   refine dmv rfl ?_
   refine dq (zv zA rfl) ?_
   refine dmv rfl ?_
   refine dn ?_
   refine zk ?_
   refine zab [2, 3, 4, 15, 16, 17, 18, 19, 20, 21, 22, 23, 24, 25, 26, 27, 28, 29, 30] (fun (k : Nat) => [(15, .int .i64 k)]) (fun (k : Nat) => []) (fun (k : Nat) => k ≤ l.length ∧ (teamsFault l = zbC l k (l.drop k))) (fun (k : Nat) => l.length - k) (0) ?_ ?_ ?_ ?_
   ·refine ⟨Nat.zero_le _, ?_⟩
    rw [teamsFault, if_neg (by simp_all), if_neg (by omega)]; rfl
   ·exact ⟨rfl, trivial⟩
   ·exact List.Perm.refl _
   ·intro k hinv
    obtain ⟨hk, hg⟩ := hinv
    refine za ?_
    refine dq (zK rfl rfl) ?_
    refine dn ?_
    refine zf ?_
    refine ze rfl (fun h5 => ?_) (fun h6 => ?_)
    ·try simp at h5
     obtain ⟨x, hx⟩ : ∃ x, l[k]? = some x := ⟨_, List.getElem?_eq_getElem h5⟩
     have hdx := zI hx
     rw [hdx] at hg
     refine zi ?_
     refine zd ?_
     refine zf ?_
     refine zk ?_
     refine za ?_
     refine dmv rfl ?_
     refine dq (zH zA ty9 rfl rfl rfl (by assumption)) ?_
     refine dq (zc ty9 rfl rfl rfl) ?_
     refine das rfl ?_
     refine das rfl ?_
     refine dn ?_
     refine zk ?_
     refine za ?_
     refine dmv rfl ?_
     refine dq (zj ca48 rfl (WeakL.refl _) (zf8 (hs x (List.mem_of_getElem? hx)))) ?_
     refine dq (zW rfl) ?_
     refine das rfl ?_
     refine dn ?_
     refine ze rfl (fun h7 => ?_) (fun h8 => ?_)
     ·try simp at h7
      refine za ?_
      refine das rfl ?_
      refine dn ?_
      refine zg ?_
      refine zm rfl ?_
      show HVal.int .i64 _ = _
      (rw [hg]; simp_all [zbC]; done)
     ·try simp at h8
      refine za ?_
      refine dmv rfl ?_
      refine dmv rfl ?_
      refine dq (zce zA ty9 rfl rfl ⟨_, _, rfl, rfl⟩ (by omega) (by omega)) ?_
      refine dmv rfl ?_
      refine dq (zj zii rfl (WeakL.refl _) (zaj (by simp; omega))) ?_
      refine das rfl ?_
      refine dn ?_
      refine ze rfl (fun h9 => ?_) (fun h10 => ?_)
      ·try simp at h9
       refine za ?_
       refine das rfl ?_
       refine dn ?_
       refine zg ?_
       refine zm rfl ?_
       show HVal.int .i64 _ = _
       (rw [hg]; simp_all [zbC]; done)
      ·try simp at h10
       refine zi ?_
       refine zu ?_
       refine zu ?_
       refine zd ?_
       refine zy ?_
       refine dq (zx rfl rfl (by omega) (by omega)) ?_
       refine dmv rfl ?_
       refine dn ?_
       refine ⟨k + 1, ?_, ?_, ⟨rfl, trivial⟩, (by repeat (first | exact zo | refine zt rfl ?_ | refine zp rfl rfl ?_)), List.Perm.refl _⟩
       ·refine ⟨by omega, ?_⟩
        rw [hg]; simp_all [zbC]
       ·dsimp only; omega
    ·try simp at h6
     have hnk : l.length ≤ k := by omega
     obtain rfl : k = l.length := by omega
     rw [zaq (Nat.le_refl _)] at hg
     refine zL ?_
     refine zS ?_
     refine zap ?_
     refine zD ?_
     refine zd ?_
     refine za ?_
     refine das rfl ?_
     refine dn ?_
     refine zg ?_
     refine zm rfl ?_
     show HVal.int .i64 _ = _
     (rw [hg]; simp_all [zbC]; done)

/-- benchwarmer/benchref1.playersFault -/
theorem zfU [Tracks] {l : List Str} (hl : l.length ≤ 1000000) (hs : ∀ s ∈ l, s.length ≤ 1000000) : ConP Tryz.prog 25 [eSs l] (.int .i64 (playersFault l)) := by
 refine Con.of_body Tryz.func25 rfl Tryz.ntmps25 rfl rfl ?_
 refine za ?_
 refine das rfl ?_
 refine dn ?_
 refine zf ?_
 refine za ?_
 refine dmv rfl ?_
 refine dq (zv zA rfl) ?_
 refine dq (z6 rfl rfl) ?_
 refine dn ?_
 refine ze rfl (fun h1 => ?_) (fun h2 => ?_)
 ·try simp at h1
  refine za ?_
  refine das rfl ?_
  refine dn ?_
  refine zg ?_
  refine zm rfl ?_
  show HVal.int .i64 _ = _
  (rw [playersFault, if_pos (by omega)]; done)
 ·try simp at h2
  refine zi ?_
  refine zd ?_
  refine zf ?_
  refine za ?_
  refine dmv rfl ?_
  refine dq (zv zA rfl) ?_
  refine dmv rfl ?_
  refine dn ?_
  refine zk ?_
  refine zab [2, 3, 4, 10, 11, 12, 13, 14, 15, 16, 17, 18, 19, 20, 21, 22, 23, 24, 25, 26, 27, 28, 29, 30, 31] (fun (k : Nat) => [(10, .int .i64 k)]) (fun (k : Nat) => []) (fun (k : Nat) => k ≤ l.length ∧ (playersFault l = zaX l k (l.drop k))) (fun (k : Nat) => l.length - k) (0) ?_ ?_ ?_ ?_
  ·refine ⟨Nat.zero_le _, ?_⟩
   rw [playersFault, if_neg (by omega)]; rfl
  ·exact ⟨rfl, trivial⟩
  ·exact List.Perm.refl _
  ·intro k hinv
   obtain ⟨hk, hg⟩ := hinv
   refine za ?_
   refine dq (zK rfl rfl) ?_
   refine dn ?_
   refine zf ?_
   refine ze rfl (fun h3 => ?_) (fun h4 => ?_)
   ·try simp at h3
    obtain ⟨x, hx⟩ : ∃ x, l[k]? = some x := ⟨_, List.getElem?_eq_getElem h3⟩
    have hdx := zI hx
    rw [hdx] at hg
    refine zi ?_
    refine zd ?_
    refine zf ?_
    refine zk ?_
    refine za ?_
    refine dmv rfl ?_
    refine dq (zH zA ty9 rfl rfl rfl (by assumption)) ?_
    refine dq (zc ty9 rfl rfl rfl) ?_
    refine das rfl ?_
    refine das rfl ?_
    refine dn ?_
    refine zk ?_
    refine za ?_
    refine dmv rfl ?_
    refine dq (zj ca48 rfl (WeakL.refl _) (zf8 (hs x (List.mem_of_getElem? hx)))) ?_
    refine dq (zW rfl) ?_
    refine das rfl ?_
    refine dn ?_
    refine ze rfl (fun h5 => ?_) (fun h6 => ?_)
    ·try simp at h5
     refine za ?_
     refine das rfl ?_
     refine dn ?_
     refine zg ?_
     refine zm rfl ?_
     show HVal.int .i64 _ = _
     (rw [hg]; simp_all [zaX, leS]; done)
    ·try simp at h6
     refine za ?_
     refine dmv rfl ?_
     refine dq (z6 rfl rfl) ?_
     refine dmv rfl ?_
     refine dg rfl rfl (fun hc => ⟨_, OpenTo.refl _, zh rfl⟩) ?_
     refine dg rfl rfl (fun hc => ⟨_, OpenTo.refl _, zh rfl⟩) ?_
     refine dg rfl rfl (fun hc => ⟨_, OpenTo.refl _, zh rfl⟩) ?_
     refine dg rfl rfl (fun hc => by have hq := hc; (try simp at hq); exact ⟨_, OpenTo.upd (t := 25) rfl (hc) (OpenTo.refl _), zal rfl rfl (by omega) (by omega)⟩) ?_
     refine dg rfl rfl (fun hc => by have hq := hc; (try simp at hq); exact ⟨_, OpenTo.upd (t := 26) rfl (hc) (OpenTo.upd (t := 24) rfl (hc) (OpenTo.refl _)), zH (j := k - 1) (a := l.getD (k - 1) []) zA ty9 rfl rfl (by omega) (getD_some (by omega))⟩) ?_
     refine dg rfl rfl (fun hc => ⟨_, OpenTo.upd (t := 27) rfl (hc) (OpenTo.refl _), zc ty9 rfl rfl rfl⟩) ?_
     refine dg rfl rfl (fun hc => ⟨_, OpenTo.upd (t := 28) rfl (hc) (OpenTo.upd (t := 23) rfl (hc) (OpenTo.refl _)), zd9 rfl rfl⟩) ?_
     refine dq (zw rfl (.inr ⟨_, rfl, fun h => by simp_all⟩) (.inl rfl)) ?_
     refine das rfl ?_
     refine dn ?_
     refine ze rfl (fun h7 => ?_) (fun h8 => ?_)
     ·try simp at h7
      refine za ?_
      refine das rfl ?_
      refine dn ?_
      refine zg ?_
      refine zm rfl ?_
      show HVal.int .i64 _ = _
      (rw [hg]; simp_all [zaX, leS]; done)
     ·try simp at h8
      refine zi ?_
      refine zu ?_
      refine zu ?_
      refine zd ?_
      refine zy ?_
      refine dq (zx rfl rfl (by omega) (by omega)) ?_
      refine dmv rfl ?_
      refine dn ?_
      refine ⟨k + 1, ?_, ?_, ⟨rfl, trivial⟩, (by repeat (first | exact zo | refine zt rfl ?_ | refine zp rfl rfl ?_)), List.Perm.refl _⟩
      ·refine ⟨by omega, ?_⟩
       rw [hg]; simp_all [zaX, leS]
      ·dsimp only; omega
   ·try simp at h4
    have hnk : l.length ≤ k := by omega
    obtain rfl : k = l.length := by omega
    rw [zaq (Nat.le_refl _)] at hg
    refine zL ?_
    refine zS ?_
    refine zap ?_
    refine zD ?_
    refine zd ?_
    refine za ?_
    refine das rfl ?_
    refine dn ?_
    refine zg ?_
    refine zm rfl ?_
    show HVal.int .i64 _ = _
    (rw [hg]; simp_all [zaX, leS]; done)

/-- benchwarmer/benchref1.RoomFault -/
theorem zgQ [Tracks] {r : Room} (ht : r.Teams.length ≤ 1000000) (hp : r.Players.length ≤ 1000000) (hs1 : ∀ s ∈ r.Teams, s.length ≤ 1000000) (hs2 : ∀ s ∈ r.Players, s.length ≤ 1000000) : ConP Tryz.prog 5 [zby r] (.int .i64 (zQ r)) := by
 refine Con.of_body Tryz.func5 rfl Tryz.ntmps5 rfl rfl ?_
 refine za ?_
 refine dq (zam rfl rfl) ?_
 refine das rfl ?_
 refine dn ?_
 refine zf ?_
 refine za ?_
 refine dq (zb zV rfl zA (by decide) rfl) ?_
 refine dq (zc zA rfl rfl rfl) ?_
 refine dq (zj ca23 rfl (WeakL.refl _) (zgo (by assumption) (by assumption))) ?_
 refine das rfl ?_
 refine dn ?_
 refine za ?_
 refine dmv rfl ?_
 refine dq (zah rfl rfl) ?_
 refine dn ?_
 refine ze rfl (fun h1 => ?_) (fun h2 => ?_)
 ·try simp at h1
  refine za ?_
  refine dmv rfl ?_
  refine das rfl ?_
  refine dn ?_
  refine zg ?_
  refine zm rfl ?_
  show HVal.int .i64 _ = _
  simp_all [zQ]
 ·try simp at h2
  refine zi ?_
  refine zd ?_
  refine zf ?_
  refine zk ?_
  refine za ?_
  refine dq (zb zV rfl ty3 (by decide) rfl) ?_
  refine dq (zc ty3 rfl rfl rfl) ?_
  refine dq (zj znN rfl (WeakL.refl _) zcB) ?_
  refine dq (zW rfl) ?_
  refine das rfl ?_
  refine dn ?_
  refine ze rfl (fun h3 => ?_) (fun h4 => ?_)
  ·try simp at h3
   refine za ?_
   refine das rfl ?_
   refine dn ?_
   refine zg ?_
   refine zm rfl ?_
   show HVal.int .i64 _ = _
   simp_all [zQ]
  ·try simp at h4
   refine za ?_
   refine dq (zb zV rfl ty3 (by decide) rfl) ?_
   refine dq (zc ty3 rfl rfl rfl) ?_
   refine dq (zj znN rfl (WeakL.refl _) zcB) ?_
   refine dq (zW rfl) ?_
   refine das rfl ?_
   refine dn ?_
   refine ze rfl (fun h5 => ?_) (fun h6 => ?_)
   ·try simp at h5
    refine za ?_
    refine das rfl ?_
    refine dn ?_
    refine zg ?_
    refine zm rfl ?_
    show HVal.int .i64 _ = _
    simp_all [zQ]
   ·try simp at h6
    refine zi ?_
    refine zu ?_
    refine zd ?_
    refine zf ?_
    refine za ?_
    refine dq (zb zV rfl zA (by decide) rfl) ?_
    refine dq (zc zA rfl rfl rfl) ?_
    refine dq (zj ca25 rfl (WeakL.refl _) (zfU (by assumption) (by assumption))) ?_
    refine das rfl ?_
    refine dn ?_
    refine za ?_
    refine dmv rfl ?_
    refine dq (zah rfl rfl) ?_
    refine dn ?_
    refine ze rfl (fun h7 => ?_) (fun h8 => ?_)
    ·try simp at h7
     refine za ?_
     refine dmv rfl ?_
     refine das rfl ?_
     refine dn ?_
     refine zg ?_
     refine zm rfl ?_
     show HVal.int .i64 _ = _
     simp_all [zQ]
    ·try simp at h8
     refine zi ?_
     refine zd ?_
     refine zf ?_
     refine zk ?_
     refine za ?_
     refine dq (zb zV rfl ty3 (by decide) rfl) ?_
     refine dq (zc ty3 rfl rfl rfl) ?_
     refine dq (zj znN rfl (WeakL.refl _) zcB) ?_
     refine dq (zW rfl) ?_
     refine dmv rfl ?_
     refine dg rfl rfl (fun hc => ⟨_, OpenTo.refl _, zb zV rfl ty3 (by decide) rfl⟩) ?_
     refine dg rfl rfl (fun hc => ⟨_, OpenTo.upd (t := 33) rfl (hc) (OpenTo.refl _), zc ty3 rfl rfl rfl⟩) ?_
     refine dg rfl rfl (fun hc => ⟨_, OpenTo.upd (t := 34) rfl (hc) (OpenTo.refl _), zj ca26 rfl (WeakL.refl _) zfZ⟩) ?_
     refine dg rfl rfl (fun hc => ⟨_, OpenTo.upd (t := 35) rfl (hc) (OpenTo.refl _), zah rfl rfl⟩) ?_
     refine dq (zw rfl (.inl rfl) (.inr ⟨_, rfl, fun h => by simp_all⟩)) ?_
     refine das rfl ?_
     refine dn ?_
     refine ze rfl (fun h9 => ?_) (fun h10 => ?_)
     ·try simp at h9
      refine za ?_
      refine das rfl ?_
      refine dn ?_
      refine zg ?_
      refine zm rfl ?_
      show HVal.int .i64 _ = _
      simp_all [zQ]
     ·try simp at h10
      refine za ?_
      refine dq (zb zV rfl zA (by decide) rfl) ?_
      refine dq (zc zA rfl rfl rfl) ?_
      refine dq (zv zA rfl) ?_
      refine dq (zb zV rfl zA (by decide) rfl) ?_
      refine dq (zc zA rfl rfl rfl) ?_
      refine dq (zv zA rfl) ?_
      refine dq (zb zV rfl ty3 (by decide) rfl) ?_
      refine dq (zc ty3 rfl rfl rfl) ?_
      have hR := zdj (n := r.Rounds) (lo := 1) (hi := 30) (by simp_all)
      have hm := zmZ (a := (r.Teams.length : Int)) (b := r.Rounds) (A := 1000000) (B := 30) (by omega) (by omega) (by omega) (by omega)
      refine dq (zgh rfl rfl (by omega) (by omega)) ?_
      refine dq (zK rfl rfl) ?_
      refine das rfl ?_
      refine dn ?_
      refine ze rfl (fun h11 => ?_) (fun h12 => ?_)
      ·try simp at h11
       refine za ?_
       refine das rfl ?_
       refine dn ?_
       refine zg ?_
       refine zm rfl ?_
       show HVal.int .i64 _ = _
       simp_all [zQ]
      ·try simp at h12
       refine zi ?_
       refine zu ?_
       refine zd ?_
       refine za ?_
       refine das rfl ?_
       refine dn ?_
       refine zg ?_
       refine zm rfl ?_
       show HVal.int .i64 _ = _
       simp_all [zQ]
end
end Go.Proofs.YtkcnenknbbcoiaaGreatDoor
namespace Go.Proofs
section
open Go.Shelf
def Tryz.lays190_ren : Go.Shelf.Ren := ⟨fun | 190 => 35 | 125 => 38 | 258 => 67 | 128 => 76 | 129 => 77 | 302 => 113 | 303 => 114 | 304 => 115 | 305 => 116 | 306 => 117 | 307 => 118 | 308 => 119 | 309 => 120 | 310 => 121 | 333 => 155 | 329 => 123 | 330 => 124 | 334 => 156 | 335 => 157 | 336 => 158 | 344 => 176 | n => n, fun | 31 => 26 | 9 => 9 | 3 => 3 | 46 => 107 | 0 => 0 | 51 => 144 | 53 => 146 | 4 => 4 | 183 => 137 | 182 => 136 | 131 => 141 | 5 => 5 | 218 => 195 | 222 => 199 | 228 => 233 | 229 => 234 | n => n, fun | n => n⟩
theorem Tryz.lays190 : Go.Proofs.Lays.n190 Tryz.prog Tryz.lays190_ren := {
 mixed := by kernel_rfl
 f125 := Tryz.func38.trans (congrArg some (by kernel_rfl))
 f128 := Tryz.func76.trans (congrArg some (by kernel_rfl))
 f129 := Tryz.func77.trans (congrArg some (by kernel_rfl))
 f190 := Tryz.func35.trans (congrArg some (by kernel_rfl))
 f258 := Tryz.func67.trans (congrArg some (by kernel_rfl))
 f302 := Tryz.func113.trans (congrArg some (by kernel_rfl))
 f303 := Tryz.func114.trans (congrArg some (by kernel_rfl))
 f304 := Tryz.func115.trans (congrArg some (by kernel_rfl))
 f305 := Tryz.func116.trans (congrArg some (by kernel_rfl))
 f306 := Tryz.func117.trans (congrArg some (by kernel_rfl))
 f307 := Tryz.func118.trans (congrArg some (by kernel_rfl))
 f308 := Tryz.func119.trans (congrArg some (by kernel_rfl))
 f309 := Tryz.func120.trans (congrArg some (by kernel_rfl))
 f310 := Tryz.func121.trans (congrArg some (by kernel_rfl))
 f329 := Tryz.func123.trans (congrArg some (by kernel_rfl))
 f330 := Tryz.func124.trans (congrArg some (by kernel_rfl))
 f333 := Tryz.func155.trans (congrArg some (by kernel_rfl))
 f334 := Tryz.func156.trans (congrArg some (by kernel_rfl))
 f335 := Tryz.func157.trans (congrArg some (by kernel_rfl))
 f336 := Tryz.func158.trans (congrArg some (by kernel_rfl))
 f344 := Tryz.func176.trans (congrArg some (by kernel_rfl))
 t0 := Tryz.underlying0
 a0 := Tryz.isAgg0
 z0 := Tryz.sizeOf0
 v0 := Tryz.zeroValue0
 t3 := Tryz.underlying3
 a3 := Tryz.isAgg3
 z3 := Tryz.sizeOf3
 v3 := Tryz.zeroValue3
 t4 := Tryz.underlying4
 a4 := Tryz.isAgg4
 z4 := Tryz.sizeOf4
 v4 := Tryz.zeroValue4
 t5 := Tryz.underlying5
 a5 := Tryz.isAgg5
 z5 := Tryz.sizeOf5
 v5 := Tryz.zeroValue5
 t9 := Tryz.underlying9
 a9 := Tryz.isAgg9
 z9 := Tryz.sizeOf9
 v9 := Tryz.zeroValue9
 t31 := Tryz.underlying26
 a31 := Tryz.isAgg26
 z31 := Tryz.sizeOf26
 v31 := Tryz.zeroValue26
 t46 := Tryz.underlying107
 a46 := Tryz.isAgg107
 z46 := Tryz.sizeOf107
 v46 := Tryz.zeroValue107
 t51 := Tryz.underlying144
 a51 := Tryz.isAgg144
 z51 := Tryz.sizeOf144
 v51 := Tryz.zeroValue144
 t53 := Tryz.underlying146
 a53 := Tryz.isAgg146
 z53 := Tryz.sizeOf146
 v53 := Tryz.zeroValue146
 t131 := Tryz.underlying141
 a131 := Tryz.isAgg141
 z131 := Tryz.sizeOf141
 v131 := Tryz.zeroValue141
 t182 := Tryz.underlying136
 a182 := Tryz.isAgg136
 z182 := Tryz.sizeOf136
 v182 := Tryz.zeroValue136
 t183 := Tryz.underlying137
 a183 := Tryz.isAgg137
 z183 := Tryz.sizeOf137
 v183 := Tryz.zeroValue137
 t218 := Tryz.underlying195
 a218 := Tryz.isAgg195
 z218 := Tryz.sizeOf195
 v218 := Tryz.zeroValue195
 t222 := Tryz.underlying199
 a222 := Tryz.isAgg199
 z222 := Tryz.sizeOf199
 v222 := Tryz.zeroValue199
 t228 := Tryz.underlying233
 a228 := Tryz.isAgg233
 z228 := Tryz.sizeOf233
 v228 := Tryz.zeroValue233
 t229 := Tryz.underlying234
 a229 := Tryz.isAgg234
 z229 := Tryz.sizeOf234
 v229 := Tryz.zeroValue234 }
def Tryz.lays194_ren : Go.Shelf.Ren := ⟨fun | 194 => 177 | n => n, fun | 31 => 26 | 9 => 9 | 3 => 3 | 4 => 4 | 0 => 0 | n => n, fun | n => n⟩
theorem Tryz.lays194 : Go.Proofs.Lays.n194 Tryz.prog Tryz.lays194_ren := {
 mixed := by kernel_rfl
 f194 := Tryz.func177.trans (congrArg some (by kernel_rfl))
 t0 := Tryz.underlying0
 a0 := Tryz.isAgg0
 z0 := Tryz.sizeOf0
 v0 := Tryz.zeroValue0
 t3 := Tryz.underlying3
 a3 := Tryz.isAgg3
 z3 := Tryz.sizeOf3
 v3 := Tryz.zeroValue3
 t4 := Tryz.underlying4
 a4 := Tryz.isAgg4
 z4 := Tryz.sizeOf4
 v4 := Tryz.zeroValue4
 t9 := Tryz.underlying9
 a9 := Tryz.isAgg9
 z9 := Tryz.sizeOf9
 v9 := Tryz.zeroValue9
 t31 := Tryz.underlying26
 a31 := Tryz.isAgg26
 z31 := Tryz.sizeOf26
 v31 := Tryz.zeroValue26 }
def Tryz.lays171_ren : Go.Shelf.Ren := ⟨fun | 171 => 18 | 243 => 47 | 246 => 88 | 283 => 130 | 284 => 131 | 285 => 132 | 286 => 133 | 129 => 77 | 317 => 163 | 318 => 164 | 319 => 165 | 320 => 166 | 337 => 178 | 338 => 179 | n => n, fun | 3 => 3 | 9 => 9 | 2 => 2 | 4 => 4 | 171 => 202 | 0 => 0 | 53 => 146 | 37 => 204 | 5 => 5 | 173 => 205 | 212 => 239 | 51 => 144 | 20 => 20 | 213 => 240 | 46 => 107 | 232 => 260 | 233 => 261 | n => n, fun | 17 => 1 | 18 => 2 | 19 => 3 | n => n⟩
theorem Tryz.lays171 : Go.Proofs.Lays.n171 Tryz.prog Tryz.lays171_ren := {
 mixed := by kernel_rfl
 f129 := Tryz.func77.trans (congrArg some (by kernel_rfl))
 f171 := Tryz.func18.trans (congrArg some (by kernel_rfl))
 f243 := Tryz.func47.trans (congrArg some (by kernel_rfl))
 f246 := Tryz.func88.trans (congrArg some (by kernel_rfl))
 f283 := Tryz.func130.trans (congrArg some (by kernel_rfl))
 f284 := Tryz.func131.trans (congrArg some (by kernel_rfl))
 f285 := Tryz.func132.trans (congrArg some (by kernel_rfl))
 f286 := Tryz.func133.trans (congrArg some (by kernel_rfl))
 f317 := Tryz.func163.trans (congrArg some (by kernel_rfl))
 f318 := Tryz.func164.trans (congrArg some (by kernel_rfl))
 f319 := Tryz.func165.trans (congrArg some (by kernel_rfl))
 f320 := Tryz.func166.trans (congrArg some (by kernel_rfl))
 f337 := Tryz.func178.trans (congrArg some (by kernel_rfl))
 f338 := Tryz.func179.trans (congrArg some (by kernel_rfl))
 t0 := Tryz.underlying0
 a0 := Tryz.isAgg0
 z0 := Tryz.sizeOf0
 v0 := Tryz.zeroValue0
 t2 := Tryz.underlying2
 a2 := Tryz.isAgg2
 z2 := Tryz.sizeOf2
 v2 := Tryz.zeroValue2
 t3 := Tryz.underlying3
 a3 := Tryz.isAgg3
 z3 := Tryz.sizeOf3
 v3 := Tryz.zeroValue3
 t4 := Tryz.underlying4
 a4 := Tryz.isAgg4
 z4 := Tryz.sizeOf4
 v4 := Tryz.zeroValue4
 t5 := Tryz.underlying5
 a5 := Tryz.isAgg5
 z5 := Tryz.sizeOf5
 v5 := Tryz.zeroValue5
 t9 := Tryz.underlying9
 a9 := Tryz.isAgg9
 z9 := Tryz.sizeOf9
 v9 := Tryz.zeroValue9
 t20 := Tryz.underlying20
 a20 := Tryz.isAgg20
 z20 := Tryz.sizeOf20
 v20 := Tryz.zeroValue20
 t37 := Tryz.underlying204
 a37 := Tryz.isAgg204
 z37 := Tryz.sizeOf204
 v37 := Tryz.zeroValue204
 t46 := Tryz.underlying107
 a46 := Tryz.isAgg107
 z46 := Tryz.sizeOf107
 v46 := Tryz.zeroValue107
 t51 := Tryz.underlying144
 a51 := Tryz.isAgg144
 z51 := Tryz.sizeOf144
 v51 := Tryz.zeroValue144
 t53 := Tryz.underlying146
 a53 := Tryz.isAgg146
 z53 := Tryz.sizeOf146
 v53 := Tryz.zeroValue146
 t171 := Tryz.underlying202
 a171 := Tryz.isAgg202
 z171 := Tryz.sizeOf202
 v171 := Tryz.zeroValue202
 t173 := Tryz.underlying205
 a173 := Tryz.isAgg205
 z173 := Tryz.sizeOf205
 v173 := Tryz.zeroValue205
 t212 := Tryz.underlying239
 a212 := Tryz.isAgg239
 z212 := Tryz.sizeOf239
 v212 := Tryz.zeroValue239
 t213 := Tryz.underlying240
 a213 := Tryz.isAgg240
 z213 := Tryz.sizeOf240
 t232 := Tryz.underlying260
 a232 := Tryz.isAgg260
 z232 := Tryz.sizeOf260
 v232 := Tryz.zeroValue260
 t233 := Tryz.underlying261
 a233 := Tryz.isAgg261
 z233 := Tryz.sizeOf261
 v233 := Tryz.zeroValue261
 g17 := by kernel_rfl
 g18 := by kernel_rfl
 g19 := by kernel_rfl }
end
end Go.Proofs
namespace Go.Proofs.YtkcnenknbbcoiaaGreatDoor
set_option maxRecDepth 100000
set_option linter.unusedVariables false
set_option linter.unusedSimpArgs false
section
open Go.HL
/-- math/bits.Len64 -/
theorem zjk [Tracks]   : ConP Tryz.prog 77 [.int .u64 0] (.int .i64 0) := by
 refine Con.of_body Tryz.func77 rfl Tryz.ntmps77 rfl rfl ?_
 refine za ?_
 refine das rfl ?_
 refine dn ?_
 refine zf ?_
 refine za ?_
 refine dmv rfl ?_
 refine dq (zbD rfl rfl) ?_
 refine dn ?_
 refine zcO rfl ?_
 refine zi ?_
 refine zd ?_
 refine zf ?_
 refine za ?_
 refine dmv rfl ?_
 refine dq (zbD rfl rfl) ?_
 refine dn ?_
 refine zcO rfl ?_
 refine zi ?_
 refine zd ?_
 refine zf ?_
 refine za ?_
 refine dmv rfl ?_
 refine dq (zbD rfl rfl) ?_
 refine dn ?_
 refine zcO rfl ?_
 refine zi ?_
 refine zd ?_
 refine za ?_
 refine dmv rfl ?_
 refine dmv rfl ?_
 refine dq (zcn zrG ty5 rfl) ?_
 refine dq (zbK (j := 0) (b := 0) ty9 rfl rfl rfl rfl) ?_
 refine dq (zcn ty5 ty3 rfl) ?_
 refine dq (zx rfl rfl (by decide) (by decide)) ?_
 refine das rfl ?_
 refine dn ?_
 refine zg ?_
 refine zm rfl ?_
 rfl

/-- math/bits.Len -/
theorem zkX [Tracks]   : ConP Tryz.prog 38 [.int .u64 0] (.int .i64 0) := by
 refine Con.of_body Tryz.func38 rfl Tryz.ntmps38 rfl rfl ?_
 refine za ?_
 refine das rfl ?_
 refine dn ?_
 refine zf ?_
 refine zcO rfl ?_
 refine zi ?_
 refine zd ?_
 refine za ?_
 refine dmv rfl ?_
 refine dq (zj ca77 rfl (WeakL.refl _) zjk) ?_
 refine das rfl ?_
 refine dn ?_
 refine zg ?_
 refine zm rfl ?_
 rfl

/-- slices.insertionSortOrdered[string] -/
theorem zdy [Tracks]   : ConP Tryz.prog 113 [eSs [], .int .i64 0, .int .i64 0] (.tup []) := by
 refine Con.of_body Tryz.func113 rfl Tryz.ntmps113 rfl rfl ?_
 refine za ?_
 refine dmv rfl ?_
 refine dq (zx rfl rfl (by omega) (by omega)) ?_
 refine das rfl ?_
 refine dn ?_
 refine zk ?_
 refine zab [6, 7, 10, 11, 12, 13, 14, 15, 16, 17, 18, 19, 20, 21, 22, 23, 24, 25, 26, 27, 28, 29, 30, 31, 32, 33, 34, 35, 36, 37, 38, 39, 40, 41, 42, 43, 44, 45, 46, 47, 48] (fun (u : Unit) => [(6, .int .i64 1)]) (fun (u : Unit) => []) (fun (u : Unit) => True) (fun (u : Unit) => 0) (()) ?_ ?_ ?_ ?_
 ·trivial
 ·exact ⟨rfl, trivial⟩
 ·exact List.Perm.refl _
 ·intro u hu
  refine zf ?_
  refine za ?_
  refine dmv rfl ?_
  refine dmv rfl ?_
  refine dq (zK rfl rfl) ?_
  refine dn ?_
  refine zcO rfl ?_
  refine zL ?_
  refine zS ?_
  refine zap ?_
  refine zD ?_
  refine zrR rfl ?_
  rfl

/-- slices.pdqsortOrdered[string] -/
theorem zeD [Tracks]   : ConP Tryz.prog 67 [eSs [], .int .i64 0, .int .i64 0, .int .i64 0] (.tup []) := by
 refine Con.of_body Tryz.func67 rfl Tryz.ntmps67 rfl rfl ?_
 refine za ?_
 refine das rfl ?_
 refine dn ?_
 refine za ?_
 refine das rfl ?_
 refine dn ?_
 refine zk ?_
 refine zab (1 :: 2 :: 3 :: 8 :: 9 :: 10 :: 11 :: 12 :: 13 :: 14 :: 15 :: 16 :: 17 :: 18 :: 19 :: 20 :: 21 :: 22 :: 23 :: 24 :: 25 :: 26 :: 27 :: 28 :: 29 :: 30 :: 31 :: 32 :: 33 :: 34 :: 35 :: 36 :: 37 :: 38 :: 39 :: 40 :: 41 :: 42 :: 43 :: 44 :: 45 :: 46 :: 47 :: 48 :: 49 :: 50 :: 51 :: 52 :: 53 :: 54 :: 55 :: 56 :: 57 :: 58 :: 59 :: 60 :: 61 :: 62 :: 63 :: 64 :: 65 :: 66 :: 67 :: 68 :: 69 :: 70 :: 71 :: 72 :: 73 :: 74 :: 75 :: 76 :: 77 :: 78 :: 79 :: 80 :: 81 :: 82 :: 83 :: 84 :: 85 :: 86 :: 87 :: 88 :: 89 :: 90 :: 91 :: 92 :: 93 :: 94 :: 95 :: 96 :: 97 :: 98 :: 99 :: 100 :: 101 :: 102 :: 103 :: 104 :: 105 :: 106 :: 107 :: 108 :: 109 :: 110 :: 111 :: 112 :: 113 :: 114 :: 115 :: 116 :: 117 :: 118 :: 119 :: 120 :: 121 :: 122 :: 123 :: 124 :: 125 :: 126 :: 127 :: 128 :: 129 :: 130 :: 131 :: 132 :: 133 :: []) (fun (u : Unit) => [(1, .int .i64 0), (2, .int .i64 0)]) (fun (u : Unit) => []) (fun (u : Unit) => True) (fun (u : Unit) => 0) (()) ?_ ?_ ?_ ?_
 ·trivial
 ·exact ⟨rfl, rfl, trivial⟩
 ·exact List.Perm.refl _
 ·intro u hu
  refine zk ?_
  refine za ?_
  refine dmv rfl ?_
  refine dmv rfl ?_
  refine dq (zal rfl rfl (by omega) (by omega)) ?_
  refine das rfl ?_
  refine dn ?_
  refine zf ?_
  refine za ?_
  refine dmv rfl ?_
  refine dq (zcF rfl rfl) ?_
  refine dn ?_
  refine zlO rfl ?_
  refine za ?_
  refine dmv rfl ?_
  refine dmv rfl ?_
  refine dmv rfl ?_
  refine dq (zj zte rfl (WeakL.refl _) zdy) ?_
  refine dn ?_
  refine zg ?_
  refine zm rfl ?_
  rfl

/-- slices.Sort[[]string,string] -/
theorem zjh [Tracks]   : ConP Tryz.prog 35 [eSs []] (.tup []) := by
 refine Con.of_body Tryz.func35 rfl Tryz.ntmps35 rfl rfl ?_
 refine za ?_
 refine dmv rfl ?_
 refine dq (zv zA rfl) ?_
 refine das rfl ?_
 refine dn ?_
 refine zy ?_
 refine dmv rfl ?_
 refine dmv rfl ?_
 refine dmv rfl ?_
 refine dq (zcn ty3 ziX rfl) ?_
 refine dq (zj ca38 rfl (WeakL.refl _) zkX) ?_
 refine dq (zj ca67 rfl (WeakL.refl _) zeD) ?_
 refine dn ?_
 refine zrR rfl ?_
 rfl

/-- slices.Sort: the slice holds the same strings in order -/
theorem zhJ [Tracks] {l : List Str} {v : Value} (hl : l.length ≤ 1000000) : Con Tryz.prog 35 [.raw v] [.arr v 1 (l.map .str)] fun x M' => x = .tup [] ∧ M' = [.arr v 1 ((zar l).map .str)] :=
 zr5 (zch l) (fun b off cap w h1 h2 _ => Any.slices_Sort_string Tryz.lays190 b off cap l w h1 h2 (by omega)) (fun _ => zjh)

/-- slices.Compact: the slice is cut to the strings that differ from the one before -/
theorem zjN [Tracks] {l : List Str} {v : Value} (hl : l.length ≤ 1000000) : Con Tryz.prog 177 [.raw v] [.arr v 1 (l.map .str)] fun x M' => ∃ u, x = .raw u ∧ M' = [.arr u 1 ((Lib.compact l).map .str)] :=
 zq9 (zoY l) (fun b off cap w h1 h2 h3 => Any.slices_Compact_string Tryz.lays194 b off cap l w h1 (by omega) h3) (fun _ w => Any.slices_Compact_string_empty Tryz.lays194 none 0 w)
end
section
open Go.HL
/-- benchwarmer/benchmake.Below -/
theorem zdT [Tracks] {x n : Int} (hn : n ≤ 4000000000) : ConP Tryz.prog 39 [.int .i64 x, .int .i64 n] (.int .i64 (below x n)) := by
 refine Con.of_body Tryz.func39 rfl Tryz.ntmps39 rfl rfl ?_
 refine za ?_
 refine das rfl ?_
 refine dn ?_
 refine zf ?_
 refine za ?_
 refine dmv rfl ?_
 refine dq (zK rfl rfl) ?_
 refine dn ?_
 refine ze rfl (fun h1 => ?_) (fun h2 => ?_)
 ·try simp at h1
  refine za ?_
  refine das rfl ?_
  refine dn ?_
  refine zg ?_
  refine zm rfl ?_
  show HVal.int .i64 _ = _
  simp_all [below]
  try omega
 ·try simp at h2
  refine zi ?_
  refine zd ?_
  refine za ?_
  refine dmv rfl ?_
  refine dmv rfl ?_
  refine dq (zi7 rfl rfl (by omega)) ?_
  refine das rfl ?_
  refine dn ?_
  refine zf ?_
  refine za ?_
  refine dmv rfl ?_
  refine dq (zK rfl rfl) ?_
  refine dn ?_
  refine ze rfl (fun h3 => ?_) (fun h4 => ?_)
  ·try simp at h3
   refine zy ?_
   refine dmv rfl ?_
   refine dmv rfl ?_
   have hm := Int.tmod_lt_of_pos x (show 0 < n by omega)
   obtain ⟨y, hy1, hy2⟩ := ziJ x n
   have hb : below x n = x.tmod n + n := by unfold below; rw [if_neg (by omega), if_pos (by omega)]
   refine dq (zx rfl rfl (by omega) (by omega)) ?_
   refine das rfl ?_
   refine dn ?_
   refine zd ?_
   refine za ?_
   refine dmv rfl ?_
   refine das rfl ?_
   refine dn ?_
   refine zg ?_
   refine zm rfl ?_
   show HVal.int .i64 _ = _
   simp_all [below]
   try omega
  ·try simp at h4
   refine zi ?_
   refine zd ?_
   refine za ?_
   refine dmv rfl ?_
   refine das rfl ?_
   refine dn ?_
   refine zg ?_
   refine zm rfl ?_
   show HVal.int .i64 _ = _
   simp_all [below]
   try omega

/-- (*benchwarmer/benchmake.Stream).Next -/
theorem zax [Tracks] {b : Nat} {l : List Int} {a : Nat} {n : Int} (ha : a ≤ 1000000) (hn : n ≤ 4000000000) : Con Tryz.prog 12 [pAt b, .int .i64 n] [St b l a] (fun x M' => ∃ y : Nat, x = .int .i64 (y : Int) ∧ (y : Int) < max n 1 ∧ M' = [St b l (a + 1)]) := by
 refine Con.of_body Tryz.func12 rfl Tryz.ntmps12 rfl rfl ?_
 refine za ?_
 refine das rfl ?_
 refine dn ?_
 refine za ?_
 refine dmv rfl ?_
 refine dq ((zP rfl)) ?_
 refine dq (zq zgy rfl ty3 (by decide) rfl) ?_
 refine de rfl (zaD (i := 0) ty3 rfl rfl (.inl ⟨rfl, rfl⟩) ?_)
 refine dq (zx rfl rfl (by omega) (by omega)) ?_
 refine dq ((zP rfl)) ?_
 refine dq (zq zgy rfl ty3 (by decide) rfl) ?_
 refine de0 (zat (i := 0) ty3 rfl rfl rfl rfl rfl (Nat.le_of_ble_eq_true rfl) ?_)
 refine dn ?_
 refine zf ?_
 refine za ?_
 refine dmv rfl ?_
 refine dq ((zP rfl)) ?_
 refine dq (zq zgy rfl zbT (by decide) rfl) ?_
 refine de rfl (zaD (i := 0) zbT rfl rfl (.inl ⟨rfl, rfl⟩) ?_)
 refine dq (zv zbT rfl) ?_
 refine dq (zaz rfl rfl) ?_
 refine dn ?_
 refine ze rfl (fun h1 => ?_) (fun h2 => ?_)
 ·try simp at h1
  refine za ?_
  refine dmv rfl ?_
  refine dq ((zP rfl)) ?_
  refine dq (zq zgy rfl ty3 (by decide) rfl) ?_
  refine de rfl (zaD (i := 0) ty3 rfl rfl (.inl ⟨rfl, rfl⟩) ?_)
  refine dq (zk7 rfl rfl) ?_
  refine dmv rfl ?_
  refine dq (zj zrE rfl (WeakL.refl _) (zdT (by assumption))) ?_
  refine das rfl ?_
  refine dn ?_
  refine zg ?_
  refine zcw rfl ?_
  obtain ⟨y, h1, h2⟩ := ziJ _ n
  exact ⟨y, congrArg _ h1, h2, rfl⟩
 ·try simp at h2
  refine zi ?_
  refine zd ?_
  have hl0 : 0 < l.length := List.length_pos_iff.2 (by simpa using h2)
  refine zaF (fun M => ∃ i : Nat, M[i]? = some (St b l (a + 1))) [3, 8] mixed ?_
  refine ahp 0 rfl rfl (by kernel_rfl) (by kernel_rfl) (zh rfl) ?_
  refine ahp 1 rfl rfl (by kernel_rfl) (by kernel_rfl) ((zP rfl)) ?_
  refine ahp 2 rfl rfl (by kernel_rfl) (by kernel_rfl) (zq zgy rfl ty3 (by decide) rfl) ?_
  refine ahl 3 rfl rfl (by kernel_rfl) (by kernel_rfl) (by simp) (⟨0, rfl⟩) (fun M hM => by obtain ⟨i, hi⟩ := hM; exact zaD (i := i) ty3 rfl hi (.inl ⟨rfl, rfl⟩) ⟨rfl, rfl⟩) ?_
  refine ahp 4 rfl rfl (by kernel_rfl) (by kernel_rfl) (zal rfl rfl (by omega) (by omega)) ?_
  refine ahp 5 rfl rfl (by kernel_rfl) (by kernel_rfl) (zh rfl) ?_
  refine ahp 6 rfl rfl (by kernel_rfl) (by kernel_rfl) ((zP rfl)) ?_
  refine ahp 7 rfl rfl (by kernel_rfl) (by kernel_rfl) (zq zgy rfl zbT (by decide) rfl) ?_
  refine ahl 8 rfl rfl (by kernel_rfl) (by kernel_rfl) (by simp) (⟨0, rfl⟩) (fun M hM => by obtain ⟨i, hi⟩ := hM; exact zaD (i := i) zbT rfl hi (.inl ⟨rfl, rfl⟩) ⟨rfl, rfl⟩) ?_
  refine ahp 9 rfl rfl (by kernel_rfl) (by kernel_rfl) (zv zbT rfl) ?_
  refine ahp 10 rfl rfl (by kernel_rfl) (by kernel_rfl) (ze6 (h' := .int .i64 ((a % l.length : Nat) : Int)) (zi7 rfl rfl (by omega)) (by show HVal.int .i64 (((a : Int) + 1 - 1).tmod _) = _; rw [show ((a : Int) + 1 - 1) = (a : Int) by omega]; exact congrArg _ (zqX _ _))) ?_
  refine ahp 11 rfl rfl (by kernel_rfl) (by kernel_rfl) (zaJ rfl) ?_
  refine ahz (by kernel_rfl) ?_
  refine zaF (fun M => ∃ i : Nat, M[i]? = some (St b l (a + 1))) [3, 8] mixed ?_
  refine ahp 0 rfl rfl (by kernel_rfl) (by kernel_rfl) (zh rfl) ?_
  refine ahp 1 rfl rfl (by kernel_rfl) (by kernel_rfl) ((zP rfl)) ?_
  refine ahp 2 rfl rfl (by kernel_rfl) (by kernel_rfl) (zq zgy rfl ty3 (by decide) rfl) ?_
  refine ahl 3 rfl rfl (by kernel_rfl) (by kernel_rfl) (by simp) (⟨0, rfl⟩) (fun M hM => by obtain ⟨i, hi⟩ := hM; exact zaD (i := i) ty3 rfl hi (.inl ⟨rfl, rfl⟩) ⟨rfl, rfl⟩) ?_
  refine ahp 4 rfl rfl (by kernel_rfl) (by kernel_rfl) (zal rfl rfl (by omega) (by omega)) ?_
  refine ahp 5 rfl rfl (by kernel_rfl) (by kernel_rfl) (zh rfl) ?_
  refine ahp 6 rfl rfl (by kernel_rfl) (by kernel_rfl) ((zP rfl)) ?_
  refine ahp 7 rfl rfl (by kernel_rfl) (by kernel_rfl) (zq zgy rfl zbT (by decide) rfl) ?_
  refine ahl 8 rfl rfl (by kernel_rfl) (by kernel_rfl) (by simp) (⟨0, rfl⟩) (fun M hM => by obtain ⟨i, hi⟩ := hM; exact zaD (i := i) zbT rfl hi (.inl ⟨rfl, rfl⟩) ⟨rfl, rfl⟩) ?_
  refine ahp 9 rfl rfl (by kernel_rfl) (by kernel_rfl) (zv zbT rfl) ?_
  refine ahp 10 rfl rfl (by kernel_rfl) (by kernel_rfl) (zsw rfl rfl (by omega)) ?_
  refine ahp 11 rfl rfl (by kernel_rfl) (by kernel_rfl) (zaJ rfl) ?_
  refine ahz (by kernel_rfl) ?_
  refine za ?_
  refine dmv rfl ?_
  refine dq ((zP rfl)) ?_
  refine dq (zq zgy rfl zbT (by decide) rfl) ?_
  refine de rfl (zaD (i := 0) zbT rfl rfl (.inl ⟨rfl, rfl⟩) ?_)
  refine dmv rfl ?_
  refine dq (zH (j := a % l.length) (a := l[a % l.length]'(Nat.mod_lt _ (by omega))) zbT ty3 rfl rfl rfl (List.getElem?_eq_getElem _)) ?_
  refine dq (zc ty3 rfl rfl rfl) ?_
  refine dq (zj zrE rfl (WeakL.refl _) (zdT (by omega))) ?_
  refine dmv rfl ?_
  refine dmv rfl ?_
  refine dq (zi4 rfl rfl) ?_
  refine dq (zk7 rfl rfl) ?_
  refine dq (zi4 rfl rfl) ?_
  refine dmv rfl ?_
  refine dq (zj zrE rfl (WeakL.refl _) (zdT (by assumption))) ?_
  refine das rfl ?_
  refine dn ?_
  refine zg ?_
  refine zcw rfl ?_
  obtain ⟨y, h1, h2⟩ := ziJ _ n
  exact ⟨y, congrArg _ h1, h2, rfl⟩

/-- (*benchwarmer/benchmake.Stream).Range -/
theorem zao [Tracks] {b : Nat} {l : List Int} {a : Nat} {lo hi : Int} (ha : a ≤ 1000000) (hlh : lo ≤ hi) (h0 : -1000000000 ≤ lo) (h1 : hi ≤ 1000000000) : Con Tryz.prog 16 [pAt b, .int .i64 lo, .int .i64 hi] [St b l a] (fun x M' => ∃ y : Int, x = .int .i64 y ∧ (lo ≤ y ∧ y ≤ hi) ∧ M' = [St b l (a + 1)]) := by
 refine Con.of_body Tryz.func16 rfl Tryz.ntmps16 rfl rfl ?_
 refine za ?_
 refine das rfl ?_
 refine dn ?_
 refine zf ?_
 refine za ?_
 refine dmv rfl ?_
 refine dmv rfl ?_
 refine dq (zK rfl rfl) ?_
 refine dn ?_
 refine ze rfl (fun h1 => ?_) (fun h1 => ?_)
 ·exfalso
  try simp at h1
  omega
 ·try simp at h1
  refine zi ?_
  refine zd ?_
  refine za ?_
  refine dmv rfl ?_
  refine dmv rfl ?_
  refine dmv rfl ?_
  refine dmv rfl ?_
  refine dq (zal rfl rfl (by omega) (by omega)) ?_
  refine dq (zx rfl rfl (by omega) (by omega)) ?_
  refine de rfl (zN (i := 0) zhk rfl (WeakL.refl _) rfl (zax (by assumption) (by omega)) ?_)
  rintro _ _ ⟨y17, rfl, hy17, rfl⟩
  refine dq (zx rfl rfl (by omega) (by omega)) ?_
  refine das rfl ?_
  refine dn ?_
  refine zg ?_
  exact zcw rfl ⟨_, rfl, by omega, rfl⟩

/-- (*benchwarmer/benchmake.Stream).Flip -/
theorem zdQ [Tracks] {b : Nat} {l : List Int} {a : Nat} {n : Int} (ha : a ≤ 1000000) (hn : n ≤ 4000000000) : Con Tryz.prog 19 [pAt b, .int .i64 n] [St b l a] (fun x M' => ∃ y : Bool, x = .bool y ∧ M' = [St b l (a + 1)]) := by
 refine Con.of_body Tryz.func19 rfl Tryz.ntmps19 rfl rfl ?_
 refine za ?_
 refine das rfl ?_
 refine dn ?_
 refine za ?_
 refine dmv rfl ?_
 refine dmv rfl ?_
 refine de rfl (zN (i := 0) zhk rfl (WeakL.refl _) rfl (zax (by assumption) (by assumption)) ?_)
 rintro _ _ ⟨y7, rfl, hy7, rfl⟩
 refine dq (zaz rfl rfl) ?_
 refine das rfl ?_
 refine dn ?_
 refine zg ?_
 exact zcw rfl ⟨_, rfl, rfl⟩

/-- (*benchwarmer/benchmake.Stream).Pick -/
theorem z7 [Tracks] {b : Nat} {l : List Int} {a : Nat} {L : List Int} (ha : a ≤ 1000000) (h0 : 0 < L.length) (h1 : L.length ≤ 1000000) : Con Tryz.prog 17 [pAt b, .slice 1 (L.map (.int .i64))] [St b l a] (fun x M' => ∃ y : Int, x = .int .i64 y ∧ y ∈ L ∧ M' = [St b l (a + 1)]) := by
 refine Con.of_body Tryz.func17 rfl Tryz.ntmps17 rfl rfl ?_
 refine za ?_
 refine das rfl ?_
 refine dn ?_
 refine za ?_
 refine dmv rfl ?_
 refine dmv rfl ?_
 refine dmv rfl ?_
 refine dq (zv zbT rfl) ?_
 refine de rfl (zN (i := 0) zhk rfl (WeakL.refl _) rfl (zax (by assumption) (by omega)) ?_)
 rintro _ _ ⟨y9, rfl, hy9, rfl⟩
 obtain ⟨z, hz, hm⟩ := getI hy9 h0
 refine dq (zH (j := y9) (a := z) zbT ty3 rfl rfl rfl hz) ?_
 refine dq (zc ty3 rfl rfl rfl) ?_
 refine das rfl ?_
 refine dn ?_
 refine zg ?_
 exact zcw rfl ⟨_, rfl, hm, rfl⟩

/-- (*benchwarmer/benchmake.Stream).Some -/
theorem zdP [Tracks] {b : Nat} {l : List Int} {a : Nat} {L : List Str} (ha : a ≤ 1000000) (h0 : 0 < L.length) (h1 : L.length ≤ 1000000) : Con Tryz.prog 21 [pAt b, eSs L] [St b l a] (fun x M' => ∃ y : Str, x = .str y ∧ y ∈ L ∧ M' = [St b l (a + 1)]) := by
 refine Con.of_body Tryz.func21 rfl Tryz.ntmps21 rfl rfl ?_
 refine za ?_
 refine das rfl ?_
 refine dn ?_
 refine za ?_
 refine dmv rfl ?_
 refine dmv rfl ?_
 refine dmv rfl ?_
 refine dq (zv zA rfl) ?_
 refine de rfl (zN (i := 0) zhk rfl (WeakL.refl _) rfl (zax (by assumption) (by omega)) ?_)
 rintro _ _ ⟨y9, rfl, hy9, rfl⟩
 obtain ⟨z, hz, hm⟩ := getS hy9 h0
 refine dq (zH (j := y9) (a := z) zA ty9 rfl rfl rfl hz) ?_
 refine dq (zc ty9 rfl rfl rfl) ?_
 refine das rfl ?_
 refine dn ?_
 refine zg ?_
 exact zcw rfl ⟨_, rfl, hm, rfl⟩

/-- (*benchwarmer/benchmake.Stream).Odd -/
theorem zbM [Tracks] {b : Nat} {l : List Int} {a : Nat} {lo hi : Int} (ha : a ≤ 900000) (hlh : lo ≤ hi) (h0 : -1000000000 ≤ lo) (h1 : hi ≤ 1000000000) : Con Tryz.prog 22 [pAt b, .int .i64 lo, .int .i64 hi] [St b l a] (fun x M' => ∃ y : Int, x = .int .i64 y ∧ M' = [St b l (a + 2)]) := by
 refine Con.of_body Tryz.func22 rfl Tryz.ntmps22 rfl rfl ?_
 refine za ?_
 refine das rfl ?_
 refine dn ?_
 refine zf ?_
 refine za ?_
 refine dmv rfl ?_
 refine de rfl (zN (i := 0) ca19 rfl (WeakL.refl _) rfl (zdQ (by omega) (by omega)) ?_)
 rintro _ _ ⟨y8, rfl, rfl⟩
 refine dn ?_
 refine ze rfl (fun h1 => ?_) (fun h2 => ?_)
 ·try simp at h1
  refine za ?_
  refine dmv rfl ?_
  refine dmv rfl ?_
  refine dq (zal rfl rfl (by omega) (by omega)) ?_
  refine dmv rfl ?_
  refine dq (zx rfl rfl (by omega) (by omega)) ?_
  refine dmv rfl ?_
  refine dmv rfl ?_
  refine dq (zG (hs := [_, _, _, _, _, _]) zbT ty3 rfl rfl (by decide) (by decide) rfl) ?_
  refine de rfl (zN (i := 0) zeY rfl (WeakL.refl _) rfl (z7 (L := [_, _, _, _, _, _]) (by omega) (by simp_all) (by simp_all)) ?_)
  rintro _ _ ⟨y17, rfl, hy17, rfl⟩
  refine das rfl ?_
  refine dn ?_
  refine zg ?_
  exact zcw rfl ⟨_, rfl, rfl⟩
 ·try simp at h2
  refine zi ?_
  refine zd ?_
  refine za ?_
  refine dmv rfl ?_
  refine dmv rfl ?_
  refine dmv rfl ?_
  refine de rfl (zN (i := 0) zgs rfl (WeakL.refl _) rfl (zao (by omega) (by assumption) (by assumption) (by assumption)) ?_)
  rintro _ _ ⟨y21, rfl, hy21, rfl⟩
  refine das rfl ?_
  refine dn ?_
  refine zg ?_
  exact zcw rfl ⟨_, rfl, rfl⟩
end
section
open Go.HL
/-- strconv.Itoa of a small number -/
theorem zld [Tracks] {i : Nat} (hi : i < 100) : ConP Tryz.prog 18 [.int .i64 (i : Int)] (.str (Lib.decDigits i)) :=
 zml fun I w args ha => by
  obtain ⟨u, rfl, hu⟩ := ha.one
  obtain rfl := hu.int_inv
  exact ⟨_, .str _, Any.strconv_Itoa_small Tryz.lays171 i hi w⟩

set_option maxHeartbeats 2000000 in
/-- (*benchwarmer/benchmake.Stream).RoomOf -/
theorem zbz [Tracks] {b : Nat} {l : List Int} {a : Nat}  (ha : a ≤ 800000) : Con Tryz.prog 4 [pAt b] [St b l a] (fun x M' => ∃ r a', x = zby r ∧ GoodRoom r ∧ a' ≤ a + 20 ∧ M' = [St b l a']) := by
 refine Con.of_bodyc Tryz.func4 rfl Tryz.ntmps4 rfl rfl ?_
 refine za ?_
 refine de rfl (zO zV rfl fun b2 => ?_)
 refine dn ?_
 refine zk4 [3, 5, 6, 7, 8, 9, 10, 11, 12, 13, 14, 15, 16, 17, 18, 19] (fun (q : Nat × List Str × Int × Int × Int × Int) => [(3, pAt q.1)]) (fun (q : Nat × List Str × Int × Int × Int × Int) => [zhx q.1 (eSs q.2.1) q.2.2.1 q.2.2.2.1 zis q.2.2.2.2.1 q.2.2.2.2.2, zhx b2 zis 0 0 zis 0 0, St b l (a + 5)]) (fun (q : Nat × List Str × Int × Int × Int × Int) => (1 ≤ q.2.1.length ∧ q.2.1.length ≤ 3) ∧ (1 ≤ q.2.2.1 ∧ q.2.2.1 ≤ 4) ∧ ∀ s ∈ q.2.1, s.length ≤ 100) ?_ ?_
 ·skip
  refine zb2 (fun _ => True) [] mixed ?_
  refine ahp 0 rfl rfl (by kernel_rfl) (by kernel_rfl) (zG (hs := [_, _, _]) zA ty9 rfl rfl (by decide) (by decide) rfl) ?_
  refine ahp 1 rfl rfl (by kernel_rfl) (by kernel_rfl) (zh rfl) ?_
  refine ahp 4 rfl rfl (by kernel_rfl) (by kernel_rfl) (zh rfl) ?_
  refine ahp 6 rfl rfl (by kernel_rfl) (by kernel_rfl) (zh rfl) ?_
  refine ahp 8 rfl rfl (by kernel_rfl) (by kernel_rfl) (zh rfl) ?_
  refine ahp 9 rfl rfl (by kernel_rfl) (by kernel_rfl) (zG (hs := [_, _]) zbT ty3 rfl rfl (by decide) (by decide) rfl) ?_
  refine ahp 11 rfl rfl (by kernel_rfl) (by kernel_rfl) (zh rfl) ?_
  refine ahp 12 rfl rfl (by kernel_rfl) (by kernel_rfl) (zG (hs := [_, _, _]) zbT ty3 rfl rfl (by decide) (by decide) rfl) ?_
  refine znS 2 15 rfl rfl (by kernel_rfl) ?_ ?_
  ·skip
   refine zaE rfl (zN (i := 1) zgs rfl (WeakL.refl _) rfl (zao (by omega) (by omega) (by omega) (by omega)) ?_)
   rintro _ _ ⟨y7, rfl, hy7, rfl⟩
   refine ⟨fun _ => .inl trivial, ?_⟩
   refine ahp 3 rfl rfl (by kernel_rfl) (by kernel_rfl) (zce (es := zck) (f := HVal.str) (h := y7.toNat) zA ty9 rfl rfl ⟨_, _, rfl, by omega⟩ (by omega) (by simp [zck]; omega)) ?_
   refine znS 5 15 rfl rfl (by kernel_rfl) ?_ ?_
   ·skip
    refine zaE rfl (zN (i := 0) zgs rfl (WeakL.refl _) rfl (zao (by omega) (by omega) (by omega) (by omega)) ?_)
    rintro _ _ ⟨y10, rfl, hy10, rfl⟩
    refine ⟨fun _ => .inl trivial, ?_⟩
    refine znS 7 15 rfl rfl (by kernel_rfl) ?_ ?_
    ·skip
     refine zaE rfl (zN (i := 0) zgs rfl (WeakL.refl _) rfl (zao (by omega) (by omega) (by omega) (by omega)) ?_)
     rintro _ _ ⟨y12, rfl, hy12, rfl⟩
     refine ⟨fun _ => .inl trivial, ?_⟩
     refine znS 10 15 rfl rfl (by kernel_rfl) ?_ ?_
     ·skip
      refine zaE rfl (zN (i := 0) zeY rfl (WeakL.refl _) rfl (z7 (L := [_, _]) (by omega) (by simp_all) (by simp_all)) ?_)
      rintro _ _ ⟨y15, rfl, hy15, rfl⟩
      refine ⟨fun _ => .inl trivial, ?_⟩
      refine znS 13 15 rfl rfl (by kernel_rfl) ?_ ?_
      ·skip
       refine zaE rfl (zN (i := 0) zeY rfl (WeakL.refl _) rfl (z7 (L := [_, _, _]) (by omega) (by simp_all) (by simp_all)) ?_)
       rintro _ _ ⟨y18, rfl, hy18, rfl⟩
       refine ⟨fun _ => .inl trivial, ?_⟩
       refine ahp 14 rfl rfl (by kernel_rfl) (by kernel_rfl) (zau (cs := [_, _, _, _, _, _]) zV zjY rfl) ?_
       refine ahe 15 rfl (by kernel_rfl) ?_
       refine zaE rfl (zO zV rfl fun b3 => ?_)
       refine ⟨fun _ => .inl trivial, ?_⟩
       refine ahe 16 rfl (by kernel_rfl) ?_
       refine zbq (zat (i := 0) zV rfl rfl rfl rfl rfl (Nat.le_of_ble_eq_true rfl) ?_)
       refine ⟨fun _ => .inl trivial, ?_⟩
       refine ahz (by kernel_rfl) ?_
       refine ⟨(b3, (zck.take y7.toNat).drop 0, y10, y12, y15, y18), ?_, ⟨rfl, trivial⟩, (by repeat (first | exact zo | refine zt rfl ?_ | refine zp rfl rfl ?_)), ?_⟩
       ·refine ⟨by simp [zck]; omega, by dsimp only; omega, fun s hs => ?_⟩
        exact zeh s (List.mem_of_mem_take hs)
       ·repeat (first | exact List.Perm.nil | refine zT 0 rfl ?_ | refine zT 1 rfl ?_ | refine zT 2 rfl ?_ | refine zT 3 rfl ?_ | (refine zM 0 rfl ?hq ?_; (case hq => simp [zZ, zl]; done)) | (refine zM 1 rfl ?hq ?_; (case hq => simp [zZ, zl]; done)) | (refine zM 2 rfl ?hq ?_; (case hq => simp [zZ, zl]; done)) | (refine zM 3 rfl ?hq ?_; (case hq => simp [zZ, zl]; done)) | fail)
      ·skip
       refine zaE rfl (zO zV rfl fun b3 => ?_)
       refine ⟨fun _ => .inl trivial, ?_⟩
       refine ahe 13 rfl (by kernel_rfl) ?_
       refine zaE rfl (zN (i := 1) zeY rfl (WeakL.refl _) rfl (z7 (L := [_, _, _]) (by omega) (by simp_all) (by simp_all)) ?_)
       rintro _ _ ⟨y18, rfl, hy18, rfl⟩
       refine ⟨fun _ => .inl trivial, ?_⟩
       refine ahp 14 rfl rfl (by kernel_rfl) (by kernel_rfl) (zau (cs := [_, _, _, _, _, _]) zV zjY rfl) ?_
       refine ahe 16 rfl (by kernel_rfl) ?_
       refine zbq (zat (i := 1) zV rfl rfl rfl rfl rfl (Nat.le_of_ble_eq_true rfl) ?_)
       refine ⟨fun _ => .inl trivial, ?_⟩
       refine ahz (by kernel_rfl) ?_
       refine ⟨(b3, (zck.take y7.toNat).drop 0, y10, y12, y15, y18), ?_, ⟨rfl, trivial⟩, (by repeat (first | exact zo | refine zt rfl ?_ | refine zp rfl rfl ?_)), ?_⟩
       ·refine ⟨by simp [zck]; omega, by dsimp only; omega, fun s hs => ?_⟩
        exact zeh s (List.mem_of_mem_take hs)
       ·repeat (first | exact List.Perm.nil | refine zT 0 rfl ?_ | refine zT 1 rfl ?_ | refine zT 2 rfl ?_ | refine zT 3 rfl ?_ | (refine zM 0 rfl ?hq ?_; (case hq => simp [zZ, zl]; done)) | (refine zM 1 rfl ?hq ?_; (case hq => simp [zZ, zl]; done)) | (refine zM 2 rfl ?hq ?_; (case hq => simp [zZ, zl]; done)) | (refine zM 3 rfl ?hq ?_; (case hq => simp [zZ, zl]; done)) | fail)
     ·skip
      refine zaE rfl (zO zV rfl fun b3 => ?_)
      refine ⟨fun _ => .inl trivial, ?_⟩
      refine ahe 10 rfl (by kernel_rfl) ?_
      refine zaE rfl (zN (i := 1) zeY rfl (WeakL.refl _) rfl (z7 (L := [_, _]) (by omega) (by simp_all) (by simp_all)) ?_)
      rintro _ _ ⟨y15, rfl, hy15, rfl⟩
      refine ⟨fun _ => .inl trivial, ?_⟩
      refine ahe 13 rfl (by kernel_rfl) ?_
      refine zaE rfl (zN (i := 0) zeY rfl (WeakL.refl _) rfl (z7 (L := [_, _, _]) (by omega) (by simp_all) (by simp_all)) ?_)
      rintro _ _ ⟨y18, rfl, hy18, rfl⟩
      refine ⟨fun _ => .inl trivial, ?_⟩
      refine ahp 14 rfl rfl (by kernel_rfl) (by kernel_rfl) (zau (cs := [_, _, _, _, _, _]) zV zjY rfl) ?_
      refine ahe 16 rfl (by kernel_rfl) ?_
      refine zbq (zat (i := 1) zV rfl rfl rfl rfl rfl (Nat.le_of_ble_eq_true rfl) ?_)
      refine ⟨fun _ => .inl trivial, ?_⟩
      refine ahz (by kernel_rfl) ?_
      refine ⟨(b3, (zck.take y7.toNat).drop 0, y10, y12, y15, y18), ?_, ⟨rfl, trivial⟩, (by repeat (first | exact zo | refine zt rfl ?_ | refine zp rfl rfl ?_)), ?_⟩
      ·refine ⟨by simp [zck]; omega, by dsimp only; omega, fun s hs => ?_⟩
       exact zeh s (List.mem_of_mem_take hs)
      ·repeat (first | exact List.Perm.nil | refine zT 0 rfl ?_ | refine zT 1 rfl ?_ | refine zT 2 rfl ?_ | refine zT 3 rfl ?_ | (refine zM 0 rfl ?hq ?_; (case hq => simp [zZ, zl]; done)) | (refine zM 1 rfl ?hq ?_; (case hq => simp [zZ, zl]; done)) | (refine zM 2 rfl ?hq ?_; (case hq => simp [zZ, zl]; done)) | (refine zM 3 rfl ?hq ?_; (case hq => simp [zZ, zl]; done)) | fail)
    ·skip
     refine zaE rfl (zO zV rfl fun b3 => ?_)
     refine ⟨fun _ => .inl trivial, ?_⟩
     refine ahe 7 rfl (by kernel_rfl) ?_
     refine zaE rfl (zN (i := 1) zgs rfl (WeakL.refl _) rfl (zao (by omega) (by omega) (by omega) (by omega)) ?_)
     rintro _ _ ⟨y12, rfl, hy12, rfl⟩
     refine ⟨fun _ => .inl trivial, ?_⟩
     refine ahe 10 rfl (by kernel_rfl) ?_
     refine zaE rfl (zN (i := 0) zeY rfl (WeakL.refl _) rfl (z7 (L := [_, _]) (by omega) (by simp_all) (by simp_all)) ?_)
     rintro _ _ ⟨y15, rfl, hy15, rfl⟩
     refine ⟨fun _ => .inl trivial, ?_⟩
     refine ahe 13 rfl (by kernel_rfl) ?_
     refine zaE rfl (zN (i := 0) zeY rfl (WeakL.refl _) rfl (z7 (L := [_, _, _]) (by omega) (by simp_all) (by simp_all)) ?_)
     rintro _ _ ⟨y18, rfl, hy18, rfl⟩
     refine ⟨fun _ => .inl trivial, ?_⟩
     refine ahp 14 rfl rfl (by kernel_rfl) (by kernel_rfl) (zau (cs := [_, _, _, _, _, _]) zV zjY rfl) ?_
     refine ahe 16 rfl (by kernel_rfl) ?_
     refine zbq (zat (i := 1) zV rfl rfl rfl rfl rfl (Nat.le_of_ble_eq_true rfl) ?_)
     refine ⟨fun _ => .inl trivial, ?_⟩
     refine ahz (by kernel_rfl) ?_
     refine ⟨(b3, (zck.take y7.toNat).drop 0, y10, y12, y15, y18), ?_, ⟨rfl, trivial⟩, (by repeat (first | exact zo | refine zt rfl ?_ | refine zp rfl rfl ?_)), ?_⟩
     ·refine ⟨by simp [zck]; omega, by dsimp only; omega, fun s hs => ?_⟩
      exact zeh s (List.mem_of_mem_take hs)
     ·repeat (first | exact List.Perm.nil | refine zT 0 rfl ?_ | refine zT 1 rfl ?_ | refine zT 2 rfl ?_ | refine zT 3 rfl ?_ | (refine zM 0 rfl ?hq ?_; (case hq => simp [zZ, zl]; done)) | (refine zM 1 rfl ?hq ?_; (case hq => simp [zZ, zl]; done)) | (refine zM 2 rfl ?hq ?_; (case hq => simp [zZ, zl]; done)) | (refine zM 3 rfl ?hq ?_; (case hq => simp [zZ, zl]; done)) | fail)
   ·skip
    refine zaE rfl (zO zV rfl fun b3 => ?_)
    refine ⟨fun _ => .inl trivial, ?_⟩
    refine ahe 5 rfl (by kernel_rfl) ?_
    refine zaE rfl (zN (i := 1) zgs rfl (WeakL.refl _) rfl (zao (by omega) (by omega) (by omega) (by omega)) ?_)
    rintro _ _ ⟨y10, rfl, hy10, rfl⟩
    refine ⟨fun _ => .inl trivial, ?_⟩
    refine ahe 7 rfl (by kernel_rfl) ?_
    refine zaE rfl (zN (i := 0) zgs rfl (WeakL.refl _) rfl (zao (by omega) (by omega) (by omega) (by omega)) ?_)
    rintro _ _ ⟨y12, rfl, hy12, rfl⟩
    refine ⟨fun _ => .inl trivial, ?_⟩
    refine ahe 10 rfl (by kernel_rfl) ?_
    refine zaE rfl (zN (i := 0) zeY rfl (WeakL.refl _) rfl (z7 (L := [_, _]) (by omega) (by simp_all) (by simp_all)) ?_)
    rintro _ _ ⟨y15, rfl, hy15, rfl⟩
    refine ⟨fun _ => .inl trivial, ?_⟩
    refine ahe 13 rfl (by kernel_rfl) ?_
    refine zaE rfl (zN (i := 0) zeY rfl (WeakL.refl _) rfl (z7 (L := [_, _, _]) (by omega) (by simp_all) (by simp_all)) ?_)
    rintro _ _ ⟨y18, rfl, hy18, rfl⟩
    refine ⟨fun _ => .inl trivial, ?_⟩
    refine ahp 14 rfl rfl (by kernel_rfl) (by kernel_rfl) (zau (cs := [_, _, _, _, _, _]) zV zjY rfl) ?_
    refine ahe 16 rfl (by kernel_rfl) ?_
    refine zbq (zat (i := 1) zV rfl rfl rfl rfl rfl (Nat.le_of_ble_eq_true rfl) ?_)
    refine ⟨fun _ => .inl trivial, ?_⟩
    refine ahz (by kernel_rfl) ?_
    refine ⟨(b3, (zck.take y7.toNat).drop 0, y10, y12, y15, y18), ?_, ⟨rfl, trivial⟩, (by repeat (first | exact zo | refine zt rfl ?_ | refine zp rfl rfl ?_)), ?_⟩
    ·refine ⟨by simp [zck]; omega, by dsimp only; omega, fun s hs => ?_⟩
     exact zeh s (List.mem_of_mem_take hs)
    ·repeat (first | exact List.Perm.nil | refine zT 0 rfl ?_ | refine zT 1 rfl ?_ | refine zT 2 rfl ?_ | refine zT 3 rfl ?_ | (refine zM 0 rfl ?hq ?_; (case hq => simp [zZ, zl]; done)) | (refine zM 1 rfl ?hq ?_; (case hq => simp [zZ, zl]; done)) | (refine zM 2 rfl ?hq ?_; (case hq => simp [zZ, zl]; done)) | (refine zM 3 rfl ?hq ?_; (case hq => simp [zZ, zl]; done)) | fail)
  ·skip
   refine zaE rfl (zO zV rfl fun b3 => ?_)
   refine ⟨fun _ => .inl trivial, ?_⟩
   refine ahe 2 rfl (by kernel_rfl) ?_
   refine zaE rfl (zN (i := 2) zgs rfl (WeakL.refl _) rfl (zao (by omega) (by omega) (by omega) (by omega)) ?_)
   rintro _ _ ⟨y7, rfl, hy7, rfl⟩
   refine ⟨fun _ => .inl trivial, ?_⟩
   refine ahp 3 rfl rfl (by kernel_rfl) (by kernel_rfl) (zce (es := zck) (f := HVal.str) (h := y7.toNat) zA ty9 rfl rfl ⟨_, _, rfl, by omega⟩ (by omega) (by simp [zck]; omega)) ?_
   refine ahe 5 rfl (by kernel_rfl) ?_
   refine zaE rfl (zN (i := 0) zgs rfl (WeakL.refl _) rfl (zao (by omega) (by omega) (by omega) (by omega)) ?_)
   rintro _ _ ⟨y10, rfl, hy10, rfl⟩
   refine ⟨fun _ => .inl trivial, ?_⟩
   refine ahe 7 rfl (by kernel_rfl) ?_
   refine zaE rfl (zN (i := 0) zgs rfl (WeakL.refl _) rfl (zao (by omega) (by omega) (by omega) (by omega)) ?_)
   rintro _ _ ⟨y12, rfl, hy12, rfl⟩
   refine ⟨fun _ => .inl trivial, ?_⟩
   refine ahe 10 rfl (by kernel_rfl) ?_
   refine zaE rfl (zN (i := 0) zeY rfl (WeakL.refl _) rfl (z7 (L := [_, _]) (by omega) (by simp_all) (by simp_all)) ?_)
   rintro _ _ ⟨y15, rfl, hy15, rfl⟩
   refine ⟨fun _ => .inl trivial, ?_⟩
   refine ahe 13 rfl (by kernel_rfl) ?_
   refine zaE rfl (zN (i := 0) zeY rfl (WeakL.refl _) rfl (z7 (L := [_, _, _]) (by omega) (by simp_all) (by simp_all)) ?_)
   rintro _ _ ⟨y18, rfl, hy18, rfl⟩
   refine ⟨fun _ => .inl trivial, ?_⟩
   refine ahp 14 rfl rfl (by kernel_rfl) (by kernel_rfl) (zau (cs := [_, _, _, _, _, _]) zV zjY rfl) ?_
   refine ahe 16 rfl (by kernel_rfl) ?_
   refine zbq (zat (i := 1) zV rfl rfl rfl rfl rfl (Nat.le_of_ble_eq_true rfl) ?_)
   refine ⟨fun _ => .inl trivial, ?_⟩
   refine ahz (by kernel_rfl) ?_
   refine ⟨(b3, (zck.take y7.toNat).drop 0, y10, y12, y15, y18), ?_, ⟨rfl, trivial⟩, (by repeat (first | exact zo | refine zt rfl ?_ | refine zp rfl rfl ?_)), ?_⟩
   ·refine ⟨by simp [zck]; omega, by dsimp only; omega, fun s hs => ?_⟩
    exact zeh s (List.mem_of_mem_take hs)
   ·repeat (first | exact List.Perm.nil | refine zT 0 rfl ?_ | refine zT 1 rfl ?_ | refine zT 2 rfl ?_ | refine zT 3 rfl ?_ | (refine zM 0 rfl ?hq ?_; (case hq => simp [zZ, zl]; done)) | (refine zM 1 rfl ?hq ?_; (case hq => simp [zZ, zl]; done)) | (refine zM 2 rfl ?hq ?_; (case hq => simp [zZ, zl]; done)) | (refine zM 3 rfl ?hq ?_; (case hq => simp [zZ, zl]; done)) | fail)
 ·intro q hq
  obtain ⟨b3, T, R, Wy, C, S⟩ := q
  dsimp only at hq
  obtain ⟨hT, hR, hTs⟩ := hq
  refine zf ?_
  refine zaF (fun M => ∃ i : Nat, M[i]? = some (zhx b3 (eSs (T)) R Wy zis C S)) [1, 4] mixed ?_
  refine ahp 0 rfl rfl (by kernel_rfl) (by kernel_rfl) (zq zV rfl zA (by decide) rfl) ?_
  refine ahl 1 rfl rfl (by kernel_rfl) (by kernel_rfl) (by simp) (⟨0, rfl⟩) (fun M hM => by obtain ⟨i, hi⟩ := hM; exact zaD (i := i) zA rfl hi (.inl ⟨rfl, rfl⟩) ⟨rfl, rfl⟩) ?_
  refine ahp 2 rfl rfl (by kernel_rfl) (by kernel_rfl) (zv zA rfl) ?_
  refine ahp 3 rfl rfl (by kernel_rfl) (by kernel_rfl) (zq zV rfl ty3 (by decide) rfl) ?_
  refine ahl 4 rfl rfl (by kernel_rfl) (by kernel_rfl) (by simp) (⟨0, rfl⟩) (fun M hM => by obtain ⟨i, hi⟩ := hM; exact zaD (i := i) ty3 rfl hi (.inl ⟨rfl, rfl⟩) ⟨rfl, rfl⟩) ?_
  have hm1 : 0 < (T.length : Int) * R := Int.mul_pos (by omega) (by omega)
  have hm := zmZ (a := (T.length : Int)) (b := R) (A := 3) (B := 4) (by omega) (by omega) (by omega) (by omega)
  refine ahp 5 rfl rfl (by kernel_rfl) (by kernel_rfl) (zgh rfl rfl (by omega) (by omega)) ?_
  refine ahp 6 rfl rfl (by kernel_rfl) (by kernel_rfl) (zh rfl) ?_
  refine ahp 7 rfl rfl (by kernel_rfl) (by kernel_rfl) (zG (hs := [_, _, _, _]) zbT ty3 rfl rfl (by decide) (by decide) rfl) ?_
  refine ahp 10 rfl rfl (by kernel_rfl) (by kernel_rfl) (zh rfl) ?_
  refine ahe 8 rfl (by kernel_rfl) ?_
  refine zaE rfl (zN (i := 2) zeY rfl (WeakL.refl _) rfl (z7 (L := [_, _, _, _]) (by omega) (by simp_all) (by simp_all)) ?_)
  rintro _ _ ⟨y28, rfl, hy28, rfl⟩
  refine ⟨fun _ => by first | exact .inl ⟨0, rfl⟩ | exact .inl ⟨1, rfl⟩ | exact .inl ⟨2, rfl⟩ | exact .inr (by simp [zbU, Region.binds]), ?_⟩
  have hy3 : 0 ≤ y28 ∧ y28 ≤ 3 := by simp at hy28; omega
  refine ahp 9 rfl rfl (by kernel_rfl) (by kernel_rfl) (zx rfl rfl (by omega) (by omega)) ?_
  refine ahz (by kernel_rfl) ?_
  refine zF (Ghost.arr_nil 1) ?_
  refine zk ?_
  refine zdt [4, 30, 31, 32, 33, 34, 35, 36, 37, 38, 39, 40, 41, 42] (fun (k : Nat) (v : Value) (Pl : List Str) => [(30, .int .i64 k)]) (fun (k : Nat) (v : Value) (Pl : List Str) => [.arr v 1 (Pl.map .str), zhx b3 (eSs (T)) R Wy (.raw v) C S, zhx b2 zis 0 0 zis 0 0, St b l (a + 6)]) (fun (k : Nat) (v : Value) (Pl : List Str) => k ≤ 15 ∧ Pl.length = k ∧ ∀ s ∈ Pl, s.length ≤ 100) (fun (k : Nat) (v : Value) (Pl : List Str) => 15 - k) (0) (.slice none 0 0) ([]) ?_ ?_ ?_ ?_
  ·exact ⟨by omega, rfl, by simp⟩
  ·exact ⟨rfl, trivial⟩
  ·repeat (first | exact List.Perm.nil | refine zT 0 rfl ?_ | refine zT 1 rfl ?_ | refine zT 2 rfl ?_ | refine zT 3 rfl ?_ | (refine zM 0 rfl ?hq ?_; (case hq => simp [zZ, zl]; done)) | (refine zM 1 rfl ?hq ?_; (case hq => simp [zZ, zl]; done)) | (refine zM 2 rfl ?hq ?_; (case hq => simp [zZ, zl]; done)) | (refine zM 3 rfl ?hq ?_; (case hq => simp [zZ, zl]; done)) | fail)
  ·intro k v Pl hinv
   obtain ⟨hk, hPl, hPs⟩ := hinv
   refine za ?_
   refine dq (zK rfl rfl) ?_
   refine dn ?_
   refine zf ?_
   refine ze rfl (fun h1 => ?_) (fun h2 => ?_)
   ·try simp at h1
    refine zi ?_
    refine zd ?_
    refine zf ?_
    refine zk ?_
    refine za ?_
    refine dmv rfl ?_
    refine das rfl ?_
    refine dn ?_
    refine zb2 (fun _ => True) [] mixed ?_
    refine ahp 0 rfl rfl (by kernel_rfl) (by kernel_rfl) (zq zV rfl zA (by decide) rfl) ?_
    refine ahp 2 rfl rfl (by kernel_rfl) (by kernel_rfl) (zh rfl) ?_
    refine ahp 3 rfl rfl (by kernel_rfl) (by kernel_rfl) (zx rfl rfl (by omega) (by omega)) ?_
    refine ahp 4 rfl rfl (by kernel_rfl) (by kernel_rfl) (zj ca18 rfl (WeakL.refl _) (zld (i := 10 + k) (by omega))) ?_
    have hdl := zoy (i := 10 + k) (by omega)
    refine ahp 5 rfl rfl (by kernel_rfl) (by kernel_rfl) (zrv rfl rfl (by simp; omega)) ?_
    refine ahp 6 rfl rfl (by kernel_rfl) (by kernel_rfl) (zG (hs := [_]) zA ty9 rfl rfl (by decide) (by decide) rfl) ?_
    refine ahe 1 rfl (by kernel_rfl) ?_
    refine zaE rfl (zaD (i := 1) zA rfl rfl (.inl ⟨rfl, rfl⟩) ?_)
    refine ⟨fun _ => .inl trivial, ?_⟩
    refine ahe 7 rfl (by kernel_rfl) ?_
    refine zaE rfl (zaO (i := 0) zA ty9 rfl rfl rfl rfl rfl (by simp [za6, zl]) (by simp; omega) fun v40 => ?_)
    refine ⟨fun _ => .inl trivial, ?_⟩
    refine ahp 8 rfl rfl (by kernel_rfl) (by kernel_rfl) (zq zV rfl zA (by decide) rfl) ?_
    refine ahe 9 rfl (by kernel_rfl) ?_
    refine zbq (zat (i := 1) zA rfl rfl rfl rfl rfl (Nat.le_of_ble_eq_true rfl) ?_)
    refine ⟨fun _ => .inl trivial, ?_⟩
    refine ahz (by kernel_rfl) ?_
    refine zu ?_
    refine zd ?_
    refine zy ?_
    refine dq (zx rfl rfl (by omega) (by omega)) ?_
    refine dmv rfl ?_
    refine dn ?_
    refine ⟨k + 1, v40, Pl ++ [112 :: Lib.decDigits (10 + k)], ?_, ?_, ⟨rfl, trivial⟩, (by repeat (first | exact zo | refine zt rfl ?_ | refine zp rfl rfl ?_)), ?_⟩
    ·refine ⟨by omega, by simp [hPl], fun s hs => ?_⟩
     rcases List.mem_append.1 hs with h | h
     ·exact hPs s h
     ·have := zoy (i := 10 + k) (by omega)
      simp at h; subst h; simp; omega
    ·dsimp only; omega
    ·repeat (first | exact List.Perm.nil | refine zT 0 rfl ?_ | refine zT 1 rfl ?_ | refine zT 2 rfl ?_ | refine zT 3 rfl ?_ | (refine zM 0 rfl ?hq ?_; (case hq => simp [zZ, zl]; done)) | (refine zM 1 rfl ?hq ?_; (case hq => simp [zZ, zl]; done)) | (refine zM 2 rfl ?hq ?_; (case hq => simp [zZ, zl]; done)) | (refine zM 3 rfl ?hq ?_; (case hq => simp [zZ, zl]; done)) | fail)
   ·try simp at h2
    refine zL ?_
    refine zS ?_
    refine zee ?_
    refine zD ?_
    refine zd ?_
    refine zqR [43, 44, 45, 46, 47, 48, 49, 50, 51, 52, 53, 54, 55, 56, 57, 58, 59, 60, 61, 62, 63, 64, 65, 66, 67, 68, 69, 70, 71, 72, 73, 74, 75, 76, 77, 78, 79, 80, 81, 82] (fun (q : Room × Nat) => []) (fun (q : Room × Nat) => [.cells b3 (zl (zby q.1)), zhx b2 zis 0 0 zis 0 0, St b l q.2]) (fun (q : Room × Nat) => GoodRoom q.1 ∧ q.2 ≤ a + 20) ?_ ?_
    ·skip
     refine za ?_
     refine dmv rfl ?_
     refine de rfl (zN (i := 3) ca19 rfl (WeakL.refl _) rfl (zdQ (by omega) (by omega)) ?_)
     rintro _ _ ⟨y44, rfl, rfl⟩
     refine dn ?_
     refine ze rfl (fun h3 => ?_) (fun h4 => ?_)
     ·try simp at h3
      refine za ?_
      refine dmv rfl ?_
      refine de rfl (zN (i := 0) zhk rfl (WeakL.refl _) rfl (zax (by omega) (by omega)) ?_)
      rintro _ _ ⟨y46, rfl, hy46, rfl⟩
      refine dn ?_
      refine zk ?_
      refine za ?_
      refine dq (zaz rfl rfl) ?_
      refine das rfl ?_
      refine dn ?_
      refine ze rfl (fun h5 => ?_) (fun h6 => ?_)
      ·try simp at h5
       refine zy ?_
       refine dq (zq zV rfl zA (by decide) rfl) ?_
       refine de rfl (zaD (i := 2) zA rfl rfl (.inl ⟨rfl, rfl⟩) ?_)
       refine de rfl (zgd ca20 rfl (WeakL.refl _) (zcy (by omega)) fun v57 => ?_)
       refine dmv rfl ?_
       refine dq (zG (hs := [_, _, _]) zA ty9 rfl rfl (by decide) (by decide) rfl) ?_
       refine de rfl (zN (i := 1) ca21 rfl (WeakL.refl _) rfl (zdP (L := [_, _, _]) (by omega) (by simp_all) (by simp_all)) ?_)
       rintro _ _ ⟨y60, rfl, hy60, rfl⟩
       refine dq (zG (hs := [_]) zA ty9 rfl rfl (by decide) (by decide) rfl) ?_
       refine de rfl (zaO (i := 1) zA ty9 rfl rfl rfl rfl rfl (by simp [za6, zl]) (by simp; omega) fun v62 => ?_)
       refine dq (zq zV rfl zA (by decide) rfl) ?_
       refine de0 (zat (i := 3) zA rfl rfl rfl rfl rfl (Nat.le_of_ble_eq_true rfl) ?_)
       refine dn ?_
       refine zu ?_
       (first | refine zz (Ghost.fcell (i := 0) (k := 0) (j := 3) rfl rfl rfl) ?_ | refine zz (Ghost.fcell (i := 0) (k := 1) (j := 3) rfl rfl rfl) ?_ | refine zz (Ghost.fcell (i := 0) (k := 2) (j := 3) rfl rfl rfl) ?_ | refine zz (Ghost.fcell (i := 0) (k := 3) (j := 3) rfl rfl rfl) ?_ | refine zz (Ghost.fcell (i := 1) (k := 0) (j := 3) rfl rfl rfl) ?_ | refine zz (Ghost.fcell (i := 1) (k := 1) (j := 3) rfl rfl rfl) ?_ | refine zz (Ghost.fcell (i := 1) (k := 2) (j := 3) rfl rfl rfl) ?_ | refine zz (Ghost.fcell (i := 1) (k := 3) (j := 3) rfl rfl rfl) ?_ | refine zz (Ghost.fcell (i := 2) (k := 0) (j := 3) rfl rfl rfl) ?_ | refine zz (Ghost.fcell (i := 2) (k := 1) (j := 3) rfl rfl rfl) ?_ | refine zz (Ghost.fcell (i := 2) (k := 2) (j := 3) rfl rfl rfl) ?_ | refine zz (Ghost.fcell (i := 2) (k := 3) (j := 3) rfl rfl rfl) ?_ | refine zz (Ghost.fcell (i := 3) (k := 0) (j := 3) rfl rfl rfl) ?_ | refine zz (Ghost.fcell (i := 3) (k := 1) (j := 3) rfl rfl rfl) ?_ | refine zz (Ghost.fcell (i := 3) (k := 2) (j := 3) rfl rfl rfl) ?_ | refine zz (Ghost.fcell (i := 3) (k := 3) (j := 3) rfl rfl rfl) ?_)
       (first | refine zz (Ghost.fcell (i := 0) (k := 0) (j := 0) rfl rfl rfl) ?_ | refine zz (Ghost.fcell (i := 0) (k := 1) (j := 0) rfl rfl rfl) ?_ | refine zz (Ghost.fcell (i := 0) (k := 2) (j := 0) rfl rfl rfl) ?_ | refine zz (Ghost.fcell (i := 0) (k := 3) (j := 0) rfl rfl rfl) ?_ | refine zz (Ghost.fcell (i := 1) (k := 0) (j := 0) rfl rfl rfl) ?_ | refine zz (Ghost.fcell (i := 1) (k := 1) (j := 0) rfl rfl rfl) ?_ | refine zz (Ghost.fcell (i := 1) (k := 2) (j := 0) rfl rfl rfl) ?_ | refine zz (Ghost.fcell (i := 1) (k := 3) (j := 0) rfl rfl rfl) ?_ | refine zz (Ghost.fcell (i := 2) (k := 0) (j := 0) rfl rfl rfl) ?_ | refine zz (Ghost.fcell (i := 2) (k := 1) (j := 0) rfl rfl rfl) ?_ | refine zz (Ghost.fcell (i := 2) (k := 2) (j := 0) rfl rfl rfl) ?_ | refine zz (Ghost.fcell (i := 2) (k := 3) (j := 0) rfl rfl rfl) ?_ | refine zz (Ghost.fcell (i := 3) (k := 0) (j := 0) rfl rfl rfl) ?_ | refine zz (Ghost.fcell (i := 3) (k := 1) (j := 0) rfl rfl rfl) ?_ | refine zz (Ghost.fcell (i := 3) (k := 2) (j := 0) rfl rfl rfl) ?_ | refine zz (Ghost.fcell (i := 3) (k := 3) (j := 0) rfl rfl rfl) ?_)
       refine zgZ (⟨T ++ [y60], R, Wy, Pl, C, S⟩, a + 9) ⟨?_, by dsimp only; omega⟩ trivial (by repeat (first | exact zo | refine zt rfl ?_ | refine zp rfl rfl ?_)) ?_
       ·exact zoL hT hPl (by omega) hTs hPs (by simp at hy60; rcases hy60 with rfl | rfl | rfl <;> simp)
       ·repeat (first | exact List.Perm.nil | refine zT 0 rfl ?_ | refine zT 1 rfl ?_ | refine zT 2 rfl ?_ | refine zT 3 rfl ?_ | (refine zM 0 rfl ?hq ?_; (case hq => simp [zZ, zl]; done)) | (refine zM 1 rfl ?hq ?_; (case hq => simp [zZ, zl]; done)) | (refine zM 2 rfl ?hq ?_; (case hq => simp [zZ, zl]; done)) | (refine zM 3 rfl ?hq ?_; (case hq => simp [zZ, zl]; done)) | fail)
      ·try simp at h6
       refine za ?_
       refine dq (zaz rfl rfl) ?_
       refine das rfl ?_
       refine dn ?_
       refine ze rfl (fun h7 => ?_) (fun h8 => ?_)
       ·try simp at h7
        refine zy ?_
        refine dmv rfl ?_
        refine de rfl (zN (i := 0) zoN rfl (WeakL.refl _) rfl (zbM (by omega) (by omega) (by omega) (by omega)) ?_)
        rintro _ _ ⟨y67, rfl, rfl⟩
        refine dmv rfl ?_
        refine de rfl (zN (i := 0) zoN rfl (WeakL.refl _) rfl (zbM (by omega) (by omega) (by omega) (by omega)) ?_)
        rintro _ _ ⟨y69, rfl, rfl⟩
        refine dq (zq zV rfl ty3 (by decide) rfl) ?_
        refine de0 (zat (i := 2) ty3 rfl rfl rfl rfl rfl (Nat.le_of_ble_eq_true rfl) ?_)
        refine dq (zq zV rfl ty3 (by decide) rfl) ?_
        refine de0 (zat (i := 2) ty3 rfl rfl rfl rfl rfl (Nat.le_of_ble_eq_true rfl) ?_)
        refine dn ?_
        refine zu ?_
        (first | refine zz (Ghost.fcell (i := 0) (k := 0) (j := 3) rfl rfl rfl) ?_ | refine zz (Ghost.fcell (i := 0) (k := 1) (j := 3) rfl rfl rfl) ?_ | refine zz (Ghost.fcell (i := 0) (k := 2) (j := 3) rfl rfl rfl) ?_ | refine zz (Ghost.fcell (i := 0) (k := 3) (j := 3) rfl rfl rfl) ?_ | refine zz (Ghost.fcell (i := 1) (k := 0) (j := 3) rfl rfl rfl) ?_ | refine zz (Ghost.fcell (i := 1) (k := 1) (j := 3) rfl rfl rfl) ?_ | refine zz (Ghost.fcell (i := 1) (k := 2) (j := 3) rfl rfl rfl) ?_ | refine zz (Ghost.fcell (i := 1) (k := 3) (j := 3) rfl rfl rfl) ?_ | refine zz (Ghost.fcell (i := 2) (k := 0) (j := 3) rfl rfl rfl) ?_ | refine zz (Ghost.fcell (i := 2) (k := 1) (j := 3) rfl rfl rfl) ?_ | refine zz (Ghost.fcell (i := 2) (k := 2) (j := 3) rfl rfl rfl) ?_ | refine zz (Ghost.fcell (i := 2) (k := 3) (j := 3) rfl rfl rfl) ?_ | refine zz (Ghost.fcell (i := 3) (k := 0) (j := 3) rfl rfl rfl) ?_ | refine zz (Ghost.fcell (i := 3) (k := 1) (j := 3) rfl rfl rfl) ?_ | refine zz (Ghost.fcell (i := 3) (k := 2) (j := 3) rfl rfl rfl) ?_ | refine zz (Ghost.fcell (i := 3) (k := 3) (j := 3) rfl rfl rfl) ?_)
        refine zgZ (⟨T, y67, y69, Pl, C, S⟩, a + 12) ⟨?_, by dsimp only; omega⟩ trivial (by repeat (first | exact zo | refine zt rfl ?_ | refine zp rfl rfl ?_)) ?_
        ·exact ziH hT hPl (by omega) hTs hPs
        ·repeat (first | exact List.Perm.nil | refine zT 0 rfl ?_ | refine zT 1 rfl ?_ | refine zT 2 rfl ?_ | refine zT 3 rfl ?_ | (refine zM 0 rfl ?hq ?_; (case hq => simp [zZ, zl]; done)) | (refine zM 1 rfl ?hq ?_; (case hq => simp [zZ, zl]; done)) | (refine zM 2 rfl ?hq ?_; (case hq => simp [zZ, zl]; done)) | (refine zM 3 rfl ?hq ?_; (case hq => simp [zZ, zl]; done)) | fail)
       ·try simp at h8
        refine za ?_
        refine dq (zaz rfl rfl) ?_
        refine das rfl ?_
        refine dn ?_
        refine ze rfl (fun h9 => ?_) (fun h10 => ?_)
        ·try simp at h9
         obtain ⟨Px, Pt, rfl⟩ : ∃ x t, Pl = x :: t := by
          cases Pl with
          | nil => simp at hPl; omega
          | cons x t => exact ⟨x, t, rfl⟩
         have hPt : Pt.length = k - 1 := by simp at hPl; omega
         have hPts : ∀ s ∈ Pt, s.length ≤ 100 := fun s hs => hPs s (List.mem_cons_of_mem _ hs)
         refine zi8 (i := 1) rfl (fun h0 he => ?_) (fun bb off cap hv hcap => ?_)
         ·exfalso; simp at he
         subst hv
         refine zF (Ghost.perm (List.Perm.swap _ _ _)) ?_
         refine zF (Ghost.tail (x := .str Px) (es := Pt.map .str)) ?_
         simp only [List.map_cons, List.length_cons] at hcap
         refine zb2 (fun M => ∃ i : Nat, M[i]? = some (zhx b3 (eSs (T)) R Wy (.raw (.slice (some ⟨bb, off, none⟩) ((Px :: Pt).map HVal.str).length cap)) C S)) [1] mixed ?_
         refine ahp 0 rfl rfl (by kernel_rfl) (by kernel_rfl) (zq zV rfl zA (by decide) rfl) ?_
         refine ahl 1 rfl rfl (by kernel_rfl) (by kernel_rfl) (by simp) (⟨2, rfl⟩) (fun M hM => by obtain ⟨i, hi⟩ := hM; exact zaD (i := i) zA rfl hi (.inl ⟨rfl, rfl⟩) ⟨rfl, rfl⟩) ?_
         refine ahp 2 rfl rfl (by kernel_rfl) (by kernel_rfl) (zrl (n := (Pt.map HVal.str).length) zA ty9 rfl hcap) ?_
         refine ahp 3 rfl rfl (by kernel_rfl) (by kernel_rfl) (zh rfl) ?_
         refine ahp 4 rfl rfl (by kernel_rfl) (by kernel_rfl) (zG (hs := [_, _, _]) zA ty9 rfl rfl (by decide) (by decide) rfl) ?_
         refine ahe 5 rfl (by kernel_rfl) ?_
         refine zaE rfl (zN (i := 1) ca21 rfl (WeakL.refl _) rfl (zdP (L := [_, _, _]) (by omega) (by simp_all) (by simp_all)) ?_)
         rintro _ _ ⟨y79, rfl, hy79, rfl⟩
         refine ⟨fun _ => by first | exact .inl ⟨0, rfl⟩ | exact .inl ⟨1, rfl⟩ | exact .inl ⟨2, rfl⟩ | exact .inr (by simp [zbU, Region.binds]), ?_⟩
         refine ahp 6 rfl rfl (by kernel_rfl) (by kernel_rfl) (zG (hs := [_]) zA ty9 rfl rfl (by decide) (by decide) rfl) ?_
         refine ahe 7 rfl (by kernel_rfl) ?_
         refine zaE rfl (zaO (i := 1) zA ty9 rfl rfl rfl rfl rfl (by simp [za6, zl]) (by simp; omega) fun v81 => ?_)
         refine ⟨fun _ => by first | exact .inl ⟨0, rfl⟩ | exact .inl ⟨1, rfl⟩ | exact .inl ⟨2, rfl⟩ | exact .inr (by simp [zbU, Region.binds]), ?_⟩
         refine ahp 8 rfl rfl (by kernel_rfl) (by kernel_rfl) (zq zV rfl zA (by decide) rfl) ?_
         refine ahe 9 rfl (by kernel_rfl) ?_
         refine zbq (zat (i := 2) zA rfl rfl rfl rfl rfl (Nat.le_of_ble_eq_true rfl) ?_)
         refine ⟨fun _ => by first | exact .inl ⟨0, rfl⟩ | exact .inl ⟨1, rfl⟩ | exact .inl ⟨2, rfl⟩ | exact .inr (by simp [zbU, Region.binds]), ?_⟩
         refine ahz (by kernel_rfl) ?_
         refine zu ?_
         (first | refine zz (Ghost.fcell (i := 0) (k := 0) (j := 3) rfl rfl rfl) ?_ | refine zz (Ghost.fcell (i := 0) (k := 1) (j := 3) rfl rfl rfl) ?_ | refine zz (Ghost.fcell (i := 0) (k := 2) (j := 3) rfl rfl rfl) ?_ | refine zz (Ghost.fcell (i := 0) (k := 3) (j := 3) rfl rfl rfl) ?_ | refine zz (Ghost.fcell (i := 1) (k := 0) (j := 3) rfl rfl rfl) ?_ | refine zz (Ghost.fcell (i := 1) (k := 1) (j := 3) rfl rfl rfl) ?_ | refine zz (Ghost.fcell (i := 1) (k := 2) (j := 3) rfl rfl rfl) ?_ | refine zz (Ghost.fcell (i := 1) (k := 3) (j := 3) rfl rfl rfl) ?_ | refine zz (Ghost.fcell (i := 2) (k := 0) (j := 3) rfl rfl rfl) ?_ | refine zz (Ghost.fcell (i := 2) (k := 1) (j := 3) rfl rfl rfl) ?_ | refine zz (Ghost.fcell (i := 2) (k := 2) (j := 3) rfl rfl rfl) ?_ | refine zz (Ghost.fcell (i := 2) (k := 3) (j := 3) rfl rfl rfl) ?_ | refine zz (Ghost.fcell (i := 3) (k := 0) (j := 3) rfl rfl rfl) ?_ | refine zz (Ghost.fcell (i := 3) (k := 1) (j := 3) rfl rfl rfl) ?_ | refine zz (Ghost.fcell (i := 3) (k := 2) (j := 3) rfl rfl rfl) ?_ | refine zz (Ghost.fcell (i := 3) (k := 3) (j := 3) rfl rfl rfl) ?_)
         refine zgZ (⟨T, R, Wy, Pt ++ [y79], C, S⟩, a + 9) ⟨?_, by dsimp only; omega⟩ trivial (by repeat (first | exact zo | refine zt rfl ?_ | refine zp rfl rfl ?_)) ?_
         ·exact zpn hT hPt (by omega) hTs hPts (by simp at hy79; rcases hy79 with rfl | rfl | rfl <;> simp)
         ·repeat (first | exact List.Perm.nil | refine zT 0 rfl ?_ | refine zT 1 rfl ?_ | refine zT 2 rfl ?_ | refine zT 3 rfl ?_ | (refine zM 0 rfl ?hq ?_; (case hq => simp [zZ, zl]; done)) | (refine zM 1 rfl ?hq ?_; (case hq => simp [zZ, zl]; done)) | (refine zM 2 rfl ?hq ?_; (case hq => simp [zZ, zl]; done)) | (refine zM 3 rfl ?hq ?_; (case hq => simp [zZ, zl]; done)) | fail)
        ·try simp at h10
         refine zy ?_
         refine dmv rfl ?_
         refine de rfl (zN (i := 0) zoN rfl (WeakL.refl _) rfl (zbM (by omega) (by omega) (by omega) (by omega)) ?_)
         rintro _ _ ⟨y48, rfl, rfl⟩
         refine dmv rfl ?_
         refine de rfl (zN (i := 0) zoN rfl (WeakL.refl _) rfl (zbM (by omega) (by omega) (by omega) (by omega)) ?_)
         rintro _ _ ⟨y50, rfl, rfl⟩
         refine dq (zq zV rfl ty3 (by decide) rfl) ?_
         refine de0 (zat (i := 2) ty3 rfl rfl rfl rfl rfl (Nat.le_of_ble_eq_true rfl) ?_)
         refine dq (zq zV rfl ty3 (by decide) rfl) ?_
         refine de0 (zat (i := 2) ty3 rfl rfl rfl rfl rfl (Nat.le_of_ble_eq_true rfl) ?_)
         refine dn ?_
         refine zu ?_
         (first | refine zz (Ghost.fcell (i := 0) (k := 0) (j := 3) rfl rfl rfl) ?_ | refine zz (Ghost.fcell (i := 0) (k := 1) (j := 3) rfl rfl rfl) ?_ | refine zz (Ghost.fcell (i := 0) (k := 2) (j := 3) rfl rfl rfl) ?_ | refine zz (Ghost.fcell (i := 0) (k := 3) (j := 3) rfl rfl rfl) ?_ | refine zz (Ghost.fcell (i := 1) (k := 0) (j := 3) rfl rfl rfl) ?_ | refine zz (Ghost.fcell (i := 1) (k := 1) (j := 3) rfl rfl rfl) ?_ | refine zz (Ghost.fcell (i := 1) (k := 2) (j := 3) rfl rfl rfl) ?_ | refine zz (Ghost.fcell (i := 1) (k := 3) (j := 3) rfl rfl rfl) ?_ | refine zz (Ghost.fcell (i := 2) (k := 0) (j := 3) rfl rfl rfl) ?_ | refine zz (Ghost.fcell (i := 2) (k := 1) (j := 3) rfl rfl rfl) ?_ | refine zz (Ghost.fcell (i := 2) (k := 2) (j := 3) rfl rfl rfl) ?_ | refine zz (Ghost.fcell (i := 2) (k := 3) (j := 3) rfl rfl rfl) ?_ | refine zz (Ghost.fcell (i := 3) (k := 0) (j := 3) rfl rfl rfl) ?_ | refine zz (Ghost.fcell (i := 3) (k := 1) (j := 3) rfl rfl rfl) ?_ | refine zz (Ghost.fcell (i := 3) (k := 2) (j := 3) rfl rfl rfl) ?_ | refine zz (Ghost.fcell (i := 3) (k := 3) (j := 3) rfl rfl rfl) ?_)
         refine zgZ (⟨T, R, Wy, Pl, y48, y50⟩, a + 12) ⟨?_, by dsimp only; omega⟩ trivial (by repeat (first | exact zo | refine zt rfl ?_ | refine zp rfl rfl ?_)) ?_
         ·exact ziH hT hPl (by omega) hTs hPs
         ·repeat (first | exact List.Perm.nil | refine zT 0 rfl ?_ | refine zT 1 rfl ?_ | refine zT 2 rfl ?_ | refine zT 3 rfl ?_ | (refine zM 0 rfl ?hq ?_; (case hq => simp [zZ, zl]; done)) | (refine zM 1 rfl ?hq ?_; (case hq => simp [zZ, zl]; done)) | (refine zM 2 rfl ?hq ?_; (case hq => simp [zZ, zl]; done)) | (refine zM 3 rfl ?hq ?_; (case hq => simp [zZ, zl]; done)) | fail)
     ·try simp at h4
      refine zi ?_
      (first | refine zz (Ghost.fcell (i := 0) (k := 0) (j := 3) rfl rfl rfl) ?_ | refine zz (Ghost.fcell (i := 0) (k := 1) (j := 3) rfl rfl rfl) ?_ | refine zz (Ghost.fcell (i := 0) (k := 2) (j := 3) rfl rfl rfl) ?_ | refine zz (Ghost.fcell (i := 0) (k := 3) (j := 3) rfl rfl rfl) ?_ | refine zz (Ghost.fcell (i := 1) (k := 0) (j := 3) rfl rfl rfl) ?_ | refine zz (Ghost.fcell (i := 1) (k := 1) (j := 3) rfl rfl rfl) ?_ | refine zz (Ghost.fcell (i := 1) (k := 2) (j := 3) rfl rfl rfl) ?_ | refine zz (Ghost.fcell (i := 1) (k := 3) (j := 3) rfl rfl rfl) ?_ | refine zz (Ghost.fcell (i := 2) (k := 0) (j := 3) rfl rfl rfl) ?_ | refine zz (Ghost.fcell (i := 2) (k := 1) (j := 3) rfl rfl rfl) ?_ | refine zz (Ghost.fcell (i := 2) (k := 2) (j := 3) rfl rfl rfl) ?_ | refine zz (Ghost.fcell (i := 2) (k := 3) (j := 3) rfl rfl rfl) ?_ | refine zz (Ghost.fcell (i := 3) (k := 0) (j := 3) rfl rfl rfl) ?_ | refine zz (Ghost.fcell (i := 3) (k := 1) (j := 3) rfl rfl rfl) ?_ | refine zz (Ghost.fcell (i := 3) (k := 2) (j := 3) rfl rfl rfl) ?_ | refine zz (Ghost.fcell (i := 3) (k := 3) (j := 3) rfl rfl rfl) ?_)
      refine zgZ (⟨T, R, Wy, Pl, C, S⟩, a + 7) ⟨?_, by dsimp only; omega⟩ trivial (by repeat (first | exact zo | refine zt rfl ?_ | refine zp rfl rfl ?_)) ?_
      ·exact ziH hT hPl (by omega) hTs hPs
      ·repeat (first | exact List.Perm.nil | refine zT 0 rfl ?_ | refine zT 1 rfl ?_ | refine zT 2 rfl ?_ | refine zT 3 rfl ?_ | (refine zM 0 rfl ?hq ?_; (case hq => simp [zZ, zl]; done)) | (refine zM 1 rfl ?hq ?_; (case hq => simp [zZ, zl]; done)) | (refine zM 2 rfl ?hq ?_; (case hq => simp [zZ, zl]; done)) | (refine zM 3 rfl ?hq ?_; (case hq => simp [zZ, zl]; done)) | fail)
    ·intro q hq2
     obtain ⟨r, a2⟩ := q
     dsimp only at hq2
     refine za ?_
     refine de rfl (zgc (i := 0) zV rfl rfl rfl rfl rfl ?_)
     refine de0 (zat (i := 1) zV rfl rfl rfl rfl rfl (Nat.le_of_ble_eq_true rfl) ?_)
     refine dn ?_
     refine zg ?_
     exact ⟨_, _, (Ghost.drop).trans (Ghost.fc0 2 rfl), [_], _, ⟨⟨_, _, _, _, _, rfl, zV, .inr ⟨rfl, rfl, rfl⟩⟩, trivial⟩, Weak.refl _, r, a2, rfl, hq2.1, hq2.2, rfl⟩
end
section
open Go.HL

end
section
open Go.HL

end
section
open Go.HL

end
end Go.Proofs.YtkcnenknbbcoiaaGreatDoor
namespace Go.HL
section
def zmx : Room := ⟨[[97], [98]], 2, 2, [[112], [113], [114], [115]], 1000, 0⟩
theorem zqY : zaI zmx [] = 0 := by kernel_rfl
theorem zoa : zcd zmx [] = [[97], [98], [98], [97]] := by kernel_rfl
end
section
open Op (bytesLess)
abbrev za3 : Pick := ⟨0, [], [], 0, false⟩
theorem znw {α : Type} {R : α → α → Prop} (tr : ∀ a b c, R a b → R b c → R a c) {l : List α} (h : ∀ (i : Nat) (a b : α), l[i]? = some a → l[i + 1]? = some b → R a b) : l.Pairwise R := by
 have key : ∀ (d i : Nat) (a b : α), l[i]? = some a → l[i + d + 1]? = some b → R a b := by
  intro d
  induction d with
  | zero => intro i a b ha hb; exact h i a b ha hb
  | succ d ih =>
    intro i a b ha hb
    have hlt := zC hb
    have hc := List.getElem?_eq_getElem (l := l) (i := i + d + 1) (by omega)
    exact tr _ _ _ (ih i a _ ha hc) (h (i + d + 1) _ b hc (by rw [show i + d + 1 + 1 = i + (d + 1) + 1 by omega]; exact hb))
 refine List.pairwise_iff_getElem.2 fun i j hi hj hij => ?_
 refine key (j - i - 1) i _ _ (List.getElem?_eq_getElem hi) ?_
 rw [show i + (j - i - 1) + 1 = j by omega]; exact List.getElem?_eq_getElem hj
theorem zio {α : Type} [DecidableEq α] : ∀ {l m : List α}, l.Nodup → (∀ x ∈ l, x ∈ m) → l.length ≤ m.length
 | [], _, _, _ => Nat.zero_le _
 | a :: l, m, h, hs => by
   have ha := hs a List.mem_cons_self
   obtain ⟨h1, h2⟩ := List.nodup_cons.1 h
   have h3 := zio (m := m.erase a) h2 fun x hx => (List.mem_erase_of_ne (fun e : x = a => h1 (by rw [← e]; exact hx))).2 (hs x (List.mem_cons_of_mem _ hx))
   rw [List.length_erase_of_mem ha] at h3
   have := List.length_pos_of_mem ha
   simp; omega
theorem znb {α : Type} {R : α → α → Prop} : ∀ {l : List α}, l.Pairwise R → ∀ x ∈ l, ∀ y ∈ l, x = y ∨ R x y ∨ R y x
 | [], _, x, hx, _, _ => by simp at hx
 | a :: l, h, x, hx, y, hy => by
   obtain ⟨h1, h2⟩ := List.pairwise_cons.1 h
   rcases List.mem_cons.1 hx with e | hx' <;> rcases List.mem_cons.1 hy with e' | hy'
   ·exact .inl (e.trans e'.symm)
   ·exact .inr (.inl (e ▸ h1 y hy'))
   ·exact .inr (.inr (e' ▸ h1 x hx'))
   ·exact znb h2 x hx' y hy'
/-! keeps that are right -/
def kLt (a b : Keep) : Prop := bytesLess a.Team b.Team = true ∨ (a.Team = b.Team ∧ a.Round < b.Round)
theorem zpJ (a b c : Keep) (h1 : kLt a b) (h2 : kLt b c) : kLt a c := by
 rcases h1 with h1 | ⟨e1, h1⟩ <;> rcases h2 with h2 | ⟨e2, h2⟩
 ·exact .inl (zcZ h1 h2)
 ·exact .inl (e2 ▸ h1)
 ·exact .inl (e1 ▸ h2)
 ·exact .inr ⟨e1.trans e2, by omega⟩
theorem zsP {a b : Keep} (h : ¬ orI [zaH b.Team a.Team, zgw b.Round a.Round] ≤ 0) : kLt a b := by
 rw [zfE] at h
 rcases zbA a.Team b.Team with h1 | h1 | h1
 ·exact .inl h1
 ·refine .inr ⟨h1, ?_⟩
  rw [h1] at h
  simp [zag, orI, zgw] at h
  split at h
  ·omega
  ·split at h <;> omega
 ·rw [h1] at h; simp [orI] at h
structure KeepsOk (r : Room) (k : List Keep) : Prop where
 all : ∀ x ∈ k, x.Team ∈ r.Teams ∧ x.Player ∈ r.Players ∧ 1 ≤ x.Round ∧ x.Round ≤ r.Rounds
 lt : k.Pairwise kLt
theorem zkw {r : Room} {l : List Keep} : ∀ (t : List Keep) (k : Nat) (kept : List Str) (tw : Bool), l.drop k = t → zbJ r l k kept tw t = 0 →
 (∀ x ∈ t, x.Team ∈ r.Teams ∧ x.Player ∈ r.Players ∧ 1 ≤ x.Round ∧ x.Round ≤ r.Rounds) ∧ ∀ (i : Nat) (a b : Keep), k ≤ i + 1 → l[i]? = some a → l[i + 1]? = some b → kLt a b
 | [], k, kept, tw, hd, h => ⟨by simp, fun i a b hi ha hb => by
    have := zC hb
    have h2 : l.length ≤ k := by rw [← List.drop_eq_nil_iff]; exact hd
    omega⟩
 | x :: t, k, kept, tw, hd, h => by
   have hk : l[k]? = some x := by
    have := congrArg (fun q => q[0]?) hd
    simpa using this
   have hd' : l.drop (k + 1) = t := by
    have := zI hk
    rw [hd] at this; simp at this; exact this.symm
   simp only [zbJ] at h
   split at h
   ·omega
   ·rename_i h1
    split at h
    ·omega
    ·rename_i h2
     split at h
     ·omega
     ·rename_i h3
      obtain ⟨h4, h5⟩ := zkw t (k + 1) _ _ hd' h
      have h2' := zdj (by simpa using h2)
      refine ⟨fun y hy => ?_, fun i a b hi ha hb => ?_⟩
      ·rcases List.mem_cons.1 hy with rfl | hy
       ·simp at h1; exact ⟨h1.1, h1.2, h2'⟩
       ·exact h4 y hy
      ·by_cases e : k = i + 1
       ·subst e
        rw [hk] at hb; cases hb
        refine zsP fun hc => h3 ?_
        simp [List.getD, ha]; exact hc
       ·exact h5 i a b (by omega) ha hb
theorem zeq {r : Room} {k : List Keep} (h : zaT r k = 0) : KeepsOk r k := by
 unfold zaT at h
 split at h
 ·rename_i hc; simp [h] at hc
 ·split at h
  ·omega
  ·obtain ⟨h1, h2⟩ := zkw k 0 [] false rfl h
   exact ⟨h1, znw zpJ fun i a b => h2 i a b (by omega)⟩
theorem zfT {l : List Str} : ∀ (r : List Str) (k : Nat), zaX l k r = 0 → ∀ s ∈ r, key s = true
 | [], _, _, s, hs => by simp at hs
 | x :: r, k, h, s, hs => by
   simp only [zaX] at h
   split at h
   ·omega
   ·rename_i h1
    split at h
    ·omega
    ·rcases List.mem_cons.1 hs with rfl | hs
     ·simpa using h1
     ·exact zfT r (k + 1) h s hs
structure RoomOk (r : Room) : Prop where
 sorted : SortedS r.Players
 t20 : r.Teams.length ≤ 20
 t0 : 0 < r.Teams.length
 r1 : 1 ≤ r.Rounds
 r30 : r.Rounds ≤ 30
 p500 : r.Players.length ≤ 500
 ne : ∀ s ∈ r.Players, s ≠ []
 many : (r.Teams.length : Int) * r.Rounds ≤ r.Players.length
 clock : 1000 ≤ r.Clock ∧ r.Clock ≤ 86400000
 start : zaL r.Start = true
theorem zcE {r : Room} (h : zQ r = 0) : RoomOk r := by
 obtain ⟨a1, a2, a3, a4, a5, a6⟩ := zb6 h
 unfold zQ at h
 split at h
 ·rename_i hc; simp [h] at hc
 ·split at h
  ·omega
  ·split at h
   ·omega
   ·split at h
    ·rename_i hc; simp [h] at hc
    ·rename_i hp
     split at h
     ·omega
     ·rename_i hcl
      split at h
      ·omega
      ·rename_i hm
       simp at hcl hp
       refine ⟨a1, a2, a3, a4, a5, a6, fun s hs e => ?_, by omega, zdj hcl.1, hcl.2⟩
       unfold playersFault at hp
       split at hp
       ·omega
       ·have := zfT _ 0 hp s hs
        subst e; simp [key, zgb] at this
theorem zh3 {l : List Str} (h : SortedS l) : l.Nodup :=
 List.Pairwise.imp (fun {a b} hab e => by subst e; rw [zag] at hab; cases hab) h
/-! turns -/
theorem zfj {r : Room} {s : List Swap} {t : Str} (ht : t ∈ r.Teams) : ∀ (n : Nat) (rd : Int), 1 ≤ rd → rd ≤ n → ∃ x ∈ zay r s n, x.of = t ∧ x.round = rd
 | 0, rd, h1, h2 => by omega
 | n + 1, rd, h1, h2 => by
   by_cases e : rd = (n : Int) + 1
   ·refine ⟨⟨rd, t, owner rd t s⟩, ?_, rfl, rfl⟩
    simp only [zay, List.mem_append]
    right
    subst e
    unfold zbL
    refine List.mem_map.2 ⟨t, ?_, rfl⟩
    split
    ·exact List.mem_reverse.2 ht
    ·exact ht
   ·obtain ⟨x, hx, h3⟩ := zfj ht n rd h1 (by omega)
    exact ⟨x, by simp only [zay, List.mem_append]; exact .inl hx, h3⟩
def zcr (t : Turn) (x : Keep) : Bool := decide (x.Team = t.of ∧ x.Round = t.round)
theorem zg4 (r : Room) (t : Turn) : ∀ (k : List Keep) (p : Pick), (zbb r t p k).No = p.No ∧ (zbb r t p k).Team = p.Team
 | [], p => ⟨rfl, rfl⟩
 | x :: k, p => by
   obtain ⟨h1, h2⟩ := zg4 r t k (if x.Team = t.of ∧ x.Round = t.round then { p with Player := x.Player, At := r.Start } else p)
   simp only [zbb]; rw [h1, h2]
   split <;> exact ⟨rfl, rfl⟩
theorem zeC (r : Room) (t : Turn) : ∀ (k : List Keep) (p : Pick), (zbb r t p k).Player = p.Player ∨ ∃ x ∈ k, zcr t x = true ∧ (zbb r t p k).Player = x.Player
 | [], p => .inl rfl
 | x :: k, p => by
   simp only [zbb]
   rcases zeC r t k (if x.Team = t.of ∧ x.Round = t.round then { p with Player := x.Player, At := r.Start } else p) with h | ⟨y, hy, h1, h2⟩
   ·by_cases e : x.Team = t.of ∧ x.Round = t.round
    ·rw [if_pos e] at h ⊢
     exact .inr ⟨x, List.mem_cons_self, by simp [zcr, e], h⟩
    ·rw [if_neg e] at h ⊢
     exact .inl h
   ·exact .inr ⟨y, List.mem_cons_of_mem _ hy, h1, h2⟩
theorem zjs (r : Room) (t : Turn) : ∀ (k : List Keep) (p : Pick), k.any (zcr t) = false → zbb r t p k = p
 | [], p, _ => rfl
 | x :: k, p, h => by
   simp only [List.any_cons, Bool.or_eq_false_iff] at h
   have e : ¬ (x.Team = t.of ∧ x.Round = t.round) := by simpa [zcr] using h.1
   simp only [zbb]; rw [if_neg e]; exact zjs r t k p h.2
theorem zhq (r : Room) (t : Turn) {x : Keep} : ∀ (k : List Keep) (p : Pick), x ∈ k → zcr t x = true → (∀ y ∈ k, zcr t y = true → y.Player = x.Player) → (zbb r t p k).Player = x.Player
 | [], p, hx, _, _ => by simp at hx
 | y :: k, p, hx, hf, hu => by
   simp only [zbb]
   by_cases e : y.Team = t.of ∧ y.Round = t.round
   ·have hy := hu y List.mem_cons_self (by simp [zcr, e])
    rw [if_pos e]
    rcases zeC r t k { p with Player := y.Player, At := r.Start } with h | ⟨z, hz, h1, h2⟩
    ·rw [h]; exact hy
    ·rw [h2]; exact hu z (List.mem_cons_of_mem _ hz) h1
   ·rw [if_neg e]
    rcases List.mem_cons.1 hx with rfl | hx
    ·exact absurd (by simpa [zcr] using hf) e
    ·exact zhq r t k p hx hf fun z hz => hu z (List.mem_cons_of_mem _ hz)
theorem KeepsOk.one {r : Room} {k : List Keep} (h : KeepsOk r k) {t : Turn} {x y : Keep} (hx : x ∈ k) (hy : y ∈ k) (fx : zcr t x = true) (fy : zcr t y = true) : y = x := by
 simp [zcr] at fx fy
 rcases znb h.lt x hx y hy with e | e | e
 ·exact e.symm
 ·exfalso
  rcases e with e | ⟨e1, e2⟩
  ·rw [fx.1, fy.1, zag] at e; cases e
  ·omega
 ·exfalso
  rcases e with e | ⟨e1, e2⟩
  ·rw [fx.1, fy.1, zag] at e; cases e
  ·omega
theorem zof {r : Room} {k : List Keep} (h : KeepsOk r k) (hne : ∀ s ∈ r.Players, s ≠ []) (t : Turn) (p : Pick) (hp : p.Player = []) : ((zbb r t p k).Player == []) = !(k.any (zcr t)) := by
 cases hq : k.any (zcr t) with
 | false => rw [zjs r t k p hq, hp]; rfl
 | true =>
   obtain ⟨x, hx, hf⟩ := List.any_eq_true.1 hq
   rw [zhq r t k p hx hf fun y hy hfy => by rw [h.one hx hy hf hfy]]
   have := hne _ (h.all x hx).2.1
   simpa using this
theorem zfR {r : Room} {k : List Keep} {p : Pick} : ∀ (l : List Turn) (i : Nat), p ∈ zak r k i l → ∃ (j : Nat) (t : Turn), t ∈ l ∧ p = zbb r t ⟨j, t.team, [], 0, false⟩ k
 | [], i, h => by simp [zak] at h
 | t :: l, i, h => by
   simp only [zak, List.mem_cons] at h
   rcases h with h | h
   ·exact ⟨i, t, List.mem_cons_self, h⟩
   ·obtain ⟨j, t', h1, h2⟩ := zfR l (i + 1) h
    exact ⟨j, t', List.mem_cons_of_mem _ h1, h2⟩
theorem ziV {r : Room} {k : List Keep} {t : Turn} : ∀ (l : List Turn) (i : Nat), t ∈ l → ∃ j : Nat, zbb r t ⟨j, t.team, [], 0, false⟩ k ∈ zak r k i l
 | [], i, h => by simp at h
 | x :: l, i, h => by
   rcases List.mem_cons.1 h with rfl | h
   ·exact ⟨i, by simp [zak]⟩
   ·obtain ⟨j, hj⟩ := ziV l (i + 1) h
    exact ⟨j, by simp only [zak, List.mem_cons]; exact .inr hj⟩
theorem zmC {r : Room} {k : List Keep} {s : List Swap} (h : openFault r k s = 0) {n : Str} (hn : n ≠ []) : (z8 r k s).any (fun p => p.Player == n) = k.any (fun x => x.Player == n) := by
 obtain ⟨h1, _, h3⟩ := zaQ h
 have hk := zeq h3
 have hr := zcE h1
 rw [Bool.eq_iff_iff, List.any_eq_true, List.any_eq_true]
 constructor
 ·rintro ⟨p, hp, e⟩
  obtain ⟨j, t, _, rfl⟩ := zfR _ _ hp
  rcases zeC r t k ⟨j, t.team, [], 0, false⟩ with q | ⟨x, hx, _, q⟩
  ·rw [q] at e; simp at e; exact absurd e hn
  ·exact ⟨x, hx, by rw [q] at e; exact e⟩
 ·rintro ⟨x, hx, e⟩
  obtain ⟨a1, _, a3, a4⟩ := hk.all x hx
  obtain ⟨t, ht, b1, b2⟩ := zfj (s := s) a1 r.Rounds.toNat x.Round a3 (by omega)
  obtain ⟨j, hj⟩ := ziV (r := r) (k := k) (zay r s r.Rounds.toNat) 0 ht
  have hf : zcr t x = true := by simp [zcr, b1, b2]
  exact ⟨_, hj, by rw [zhq r t k _ hx hf fun y hy hfy => by rw [hk.one hx hy hf hfy]]; exact e⟩
def zX (r : Room) (k : List Keep) (s : List Swap) : List Pick := (z8 r k s).filter fun p => p.Player == []
theorem zhz {r : Room} {k : List Keep} (h : KeepsOk r k) (hne : ∀ s ∈ r.Players, s ≠ []) : ∀ (l : List Turn) (i : Nat), ((zak r k i l).filter fun p => p.Player == []).length + (l.filter fun t => k.any (zcr t)).length = l.length
 | [], i => rfl
 | t :: l, i => by
   have ih := zhz h hne l (i + 1)
   simp only [zak, List.filter_cons, zof h hne t ⟨i, t.team, [], 0, false⟩ rfl, List.length_cons]
   cases k.any (zcr t) <;> simp only [Bool.not_true, Bool.not_false, Bool.false_eq_true, if_true, if_false, List.length_cons] <;> omega
theorem zmO {r : Room} {k : List Keep} {s : List Swap} (h : openFault r k s = 0) : (zX r k s).length + k.length ≤ (turns r s).length := by
 obtain ⟨h1, _, h3⟩ := zaQ h
 have hk := zeq h3
 have hr := zcE h1
 have e := zhz hk hr.ne (turns r s) 0
 have hs : (k.map fun x => (x.Team, x.Round)).length ≤ (((turns r s).filter fun t => k.any (zcr t)).map fun t => (t.of, t.round)).length := by
  refine zio ?_ fun q hq => ?_
  ·refine List.pairwise_map.2 (hk.lt.imp fun {a b} hab e => ?_)
   injection e with e1 e2
   rcases hab with hab | ⟨_, hab⟩
   ·rw [e1, zag] at hab; cases hab
   ·omega
  ·obtain ⟨x, hx, rfl⟩ := List.mem_map.1 hq
   obtain ⟨a1, _, a3, a4⟩ := hk.all x hx
   obtain ⟨t, ht, b1, b2⟩ := zfj (s := s) a1 r.Rounds.toNat x.Round a3 (by omega)
   refine List.mem_map.2 ⟨t, List.mem_filter.2 ⟨ht, List.any_eq_true.2 ⟨x, hx, by simp [zcr, b1, b2]⟩⟩, by rw [b1, b2]⟩
 simp only [List.length_map] at hs
 unfold zX z8
 omega
/-! who is left -/
def zba (k : List Keep) (l : List Pick) (s : Str) : Bool := k.any (fun x => x.Player == s) || l.any (fun p => p.Player == s)
def zi2 (r : Room) (k : List Keep) (l : List Pick) : List Str := r.Players.filter fun s => !(zba k l s)
theorem zrf {r : Room} {k : List Keep} {l : List Pick} (hs : SortedS r.Players) : r.Players.length ≤ (zi2 r k l).length + k.length + l.length := by
 have h1 : (r.Players.filter (zba k l)).length ≤ (k.map (·.Player) ++ l.map (·.Player)).length := by
  refine zio ((zh3 hs).sublist List.filter_sublist) fun s h => ?_
  have := (List.mem_filter.1 h).2
  simp only [zba, Bool.or_eq_true, List.any_eq_true, beq_iff_eq] at this
  rcases this with ⟨x, hx, e⟩ | ⟨x, hx, e⟩
  ·exact List.mem_append_left _ (List.mem_map.2 ⟨x, hx, e⟩)
  ·exact List.mem_append_right _ (List.mem_map.2 ⟨x, hx, e⟩)
 have h2 : ∀ (p : Str → Bool) (q : List Str), (q.filter fun s => !(p s)).length + (q.filter p).length = q.length := fun p q => by
  induction q with
  | nil => rfl
  | cons a q ih => simp only [List.filter_cons]; cases p a <;> simp <;> omega
 have := h2 (zba k l) r.Players
 rw [List.length_append, List.length_map, List.length_map] at h1
 unfold zi2
 omega
theorem zo1 {r : Room} {s : List Swap} (h : RoomOk r) : (turns r s).length ≤ r.Players.length := by
 unfold turns; rw [zcb]
 have := h.many
 have e : ((r.Rounds.toNat * r.Teams.length : Nat) : Int) = (r.Teams.length : Int) * r.Rounds := by
  rw [Int.natCast_mul, Int.toNat_of_nonneg (by have := h.r1; omega), Int.mul_comm]
 omega
theorem zos {r : Room} {k : List Keep} {s : List Swap} {l : List Pick} (h : openFault r k s = 0) (hl : l.length < (zX r k s).length) : 0 < (zi2 r k l).length := by
 have hr := zcE (zaQ h).1
 have h1 := zmO h
 have h2 := zrf (k := k) (l := l) hr.sorted
 have h3 := zo1 (s := s) hr
 omega
end
section
def za9 (r : Room) (l : List Pick) : Int := match l.getLast? with | some p => p.At | none => r.Start
def pkF (r : Room) (k : List Keep) (fr l : List Pick) (p : Pick) : Int :=
 if !(zaL p.At) then 1 else if !(p.No == (fr.getD l.length za3).No) then 7 else if !(p.Team == (fr.getD l.length za3).Team) then 13
 else if !(r.Players.contains p.Player) then 8 else if zba k l p.Player then 6 else if p.At < za9 r l then 11 else 0
def zd6 (r : Room) (k : List Keep) (fr l : List Pick) : Nat → List Pick → Int
 | _, [] => 0
 | i, p :: t => if pkF r k fr (l.take i) p != 0 then pkF r k fr (l.take i) p else zd6 r k fr l (i + 1) t
def zhs (r : Room) (k : List Keep) (s : List Swap) (l : List Pick) : Int := if (zX r k s).length < l.length then 2 else zd6 r k (zX r k s) l 0 l
def zaf (r : Room) (k : List Keep) (s : List Swap) (l : List Pick) : Int := if openFault r k s != 0 then openFault r k s else zhs r k s l
theorem ziF {r : Room} {k : List Keep} {fr l : List Pick} {i : Nat} {p : Pick} {t : List Pick} (h : pkF r k fr (l.take i) p ≠ 0) : zd6 r k fr l i (p :: t) = pkF r k fr (l.take i) p := by
 rw [zd6, if_pos (by simpa using h)]
theorem zoZ {r : Room} {k : List Keep} {fr l : List Pick} {i : Nat} {p : Pick} {t : List Pick} (h : pkF r k fr (l.take i) p = 0) : zd6 r k fr l i (p :: t) = zd6 r k fr l (i + 1) t := by
 rw [zd6, if_neg (by simp [h])]
section
variable {r : Room} {k : List Keep} {fr l : List Pick} {p : Pick}
theorem pf1 (h1 : zaL p.At = false) : pkF r k fr l p = 1 := by simp [pkF, h1]
theorem pf2 (h1 : zaL p.At = true) (h2 : ¬ p.No = (fr.getD l.length za3).No) : pkF r k fr l p = 7 := by
 unfold pkF; rw [if_neg (by simp [h1]), if_pos (by simpa using h2)]
theorem pf3 (h1 : zaL p.At = true) (h2 : p.No = (fr.getD l.length za3).No) (h3 : ¬ p.Team = (fr.getD l.length za3).Team) : pkF r k fr l p = 13 := by
 unfold pkF; rw [if_neg (by simp [h1]), if_neg (by simpa using h2), if_pos (by simpa using h3)]
theorem pf4 (h1 : zaL p.At = true) (h2 : p.No = (fr.getD l.length za3).No) (h3 : p.Team = (fr.getD l.length za3).Team) (h4 : ¬ p.Player ∈ r.Players) : pkF r k fr l p = 8 := by
 unfold pkF; rw [if_neg (by simp [h1]), if_neg (by simpa using h2), if_neg (by simpa using h3), if_pos (by simpa using h4)]
theorem pf5 (h1 : zaL p.At = true) (h2 : p.No = (fr.getD l.length za3).No) (h3 : p.Team = (fr.getD l.length za3).Team) (h4 : p.Player ∈ r.Players) (h5 : zba k l p.Player = true) : pkF r k fr l p = 6 := by
 unfold pkF; rw [if_neg (by simp [h1]), if_neg (by simpa using h2), if_neg (by simpa using h3), if_neg (by simpa using h4), if_pos h5]
theorem pf6 (h1 : zaL p.At = true) (h2 : p.No = (fr.getD l.length za3).No) (h3 : p.Team = (fr.getD l.length za3).Team) (h4 : p.Player ∈ r.Players) (h5 : zba k l p.Player = false) (h6 : p.At < za9 r l) : pkF r k fr l p = 11 := by
 unfold pkF; rw [if_neg (by simp [h1]), if_neg (by simpa using h2), if_neg (by simpa using h3), if_neg (by simpa using h4), if_neg (by simp [h5]), if_pos h6]
theorem pf0 (h1 : zaL p.At = true) (h2 : p.No = (fr.getD l.length za3).No) (h3 : p.Team = (fr.getD l.length za3).Team) (h4 : p.Player ∈ r.Players) (h5 : zba k l p.Player = false) (h6 : ¬ p.At < za9 r l) : pkF r k fr l p = 0 := by
 unfold pkF; rw [if_neg (by simp [h1]), if_neg (by simpa using h2), if_neg (by simpa using h3), if_neg (by simpa using h4), if_neg (by simp [h5]), if_neg h6]
theorem zhV (h : pkF r k fr l p = 0) : zaL p.At = true ∧ p.No = (fr.getD l.length za3).No ∧ p.Team = (fr.getD l.length za3).Team ∧ p.Player ∈ r.Players ∧ zba k l p.Player = false := by
 unfold pkF at h
 split at h
 ·omega
 ·rename_i h1
  split at h
  ·omega
  ·rename_i h2
   split at h
   ·omega
   ·rename_i h3
    split at h
    ·omega
    ·rename_i h4
     split at h
     ·omega
     ·rename_i h5
      simp at h1 h2 h3 h4 h5
      exact ⟨h1, h2, h3, h4, h5⟩
end
theorem zbF {r : Room} {k : List Keep} {s : List Swap} {l : List Pick} (h : zaf r k s l = 0) : openFault r k s = 0 ∧ l.length ≤ (zX r k s).length ∧ zd6 r k (zX r k s) l 0 l = 0 := by
 unfold zaf at h
 split at h
 ·rename_i hc; simp [h] at hc
 ·rename_i hc
  unfold zhs at h
  split at h
  ·omega
  ·exact ⟨by simpa using hc, by omega, h⟩
theorem zed {r : Room} {k : List Keep} {fr l : List Pick} : ∀ (t : List Pick) (i : Nat), l.drop i = t → zd6 r k fr l i t = 0 → ∀ (j : Nat) (p : Pick), i ≤ j → l[j]? = some p → pkF r k fr (l.take j) p = 0
 | [], i, hd, _, j, p, hj, hp => by
   have := zC hp
   have h2 : l.length ≤ i := by rw [← List.drop_eq_nil_iff]; exact hd
   omega
 | x :: t, i, hd, h, j, p, hj, hp => by
   have hk : l[i]? = some x := by
    have := congrArg (fun q => q[0]?) hd
    simpa using this
   have hd' : l.drop (i + 1) = t := by
    have := zI hk
    rw [hd] at this; simp at this; exact this.symm
   by_cases e : pkF r k fr (l.take i) x = 0
   ·rw [zoZ e] at h
    by_cases hij : i = j
    ·subst hij; rw [hk] at hp; cases hp; exact e
    ·exact zed t (i + 1) hd' h j p (by omega) hp
   ·rw [ziF e] at h; exact absurd h e
theorem zn1 {r : Room} {k : List Keep} {s : List Swap} {l : List Pick} (h : zaf r k s l = 0) : zaL (za9 r l) = true := by
 obtain ⟨h1, h2, h3⟩ := zbF h
 cases hl : l.getLast? with
 | none => simp only [za9, hl]; exact (zcE (zaQ h1).1).start
 | some p =>
   simp only [za9, hl]
   have : l[l.length - 1]? = some p := by rw [← List.getLast?_eq_getElem?]; exact hl
   exact (zhV (zed l 0 rfl h3 _ p (Nat.zero_le _) this)).1
/-! wishes -/
structure Wish where
 Team : Str
 Players : List Str
abbrev zhw (w : Wish) : HVal := .agg [.str w.Team, eSs w.Players]
abbrev zel (l : List Wish) : HVal := .slice 2 (l.map zhw)
def zdw (r : Room) (l : List Str) : Nat → List Str → Int
 | _, [] => 0
 | j, s :: t => if !(r.Players.contains s) then 8 else if (l.take j).contains s then 6 else zdw r l (j + 1) t
def zdD (r : Room) (w : List Wish) : Nat → List Wish → Int
 | _, [] => 0
 | i, x :: t => if !(r.Teams.contains x.Team) then 8 else if (w.take i).any (fun y => y.Team == x.Team) then 6 else if 500 < x.Players.length then 2
   else if zdw r x.Players 0 x.Players != 0 then zdw r x.Players 0 x.Players else zdD r w (i + 1) t
def zdf (r : Room) (w : List Wish) : Int := if 20 < w.length then 2 else zdD r w 0 w
def zad (r : Room) (w : List Wish) : Int := if zQ r != 0 then zQ r else zdf r w
theorem zog {r : Room} {l : List Str} : ∀ (t : List Str) (j : Nat), zdw r l j t = 0 → ∀ s ∈ t, s ∈ r.Players
 | [], _, _, s, hs => by simp at hs
 | x :: t, j, h, s, hs => by
   simp only [zdw] at h
   split at h
   ·omega
   ·rename_i h1
    split at h
    ·omega
    ·rcases List.mem_cons.1 hs with rfl | hs
     ·simpa using h1
     ·exact zog t (j + 1) h s hs
theorem zoE {r : Room} {w : List Wish} : ∀ (t : List Wish) (i : Nat), zdD r w i t = 0 → ∀ y ∈ t, (∀ s ∈ y.Players, s ∈ r.Players) ∧ y.Players.length ≤ 500
 | [], _, _, y, hy => by simp at hy
 | x :: t, i, h, y, hy => by
   simp only [zdD] at h
   split at h
   ·omega
   ·split at h
    ·omega
    ·split at h
     ·omega
     ·split at h
      ·rename_i hc; simp [h] at hc
      ·rename_i hc
       rcases List.mem_cons.1 hy with rfl | hy
       ·exact ⟨zog _ 0 (by simpa using hc), by omega⟩
       ·exact zoE t (i + 1) h y hy
theorem zlH {r : Room} {w : List Wish} (h : zad r w = 0) : ∀ y ∈ w, (∀ s ∈ y.Players, s ∈ r.Players) ∧ y.Players.length ≤ 500 := by
 unfold zad zdf at h
 split at h
 ·rename_i hc; simp [h] at hc
 ·split at h
  ·omega
  ·exact zoE w 0 h
/-- whom a team would pick of those who are not gone -/
def zbo (g : Str → Bool) (team : Str) : List Wish → Option Str
 | [] => none
 | y :: r => if y.Team = team then (match y.Players.find? (fun s => !(g s)) with | some s => some s | none => zbo g team r) else zbo g team r
def zbG (r : Room) (g : Str → Bool) (w : List Wish) (team : Str) : Str := match zbo g team w with | some s => s | none => (r.Players.find? (fun s => !(g s))).getD []
theorem zhf {p q : Str → Bool} : ∀ {l : List Str}, (∀ s ∈ l, p s = q s) → l.find? p = l.find? q
 | [], _ => rfl
 | a :: l, h => by
   simp only [List.find?_cons, h a List.mem_cons_self]
   rw [zhf fun s hs => h s (List.mem_cons_of_mem _ hs)]
theorem ziC {r : Room} {g g' : Str → Bool} (h : ∀ s ∈ r.Players, g s = g' s) {team : Str} : ∀ {w : List Wish}, (∀ y ∈ w, ∀ s ∈ y.Players, s ∈ r.Players) → zbo g team w = zbo g' team w
 | [], _ => rfl
 | y :: w, hw => by
   simp only [zbo]
   rw [ziC h fun z hz => hw z (List.mem_cons_of_mem _ hz), zhf (p := fun s => !(g s)) (q := fun s => !(g' s)) fun s hs => by rw [h s (hw y List.mem_cons_self s hs)]]
theorem znk {r : Room} {g g' : Str → Bool} (h : ∀ s ∈ r.Players, g s = g' s) {team : Str} {w : List Wish} (hw : ∀ y ∈ w, ∀ s ∈ y.Players, s ∈ r.Players) : zbG r g w team = zbG r g' w team := by
 unfold zbG
 rw [ziC h hw, zhf (p := fun s => !(g s)) (q := fun s => !(g' s)) fun s hs => by rw [h s hs]]
theorem zna {p : Str → Bool} {l : List Str} {s : Str} (h : l.find? p = some s) : s ∈ l ∧ p s = true := ⟨List.mem_of_find?_eq_some h, List.find?_some h⟩
/-! picks by lists -/
def zhn (r : Room) (k : List Keep) (fr : List Pick) (w : List Wish) (l : List Pick) (at' : Int) : Pick :=
 ⟨(fr.getD l.length za3).No, (fr.getD l.length za3).Team, zbG r (zba k l) w (fr.getD l.length za3).Team, at', true⟩
def zeu (r : Room) (k : List Keep) (fr : List Pick) (w : List Wish) : Nat → List Pick → List Pick
 | 0, l => l
 | n + 1, l => zeu r k fr w n (l ++ [zhn r k fr w l (za9 r l)])
def zjR (r : Room) (k : List Keep) (s : List Swap) (w : List Wish) (l : List Pick) : List Pick := zeu r k (zX r k s) w ((zX r k s).length - l.length) l
def zpk (r : Room) (l : List Pick) (at' : Int) : Bool := zaL (za9 r l + r.Clock) && decide (za9 r l + r.Clock ≤ at')
def zmF (r : Room) (k : List Keep) (fr : List Pick) (w : List Wish) (at' : Int) : Nat → List Pick → List Pick
 | 0, l => l
 | n + 1, l => if zpk r l at' then zmF r k fr w at' n (l ++ [zhn r k fr w l (za9 r l + r.Clock)]) else l
theorem zoX (k : List Keep) (l : List Pick) (p : Pick) (s : Str) : zba k (l ++ [p]) s = (zba k l s || p.Player == s) := by
 simp [zba, Bool.or_assoc]
/-! what a run holds -/
structure RunOk (r : Room) (k : List Keep) (s : List Swap) (l : List Pick) (S : List Str) : Prop where
 gone : ∀ x ∈ r.Players, S.contains x = zba k l x
theorem RunOk.add {r : Room} {k : List Keep} {s : List Swap} {l : List Pick} {S : List Str} (ok : RunOk r k s l S) (p : Pick) : RunOk r k s (l ++ [p]) (zaY p.Player S) :=
 ⟨fun x hx => by rw [zoX, zd4, ok.gone x hx]⟩
end
end Go.HL
section
namespace Go.HL
section
variable {P : Program} {ops : Array Oper} {n : Nat} {S : List MObj → Prop} {ld : List Nat} {K : Env → List MObj → Prop} {e : Env} {M : List MObj} {listed : Array Bool} {fuel : Nat} {d : Nat} {op : Op} {ty : TypeId} {pos : String} {af : Array Edge} {h : HVal}
/-- A load under a guard out of owned objects of which S knows enough is taken first. -/
theorem zqO [Tracks] (i : Nat) {j : Nat} {want c : Bool} (hi : ops[i]? = some ⟨some d, op, ty, pos, af, some (j, want)⟩) (hd : Nat.blt d n = true) (hf : Region.free .any ops listed i = true) (hr : (Region.ready .any ops listed).contains i = true) (hl : i ∈ ld) (hS : S M)
 (hg : zeF ops e j want = some c) (hp : c = true → ∃ e2, OpenTo e e2 ∧ ∀ M, S M → EOp P e2 M ⟨some d, op, ty, pos, af, some (j, want)⟩ fun x M' => x = h ∧ M' = M)
 (k : HAny P ops n S ld K fuel (listed.setIfInBounds i true) (upd e d (.opt c h)) M) : HAny P ops n S ld K (fuel + 1) listed e M :=
 HAny.first (T := S) hi (fun t ht => by simp at ht; subst ht; exact zet hd) (.inr ⟨rfl, hl⟩) fuel listed e M (Region.free_spec hi hf) (by simpa using hr)
  ⟨c, hg, fun hc M hM => by
   obtain ⟨e2, h1, h2⟩ := hp hc
   intro I F a w ho hs
   exact Oper.wp_noQ (fun _ _ ⟨v, x, M', J, h3, h4, ⟨e1, e3⟩, h5, h6⟩ => ⟨v, .opt c h, M, J, h3, h4, ⟨rfl, rfl⟩, .opt (fun _ => e1 ▸ h5) (fun hf => by rw [hc] at hf; cases hf), e3 ▸ h6⟩) (h2 M hM I F a w (ho.open h1) hs),
   fun hc => ⟨h, by rw [hc]⟩⟩ hS k
end
theorem zty {x : Nat} (h : x < 16) : IntKind.wrap .u8 (x : Int) = (x : Int) := by
 have : (List.range 16).all (fun x => IntKind.wrap .u8 (x : Int) == (x : Int)) = true := by decide
 simpa using List.all_eq_true.1 this x (List.mem_range.2 h)
theorem zsz {x : Nat} (h : x < 16) : IntKind.wrap .u64 (x : Int) = (x : Int) := by
 have : (List.range 16).all (fun x => IntKind.wrap .u64 (x : Int) == (x : Int)) = true := by decide
 simpa using List.all_eq_true.1 this x (List.mem_range.2 h)
theorem zeb {k : IntKind} {a b : Int} (h : a = b) : some (HVal.int k a) = some (.int k b) := by rw [h]
section
variable {α : Type} {c : α → α → Int}
theorem zn4 (l : List α) : za0 c (l.take 1) ++ l.drop 1 = l := by
 cases l with
 | nil => rfl
 | cons x r => simp [za0, zcJ, zhd]
theorem zlk {A R : List α} {x : α} : (A ++ x :: R)[A.length]? = some x := by simp
theorem zg3 {A R : List α} {x : α} (h : 0 < A.length) : (A ++ x :: R)[A.length - 1]? = some ((A[A.length - 1]?).getD x) := by
 rw [List.getElem?_append_left (by omega), List.getElem?_eq_getElem (by omega)]
 simp [List.getElem?_eq_getElem (show A.length - 1 < A.length by omega)]
theorem zoq {A : List α} (h : 0 < A.length) : ∃ B y, A = B ++ [y] := by
 have hne : A ≠ [] := fun e => by subst e; simp at h
 exact ⟨_, _, (List.dropLast_concat_getLast hne).symm⟩
theorem zf3 {A : List α} {y d : α} : ((A ++ [y])[(A ++ [y]).length - 1]?).getD d = y := by simp
theorem zqJ {A R : List α} {x y : α} : (((A ++ [y]) ++ x :: R).set (A ++ [y]).length y).set ((A ++ [y]).length - 1) x = A ++ x :: y :: R := by
 have e1 : ((A ++ [y]) ++ x :: R).set (A ++ [y]).length y = (A ++ [y]) ++ y :: R := by rw [List.set_append_right _ _ (Nat.le_refl _)]; simp
 rw [e1, List.append_assoc]
 have e2 : (A ++ [y]).length - 1 = A.length := by simp
 rw [e2, List.set_append_right _ _ (Nat.le_refl _)]
 simp
/-- The zb8 loop ends. -/
theorem zrd {l A B : List α} {x : α} {k : Nat} (hx : l[k]? = some x) (hB : zcJ c x (za0 c (l.take k)) = zcJ c x A ++ B) (h : 0 < A.length → ¬ c x ((A[A.length - 1]?).getD x) < 0) : A ++ x :: (B ++ l.drop (k + 1)) = za0 c (l.take (k + 1)) ++ l.drop (k + 1) := by
 rw [zae hx, zks, hB]
 rcases Nat.eq_zero_or_pos A.length with h0 | h0
 ·obtain rfl := List.length_eq_zero_iff.1 h0
  simp [zrC]
 ·obtain ⟨A', y, rfl⟩ := zoq h0
  have := h h0
  rw [zf3] at this
  rw [zlD, if_neg this]; simp
theorem zq6 {A B : List α} {x y : α} {S : List α} (hB : zcJ c x S = zcJ c x (A ++ [y]) ++ B) (h : c x y < 0) : zcJ c x S = zcJ c x A ++ (y :: B) := by
 rw [hB, zlD, if_pos h]; simp
end
end Go.HL
namespace Go.HL
section
variable {α : Type} {p : α → Bool}
/-- What slices.DeleteFunc has done when it looks at place j. -/
structure DelInv (p : α → Bool) (l : List α) (j : Nat) (D : List α) : Prop where
 len : D.length = l.length
 jle : j ≤ l.length
 lt : ((l.take j).filter (fun x => !p x)).length < j
 kept : D.take ((l.take j).filter (fun x => !p x)).length = (l.take j).filter (fun x => !p x)
 rest : D.drop j = l.drop j
theorem DelInv.get {l D : List α} {j : Nat} {x : α} (h : DelInv p l j D) (hx : l[j]? = some x) : D[j]? = some x := by
 have h1 := congrArg (fun t => t[0]?) h.rest
 simp only [List.getElem?_drop, Nat.add_zero] at h1
 rw [h1]; exact hx
theorem zkO (p : α → Bool) : ∀ (l : List α) (k : Int), 0 ≤ k → zbm p l k ≠ -1 → ∃ i : Nat, zbm p l k = k + i ∧ i < l.length ∧ (∃ x, l[i]? = some x ∧ p x = true) ∧ ∀ y ∈ l.take i, p y = false
 | [], k, _, h => by simp [zbm] at h
 | x :: r, k, h0, h => by
   by_cases hx : p x = true
   ·exact ⟨0, by simp [zbm, hx], by simp, ⟨x, rfl, hx⟩, by simp⟩
   ·have e : zbm p (x :: r) k = zbm p r (k + 1) := by simp [zbm, hx]
    rw [e] at h ⊢
    obtain ⟨i, h1, h2, ⟨y, h3, h4⟩, h5⟩ := zkO p r (k + 1) (by omega) h
    refine ⟨i + 1, by rw [h1]; simp; omega, by simp; omega, ⟨y, by simpa using h3, h4⟩, fun z hz => ?_⟩
    simp only [List.take_succ_cons, List.mem_cons] at hz
    rcases hz with rfl | hz
    ·simpa using hx
    ·exact h5 z hz
theorem DelInv.done {l D : List α} (h : DelInv p l l.length D) : D.take (l.filter (fun x => !p x)).length = l.filter (fun x => !p x) := by
 have := h.kept
 rwa [List.take_length] at this
end
end Go.HL
namespace Go.HL
end Go.HL
end
namespace Go.HL
section
abbrev zhi (r : Room) (A T l : List Pick) (S : List Str) : List HVal := [.vptr (zl (zby r)) 0, zdb A, zdb T, zdb l, zoK S]
abbrev zdq (b m : Nat) (va v : Value) (r : Room) (A T l : List Pick) (S : List Str) : List MObj :=
 [.cells b [.vptr (zl (zby r)) 0, .raw va, zdb T, .raw v, .raw (.map (some m))], .arr va 5 (A.map zc1), .arr v 5 (l.map zc1), .map m (sk (zaP S))]
theorem zox {b m : Nat} {va v : Value} {r : Room} {A T l : List Pick} {S : List Str} : Bow (zdq b m va v r A T l S) (pAt b) (.vptr (zhi r A T l S) 0) :=
 .cellsL (i := 0) rfl ⟨.refl, .arr (i := 1) rfl, .refl, .arr (i := 2) rfl, .map (i := 3) (L := zaP S) rfl, trivial⟩
theorem zrn {r : Room} {l : List Pick} (h : l = []) : za9 r l = r.Start := by subst h; rfl
theorem zrs {r : Room} {l : List Pick} (h : ¬ l = []) : za9 r l = (l.getD (l.length - 1) za3).At := by
 have h0 : 0 < l.length := List.length_pos_iff.2 h
 have e : l.getLast? = some (l.getD (l.length - 1) za3) := by rw [List.getLast?_eq_getElem?, getD_some (d := za3) (by omega)]
 simp only [za9, e]
theorem znM {α : Type} {l : List α} {n : Nat} {d : α} (h : n < l.length) : (l.drop n)[0]? = some (l.getD n d) := by
 rw [List.getElem?_drop]; exact getD_some h
theorem zlC {α : Type} {p : α → Bool} {l : List α} (h : 0 ≤ zbm p l 0) : ∃ (i : Nat) (x : α), zbm p l 0 = (i : Int) ∧ l[i]? = some x ∧ l.find? p = some x := by
 obtain ⟨i, h1, h2, ⟨x, hx, hp⟩, hb⟩ := zkO p l 0 (by omega) (by omega)
 refine ⟨i, x, by omega, hx, ?_⟩
 have e : l = l.take i ++ x :: l.drop (i + 1) := by rw [← zI hx, List.take_append_drop]
 rw [e, List.find?_append, List.find?_eq_none.2 (by simpa using hb)]
 simp [hp]
theorem zqv {α : Type} {p : α → Bool} {l : List α} (h : zbm p l 0 < 0) : l.find? p = none := by
 have := zdg p l 0 (by omega)
 rw [List.find?_eq_none]
 intro x hx hp
 have h1 : l.any p = true := List.any_eq_true.2 ⟨x, hx, hp⟩
 rw [← this] at h1
 simp at h1; omega
theorem zsO {g : Str → Bool} {team : Str} {y : Wish} {r : List Wish} {s : Str} (h : y.Team = team) (hf : y.Players.find? (fun s => !(g s)) = some s) : zbo g team (y :: r) = some s := by
 simp [zbo, h, hf]
theorem zsS {g : Str → Bool} {team : Str} {y : Wish} {r : List Wish} (h : y.Team = team) (hf : y.Players.find? (fun s => !(g s)) = none) : zbo g team (y :: r) = zbo g team r := by
 simp [zbo, h, hf]
theorem zsQ {g : Str → Bool} {team : Str} {y : Wish} {r : List Wish} (h : ¬ y.Team = team) : zbo g team (y :: r) = zbo g team r := by
 simp [zbo, h]
theorem zri {α : Type} {p : α → Bool} {l : List α} (h : ∃ x ∈ l, p x = true) : 0 ≤ zbm p l 0 := by
 have h1 : l.any p = true := List.any_eq_true.2 h
 rw [← zdg p l 0 (by omega)] at h1
 simpa using h1
theorem zsf {x : MObj} {b m : Nat} {va v : Value} {r : Room} {A T l : List Pick} {S : List Str} : Bow (x :: zdq b m va v r A T l S) (pAt b) (.vptr (zhi r A T l S) 0) :=
 .cellsL (i := 1) rfl ⟨.refl, .arr (i := 2) rfl, .refl, .arr (i := 3) rfl, .map (i := 4) (L := zaP S) rfl, trivial⟩
theorem zrj {r : Room} {k : List Keep} {s : List Swap} (h : RoomOk r) : 0 < (z8 r k s).length := by
 unfold z8; rw [zdC]; unfold turns; rw [zcb]
 exact Nat.mul_pos (by have := h.r1; omega) h.t0
theorem zp8 {r : Room} {k : List Keep} {s : List Swap} {S : List Str} (h : openFault r k s = 0) (hS : ∀ x, S.contains x = (z8 r k s).any fun p => !(p.Player == []) && p.Player == x) : RunOk r k s [] S := ⟨fun x hx => by
 have hne := (zcE (zaQ h).1).ne x hx
 rw [hS x, zba, ← zmC h hne]
 simp only [List.any_nil, Bool.or_false]
 congr 1; funext p
 by_cases e : p.Player = x
 ·subst e; simp [hne]
 ·have : (p.Player == x) = false := by simpa using e
  rw [this]; simp⟩
theorem zmS {α : Type} (q : α → Bool) {l : List α} {i : Nat} {x : α} (hx : l[i]? = some x) : (l.take (i + 1)).any q = ((l.take i).any q || q x) := by
 rw [zae hx]; simp
theorem zhT {α : Type} (q : α → Bool) {l : List α} {i : Nat} {x : α} (hx : l[i]? = some x) : (l.take (i + 1)).filter q = (l.take i).filter q ++ if q x then [x] else [] := by
 rw [zae hx, List.filter_append]; congr 1; simp [List.filter_cons]
def dueI (r : Room) (T l : List Pick) : Int := if T.isEmpty || !(zaL (za9 r l + r.Clock)) then 0 else za9 r l + r.Clock
def dueD (r : Room) (T l : List Pick) : Bool := !(T.isEmpty || !(zaL (za9 r l + r.Clock)))
theorem ztS {r : Room} {k : List Keep} {fr : List Pick} {w : List Wish} {n : Int} {L : List Pick} (h : dueD r (fr.drop L.length) L = false ∨ n < dueI r (fr.drop L.length) L) : zmF r k fr w n (fr.length - L.length) L = L := by
 by_cases e : fr.length ≤ L.length
 ·rw [show fr.length - L.length = 0 by omega]; rfl
 ·obtain ⟨q, hq⟩ : ∃ q, fr.length - L.length = q + 1 := ⟨fr.length - L.length - 1, by omega⟩
  have hT : (fr.drop L.length).isEmpty = false := by
   cases hd : fr.drop L.length with
   | nil => exact absurd (List.drop_eq_nil_iff.1 hd) e
   | cons a b => rfl
  rw [hq, zmF]
  unfold dueD dueI at h
  rw [hT] at h
  rw [if_neg]
  intro hc
  simp only [zpk, Bool.and_eq_true, decide_eq_true_eq] at hc
  rw [hc.1] at h
  simp at h; omega
theorem zsK {r : Room} {k : List Keep} {fr : List Pick} {w : List Wish} {L : List Pick} (h : L.length < fr.length) :
 zeu r k fr w (fr.length - L.length) L = zeu r k fr w (fr.length - (L.length + 1)) (L ++ [zhn r k fr w L (za9 r L)]) := by
 obtain ⟨q, hq⟩ : ∃ q, fr.length - L.length = q + 1 := ⟨fr.length - L.length - 1, by omega⟩
 rw [hq, zeu, show fr.length - (L.length + 1) = q by omega]
theorem zqZ {r : Room} {k : List Keep} {fr : List Pick} {w : List Wish} {L : List Pick} (h : fr.length ≤ L.length) : zeu r k fr w (fr.length - L.length) L = L := by
 rw [show fr.length - L.length = 0 by omega]; rfl
theorem zsb {r : Room} {k : List Keep} {s : List Swap} {L : List Pick} {S : List Str} (h : openFault r k s = 0) (hl : L.length < (zX r k s).length) (ok : RunOk r k s L S) : ∃ x ∈ r.Players, (fun y => S.contains y) x = false := by
 have := zos h hl
 obtain ⟨x, hx⟩ := List.exists_mem_of_length_pos this
 obtain ⟨h1, h2⟩ := List.mem_filter.1 hx
 exact ⟨x, h1, by show S.contains x = false; rw [ok.gone x h1]; simpa using h2⟩
theorem zsi {r : Room} {k : List Keep} {s : List Swap} {L : List Pick} {S : List Str} {w : List Wish} (ok : RunOk r k s L S) (hw : ∀ y ∈ w, ∀ x ∈ y.Players, x ∈ r.Players) (t : Str) : zbG r (fun y => S.contains y) w t = zbG r (zba k L) w t := znk ok.gone hw
def zbc (r : Room) (k : List Keep) (s : List Swap) (l : List Pick) (w : List Wish) : Int := if zaf r k s l != 0 then zaf r k s l else zad r w
theorem zo2 {r : Room} {k : List Keep} {s : List Swap} {l : List Pick} {w : List Wish} (h : zbc r k s l w = 0) : zaf r k s l = 0 ∧ zad r w = 0 := by
 unfold zbc at h
 split at h
 ·rename_i hc; simp [h] at hc
 ·rename_i hc; exact ⟨by simpa using hc, h⟩
section
variable {r : Room} {w : List Wish} {k : Nat} {x : Wish} {t : List Wish}
theorem ws8 (h : ¬ x.Team ∈ r.Teams) : zdD r w k (x :: t) = 8 := by simp [zdD, h]
theorem ws6 (h : x.Team ∈ r.Teams) (h9 : (w.take k).any (fun y => y.Team == x.Team) = true) : zdD r w k (x :: t) = 6 := by
 simp only [zdD]; rw [if_neg (by simp [h]), if_pos h9]
theorem ws2 (h : x.Team ∈ r.Teams) (h9 : (w.take k).any (fun y => y.Team == x.Team) = false) (h11 : 500 < x.Players.length) : zdD r w k (x :: t) = 2 := by
 simp only [zdD]; rw [if_neg (by simp [h]), if_neg (by simp [h9]), if_pos h11]
theorem wsP {c : Int} (h : x.Team ∈ r.Teams) (h9 : (w.take k).any (fun y => y.Team == x.Team) = false) (h11 : ¬ 500 < x.Players.length) (hp : zdw r x.Players 0 x.Players = c) (hc : c ≠ 0) : zdD r w k (x :: t) = c := by
 simp only [zdD]; rw [if_neg (by simp [h]), if_neg (by simp [h9]), if_neg h11, hp, if_pos (by simpa using hc)]
theorem ws0 (h : x.Team ∈ r.Teams) (h9 : (w.take k).any (fun y => y.Team == x.Team) = false) (h11 : ¬ 500 < x.Players.length) (hp : zdw r x.Players 0 x.Players = 0) : zdD r w k (x :: t) = zdD r w (k + 1) t := by
 simp only [zdD]; rw [if_neg (by simp [h]), if_neg (by simp [h9]), if_neg h11, hp, if_neg (by simp)]
end
theorem wp8 {r : Room} {l : List Str} {j : Nat} {y : Str} {t : List Str} (h : ¬ y ∈ r.Players) : zdw r l j (y :: t) = 8 := by simp [zdw, h]
theorem wp6 {r : Room} {l : List Str} {j : Nat} {y : Str} {t : List Str} (h : y ∈ r.Players) (h2 : (l.take j).contains y = true) : zdw r l j (y :: t) = 6 := by
 simp only [zdw]; rw [if_neg (by simp [h]), if_pos h2]
theorem wp0 {r : Room} {l : List Str} {j : Nat} {y : Str} {t : List Str} (h : y ∈ r.Players) (h2 : (l.take j).contains y = false) : zdw r l j (y :: t) = zdw r l (j + 1) t := by
 simp only [zdw]; rw [if_neg (by simp [h]), if_neg (by rw [h2]; simp)]
theorem zq2 {l : List Str} {j : Nat} {y z : Str} (hy : l[j]? = some y) : ((l.take j).contains z || y == z) = (l.take (j + 1)).contains z := by
 rw [zae hy, Bool.eq_iff_iff]
 simp only [Bool.or_eq_true, beq_iff_eq, List.contains_iff_mem, List.mem_append, List.mem_singleton]
 exact ⟨fun h => h.imp id Eq.symm, fun h => h.imp id Eq.symm⟩
end
end Go.HL
