/- Part 3 of the proof: a program logic, contracts of functions and plain facts; no conditions. -/
import Derived.Test.YtpcaaekefgkhjaaGreatDoorQWaysEndWithOwners2
import Derived.Ground.Names2Prog
import Derived.KernelRfl
import Derived.Shelf.SlIter.Collect
import Derived.Shelf.SlIter.Keys
import Derived.Shelf.SlIter.Sorted
import Derived.Shelf.SlSortCmp.NoneTotal
import Derived.Shelf.Slices.CompactS
import Derived.Shelf.Slices.Delete
import Derived.Shelf.Sort.Plain
import Derived.Shelf.SortM.Plain
import Derived.Shelf.SortM.SortNone
import Derived.Shelf.Strconv.Atoi
import Derived.Shelf.Strconv.Itoa3
import Derived.Shelf.Strings.Prefix
import Derived.Test.YtpcaaekefgkhjaaGreatDoorProg
set_option linter.unusedVariables false
set_option linter.unusedSimpArgs false
namespace Go.HL
section
variable {P : Program}
open Go.Sort Go.Proofs Go.Shelf Go.RowKit
theorem znv [Tracks] {w w' : World} {J : Imm} {M : List MObj} (hT : Tracks.on = true) (hl : Le (zbY w) J) (hs : Sat P J M w') : ∃ q os, w' = grow (w.drewN q) os := by
 have hb := zi6 hl hs
 have hd : w.drawn ≤ w'.drawn := Nat.le_trans (hl.low hT) (hs.low hT)
 refine ⟨w'.drawn - w.drawn, w'.heap.extract w.heap.size w'.heap.size, ?_⟩
 have hh : w'.heap = w.heap ++ w'.heap.extract w.heap.size w'.heap.size := by
  apply Array.ext_getElem?
  intro i
  by_cases hi : i < w.heap.size
  ·rw [Array.getElem?_append_left hi]; exact hb.block i hi
  ·rw [Array.getElem?_append_right (by omega), Array.getElem?_extract]
   have := hb.size
   split
   ·congr 1; omega
   ·rw [Array.getElem?_eq_none (by omega)]
 have h1 := hb.os
 have h2 := hb.tape
 have h3 := hb.output
 obtain ⟨a1, a2, a3, a4, a5⟩ := w'
 obtain ⟨b1, b2, b3, b4, b5⟩ := w
 simp only at h1 h2 h3 hd hh
 subst h1 h2 h3
 simp only [grow, World.drewN, World.mk.injEq]
 exact ⟨hh, trivial, by omega, trivial, trivial⟩
theorem ConP.calls [Tracks] {f : FuncId} {hargs : List HVal} {h : HVal} (hT : Tracks.on = true) (hc : ConP P f hargs h) {w : World} (ht : TabI P (zbY w)) {args : List Value} (ha : VL (zbY w) hargs args) :
 Calls P f args.toArray w fun e w' => ∃ v, e = .returned v ∧ V (zbY w') h v ∧ ∃ q os, w' = grow (w.drewN q) os := by
 refine (hc (zbY w) [] w args ha (zpo ht)).mono ?_
 rintro e w' ⟨v, x, M', J, rfl, hle, ⟨rfl, rfl⟩, hV, hs⟩
 exact ⟨v, rfl, hV.mono hs.le_all, znv hT hle hs⟩
@[reducible] def zjG : Tracks := ⟨true⟩
/-- A row of cells that reads as an element. -/
abbrev zd2 {A : Type} (I : Imm) (e : A → HVal) (k : Nat) : Type := { p : A × List Value // p.2.length = k ∧ (∀ v ∈ p.2, v.oneCell' = true) ∧ VL I (zn (e p.1)) p.2 }
theorem zo3 [Tracks] {A : Type} {I : Imm} {e : A → HVal} {k : Nat} (hk : ∀ x, (zn (e x)).length = k) (hf : ∀ x, zbe (zn (e x)) = true) {rc : Array Value} : ∀ (l : List A) (off : Nat), off + l.length * k ≤ rc.size →
 (∀ (i j : Nat) (x : A) (c : HVal) (v : Value), l[i]? = some x → (zn (e x))[j]? = some c → rc[off + i * k + j]? = some v → V I c v) →
 ∃ d : List (zd2 I e k), d.map (·.1.1) = l ∧ ∀ (i j : Nat) (p : zd2 I e k), d[i]? = some p → j < k → rc[off + i * k + j]? = p.1.2[j]?
 | [], off, _, _ => ⟨[], rfl, fun i j p h => by simp at h⟩
 | x :: l, off, hb, hV => by
   have hb' : off + k + l.length * k ≤ rc.size := by simp [Nat.add_mul] at hb; omega
   obtain ⟨d, h1, h2⟩ := zo3 hk hf l (off + k) hb' fun i j y c v a1 a2 a3 => hV (i + 1) j y c v (by simpa using a1) a2 (by rw [Nat.add_mul, Nat.one_mul]; rw [show off + (i * k + k) + j = off + k + i * k + j by omega]; exact a3)
   have hlen : (rc.extract off (off + k)).toList.length = k := by simp; omega
   have hg : ∀ j, j < k → (rc.extract off (off + k)).toList[j]? = rc[off + j]? := fun j hj => by
    rw [Array.getElem?_toList, Array.getElem?_extract, if_pos (by omega)]
   have hvl : VL I (zn (e x)) (rc.extract off (off + k)).toList := ⟨by rw [hlen, hk], fun j c v a1 a2 => by
    have hj : j < k := by have := zN a1; rw [hk] at this; exact this
    rw [hg j hj] at a2
    exact hV 0 j x c v rfl a1 (by simpa using a2)⟩
   refine ⟨⟨(x, (rc.extract off (off + k)).toList), hlen, zhZ hvl (hf x), hvl⟩ :: d, by simp [h1], fun i j p hp hj => ?_⟩
   cases i with
   | zero =>
     simp only [List.getElem?_cons_zero, Option.some.injEq] at hp
     subst hp
     simp only [Nat.zero_mul, Nat.add_zero]
     exact (hg j hj).symm
   | succ i =>
     simp only [List.getElem?_cons_succ] at hp
     rw [← h2 i j p hp hj, Nat.add_mul, Nat.one_mul]
     congr 1; omega
section
variable {A : Type} {e : A → HVal} {k : Nat}
theorem zmT {α : Type} [Inhabited α] {enc : α → List Value} {w : World} {b off m : Nat} {dk : Array α} {os : Array Obj} {c : Nat} (hc : c < w.heap.size) (hb : c ≠ b) : (sortWorldK enc k w b off m dk os).heap[c]? = w.heap[c]? := by
 simp only [sortWorldK, grow, putRowK, putRow, mapBlock, Sort.ahead]
 rw [Array.getElem?_append_left (by simpa using hc), Array.getElem?_modify, if_neg (Ne.symm hb)]
theorem ziP {α : Type} [Inhabited α] {enc : α → List Value} {w : World} {b off m : Nat} {dk : Array α} {os : Array Obj} {rc : Array Value} {el : TypeId} {fr : Nat × Nat} (hb : w.heap[b]? = some (.cells rc el fr)) :
 (sortWorldK enc k w b off m dk os).heap[b]? = some (.cells (putCells id off (flatK enc k dk) rc) el fr) := by
 have hlt : b < w.heap.size := lt_of_get' hb
 simp only [sortWorldK, grow, putRowK, putRow, mapBlock, Sort.ahead]
 rw [Array.getElem?_append_left (by simpa using hlt), Array.getElem?_modify, if_pos rfl, hb]
 rfl
where
 lt_of_get' {α : Type} {a : Array α} {i : Nat} {x : α} (h : a[i]? = some x) : i < a.size := by
  rcases Nat.lt_or_ge i a.size with h' | h'
  ·exact h'
  ·simp [Array.getElem?_eq_none h'] at h
theorem zmK {α : Type} [Inhabited α] {enc : α → List Value} (hk : ∀ x, (enc x).length = k) {dk : Array α} {i j : Nat} {x : α} (hx : dk[i]? = some x) (hj : j < k) : some ((flatK enc k dk)[i * k + j]!) = (enc x)[j]? := by
 have hi : i < dk.size := by
  rcases Nat.lt_or_ge i dk.size with h' | h'
  ·exact h'
  ·simp [Array.getElem?_eq_none h'] at hx
 have hle : (i + 1) * k ≤ dk.size * k := Nat.mul_le_mul_right _ hi
 rw [Nat.add_mul, Nat.one_mul] at hle
 rw [get_flatK enc k dk _ (by omega)]
 have e1 : (i * k + j) / k = i := by rw [Nat.mul_comm, Nat.mul_add_div (by omega), Nat.div_eq_of_lt hj]; rfl
 have e2 : (i * k + j) % k = j := by rw [Nat.mul_comm, Nat.mul_add_mod, Nat.mod_eq_of_lt hj]
 rw [e1, e2]
 have e3 : dk[i]! = x := by rw [getElem!_pos dk i hi]; rw [Array.getElem?_eq_getElem hi] at hx; exact Option.some.inj hx
 rw [e3]
 have hjl : j < (enc x).length := by rw [hk]; exact hj
 rw [List.getElem?_eq_getElem hjl, getElem!_pos (enc x) j hjl]
set_option maxHeartbeats 1000000 in
/-- slices.SortFunc: a permutation that is sorted. -/
theorem zqo [Tracks] {ρ : Ren} (L : SlLaysF0.n6 P ρ) (aE : ∀ w, (isAgg (ρ.t 24)).run P w = .ok true w) (zE : ∀ w, (Go.sizeOf (ρ.t 24)).run P w = .ok k w) (hk : ∀ x, (zn (e x)).length = k) (ha : ∀ x, e x = .agg (zn (e x))) (hf : ∀ x, zbe (zn (e x)) = true)
 {c : A → A → Int} (hO : SWO (ltOf c)) {g : FuncId} (hg : Callable P g) {cap : List HVal} (hc : ∀ x y, @ConP zjG P g (e x :: e y :: cap) (.int .i64 (c x y))) {l : List A} (hl : l.length ≤ 1000000) {v : Value} :
 Con P (ρ.f 6) [.raw v, .fn (.func g) [] cap] [.arr v k (l.map e)] fun x M' => ∃ l' : List A, x = .tup [] ∧ l'.Perm l ∧ l'.Pairwise (fun a b => ¬ c b a < 0) ∧ M' = [.arr v k (l'.map e)] := by
 intro I F w args hargs hs
 obtain ⟨n1, n2⟩ := hargs
 match args, n1, n2 with
 | [u, fv], _, n2 =>
   obtain rfl : u = v := (n2 0 _ _ rfl rfl).raw_inv
   obtain ⟨f1, cb, rfl, f2, f3⟩ := (n2 1 _ _ rfl rfl).fn_inv
   have hf1 : f1 = #[] := by have := f2.1; simp at this; exact this
   subst hf1
   by_cases h0 : l = []
   ·subst h0
    have hu : ∃ p cp, u = .slice p 0 cp := by
     rcases hs.obj (.arr u k (([] : List A).map e)) (by simp) with ⟨rfl, _⟩ | ⟨b, off, cp, rc, el, fr, rfl, _⟩
     ·exact ⟨_, _, rfl⟩
     ·exact ⟨_, _, rfl⟩
    obtain ⟨p, cp, rfl⟩ := hu
    refine (AnyF.slices_SortFunc_none L p cp _ w).mono ?_
    rintro _ _ ⟨rfl, rfl⟩
    exact ⟨_, .tup [], _, I, rfl, .refl I, ⟨[], rfl, .refl _, .nil, rfl⟩, .tup (by simp) (fun j c v h _ => by simp at h), hs⟩
   ·rcases hs.obj (.arr u k (l.map e)) (by simp) with ⟨_, hn⟩ | ⟨b, off, cp, rc, el, fr, rfl, _⟩
    ·simp at hn; exact absurd hn h0
    ·rw [List.length_map] at hs ⊢
     obtain ⟨_, rc, el, fr, h2, h3, h4, h5, h6, h7⟩ := zgH hs
     rw [List.length_map] at h5
     have hblt : b < w.heap.size := ziP.lt_of_get' h2
     have hsz : off + l.length * k ≤ rc.size := by
      have : l.length * k ≤ cp * k := Nat.mul_le_mul_right _ h5.1
      omega
     obtain ⟨d, d1, d2⟩ := zo3 (I := I) (e := e) hk hf (rc := rc) l off hsz fun i j x c v a1 a2 a3 => h7 i j (e x) c v (by simp [a1]) a2 a3
     have dl : d.length = l.length := by rw [← d1]; simp
     obtain ⟨p0, hp0⟩ : ∃ p, d[0]? = some p := ⟨_, List.getElem?_eq_getElem (by have := List.length_pos_iff.2 h0; omega)⟩
     haveI : Inhabited (zd2 I e k) := ⟨p0⟩
     have hkr : ∀ x : zd2 I e k, (x.1.2).length = k := fun x => x.2.1
     have hH : HoldsK (fun x : zd2 I e k => x.1.2) k w b off d.toArray := fun j hj => by
      simp only [size_flatK, List.size_toArray, dl] at hj
      have hk0 : 0 < k := by rcases Nat.eq_zero_or_pos k with h | h; (subst h; simp at hj); exact h
      have hi : j / k < d.length := by rw [dl]; exact Nat.div_lt_of_lt_mul (by rw [Nat.mul_comm]; exact hj)
      have hjk := Nat.mod_lt j hk0
      have hdj : j / k * k + j % k = j := by rw [Nat.mul_comm]; exact Nat.div_add_mod j k
      have hg1 := d2 (j / k) (j % k) d[j / k] (List.getElem?_eq_getElem hi) hjk
      have hg2 := zmK (enc := fun x : zd2 I e k => x.1.2) (k := k) hkr (dk := d.toArray) (i := j / k) (j := j % k) (x := d[j / k]) (by simp [hi]) hjk
      rw [hdj] at hg2
      constructor
      ·rw [zfv h2]
       rw [show off + j = off + j / k * k + j % k by omega, hg1, ← hg2]; rfl
      ·simp only [World.frozen?, h2]
       have := h3 (off + j) (by omega)
       simpa using this
     have hle : ∀ (m : Nat) (dk : Array (zd2 I e k)) (os : Array Obj), Le I (zbY (sortWorldK (fun x : zd2 I e k => x.1.2) k w b off m dk os)) := fun m dk os =>
      ⟨fun c o ho => by
       have hcb : c ≠ b := fun hh => by
        subst hh
        have := hs.apart c (by simp [blocks, MObj.blocks])
        rw [this] at ho; cases ho
       have h9 := hs.imm c o ho
       show (sortWorldK _ k w b off m dk os).heap[c]? = some o
       rw [zmT (ziP.lt_of_get' h9) hcb]; exact h9, hs.os, hs.output, hs.tape, fun ht => Nat.le_trans (hs.low ht) (Nat.le_add_right _ _)⟩
     have hcmp : CmpLays P g cb (fun x : zd2 I e k => x.1.2) k (fun x y => c x.1.1 y.1.1) b off d.toArray.size w := fun m os dk _ x y => by
      have hI := hle m dk os
      have hxa : ∀ z : zd2 I e k, V (zbY (sortWorldK (fun x : zd2 I e k => x.1.2) k w b off m dk os)) (e z.1.1) (.agg z.1.2.toArray) := fun z => by
       rw [ha]; exact V.mk_agg (by simpa using z.2.2.2.mono hI)
      have e9 : (#[Value.agg x.1.2.toArray, .agg y.1.2.toArray] ++ cb) = (Value.agg x.1.2.toArray :: .agg y.1.2.toArray :: cb.toList).toArray := by simp
      rw [e9]
      refine (@ConP.calls P zjG g _ _ rfl (hc x.1.1 y.1.1) _ (hs.tab.mono hI) _ (VL.cons (hxa x) (VL.cons (hxa y) (f3.mono hI)))).mono ?_
      rintro _ w' ⟨u, rfl, hu, q, os', rfl⟩
      exact ⟨by rw [hu.int_inv], q, os', rfl⟩
     have hO' : SWO (ltOf fun x y : zd2 I e k => c x.1.1 y.1.1) := ⟨fun x => hO.irrefl x.1.1, fun x y z => hO.trans x.1.1 y.1.1 z.1.1, fun x y z => hO.ntrans x.1.1 y.1.1 z.1.1⟩
     have hrun := AnyQ.slices_SortFunc L k aE zE (fun x : zd2 I e k => x.1.2) hkr (fun x => x.2.2.1) (fun x y => c x.1.1 y.1.1) hO' g cb b off cp d.toArray w (zeg hg) hcmp hH hblt (by simp; omega)
     rw [List.size_toArray, dl] at hrun
     refine hrun.mono ?_
     rintro _ w' ⟨rfl, d', m, os, ⟨q1, _, q3⟩, q4, rfl⟩
     simp only [List.size_toArray, dl] at q1
     have q3' : d'.toList.Perm d := by
      have e1 : (d'.extract 0 l.length) = d' := by rw [← q1]; exact Array.extract_size
      have e2 : (d.toArray.extract 0 l.length) = d.toArray := by have := Array.extract_size (xs := d.toArray); rw [List.size_toArray, dl] at this; exact this
      rw [e1, e2] at q3; simpa using q3
     refine ⟨_, .tup [], [.arr (.slice (some ⟨b, off, none⟩) l.length cp) k ((d'.toList.map (·.1.1)).map e)], I, rfl, .refl I, ⟨d'.toList.map (·.1.1), rfl, by rw [← d1]; exact q3'.map _, ?_, rfl⟩, .tup (by simp) (fun j c v h _ => by simp at h), ?_⟩
     ·refine List.pairwise_iff_getElem.2 fun i j hi hj hij => ?_
      simp only [List.length_map, Array.length_toList] at hi hj
      have := q4 i j (Nat.zero_le _) hij (by omega)
      rw [getElem!_pos d' i hi, getElem!_pos d' j hj] at this
      simp only [ltOf, decide_eq_false_iff_not] at this
      simpa using this
     ·have hchg : ∀ x, x < w.heap.size → x ∉ (MObj.arr (.slice (some ⟨b, off, none⟩) l.length cp) k (l.map e)).blocks → (sortWorldK (fun x : zd2 I e k => x.1.2) k w b off m d' os).heap[x]? = w.heap[x]? := fun x hx hnx => zmT hx fun hh => hnx (by rw [hh]; simp [MObj.blocks])
      refine hs.change (m' := .arr (.slice (some ⟨b, off, none⟩) l.length cp) k ((d'.toList.map (·.1.1)).map e)) hchg (fun x hx => .inl hx) (by simp [MObj.blocks]) ?_ rfl rfl rfl (fun _ => Nat.le_add_right _ _)
      refine .inr ⟨b, off, cp, putCells id off (flatK (fun x : zd2 I e k => x.1.2) k d') rc, el, fr, by simp [q1], ziP h2, by simpa [putCells] using h3, ?_, by simp [q1]; exact h5, by simpa [putCells] using h6, ?_⟩
      ·intro y hy; obtain ⟨z, _, rfl⟩ := List.mem_map.1 hy; exact hk z
      ·intro i j y z v a1 a2 a3
       rw [List.map_map, List.getElem?_map] at a1
       cases hq : d'.toList[i]? with
       | none => rw [hq] at a1; simp at a1
       | some r =>
         rw [hq] at a1
         simp only [Option.map_some, Function.comp_apply, Option.some.injEq] at a1
         subst a1
         have hj : j < k := by have := zN a2; rw [hk] at this; exact this
         have hi : i < l.length := by have := zN hq; simp at this; omega
         have hle : (i + 1) * k ≤ l.length * k := Nat.mul_le_mul_right _ hi
         rw [Nat.add_mul, Nat.one_mul] at hle
         have hr : off + i * k + j < rc.size := by omega
         rw [putCells, Array.getElem?_mapIdx, Array.getElem?_eq_getElem hr, Option.map_some, if_pos ⟨by omega, by rw [size_flatK, q1]; omega⟩] at a3
         rw [show off + i * k + j - off = i * k + j by omega] at a3
         have hg2 := zmK (enc := fun x : zd2 I e k => x.1.2) (k := k) hkr (dk := d') (i := i) (j := j) (x := r) (by simpa using hq) hj
         rw [show (id (flatK (fun x : zd2 I e k => x.1.2) k d')[i * k + j]!) = (flatK (fun x : zd2 I e k => x.1.2) k d')[i * k + j]! from rfl, hg2] at a3
         exact r.2.2.2.2 j z v a2 a3
end
end
section
open Go.Proofs Go.RowKit Go.Maps Go.Sort Go.Shelf
section
variable {P : Program}
def zl2 (H : Type) : Value → Option (DataW H × List MemPlace) := fun _ => some (.nil, [])
theorem zr3 {I : Imm} {w : World} {b : Nat} {α : Type} {f : α → HVal} {L : List (Str × α)} (hm : MSat I w (.map b (sk (em f L)))) :
 ∃ es clk, w.heap[b]? = some (.map es clk) ∧ BornOk es clk ∧ es.size = L.length ∧ es.toList.map (·.key) = L.map fun p => encStr p.1 := by
 obtain ⟨es, clk, h1, ⟨h2, h4⟩, h3⟩ := hm
 have hl : es.size = L.length := by rw [h2]; simp [sk]
 refine ⟨es, clk, h1, h4, hl, List.ext_getElem? fun i => ?_⟩
 rw [List.getElem?_map, List.getElem?_map]
 rcases Nat.lt_or_ge i L.length with h | h
 ·have a1 : L[i]? = some L[i] := List.getElem?_eq_getElem h
  have a2 : es[i]? = some es[i] := Array.getElem?_eq_getElem (by omega)
  have a3 : (sk (em f L))[i]? = some (.str L[i].1, f L[i].2) := by simp [sk, a1]
  have a4 := (h3 i _ _ a3 a2).1.str_inv
  rw [a1, Array.getElem?_toList, a2]
  simp only [Option.map_some, Option.some.injEq]
  rw [a4]
  try rfl
 ·rw [List.getElem?_eq_none h, List.getElem?_eq_none (by rw [Array.length_toList]; omega)]; rfl
theorem zpR {es : Array MapEntry} {clk : Nat} (h : BornOk es clk) : (es.toList.map (·.born)).Nodup := by
 refine List.pairwise_iff_getElem.2 fun i j hi hj hij e => ?_
 rw [List.getElem_map, List.getElem_map] at e
 rw [List.length_map, Array.length_toList] at hi hj
 have := h.2 i j es[i] es[j] (Array.getElem?_eq_getElem hi) (Array.getElem?_eq_getElem hj) (by simpa using e)
 omega
theorem zoG {I : Imm} {w : World} {b : Nat} {α : Type} {f : α → HVal} {L : List (Str × α)} {k : TypeId} (hk : P.underlying k = some .string) (hm : MSat I w (.map b (sk (em f L)))) (hn : ANodup L)
 (hl : ∀ p ∈ L, p.1.length ≤ 1000000) (hs : L.length ≤ 1000000) : ∃ D : DataW Unit, w.ownsMap P k (zl2 Unit) b L.length D ∧ (strKeys D).Perm (L.map (·.1)) ∧ Maps.size D = L.length := by
 obtain ⟨es, clk, h1, h2, h3, h4⟩ := zr3 hm
 have hx : ∀ x ∈ es.toList, ∃ p ∈ L, x.key = encStr p.1 := fun x hx => by
  have := List.mem_map_of_mem (f := (·.key)) hx
  rw [h4] at this
  obtain ⟨p, hp, e⟩ := List.mem_map.1 this
  exact ⟨p, hp, e.symm⟩
 have hrd : ∀ x ∈ es.toList, ∀ p ∈ L, x.key = encStr p.1 → WideElems.rd P k (zl2 Unit) x = some (.string p.1, .nil) := fun x _ p hp e => by
  have := hl p hp
  have hm : maxLen = 9223372036854775807 := by rfl
  simp [WideElems.rd, keyOf, hk, e, mapKey, encStr, zl2, hm]
  rw [if_pos (by show p.1.toArray.size ≤ _; simp; omega)]
  rfl
 have hkeys : es.toList.map (fun x => strOf (WideElems.rg P k (zl2 Unit) x).1) = L.map (·.1) := by
  have e2 : es.toList.map (fun x => strOf (WideElems.rg P k (zl2 Unit) x).1) = (es.toList.map (·.key)).map fun v => match v with | .string s => s.data.toList | _ => [] := by
   rw [List.map_map]
   refine List.map_congr_left fun x hx' => ?_
   obtain ⟨p, hp, e⟩ := hx x hx'
   rw [WideElems.rg_of (hrd x hx' p hp e)]
   simp [e, encStr, strOf]
  rw [e2, h4, List.map_map]
  refine List.map_congr_left fun p _ => ?_
  simp [encStr]
 have hml : maxLen = 9223372036854775807 := by rfl
 refine ⟨_, ⟨es, clk, h1, ⟨by omega, ⟨fun x hx' => ?_, zpR h2, ?_⟩, fun x hx' => ?_⟩, by omega, rfl⟩, ?_, ?_⟩
 ·obtain ⟨i, hi⟩ := List.getElem?_of_mem hx'
  exact h2.1 i x (by simpa using hi)
 ·rw [h4]
  have : (L.map fun p => encStr p.1) = (L.map (·.1)).map encStr := by rw [List.map_map]; rfl
  rw [this]
  exact List.Pairwise.map encStr (fun a b hab e => hab (encStr_inj e)) hn
 ·obtain ⟨p, hp, e⟩ := hx x hx'
  exact ⟨_, hrd x hx' p hp e⟩
 ·show ((List.foldr DataW.insert [] _).map fun p => strOf p.1).Perm _
  rw [← hkeys]
  have := (WideShapes.sorted_perm (es.toList.map (WideElems.rg P k (zl2 Unit)))).map fun p => strOf p.1
  rw [List.map_map] at this
  exact this
 ·show (List.foldr DataW.insert [] _).length = _
  rw [(WideShapes.sorted_perm _).length_eq, List.length_map, Array.length_toList, h3]
theorem zrZ [Tracks] {ρ : Ren} (L : SlLaysZ.n7 P ρ) {b : Nat} : Con P (ρ.f 7) [.raw (.map (some b))] [] fun x M' => ∃ bx, x = .fn (.func (ρ.f 10)) [] [.raw (.pointer (some ⟨bx, 0, none⟩))] ∧ M' = [.cells bx [.raw (.map (some b))]] := by
 intro I F w args ha hs
 obtain ⟨u, rfl, hu⟩ := ha.one
 obtain rfl := hu.raw_inv
 refine ((callsIn_wide (n := 1)).1 (AnyZ.keys_in L Fence.wide 1 trivial rfl (some b) w)).mono ?_
 rintro _ w' ⟨rfl, rfl⟩
 refine ⟨_, _, _, I, rfl, .refl I, ⟨w.heap.size, rfl, rfl⟩, .fn rfl rfl (fun j c v h _ => by simp at h) (fun j c v h1 h2 => ?_), ?_⟩
 ·exact (VL.cons (.raw _ rfl) VL.nil : VL I [.raw (.pointer (some ⟨w.heap.size, 0, none⟩))] [.pointer (some ⟨w.heap.size, 0, none⟩)]).2 j c v h1 (by simpa using h2)
 ·exact hs.new_own _ _ rfl ⟨#[.map (some b)], ρ.t 23, (0, 0), by simp, Free.zero _, VL.cons (.raw _ rfl) VL.nil⟩
theorem zpH [Tracks] (hT : Tracks.on = false) {ρ ρk : Ren} (L : SlLaysZ.n6 P ρ) (Lk : SlLaysZ.n7 P ρk) (hsort : ∀ m, AnyZ.SortsIn P ρ Fence.wide m)
 (e9 : ∀ args w, (callFunc (ρ.f 9) args).run P w = .ok (.enter (ρ.f 9) args) w) (eg : ∀ args w, (callFunc (ρk.f 10) args).run P w = .ok (.enter (ρk.f 10) args) w)
 {α : Type} {f : α → HVal} {l : List (Str × α)} (hn : ANodup l) (hl : ∀ p ∈ l, p.1.length ≤ 1000000) (hs : l.length ≤ 1000000) {b bx : Nat} :
 Con P (ρ.f 6) [.fn (.func (ρk.f 10)) [] [.raw (.pointer (some ⟨bx, 0, none⟩))]] [.cells bx [.raw (.map (some b))], .map b (sk (em f l))] fun x M' => ∃ v, x = .raw v ∧ M' = [.arr v 1 ((zbj (l.map (·.1))).map .str), .map b (sk (em f l))] := by
 intro I F w args ha hsat
 obtain ⟨u, rfl, hu⟩ := ha.one
 obtain ⟨v1, v2, rfl, hv1, hv2, hc⟩ : ∃ v1 v2, u = .func (.func (ρk.f 10)) v1 v2 ∧ v1 = #[] ∧ v2.size = 1 ∧ ∀ (j : Nat) (c : HVal) (v : Value), [HVal.raw (.pointer (some ⟨bx, 0, none⟩))][j]? = some c → v2[j]? = some v → V I c v := by
  cases hu with
  | fn h1 h2 h3 h4 => exact ⟨_, _, rfl, Array.eq_empty_of_size_eq_zero (by simpa using h1), by simpa using h2, h4⟩
 subst hv1
 obtain rfl : v2 = #[.pointer (some ⟨bx, 0, none⟩)] := by
  match v2, hv2 with
  | ⟨[y]⟩, _ => have := (hc 0 _ y rfl rfl).raw_inv; rw [this]
 obtain ⟨rc, el, fr, c1, c2, c3⟩ := hsat.obj (.cells bx [.raw (.map (some b))]) (by simp)
 have hmap := hsat.obj (.map b (sk (em f l))) (by simp)
 obtain ⟨D, d1, d2, d3⟩ := zoG (k := ρk.t 26) (by exact Lk.t26) hmap hn hl hs
 have hbx : bx < w.heap.size := (Array.getElem?_eq_some_iff.1 c1).1
 have hcell : w.cell? ⟨bx, 0, none⟩ = some (.map (some b)) := by
  have := c3.1
  match rc, this, c1, c3 with
  | ⟨[y]⟩, _, c1, c3 =>
    have hy := c3.head.raw_inv
    subst hy
    simp [World.cell?, c1]
 have hseq := AnyZ.keys_gives (ρ := ρk) { Lk with } Fence.wide 2 trivial rfl (by omega) bx b l.length D w hbx hcell d1
 have cS := AnyZ.sorted_in L Fence.wide 5 trivial trivial trivial trivial rfl (by omega) (hsort _) e9 (ρk.f 10) #[.pointer (some ⟨bx, 0, none⟩)] trivial eg _ _ (by rw [d3]; exact Nat.le_trans hs (by decide)) (by rw [d3]; omega) w hseq
 refine ((callsIn_wide (n := 5)).1 cS).mono ?_
 rintro e w' ⟨v, ss, rfl, hS, hrow, hnil, hb⟩
 have hss : (ss.mergeSort fun x y => decide (x ≤ y)) = zbj (l.map (·.1)) := mergeSort_of_perm (hS.trans d2)
 rw [hss] at hrow
 have hlen : ss.length = (zbj (l.map (·.1))).length := by rw [zee, (hS.trans d2).length_eq]
 have hmem : MSat I w' (.arr v 1 ((zbj (l.map (·.1))).map .str)) := by
  rcases hrow.2 with ⟨rfl, hz⟩ | ⟨gb, cap, cur, rfl, hbase, hgb, r1, r2, r3, r4⟩
  ·refine .inl ⟨rfl, ?_⟩
   have : zbj (l.map (·.1)) = [] := List.length_eq_zero_iff.1 (by omega)
   rw [this]; rfl
  ·refine .inr ⟨gb, 0, cap, cur, _, _, by rw [List.length_map, ← hlen], hgb, Free.zero _, fun e he => ?_, ⟨by rw [List.length_map]; omega, Nat.le_trans r2 (by decide)⟩, by omega, fun i j e c y h1 h2 h3 => ?_⟩
   ·obtain ⟨s, _, rfl⟩ := List.mem_map.1 he; rfl
   ·rw [List.getElem?_map] at h1
    cases hq : (zbj (l.map (·.1)))[i]? with
    | none => rw [hq] at h1; cases h1
    | some s =>
      rw [hq] at h1
      simp only [Option.map_some, Option.some.injEq] at h1
      subst h1
      have hj : j = 0 := by
       cases j with
       | zero => rfl
       | succ j => simp [zn] at h2
      subst hj
      simp only [zn, List.getElem?_cons_zero, Option.some.injEq] at h2
      subst h2
      have hi := zN hq
      have h4 : (cur.toList.take (ss.length * 1))[i]? = some (encStr s) := by rw [r4, List.getElem?_map, hq]; rfl
      rw [List.getElem?_take_of_lt (by omega), Array.getElem?_toList] at h4
      have e0 : 0 + i * 1 + 0 = i := by omega
      rw [e0, h4] at h3
      cases h3
      exact .str s
 have hown : ∀ k, v.ownBlock = some k → w.heap.size ≤ k ∧ k < w'.heap.size := hrow.lt
 refine ⟨v, .raw v, _, I, rfl, .refl I, ⟨v, rfl, rfl⟩, ?_, ?_⟩
 ·rcases hrow.2 with ⟨rfl, _⟩ | ⟨gb, cap, cur, rfl, _⟩
  ·exact .raw _ rfl
  ·exact .raw _ rfl
 ·refine hsat.change (m' := .arr v 1 _) (fun k hk _ => hb.block k hk) (fun k hk => .inr ?_) ?_ hmem hb.os hb.output hb.tape (fun ht => by rw [hT] at ht; cases ht)
  ·rcases hrow.2 with ⟨rfl, _⟩ | ⟨gb, cap, cur, rfl, hbase, _⟩
   ·simp [MObj.blocks] at hk
   ·simp [MObj.blocks] at hk; omega
  ·rcases hrow.2 with ⟨rfl, _⟩ | ⟨gb, cap, cur, rfl, hbase, _⟩ <;> simp [MObj.blocks]
theorem zm4 [Tracks] (hT : Tracks.on = false) {ρ ρk : Ren} (L : SlLaysZ.n6 P ρ) (Lk : SlLaysZ.n7 P ρk) (hsort : ∀ m, AnyZ.SortsIn P ρ Fence.wide m)
 (e9 : ∀ args w, (callFunc (ρ.f 9) args).run P w = .ok (.enter (ρ.f 9) args) w) (eg : ∀ args w, (callFunc (ρk.f 10) args).run P w = .ok (.enter (ρk.f 10) args) w)
 {S : List Str} (hn : S.Nodup) (hl : ∀ s ∈ S, s.length ≤ 1000000) (hs : S.length ≤ 1000000) {b bx : Nat} :
 Con P (ρ.f 6) [.fn (.func (ρk.f 10)) [] [.raw (.pointer (some ⟨bx, 0, none⟩))]] [.cells bx [.raw (.map (some b))], .map b (sk (zbh S))] fun x M' => ∃ v, x = .raw v ∧ M' = [.arr v 1 ((zbj S).map .str), .map b (sk (zbh S))] := by
 have e1 : zbh S = em HVal.bool (S.map fun s => (s, true)) := by simp [zbh]
 have e2 : (S.map fun s => (s, true)).map (·.1) = S := by simp [Function.comp_def]
 have := zpH hT L Lk hsort e9 eg (f := HVal.bool) (l := S.map fun s => (s, true)) (by unfold ANodup; rw [e2]; exact hn) (fun p hp => by obtain ⟨s, hs, rfl⟩ := List.mem_map.1 hp; exact hl s hs) (by simpa using hs) (b := b) (bx := bx)
 rw [e2, ← e1] at this
 exact this
end
end
section
variable {P : Program}
theorem V.hmap_inv {I : Imm} {ks vs : List HVal} {v : Value} (h : V I (.hmap ks vs) v) : ∃ b es clk, v = .map (some b) ∧ I.heap b = some (.map es clk) ∧ es.size = ks.length ∧ es.size = vs.length ∧
 (∀ (j : Nat) (c : HVal) (m : MapEntry), ks[j]? = some c → es[j]? = some m → V I c m.key) ∧ ∀ (j : Nat) (c : HVal) (m : MapEntry), vs[j]? = some c → es[j]? = some m → V I c m.val := by
 cases h with
 | hmap h1 h2 h3 h4 h5 => exact ⟨_, _, _, rfl, h1, h2, h3, h4, h5⟩
/-- A frozen map keyed by strings. -/
abbrev hsm (L : zc6) : HVal := .hmap (L.map fun p => .str p.1) (L.map (·.2))
abbrev hset (S : List (List UInt8)) : HVal := hsm (zbh S)
theorem zqB (L : zc6) : (sk L).map (·.1) = L.map fun p => HVal.str p.1 := by simp [sk, Function.comp_def]
theorem zrf (L : zc6) : (sk L).map (·.2) = L.map (·.2) := by simp [sk, Function.comp_def]
section
variable {e : Env} {dst : Option Tmp} {ty : TypeId} {pos : String} {af : Array Edge} {g : Option (Nat × Bool)}
theorem znt [Tracks] {x y : Operand} {t kt et : TypeId} {size bytes s2 b2 s3 b3 : Nat} {zero z2 z3 : Value} {d : TD} {ls : zc6} {s : List UInt8}
 (hf : Fits P t (.map kt et) size bytes zero) (hkt : Fits P kt .str s2 b2 z2) (het : Fits P et d s3 b3 z3) (hx : zF e x = some (hsm ls)) (hy : zF e y = some (.str s)) :
 POp P e ⟨dst, .lookup t x y false, ty, pos, af, g⟩ (match zav s ls with | some p => p.2 | none => zbV z3) :=
 POp.of_run fun I F a w ho hs => by
  obtain ⟨b, es, clk, h1, h3, h4, h4', hK, hV⟩ := (ho.one (x := x) (by simp [Op.operands]) hx).hmap_inv
  have h2 := (ho.one (x := y) (by simp [Op.operands]) hy).str_inv
  have h3 := hs.imm _ _ h3
  have h5 : ∀ (i : Nat) (p : HVal × HVal) (m : MapEntry), (sk ls)[i]? = some p → es[i]? = some m → V I p.1 m.key ∧ V I p.2 m.val := fun i p m a1 a2 => by
   refine ⟨hK i _ m ?_ a2, hV i _ m ?_ a2⟩
   ·rw [← zqB, List.getElem?_map, a1]; rfl
   ·rw [← zrf, List.getElem?_map, a1]; rfl
  obtain ⟨h6, h7⟩ := zfe (by simpa [sk] using h4) h5
  obtain ⟨n1, n2⟩ := zfQ (I := I) (s := s) es.toList ls 0 h6 h7
  cases hq : zav s ls with
  | none =>
    refine ⟨z3, w, I, ?_, .refl I, zdY I z3, hs⟩
    simp only [execOp, h1, h2, Instr.lookup, Sem.run_bind, run_underlying hf.mapD, Result.andThen_ok, za5 h3, Sem.run_pure, zb8 hkt.strD, Instr.findKey, run_underlying hkt.strD, n1 hq, het.run_zero]
    simp
  | some p =>
    obtain ⟨j, h⟩ := p
    obtain ⟨v, g1, g2⟩ := n2 j h hq
    refine ⟨v, w, I, ?_, .refl I, g2, hs⟩
    simp only [execOp, h1, h2, Instr.lookup, Sem.run_bind, run_underlying hf.mapD, Result.andThen_ok, za5 h3, Sem.run_pure, zb8 hkt.strD, Instr.findKey, run_underlying hkt.strD, g1]
    simp
end
/-- h, seen as h' while it is only read; objects may hold others. -/
inductive Bow (M : List MObj) : HVal → HVal → Prop
 | weak {h h' : HVal} (hw : Weak h h') : Bow M h h'
 | arr {i : Nat} {v : Value} {sz : Nat} {es : List HVal} (hm : M[i]? = some (.arr v sz es)) : Bow M (.raw v) (.slice sz es)
 | cells {i b off : Nat} {cs cs' : List HVal} (hm : M[i]? = some (.cells b cs)) (hl : cs.length = cs'.length) (h : ∀ (j : Nat) (c c' : HVal), cs[j]? = some c → cs'[j]? = some c' → Bow M c c') : Bow M (.raw (.pointer (some ⟨b, off, none⟩))) (.vptr cs' off)
 | map {i b : Nat} {L : zc6} (hm : M[i]? = some (.map b (sk L))) : Bow M (.raw (.map (some b))) (hsm L)
 | vptr {off : Nat} {l l' : List HVal} (hl : l.length = l'.length) (h : ∀ (j : Nat) (c c' : HVal), l[j]? = some c → l'[j]? = some c' → Bow M c c') : Bow M (.vptr l off) (.vptr l' off)
 | fn {f : Fn} {c1 l l' : List HVal} (hl : l.length = l'.length) (h : ∀ (j : Nat) (c c' : HVal), l[j]? = some c → l'[j]? = some c' → Bow M c c') : Bow M (.fn f c1 l) (.fn f c1 l')
def BowL (M : List MObj) : List HVal → List HVal → Prop
 | [], [] => True
 | h :: r, h' :: r' => Bow M h h' ∧ BowL M r r'
 | _, _ => False
theorem BowL.pt {M : List MObj} : ∀ {l l' : List HVal}, BowL M l l' → l.length = l'.length ∧ ∀ (j : Nat) (c c' : HVal), l[j]? = some c → l'[j]? = some c' → Bow M c c'
 | [], [], _ => ⟨rfl, fun j c c' h => by simp at h⟩
 | h :: r, h' :: r', hb => by
   obtain ⟨h1, h2⟩ := BowL.pt hb.2
   refine ⟨by simp [h1], fun j c c' a1 a2 => ?_⟩
   cases j with
   | zero => simp at a1 a2; subst a1 a2; exact hb.1
   | succ j => exact h2 j c c' (by simpa using a1) (by simpa using a2)
 | [], _ :: _, hb => hb.elim
 | _ :: _, [], hb => hb.elim
theorem Bow.vptrL {M : List MObj} {off : Nat} {l l' : List HVal} (h : BowL M l l') : Bow M (.vptr l off) (.vptr l' off) := .vptr h.pt.1 h.pt.2
theorem Bow.fnL {M : List MObj} {f : Fn} {c1 l l' : List HVal} (h : BowL M l l') : Bow M (.fn f c1 l) (.fn f c1 l') := .fn h.pt.1 h.pt.2
theorem Bow.refl {M : List MObj} {h : HVal} : Bow M h h := .weak (Weak.refl _)
theorem V.vptr_inv' {I : Imm} {cs : List HVal} {off : Nat} {v : Value} (h : V I (.vptr cs off) v) : ∃ b base rc el fr, v = .pointer (some ⟨b, base + off, none⟩) ∧ I.heap b = some (.cells rc el fr) ∧ base + cs.length ≤ rc.size ∧
 ∀ (j : Nat) (c : HVal) (v : Value), cs[j]? = some c → rc[base + j]? = some v → V I c v := by
 cases h with
 | vptr h1 h2 h3 => exact ⟨_, _, _, _, _, rfl, h1, h2, h3⟩
theorem Bow.v [Tracks] {M : List MObj} {I : Imm} {F : List MObj} {w : World} {h h' : HVal} (hb : Bow M h h') (hs : Sat P I (M ++ F) w) : ∀ {v : Value}, V I h v → V (zbY w) h' v := by
 induction hb with
 | weak hw => intro v hv; exact hw _ _ (hv.mono hs.le_all)
 | arr hm => intro v hv; exact (Bor.arr hm).v hs hv
 | @cells i b off cs cs' hm hl _ ih =>
   intro v hv
   rw [hv.raw_inv]
   obtain ⟨rc, el, fr, h2, h3, h4⟩ := hs.obj _ (List.mem_append_left _ (List.mem_of_getElem? hm))
   have := V.vptr (I := zbY w) (cs := cs') (off := off) (base := 0) h2 (by have := h4.1; simp at this; omega) fun j c v a1 a2 => by
    have hj := zN a1
    have hj' := List.getElem?_eq_getElem (l := cs) (i := j) (by omega)
    exact ih j _ c hj' a1 (h4.2 j _ v hj' (by simpa using a2))
   rwa [Nat.zero_add] at this
 | @map i b L hm =>
   intro v hv
   rw [hv.raw_inv]
   obtain ⟨es, clk, h1, h2, h3⟩ := hs.obj _ (List.mem_append_left _ (List.mem_of_getElem? hm))
   have hn : es.size = L.length := by simpa [sk] using h2.1
   refine .hmap (I := zbY w) h1 (by simp [hn]) (by simp [hn]) (fun j c m a1 a2 => ?_) (fun j c m a1 a2 => ?_)
   ·rw [← zqB, List.getElem?_map] at a1
    cases hq : (sk L)[j]? with
    | none => rw [hq] at a1; simp at a1
    | some p => rw [hq] at a1; simp at a1; subst a1; exact ((h3 j p m hq a2).1).mono hs.le_all
   ·rw [← zrf, List.getElem?_map] at a1
    cases hq : (sk L)[j]? with
    | none => rw [hq] at a1; simp at a1
    | some p => rw [hq] at a1; simp at a1; subst a1; exact ((h3 j p m hq a2).2).mono hs.le_all
 | @vptr off l l' hl _ ih =>
   intro v hv
   obtain ⟨b, base, rc, el, fr, rfl, h1, h2, h3⟩ := hv.vptr_inv'
   refine .vptr (I := zbY w) (hs.imm _ _ h1) (by omega) fun j c u a1 a2 => ?_
   have hj := zN a1
   have hj' := List.getElem?_eq_getElem (l := l) (i := j) (by omega)
   exact ih j _ c hj' a1 (h3 j _ u hj' a2)
 | @fn f c1 l l' hl _ ih =>
   intro v hv
   cases hv with
   | fn g1 g2 g3 g4 =>
     refine .fn g1 (by omega) (fun j c u a1 a2 => (g3 j c u a1 a2).mono hs.le_all) fun j c u a1 a2 => ?_
     have hj := zN a1
     have hj' := List.getElem?_eq_getElem (l := l) (i := j) (by omega)
     exact ih j _ c hj' a1 (g4 j _ u hj' a2)
theorem BowL.vl [Tracks] {M : List MObj} {I : Imm} {F : List MObj} {w : World} (hs : Sat P I (M ++ F) w) : ∀ {hs1 hs2 : List HVal} {vs : List Value}, BowL M hs1 hs2 → VL I hs1 vs → VL (zbY w) hs2 vs
 | [], [], vs, _, h => ⟨by have := h.1; simpa using this, fun j c v h1 _ => by simp at h1⟩
 | h :: r, h' :: r', [], _, hv => by have := hv.1; simp at this
 | h :: r, h' :: r', v :: vs, hb, hv => VL.cons (hb.1.v hs hv.head) (BowL.vl hs hb.2 hv.tail)
 | [], _ :: _, _, hb, _ => hb.elim
 | _ :: _, [], _, hb, _ => hb.elim
/-- A function that changes nothing, called while objects are owned that it reads; what it yields hangs on no memory. -/
theorem zqX [Tracks] {e : Env} {dst : Option Tmp} {ty : TypeId} {pos : String} {af : Array Edge} {g : Option (Nat × Bool)} {M : List MObj} {K : HVal → List MObj → Prop} {f : FuncId} {args : Array Operand} {ats : Array TypeId} {hs hs' : List HVal} {h : HVal} (hc : Callable P f) (ha : zdh e args.toList = some hs) (hb : BowL M hs hs') (hp : ConP P f hs' h)
 (hg : zfS h = true) (hk : K h M) : EOp P e M ⟨dst, .call ⟨.value (.func f), args, ats⟩, ty, pos, af, g⟩ K := fun I F a w ho hsat => by
 have hrun : (execOp a.eval ⟨dst, .call ⟨.value (.func f), args, ats⟩, ty, pos, af, g⟩).run P w = .ok (.enter f (args.toList.map a.eval).toArray) w := by
  simp [execOp, resolve, Act.eval, Deferred.ofValue, invoke, zeg hc]
  apply Array.ext'; simp
 have hv := zfw (I := I) (f := a.eval) _ _ ha fun x hx h hh => ho.one (by simp only [Op.operands, Call.operands]; exact Array.mem_append_right _ (by simpa using hx)) hh
 simp only [Oper.wp, hrun, Oper.upon]
 refine (hp (zbY w) [] w _ (hb.vl hsat hv) (by simpa using zo1 hsat)).mono ?_
 rintro x w' ⟨v, y, M', J, rfl, h1, ⟨rfl, rfl⟩, h3, h4⟩
 exact ⟨v, _, M, I, rfl, .refl I, hk, znP h3 hg, hsat.back h1 h4⟩
end
section
variable {P : Program}
theorem EOp.fzi [Tracks] {e : Env} {M N : List MObj} {o : Oper} {K : HVal → List MObj → Prop} {sz : Nat} {es : List HVal} (i : Nat) (h : EOp P e M o fun x M' => ∃ v, x = .raw v ∧ M'[i]? = some (.arr v sz es) ∧ M'.eraseIdx i = N) (hk : K (.slice sz es) N) : EOp P e M o K := fun I F a w ho hs =>
 Oper.wp_noQ (fun _ _ ⟨v, x, M', J, h1, h2, ⟨u, h3, h4, h5⟩, h6, h7⟩ => by
  subst h3 h5
  obtain ⟨J', g1, g2, g3⟩ := (h7.pull h4).freeze_arr
  exact ⟨v, _, _, J', h1, h2.trans g1, hk, by rw [h6.raw_inv]; exact g3, g2⟩) (h I F a w ho hs)
end
end Go.HL
namespace Go.Proofs.YtpcaaekefgkhjaaGreatDoor
set_option maxRecDepth 100000
set_option linter.unusedVariables false
set_option linter.unusedSimpArgs false
section
open Go.HL
/-- benchwarmer/play.undone -/
theorem zm3 [Tracks] {l : List Play} {n : Int} (hl : l.length ≤ 1000000) : Con Tryz.prog 149 [zhD l, .int .i64 n] [] (fun x M' => ∃ b, x = .raw (.map (some b)) ∧ M' = [.map b (kk zh3 (em HVal.bool (zim l n)))]) := by
 refine Con.of_body Tryz.func149 rfl Tryz.ntmps149 rfl rfl ?_
 refine za ?_
 refine das rfl ?_
 refine dn ?_
 refine za ?_
 refine de rfl (zbx fun m14 => ?_)
 refine das rfl ?_
 refine dn ?_
 refine zj ?_
 refine za ?_
 refine dmv rfl ?_
 refine dq (zK zeu rfl) ?_
 refine dmv rfl ?_
 refine dn ?_
 refine zq ?_
 refine zak [7, 17, 18, 19, 20, 21, 22, 23, 24, 25, 26, 27, 28, 29, 30, 31, 32] (fun (k : Nat) => [(17, .int .i64 k)]) (fun (k : Nat) => [.map m14 (kk zh3 (em zjK (zkv (l.take k) n)))]) (fun (k : Nat) => k ≤ l.length ∧ (True)) (fun (k : Nat) => l.length - k) (0) ?_ ?_ ?_ ?_
 ·exact ⟨Nat.zero_le _, trivial⟩
 ·exact ⟨rfl, trivial⟩
 ·exact List.Perm.refl _
 ·intro k hinv
  obtain ⟨hk, -⟩ := hinv
  refine za ?_
  refine dq (zS rfl rfl) ?_
  refine dn ?_
  refine zj ?_
  refine zi rfl (fun h1 => ?_) (fun h2 => ?_)
  ·try simp at h1
   obtain ⟨x, hx⟩ : ∃ x, l[k]? = some x := ⟨_, List.getElem?_eq_getElem h1⟩
   have hdx := zU hx
   refine zm ?_
   refine zh ?_
   refine zj ?_
   refine zq ?_
   refine za ?_
   refine dq (zW zeu zah rfl rfl rfl (by assumption)) ?_
   refine dq (zH zah rfl rfl rfl rfl) ?_
   refine de rfl (zY zah rfl fun b7 => ?_)
   refine de0 (zad zah rfl rfl rfl rfl rfl ?_)
   refine dn ?_
   refine zL (Ghost.fc0 7 rfl) ?_
   refine za ?_
   refine dq (zb zah rfl ty3 (by decide) rfl) ?_
   refine dq (zg ty3 rfl rfl rfl) ?_
   refine dmv rfl ?_
   refine dq (zcX rfl rfl) ?_
   refine dn ?_
   refine zi rfl (fun h3 => ?_) (fun h4 => ?_)
   ·try simp at h3
    refine zC ?_
    refine dmv rfl ?_
    refine dq (zb zah rfl ty9 (by decide) rfl) ?_
    refine dq (zg ty9 rfl rfl rfl) ?_
    refine dq (zb zah rfl ty3 (by decide) rfl) ?_
    refine dq (zg ty3 rfl rfl rfl) ?_
    refine dq (zaB (cs := [_, _]) zg2 zp5 rfl) ?_
    refine dq (zH zah rfl rfl rfl rfl) ?_
    refine de0 (zjw (i := 0) (s := (x.Source, x.No)) (v := x) zsr znp rfl rfl rfl rfl ?_)
    refine dn ?_
    refine zy ?_
    refine zh ?_
    refine zC ?_
    refine dq (zB rfl rfl (by omega) (by omega)) ?_
    refine dmv rfl ?_
    refine dn ?_
    exact ⟨k + 1, ⟨by omega, trivial⟩, by dsimp only; omega, ⟨rfl, trivial⟩, (by repeat (first | exact zt | refine zw rfl ?_ | refine zu rfl rfl ?_)), zR (by dsimp only; rw [zmr hx, zjB, if_pos (by simpa using h3)]; try rfl)⟩
   ·try simp at h4
    refine zm ?_
    refine zy ?_
    refine zh ?_
    refine zC ?_
    refine dq (zB rfl rfl (by omega) (by omega)) ?_
    refine dmv rfl ?_
    refine dn ?_
    exact ⟨k + 1, ⟨by omega, trivial⟩, by dsimp only; omega, ⟨rfl, trivial⟩, (by repeat (first | exact zt | refine zw rfl ?_ | refine zu rfl rfl ?_)), zR (by dsimp only; rw [zmr hx, zjB, if_neg (by simpa using h4)]; try rfl)⟩
  ·try simp at h2
   have hnk : l.length ≤ k := by omega
   obtain rfl : k = l.length := by omega
   refine zX ?_
   refine z7 ?_
   refine zaw ?_
   refine zO ?_
   refine zh ?_
   rw [List.take_length]
   refine za ?_
   refine de rfl (zbx fun m33 => ?_)
   refine das rfl ?_
   refine dn ?_
   refine zj ?_
   refine za ?_
   refine dmv rfl ?_
   refine dq (zK zeu rfl) ?_
   refine dmv rfl ?_
   refine dn ?_
   refine zq ?_
   refine zak [10, 11, 12, 13, 36, 37, 38, 39, 40, 41, 42, 43, 44, 45, 46, 47, 48, 49, 50, 51, 52, 53, 54, 55, 56, 57, 58, 59, 60, 61, 62, 63, 64, 65, 66, 67, 68, 69, 70, 71, 72, 73, 74, 75, 76, 77, 78, 79, 80, 81, 82, 83, 84, 85, 86, 87, 88, 89] (fun (k : Nat) => [(36, .int .i64 k)]) (fun (k : Nat) => [.map m33 (kk zh3 (em HVal.bool (ziH (zkv l n) n (l.take k)))), .map m14 (kk zh3 (em zjK (zkv l n)))]) (fun (k : Nat) => k ≤ l.length ∧ (True)) (fun (k : Nat) => l.length - k) (0) ?_ ?_ ?_ ?_
   ·exact ⟨Nat.zero_le _, trivial⟩
   ·exact ⟨rfl, trivial⟩
   ·exact List.Perm.refl _
   ·intro k hinv
    obtain ⟨hk, -⟩ := hinv
    refine za ?_
    refine dq (zS rfl rfl) ?_
    refine dn ?_
    refine zj ?_
    refine zi rfl (fun h5 => ?_) (fun h6 => ?_)
    ·try simp at h5
     obtain ⟨x, hx⟩ : ∃ x, l[k]? = some x := ⟨_, List.getElem?_eq_getElem h5⟩
     have hdx := zU hx
     refine zm ?_
     refine zh ?_
     refine zj ?_
     refine zq ?_
     refine za ?_
     refine dq (zW zeu zah rfl rfl rfl (by assumption)) ?_
     refine dq (zH zah rfl rfl rfl rfl) ?_
     refine de rfl (zY zah rfl fun b10 => ?_)
     refine de0 (zad zah rfl rfl rfl rfl rfl ?_)
     refine dn ?_
     refine zL (Ghost.fc0 10 rfl) ?_
     refine zj ?_
     refine za ?_
     refine dq (zb zah rfl ty3 (by decide) rfl) ?_
     refine dq (zg ty3 rfl rfl rfl) ?_
     refine dmv rfl ?_
     refine dq (zae rfl rfl) ?_
     refine dmv rfl ?_
     refine dg rfl rfl (fun hc => ⟨_, OpenTo.refl _, zb zah rfl ty3 (by decide) rfl⟩) ?_
     refine dg rfl rfl (fun hc => ⟨_, OpenTo.upd (t := 45) rfl (hc) (OpenTo.refl _), zg ty3 rfl rfl rfl⟩) ?_
     refine dg rfl rfl (fun hc => ⟨_, OpenTo.upd (t := 46) rfl (hc) (OpenTo.refl _), zau rfl rfl⟩) ?_
     refine dq (zA rfl (.inl rfl) (.inr ⟨_, rfl, fun h => by simp_all⟩)) ?_
     refine dn ?_
     refine zi rfl (fun h7 => ?_) (fun h8 => ?_)
     ·try simp at h7
      refine zX ?_
      refine z7 ?_
      refine zO ?_
      refine zh ?_
      refine zC ?_
      refine dq (zB rfl rfl (by omega) (by omega)) ?_
      refine dmv rfl ?_
      refine dn ?_
      exact ⟨k + 1, ⟨by omega, trivial⟩, by dsimp only; omega, ⟨rfl, trivial⟩, (by repeat (first | exact zt | refine zw rfl ?_ | refine zu rfl rfl ?_)), zR (by dsimp only; rw [zg7 hx, zgE, if_pos (by simpa using h7)]; try rfl)⟩
     ·try simp at h8
      refine zm ?_
      refine zh ?_
      refine za ?_
      refine dq (zb zah rfl ty9 (by decide) rfl) ?_
      refine dq (zg ty9 rfl rfl rfl) ?_
      refine dq (zb zah rfl ty3 (by decide) rfl) ?_
      refine dq (zg ty3 rfl rfl rfl) ?_
      refine dq (zaB (cs := [_, _]) zg2 zp5 rfl) ?_
      refine de rfl (zY zg2 rfl fun b11 => ?_)
      refine de0 (zad zg2 rfl rfl rfl rfl rfl ?_)
      refine dn ?_
      refine zL (Ghost.fc0 11 rfl) ?_
      refine za ?_
      refine dmv rfl ?_
      refine dq (zH zg2 rfl rfl rfl rfl) ?_
      refine de rfl (zne (i := 1) (s := (x.Source, x.Undo)) (z0 := zlw) zsr znp zah rfl rfl rfl rfl ?_)
      refine dmv rfl ?_
      refine dq (z6 rfl rfl) ?_
      refine dq (z6 rfl rfl) ?_
      refine de rfl (zY zah rfl fun b12 => ?_)
      refine de0 (zad zah rfl rfl rfl rfl rfl ?_)
      refine das rfl ?_
      refine dn ?_
      refine zL (Ghost.fc0 12 rfl) ?_
      refine za ?_
      refine dmv rfl ?_
      refine dmv rfl ?_
      refine dg rfl rfl (fun hc => ⟨_, OpenTo.refl _, zb zah rfl ty3 (by decide) rfl⟩) ?_
      refine dg rfl rfl (fun hc => ⟨_, OpenTo.upd (t := 62) rfl (hc) (OpenTo.refl _), zg ty3 rfl rfl rfl⟩) ?_
      refine dg rfl rfl (fun hc => ⟨_, OpenTo.upd (t := 63) rfl (hc) (OpenTo.refl _), zau rfl rfl⟩) ?_
      refine dq (zA rfl (.inr ⟨_, rfl, fun h => by simp_all⟩) (.inl rfl)) ?_
      refine dmv rfl ?_
      refine dg rfl rfl (fun hc => ⟨_, OpenTo.refl _, zb zah rfl ty9 (by decide) rfl⟩) ?_
      refine dg rfl rfl (fun hc => ⟨_, OpenTo.upd (t := 67) rfl (hc) (OpenTo.refl _), zg ty9 rfl rfl rfl⟩) ?_
      refine dg rfl rfl (fun hc => ⟨_, OpenTo.refl _, zb zah rfl ty9 (by decide) rfl⟩) ?_
      refine dg rfl rfl (fun hc => ⟨_, OpenTo.upd (t := 69) rfl (hc) (OpenTo.refl _), zg ty9 rfl rfl rfl⟩) ?_
      refine dg rfl rfl (fun hc => ⟨_, OpenTo.upd (t := 70) rfl (hc) (OpenTo.upd (t := 68) rfl (hc) (OpenTo.refl _)), zbt rfl rfl⟩) ?_
      refine dq (zA rfl (.inr ⟨_, rfl, fun h => by simp_all⟩) (.inl rfl)) ?_
      refine dmv rfl ?_
      refine dg rfl rfl (fun hc => ⟨_, OpenTo.refl _, zb zah rfl ty9 (by decide) rfl⟩) ?_
      refine dg rfl rfl (fun hc => ⟨_, OpenTo.upd (t := 74) rfl (hc) (OpenTo.refl _), zg ty9 rfl rfl rfl⟩) ?_
      refine dg rfl rfl (fun hc => ⟨_, OpenTo.refl _, zb zah rfl ty9 (by decide) rfl⟩) ?_
      refine dg rfl rfl (fun hc => ⟨_, OpenTo.upd (t := 76) rfl (hc) (OpenTo.refl _), zg ty9 rfl rfl rfl⟩) ?_
      refine dg rfl rfl (fun hc => ⟨_, OpenTo.upd (t := 77) rfl (hc) (OpenTo.upd (t := 75) rfl (hc) (OpenTo.refl _)), zbt rfl rfl⟩) ?_
      refine dq (zA rfl (.inr ⟨_, rfl, fun h => by simp_all⟩) (.inl rfl)) ?_
      refine dmv rfl ?_
      refine dg rfl rfl (fun hc => ⟨_, OpenTo.refl _, zb zah rfl ty9 (by decide) rfl⟩) ?_
      refine dg rfl rfl (fun hc => ⟨_, OpenTo.upd (t := 81) rfl (hc) (OpenTo.refl _), zg ty9 rfl rfl rfl⟩) ?_
      refine dg rfl rfl (fun hc => ⟨_, OpenTo.refl _, zb zah rfl ty9 (by decide) rfl⟩) ?_
      refine dg rfl rfl (fun hc => ⟨_, OpenTo.upd (t := 83) rfl (hc) (OpenTo.refl _), zg ty9 rfl rfl rfl⟩) ?_
      refine dg rfl rfl (fun hc => ⟨_, OpenTo.upd (t := 84) rfl (hc) (OpenTo.upd (t := 82) rfl (hc) (OpenTo.refl _)), zbt rfl rfl⟩) ?_
      refine dq (zA rfl (.inr ⟨_, rfl, fun h => by simp_all⟩) (.inl rfl)) ?_
      refine dn ?_
      refine zi rfl (fun h9 => ?_) (fun h10 => ?_)
      ·try simp at h9
       refine zC ?_
       refine dmv rfl ?_
       refine dq (zH zg2 rfl rfl rfl rfl) ?_
       refine de0 (zjw (i := 0) (s := (x.Source, x.Undo)) (v := true) zsC znp rfl rfl rfl rfl ?_)
       refine dn ?_
       refine zy ?_
       refine zh ?_
       refine zC ?_
       refine dq (zB rfl rfl (by omega) (by omega)) ?_
       refine dmv rfl ?_
       refine dn ?_
       exact ⟨k + 1, ⟨by omega, trivial⟩, by dsimp only; omega, ⟨rfl, trivial⟩, (by repeat (first | exact zt | refine zw rfl ?_ | refine zu rfl rfl ?_)), zR (by dsimp only; rw [zg7 hx, zgE, if_neg (by simp_all; try omega), if_pos (by simp_all [znF])]; try rfl)⟩
      ·try simp at h10
       refine zm ?_
       refine zy ?_
       refine zh ?_
       refine zC ?_
       refine dq (zB rfl rfl (by omega) (by omega)) ?_
       refine dmv rfl ?_
       refine dn ?_
       exact ⟨k + 1, ⟨by omega, trivial⟩, by dsimp only; omega, ⟨rfl, trivial⟩, (by repeat (first | exact zt | refine zw rfl ?_ | refine zu rfl rfl ?_)), zR (by dsimp only; rw [zg7 hx, zgE, if_neg (by simp_all; try omega), if_neg (by simp_all [znF])]; try rfl)⟩
    ·try simp at h6
     have hnk : l.length ≤ k := by omega
     obtain rfl : k = l.length := by omega
     refine zX ?_
     refine z7 ?_
     refine zaw ?_
     refine zO ?_
     refine zh ?_
     rw [List.take_length]
     refine zL (Ghost.only (i := 0) rfl) ?_
     refine za ?_
     refine dmv rfl ?_
     refine das rfl ?_
     refine dn ?_
     refine zl ?_
     exact zbb rfl ⟨_, rfl, rfl⟩

/-- benchwarmer/play.byName -/
theorem zna [Tracks] {a b : StatS}  : ConP Tryz.prog 185 [zdf a, zdf b] (.int .i64 (zlX a b)) := by
 refine Con.of_body Tryz.func185 rfl Tryz.ntmps185 rfl rfl ?_
 refine za ?_
 refine dq (zas rfl rfl) ?_
 refine dq (zas rfl rfl) ?_
 refine das rfl ?_
 refine dn ?_
 refine za ?_
 refine dq (zb zk2 rfl ty9 (by decide) rfl) ?_
 refine dq (zg ty9 rfl rfl rfl) ?_
 refine dq (zb zk2 rfl ty9 (by decide) rfl) ?_
 refine dq (zg ty9 rfl rfl rfl) ?_
 refine dq (zo zhk rfl (WeakL.refl _) zbp) ?_
 refine das rfl ?_
 refine dn ?_
 refine zl ?_
 refine zD rfl ?_
 rfl

/-- slices.SortFunc -/
theorem zoD [Tracks] {c : StatS → StatS → Int} (hO : Go.Sort.SWO (Go.Proofs.ltOf c)) {g : FuncId} (hg : Callable Tryz.prog g) {cap : List HVal} (hc : ∀ x y, @ConP zjG Tryz.prog g (zdf x :: zdf y :: cap) (.int .i64 (c x y))) {l : List StatS} (hl : l.length ≤ 1000000) {v : Value} :
 Con Tryz.prog 184 [.raw v, .fn (.func g) [] cap] [.arr v 2 (l.map zdf)] fun x M' => ∃ l' : List StatS, x = .tup [] ∧ l'.Perm l ∧ l'.Pairwise (fun a b => ¬ c b a < 0) ∧ M' = [.arr v 2 (l'.map zdf)] :=
 zqo (e := zdf) Tryz.g184 (Tryz.isAgg255) (Tryz.sizeOf255) (fun _ => rfl) (fun _ => rfl) (fun _ => rfl) hO hg hc hl

theorem ztd [Tracks] (m : Nat) : Go.Proofs.AnyZ.SortsIn Tryz.prog Tryz.g182_ren Fence.wide m :=
 ⟨fun blk off cap ss W hH hblk hsz => callsIn_wide.2 (AnyM.slices_Sort_string Tryz.g131 blk off cap ss W hH hblk hsz), fun p cap W => callsIn_wide.2 (AnyM.slices_Sort_string_none Tryz.g131 p cap W)⟩
theorem zpJ [Tracks] {b : Nat} : Con Tryz.prog 183 [.raw (.map (some b))] [] fun x M' => ∃ bx, x = .fn (.func 218) [] [.raw (.pointer (some ⟨bx, 0, none⟩))] ∧ M' = [.cells bx [.raw (.map (some b))]] :=
 zrZ (ρ := Tryz.g183_ren) Tryz.g183
theorem zlm [Tracks] (hT : Tracks.on = false) {S : List Str} (hn : S.Nodup) (hl : ∀ s ∈ S, s.length ≤ 1000000) (hs : S.length ≤ 1000000) {b bx : Nat} :
 Con Tryz.prog 182 [.fn (.func 218) [] [.raw (.pointer (some ⟨bx, 0, none⟩))]] [.cells bx [.raw (.map (some b))], .map b (sk (zbh S))] fun x M' => ∃ v, x = .raw v ∧ M' = [.arr v 1 ((zbj S).map .str), .map b (sk (zbh S))] :=
 zm4 hT (ρ := Tryz.g182_ren) (ρk := Tryz.g183_ren) Tryz.g182 Tryz.g183 ztd (enters_of Tryz.func131 (by kernel_rfl) rfl) (enters_of Tryz.func218 (by kernel_rfl) rfl) hn hl hs

set_option maxHeartbeats 1000000 in
/-- (benchwarmer/play.counted).lines -/
theorem zhU [Tracks] {b0 b1 : Nat} {c : List (Of2 × Int)} {S : List Str} {week : Int} (hT : Tracks.on = false) (hn : ANodup c) (hSn : S.Nodup) (hSk : ∀ s ∈ S, s.length ≤ 40) (hc : c.length ≤ 1000000) (hSl : S.length ≤ 1000000) : Con Tryz.prog 150 [.raw (.map (some b0)), .raw (.map (some b1)), .int .i64 week] [.map b0 (kk eOf (em (HVal.int .i64) c)), .map b1 (sk (zbh S))] (fun x M' => x = .tup [zov (zgj c S week), .int .i64 (zgk c S)] ∧ M' = []) := by
 refine Con.of_body Tryz.func150 rfl Tryz.ntmps150 rfl rfl ?_
 refine za ?_
 refine das rfl ?_
 refine das rfl ?_
 refine dn ?_
 refine za ?_
 refine de rfl (zbx fun m15 => ?_)
 refine das rfl ?_
 refine dn ?_
 refine zj ?_
 refine za ?_
 refine dmv rfl ?_
 refine de rfl (zmq (i := 1) znn rfl rfl fun r => ?_)
 refine dn ?_
 refine zq ?_
 refine zfO [6, 7, 9, 10, 18, 19, 20, 21, 22, 23, 24, 25, 26, 27, 28, 29, 30, 31, 32, 33, 34, 35, 36, 37, 38, 39, 40, 41] (fun (vis : List Nat) (E : List (Of2 × Int)) (G : Grp StatS) => []) (fun (vis : List Nat) (E : List (Of2 × Int)) (G : Grp StatS) => [.map m15 (sk (em fG G)), .iter r b0 (kk eOf (em (HVal.int .i64) c)) vis, .map b1 (sk (zbh S))] ++ grp 2 zdf G) (fun (vis : List Nat) (E : List (Of2 × Int)) (G : Grp StatS) => VisOk (c) vis E ∧ (GOk E G ∧ ∀ y ∈ E, out y.2 (-100000) 100000 = false)) (fun (vis : List Nat) (E : List (Of2 × Int)) (G : Grp StatS) => (c).length - vis.length) ([]) ([]) ([]) ?_ ?_ ?_ ?_
 ·exact ⟨VisOk.nil _, GOk.nil, fun y h => by cases h⟩
 ·exact trivial
 ·exact zR rfl
 ·intro vis E G hinv
  obtain ⟨hvis, hG, hO⟩ := hinv
  refine za ?_
  refine de rfl (zmW (i := 1) (L := c) (enc := (fun p : Of2 × Int => (eOf p.1, HVal.int .i64 p.2))) rfl rfl (zsR _ _ _) hvis.nd hvis.lt fun cb R vis' hnx => ?_)
  refine dq (z6 rfl rfl) ?_
  refine dn ?_
  refine zj ?_
  refine zi rfl (fun h1 => ?_) (fun h2 => ?_)
  ·try simp at h1
   obtain ⟨j, q, hq, hj, rfl⟩ := hnx.t h1
   have hroom := hvis.room hq hj
   have hstep := hvis.step hq hj
   have hqm := List.mem_of_getElem? hq
   refine zm ?_
   refine zh ?_
   refine zq ?_
   refine za ?_
   refine de rfl (zkY (i := 1) (L := c) (enc := (fun p : Of2 × Int => (eOf p.1, HVal.int .i64 p.2))) rfl rfl (zsR _ _ _) hq ?_)
   refine dq (z6 rfl rfl) ?_
   refine dq (z6 rfl rfl) ?_
   refine de rfl (zY zih rfl fun b9 => ?_)
   refine de0 (zad zih rfl rfl rfl rfl rfl ?_)
   refine das rfl ?_
   refine dn ?_
   refine zL (Ghost.fc0 9 rfl) ?_
   refine zq ?_
   refine za ?_
   refine dmv rfl ?_
   refine dq (zo zdD rfl (WeakL.refl _) zbc) ?_
   refine das rfl ?_
   refine dn ?_
   refine zi rfl (fun h3 => ?_) (fun h4 => ?_)
   ·try simp at h3
    refine za ?_
    refine das rfl ?_
    refine das rfl ?_
    refine dn ?_
    refine zl ?_
    exact ⟨_, [], Ghost.clear, _, _, rfl, za9 (za3 3) (Weak.refl _), by have hf := zpO (S := S) hqm (by simpa using h3); rw [zgj, zgk, hf]; rfl, rfl⟩
   ·try simp at h4
    refine za ?_
    refine dmv rfl ?_
    refine dq (zaD rfl rfl) ?_
    refine das rfl ?_
    refine dn ?_
    refine zi rfl (fun h5 => ?_) (fun h6 => ?_)
    ·try simp at h5
     refine zL (Ghost.of_eq (M' := [.map m15 (sk (em fG G)), .iter r b0 (kk eOf (em (HVal.int .i64) c)) (vis ++ [j]), .map b1 (sk (zbh S))] ++ grp 2 zdf G) rfl) ?_
     refine zbU (fun _ => True) [] mixed ?_
     refine ahp 0 rfl rfl (by kernel_rfl) (by kernel_rfl) (zf rfl) ?_
     refine ahp 1 rfl rfl (by kernel_rfl) (by kernel_rfl) ((zb zih rfl ty9 (by decide) rfl)) ?_
     refine ahp 2 rfl rfl (by kernel_rfl) (by kernel_rfl) (zg ty9 rfl rfl rfl) ?_
     refine ahp 3 rfl rfl (by kernel_rfl) (by kernel_rfl) (zf rfl) ?_
     refine ahp 4 rfl rfl (by kernel_rfl) (by kernel_rfl) ((zb zih rfl ty9 (by decide) rfl)) ?_
     refine ahp 5 rfl rfl (by kernel_rfl) (by kernel_rfl) (zg ty9 rfl rfl rfl) ?_
     refine ahp 7 rfl rfl (by kernel_rfl) (by kernel_rfl) ((zb zih rfl ty9 (by decide) rfl)) ?_
     refine ahp 8 rfl rfl (by kernel_rfl) (by kernel_rfl) (zg ty9 rfl rfl rfl) ?_
     refine ahp 9 rfl rfl (by kernel_rfl) (by kernel_rfl) (zf rfl) ?_
     refine ahp 10 rfl rfl (by kernel_rfl) (by kernel_rfl) (zaB (cs := [_, _]) zk2 zuh rfl) ?_
     refine ahp 11 rfl rfl (by kernel_rfl) (by kernel_rfl) (zG (hs := [_]) zf7 zk2 rfl rfl (by decide) (by decide) rfl) ?_
     refine ahe 6 rfl (by kernel_rfl) ?_
     refine zv rfl (zhi (i := 0) (z0 := gZ StatS) zpY ty9 zf7 rfl rfl rfl rfl ?_)
     refine ⟨fun _ => .inl trivial, ?_⟩
     refine ahe 12 rfl (by kernel_rfl) ?_
     refine zv rfl (zlN (A := [.map m15 (sk (em fG G)), .iter r b0 (kk eOf (em (HVal.int .i64) c)) (vis ++ [j]), .map b1 (sk (zbh S))]) (G := G) (s := q.1.1) (ys := [⟨q.1.2, q.2⟩]) (eb := zdf) zf7 zk2 rfl rfl rfl rfl (by simp [zbe, zn]) (by have := zj5 E q.1.1; rw [← hG.raw] at this; have := hvis.len; simp only [List.length_cons, List.length_nil]; omega) fun v41 => ?_)
     refine ⟨fun _ => .inl trivial, ?_⟩
     refine ahe 13 rfl (by kernel_rfl) ?_
     refine zab (zeK (i := 0) (f := fG) (L := G) (v := (v41, gL q.1.1 G ++ [⟨q.1.2, q.2⟩])) zpY ty9 rfl rfl rfl rfl ?_)
     refine ⟨fun _ => .inl trivial, ?_⟩
     refine ahz (by kernel_rfl) ?_
     refine zy ?_
     refine zy ?_
     have hO' : ∀ y ∈ E ++ [q], out y.2 (-100000) 100000 = false := fun y hy => by
      rcases List.mem_append.1 hy with hy | hy
      ·exact hO y hy
      ·rw [List.mem_singleton.1 hy]; simpa using h4
     exact ⟨_, E ++ [q], _, ⟨hstep, hG.put (by simpa using h5) v41, hO'⟩, by dsimp only; rw [List.length_append]; simp only [List.length_cons, List.length_nil]; omega, trivial, (by repeat (first | exact zt | refine zw rfl ?_ | refine zu rfl rfl ?_)), zR rfl⟩
    ·try simp at h6
     refine zm ?_
     refine zy ?_
     refine zy ?_
     have hO' : ∀ y ∈ E ++ [q], out y.2 (-100000) 100000 = false := fun y hy => by
      rcases List.mem_append.1 hy with hy | hy
      ·exact hO y hy
      ·rw [List.mem_singleton.1 hy]; simpa using h4
     exact ⟨_, E ++ [q], G, ⟨hstep, hG.skip (by simpa using h6), hO'⟩, by dsimp only; rw [List.length_append]; simp only [List.length_cons, List.length_nil]; omega, trivial, (by repeat (first | exact zt | refine zw rfl ?_ | refine zu rfl rfl ?_)), zR rfl⟩
  ·try simp at h2
   obtain ⟨rfl, hlen⟩ := hnx.f h2
   have hEp := hvis.done hlen
   refine zX ?_
   refine z7 ?_
   refine zgK ?_
   refine zO ?_
   refine zh ?_
   refine zL (Ghost.iterOver (i := 1) rfl) ?_
   refine zL (Ghost.of_eq (M' := [.map m15 (sk (em fG G)), .map b0 (kk eOf (em (HVal.int .i64) c)), .map b1 (sk (zbh S))] ++ grp 2 zdf G) rfl) ?_
   refine za ?_
   refine das rfl ?_
   refine dn ?_
   refine zj ?_
   refine za ?_
   refine dmv rfl ?_
   refine de rfl (zbl (M1 := []) (R := _) zvj rfl (WeakL.refl _) (List.Perm.refl _) zpJ ?_)
   rintro _ _ ⟨bx, rfl, rfl⟩
   refine de rfl (EOp.fzi (N := [.map b1 (sk (zbh S)), .map b0 (kk eOf (em (HVal.int .i64) c))] ++ ([.map m15 (sk (em fG G))] ++ grp 2 zdf G)) (sz := 1) (es := (zbj S).map .str) 0 (zbl (M1 := [.cells bx [.raw (.map (some b1))], .map b1 (sk (zbh S))]) (R := [.map b0 (kk eOf (em (HVal.int .i64) c))] ++ ([.map m15 (sk (em fG G))] ++ grp 2 zdf G)) zvc rfl (WeakL.refl _) (by exact zuR) (zlm hT hSn (fun s hs => Nat.le_trans (hSk s hs) (by decide)) hSl) (by rintro _ _ ⟨v, rfl, rfl⟩; exact ⟨v, rfl, rfl, rfl⟩)) ?_)
   refine dq (zK zP rfl) ?_
   refine dmv rfl ?_
   refine dn ?_
   refine zL (Ghost.suffix (R := [_, _])) ?_
   refine zL (Ghost.arr_nil 3) ?_
   have hSSl : (zbj S).length ≤ 1000000 := by rw [zee]; exact hSl
   have hSS : (zbj S).Nodup := (zig S).nodup_iff.2 hSn
   refine zq ?_
   refine zbi [6, 7, 11, 13, 14, 46, 47, 48, 49, 50, 51, 52, 53, 54, 55, 56, 57, 58, 59, 60, 61, 62, 63, 64, 65] (fun (k : Nat) (u : Value) => [(46, .int .i64 k), (11, .raw u)]) (fun (k : Nat) (u : Value) => [.arr u 3 (((zbj S).take k).map fun s => znh ⟨s, week, zfr c s⟩), .map m15 (sk (em fG G))] ++ grp 2 zdf (zfg G ((zbj S).take k))) (fun (k : Nat) (u : Value) => k ≤ (zbj S).length ∧ (∀ s ∈ (zbj S).take k, ¬ 40 < (zbQ c s).length)) (fun (k : Nat) (u : Value) => (zbj S).length - k) (0) (.slice none 0 0) ?_ ?_ ?_ ?_
   ·exact ⟨Nat.zero_le _, fun s h => by simp at h⟩
   ·exact ⟨rfl, rfl, trivial⟩
   ·exact zR (by simp [zr6])
   ·intro k u hinv
    obtain ⟨hk, hg⟩ := hinv
    refine za ?_
    refine dq (zS rfl rfl) ?_
    refine dn ?_
    refine zj ?_
    refine zi rfl (fun h7 => ?_) (fun h8 => ?_)
    ·try simp at h7
     obtain ⟨x, hx⟩ : ∃ x, (zbj S)[k]? = some x := ⟨_, List.getElem?_eq_getElem h7⟩
     have hdx := zU hx
     refine zm ?_
     refine zh ?_
     refine zj ?_
     refine zq ?_
     refine za ?_
     refine dq (zW zP ty9 rfl rfl rfl (by assumption)) ?_
     refine dq (zg ty9 rfl rfl rfl) ?_
     refine das rfl ?_
     refine dn ?_
     refine za ?_
     refine dmv rfl ?_
     refine dmv rfl ?_
     refine de rfl (zhi (i := 1) (z0 := gZ StatS) zpY ty9 zf7 rfl rfl rfl rfl ?_)
     refine das rfl ?_
     refine dn ?_
     have hnx := zpN hSS hx
     have hxS : x ∈ S := (zig S).mem_iff.1 (List.mem_of_getElem? hx)
     refine zL (Ghost.grp_take (A := [.arr u 3 (((zbj S).take k).map fun s => znh ⟨s, week, zfr c s⟩), .map m15 (sk (em fG G))]) (G := zfg G ((zbj S).take k)) (G' := G) (s := x) (zpV hG.nd) (zrL hnx)) ?_
     rw [zri]
     refine zj ?_
     refine za ?_
     refine dmv rfl ?_
     refine de rfl (zaG (i := 0) (es := gL x G) zf7 rfl rfl ?_)
     refine dq (zae rfl rfl) ?_
     refine dn ?_
     refine zi rfl (fun h9 => ?_) (fun h10 => ?_)
     ·try simp at h9
      refine za ?_
      refine das rfl ?_
      refine das rfl ?_
      refine dn ?_
      refine zl ?_
      exact ⟨_, [], Ghost.clear, _, _, rfl, za9 (za3 3) (Weak.refl _), by have hf := zpP (c := c) hxS (by rw [← zok hEp hG]; omega); rw [zgj, zgk, hf]; rfl, rfl⟩
     ·try simp at h10
      refine zm ?_
      refine zh ?_
      refine za ?_
      refine dmv rfl ?_
      refine de rfl (zbl (M1 := [.arr (gV x G) 2 ((gL x G).map zdf)]) (R := [.arr u 3 (((zbj S).take k).map fun s => znh ⟨s, week, zfr c s⟩), .map m15 (sk (em fG G))] ++ grp 2 zdf (zfg G ((zbj S).take k ++ [x]))) zvd rfl (WeakL.refl _) (List.Perm.refl _) (zoD (c := zlX) (ztK znB) zuS (fun _ _ => @zna zjG _ _) (l := gL x G) (by have := zj5 c x; rw [zok hEp hG]; omega)) ?_)
      rintro _ _ ⟨l', rfl, hp', hw', rfl⟩
      obtain rfl := zn6 hEp hn hG hp' hw'
      refine dn ?_
      refine zL (Ghost.fa 14 (i := 0) rfl rfl) ?_
      refine zC ?_
      refine dmv rfl ?_
      refine dmv rfl ?_
      refine dmv rfl ?_
      refine dmv rfl ?_
      refine dq (zaB (cs := [_, _, _]) zkN zuw rfl) ?_
      refine dq (zG (hs := [_]) znm zkN rfl rfl (by decide) (by decide) rfl) ?_
      refine de rfl (zay (i := 0) znm zkN rfl rfl rfl rfl rfl (by simp [zbe, zn]) (by have := zee S; simp only [List.length_map, List.length_cons, List.length_nil, List.length_take]; omega) fun v64 => ?_)
      refine das rfl ?_
      refine dn ?_
      refine zy ?_
      refine zh ?_
      refine zC ?_
      refine dq (zB rfl rfl (by omega) (by omega)) ?_
      refine dmv rfl ?_
      refine dn ?_
      refine ⟨k + 1, v64, ⟨by omega, fun s hs => ?_⟩, by dsimp only; omega, ⟨rfl, rfl, trivial⟩, (by repeat (first | exact zt | refine zw rfl ?_ | refine zu rfl rfl ?_)), zR (by dsimp only; rw [zaI hx, List.map_append]; rfl)⟩
      rw [zaI hx] at hs
      rcases List.mem_append.1 hs with hs | hs
      ·exact hg s hs
      ·rw [List.mem_singleton.1 hs, ← zok hEp hG]; omega
    ·try simp at h8
     have hnk : (zbj S).length ≤ k := by omega
     obtain rfl : k = (zbj S).length := by omega
     refine zX ?_
     refine z7 ?_
     refine zbr ?_
     refine zO ?_
     refine zh ?_
     rw [List.take_length] at hg ⊢
     refine zL (Ghost.only (i := 0) rfl) ?_
     refine za ?_
     refine dmv rfl ?_
     refine das rfl ?_
     refine das rfl ?_
     refine dn ?_
     refine zl ?_
     (refine zgy (M := []) 6 rfl rfl ?_
      have hf := zq9 (c := c) (S := S) (fun y hy => hO y (hEp.mem_iff.2 hy)) (fun s hs => hg s ((zig S).mem_iff.2 hs))
      rw [zgj, zgk, hf]; simp [Function.comp_def, zbV, zfH])

end
section
open Go.HL
set_option maxHeartbeats 1000000 in
/-- benchwarmer/play.lines -/
theorem zoj [Tracks] {l : List Play} {trust : List Str} {week n : Int} (hT : Tracks.on = false) (hl : l.length ≤ 3000) (ht : trust.length ≤ 1000000) (ok : ∀ x ∈ l, playFault x = 0) : ConP Tryz.prog 102 [zhD l, eSs trust, .int .i64 week, .int .i64 n] (.tup [zov (zoa l trust week n), .int .i64 (zoB l trust week n)]) := by
 refine Con.of_body Tryz.func102 rfl Tryz.ntmps102 rfl rfl ?_
 refine za ?_
 refine das rfl ?_
 refine das rfl ?_
 refine dn ?_
 refine za ?_
 refine dmv rfl ?_
 refine dmv rfl ?_
 refine dmv rfl ?_
 refine de rfl (zbl (M1 := []) (R := []) zug rfl (WeakL.refl _) (List.Perm.refl _) (zoK (l := l) (trust := trust) (n := n) (by omega) ht) ?_)
 rintro _ _ ⟨b19, O19, rfl, hn19, hO19, rfl⟩
 refine dmv rfl ?_
 refine dmv rfl ?_
 refine de rfl (zbl (M1 := []) (R := _) zuj rfl (WeakL.refl _) (List.Perm.refl _) (zm3 (l := l) (n := n) (by omega)) ?_)
 rintro _ _ ⟨b22, rfl, rfl⟩
 refine das rfl ?_
 refine das rfl ?_
 refine dn ?_
 refine za ?_
 refine de rfl (zbx fun m23 => ?_)
 refine de rfl (zbx fun m24 => ?_)
 refine das rfl ?_
 refine das rfl ?_
 refine dn ?_
 refine zj ?_
 refine za ?_
 refine dmv rfl ?_
 refine dq (zK zeu rfl) ?_
 refine dmv rfl ?_
 refine dn ?_
 refine zq ?_
 refine zak [15, 27, 28, 29, 30, 31, 32, 33, 34, 35, 36, 37, 38, 39, 40, 41, 42, 43, 44, 45, 46, 47, 48, 49, 50, 51, 52, 53, 54, 55, 56, 57, 58, 59, 60, 61, 62, 63, 64, 65, 66, 67, 68, 69, 70, 71, 72, 73, 74, 75, 76, 77, 78, 79] (fun (k : Nat) => [(27, .int .i64 k)]) (fun (k : Nat) => [.map m24 (kk eOf (em (HVal.int .i64) (zen l trust week n (l.take k)).c)), .map m23 (sk (zbh (zen l trust week n (l.take k)).S)), .map b22 (kk zh3 (em HVal.bool (zim l n))), .map b19 (sk (em HVal.str O19))]) (fun (k : Nat) => k ≤ l.length ∧ (True)) (fun (k : Nat) => l.length - k) (0) ?_ ?_ ?_ ?_
 ·exact ⟨Nat.zero_le _, trivial⟩
 ·exact ⟨rfl, trivial⟩
 ·exact zR rfl
 ·intro k hinv
  obtain ⟨hk, -⟩ := hinv
  refine za ?_
  refine dq (zS rfl rfl) ?_
  refine dn ?_
  refine zj ?_
  refine zi rfl (fun h1 => ?_) (fun h2 => ?_)
  ·try simp at h1
   obtain ⟨x, hx⟩ : ∃ x, l[k]? = some x := ⟨_, List.getElem?_eq_getElem h1⟩
   have hdx := zU hx
   refine zm ?_
   refine zh ?_
   refine zj ?_
   refine zq ?_
   refine za ?_
   refine dq (zW zeu zah rfl rfl rfl (by assumption)) ?_
   refine dq (zH zah rfl rfl rfl rfl) ?_
   refine de rfl (zY zah rfl fun b15 => ?_)
   refine de0 (zad zah rfl rfl rfl rfl rfl ?_)
   refine dn ?_
   refine zL (Ghost.fc0 15 rfl) ?_
   refine zj ?_
   refine za ?_
   refine dq (zb zah rfl ty3 (by decide) rfl) ?_
   refine dq (zg ty3 rfl rfl rfl) ?_
   refine dmv rfl ?_
   refine dq (zae rfl rfl) ?_
   refine dmv rfl ?_
   refine dg rfl rfl (fun hc => ⟨_, OpenTo.refl _, zb zah rfl ty3 (by decide) rfl⟩) ?_
   refine dg rfl rfl (fun hc => ⟨_, OpenTo.upd (t := 36) rfl (hc) (OpenTo.refl _), zg ty3 rfl rfl rfl⟩) ?_
   refine dg rfl rfl (fun hc => ⟨_, OpenTo.refl _, zf rfl⟩) ?_
   refine dg rfl rfl (fun hc => ⟨_, OpenTo.upd (t := 38) rfl (hc) (OpenTo.upd (t := 37) rfl (hc) (OpenTo.refl _)), zaD rfl rfl⟩) ?_
   refine dq (zA rfl (.inl rfl) (.inr ⟨_, rfl, fun h => by simp_all⟩)) ?_
   refine dmv rfl ?_
   refine dg rfl rfl (fun hc => ⟨_, OpenTo.refl _, zb zah rfl ty3 (by decide) rfl⟩) ?_
   refine dg rfl rfl (fun hc => ⟨_, OpenTo.upd (t := 42) rfl (hc) (OpenTo.refl _), zg ty3 rfl rfl rfl⟩) ?_
   refine dg rfl rfl (fun hc => ⟨_, OpenTo.upd (t := 43) rfl (hc) (OpenTo.refl _), zae rfl rfl⟩) ?_
   refine dq (zA rfl (.inl rfl) (.inr ⟨_, rfl, fun h => by simp_all⟩)) ?_
   refine dmv rfl ?_
   refine dg rfl rfl (fun hc => ⟨_, OpenTo.refl _, zf rfl⟩) ?_
   refine dg rfl rfl (fun hc => ⟨_, OpenTo.refl _, zb zah rfl ty9 (by decide) rfl⟩) ?_
   refine dg rfl rfl (fun hc => ⟨_, OpenTo.upd (t := 48) rfl (hc) (OpenTo.refl _), zg ty9 rfl rfl rfl⟩) ?_
   refine dg rfl rfl (fun hc => ⟨_, OpenTo.refl _, zb zah rfl ty3 (by decide) rfl⟩) ?_
   refine dg rfl rfl (fun hc => ⟨_, OpenTo.upd (t := 50) rfl (hc) (OpenTo.refl _), zg ty3 rfl rfl rfl⟩) ?_
   refine dg rfl rfl (fun hc => ⟨_, OpenTo.upd (t := 51) rfl (hc) (OpenTo.upd (t := 49) rfl (hc) (OpenTo.refl _)), zaB (cs := [_, _]) zg2 zp5 rfl⟩) ?_
   refine dgl rfl rfl (fun hc => ⟨_, OpenTo.upd (t := 52) rfl (hc) (OpenTo.upd (t := 47) rfl (hc) (OpenTo.refl _)), ziQ (i := 2) (s := (x.Source, x.No)) (z0 := false) zsC znp ty4 rfl rfl rfl rfl ⟨rfl, rfl⟩⟩) ?_
   refine dq (zA rfl (.inl rfl) (.inr ⟨_, rfl, fun h => by simp_all⟩)) ?_
   refine dmv rfl ?_
   refine dg rfl rfl (fun hc => ⟨_, OpenTo.refl _, zf rfl⟩) ?_
   refine dg rfl rfl (fun hc => ⟨_, OpenTo.refl _, zb zah rfl ty9 (by decide) rfl⟩) ?_
   refine dg rfl rfl (fun hc => ⟨_, OpenTo.upd (t := 57) rfl (hc) (OpenTo.refl _), zg ty9 rfl rfl rfl⟩) ?_
   refine dgl rfl rfl (fun hc => ⟨_, OpenTo.upd (t := 58) rfl (hc) (OpenTo.upd (t := 56) rfl (hc) (OpenTo.refl _)), zhi (i := 3) (z0 := ([] : Str)) zsP ty9 ty9 rfl rfl rfl rfl ⟨rfl, rfl⟩⟩) ?_
   refine dg rfl rfl (fun hc => ⟨_, OpenTo.refl _, zb zah rfl ty9 (by decide) rfl⟩) ?_
   refine dg rfl rfl (fun hc => ⟨_, OpenTo.upd (t := 60) rfl (hc) (OpenTo.refl _), zg ty9 rfl rfl rfl⟩) ?_
   refine dg rfl rfl (fun hc => ⟨_, OpenTo.upd (t := 61) rfl (hc) (OpenTo.upd (t := 59) rfl (hc) (OpenTo.refl _)), zdN rfl rfl⟩) ?_
   refine dq (zA rfl (.inl rfl) (.inr ⟨_, rfl, fun h => by simp_all⟩)) ?_
   refine dn ?_
   refine zi rfl (fun h3 => ?_) (fun h4 => ?_)
   ·try simp at h3
    refine zX ?_
    refine z7 ?_
    refine zO ?_
    refine zh ?_
    refine zC ?_
    refine dq (zB rfl rfl (by omega) (by omega)) ?_
    refine dmv rfl ?_
    refine dn ?_
    exact ⟨k + 1, ⟨by omega, trivial⟩, by dsimp only; omega, ⟨rfl, trivial⟩, (by repeat (first | exact zt | refine zw rfl ?_ | refine zu rfl rfl ?_)), zR (by dsimp only; rw [zmj hx, zgx, if_neg (by rw [zr8 hO19 h3]; simp)])⟩
   ·try simp at h4
    refine zm ?_
    refine zh ?_
    refine za ?_
    refine dmv rfl ?_
    refine dq (zb zah rfl ty9 (by decide) rfl) ?_
    refine dq (zg ty9 rfl rfl rfl) ?_
    refine de0 (zdG (i := 1) zcE ty9 rfl rfl rfl rfl ?_)
    refine dn ?_
    have hpx := ok x (List.mem_of_getElem? hx)
    obtain ⟨_, _, _, _, _, hcb, _⟩ := zjy hpx
    have hlk := zsJ (l := l) (m := l.take k) (trust := trust) (week := week) (n := n) (fun y hy => ok y (List.mem_of_mem_take hy))
    have hvb := hlk.val (x.Player, x.Stat)
    have hlt : ((l.take k).length : Int) ≤ 3000 := by rw [List.length_take]; omega
    refine zbU (fun M => M = [MObj.map m24 (kk eOf (em (HVal.int .i64) (zen l trust week n (l.take k)).c)), MObj.map m23 (sk (zbh (zaR x.Player (zen l trust week n (l.take k)).S))), MObj.map b22 (kk zh3 (em HVal.bool (zim l n))), MObj.map b19 (sk (em HVal.str O19))] ∨ ∃ j st, zbP (x.Player, x.Stat) (zdP (x.Player, x.Stat) (HVal.int .i64 0) (em (HVal.int .i64) (zen l trust week n (l.take k)).c)) = some j ∧ M = [MObj.mape m24 (kk eOf (zdP (x.Player, x.Stat) (HVal.int .i64 0) (em (HVal.int .i64) (zen l trust week n (l.take k)).c))) j st, MObj.map m23 (sk (zbh (zaR x.Player (zen l trust week n (l.take k)).S))), MObj.map b22 (kk zh3 (em HVal.bool (zim l n))), MObj.map b19 (sk (em HVal.str O19))]) [6] mixed ?_
    refine ahp 0 rfl rfl (by kernel_rfl) (by kernel_rfl) (zf rfl) ?_
    refine ahp 1 rfl rfl (by kernel_rfl) (by kernel_rfl) (zb zah rfl ty9 (by decide) rfl) ?_
    refine ahp 2 rfl rfl (by kernel_rfl) (by kernel_rfl) (zg ty9 rfl rfl rfl) ?_
    refine ahp 3 rfl rfl (by kernel_rfl) (by kernel_rfl) (zb zah rfl ty9 (by decide) rfl) ?_
    refine ahp 4 rfl rfl (by kernel_rfl) (by kernel_rfl) (zg ty9 rfl rfl rfl) ?_
    refine ahp 5 rfl rfl (by kernel_rfl) (by kernel_rfl) (zaB (cs := [_, _]) zih zum rfl) ?_
    refine ahl 6 rfl rfl (by kernel_rfl) (by kernel_rfl) (by simp) (.inl rfl) (fun M hM => by
   rcases hM with rfl | ⟨j, st, hj, rfl⟩
   ·exact ziQ (i := 0) (s := (x.Player, x.Stat)) (z0 := (0 : Int)) znn zqd ty3 rfl rfl rfl rfl ⟨rfl, rfl⟩
   ·exact znK (i := 0) (s := (x.Player, x.Stat)) (z0 := (0 : Int)) (f := HVal.int .i64) znn zqd ty3 rfl rfl rfl rfl ⟨rfl, rfl⟩) ?_
    refine ahp 7 rfl rfl (by kernel_rfl) (by kernel_rfl) (zb zah rfl ty3 (by decide) rfl) ?_
    refine ahp 8 rfl rfl (by kernel_rfl) (by kernel_rfl) (zg ty3 rfl rfl rfl) ?_
    refine ahp 9 rfl rfl (by kernel_rfl) (by kernel_rfl) (zB rfl rfl (by omega) (by omega)) ?_
    refine ahe 10 rfl (by kernel_rfl) ?_
    refine zv rfl (zm6 (i := 0) (s := (x.Player, x.Stat)) (z0 := (0 : Int)) (f := HVal.int .i64) znn zqd ty3 rfl rfl rfl rfl fun j77 st77 hj77 => ?_)
    refine ⟨fun _ => .inl (.inr ⟨j77, st77, hj77, rfl⟩), ?_⟩
    refine ahp 11 rfl rfl (by kernel_rfl) (by kernel_rfl) (z6 rfl rfl) ?_
    refine ahe 12 rfl (by kernel_rfl) ?_
    refine zab (zle (i := 0) (s := (x.Player, x.Stat)) (f := HVal.int .i64) (z0 := (0 : Int)) (v := (alk (x.Player, x.Stat) (zen l trust week n (l.take k)).c).getD 0 + x.Count) rfl rfl rfl rfl hj77 ?_)
    refine ⟨fun _ => .inr (by simp [zaO, Region.binds]), ?_⟩
    refine ahz (by kernel_rfl) ?_
    refine zy ?_
    refine zh ?_
    refine zC ?_
    refine dq (zB rfl rfl (by omega) (by omega)) ?_
    refine dmv rfl ?_
    refine dn ?_
    exact ⟨k + 1, ⟨by omega, trivial⟩, by dsimp only; omega, ⟨rfl, trivial⟩, (by repeat (first | exact zt | refine zw rfl ?_ | refine zu rfl rfl ?_)), zR (by dsimp only; rw [zmj hx, zgx, if_pos (zr4 hO19 h4)]; rfl)⟩
  ·try simp at h2
   have hnk : l.length ≤ k := by omega
   obtain rfl : k = l.length := by omega
   refine zX ?_
   refine z7 ?_
   refine zaw ?_
   refine zO ?_
   refine zh ?_
   rw [List.take_length]
   have hok := zsJ (l := l) (m := l) (trust := trust) (week := week) (n := n) ok
   refine za ?_
   refine dmv rfl ?_
   refine dmv rfl ?_
   refine dmv rfl ?_
   refine de rfl (zbl (M1 := [_, _]) (R := [_, _]) zvo rfl (WeakL.refl _) (List.Perm.refl _) (zhU hT hok.c hok.S hok.k (Nat.le_trans hok.cl (by omega)) (Nat.le_trans hok.Sl (by omega))) ?_)
   rintro _ _ ⟨rfl, rfl⟩
   refine dq (z6 rfl rfl) ?_
   refine dq (z6 rfl rfl) ?_
   refine das rfl ?_
   refine das rfl ?_
   refine dn ?_
   refine zl ?_
   exact zbE Ghost.clear rfl ⟨rfl, rfl⟩

/-- benchwarmer/play.Lines -/
theorem znZ [Tracks] {l : List Play} {trust : List Str} {week n : Int} (hT : Tracks.on = false) (hl : l.length ≤ 1000000) (ht : trust.length ≤ 1000000) : ConP Tryz.prog 61 [zhD l, eSs trust, .int .i64 week, .int .i64 n] (.tup [zov (zhL l trust week n), .int .i64 (zhS l trust week n)]) := by
 refine Con.of_body Tryz.func61 rfl Tryz.ntmps61 rfl rfl ?_
 refine za ?_
 refine das rfl ?_
 refine das rfl ?_
 refine dn ?_
 refine zj ?_
 refine za ?_
 refine dmv rfl ?_
 refine dq (zo ca99 rfl (WeakL.refl _) (zjV (by assumption))) ?_
 refine dmv rfl ?_
 refine dq (zo zvm rfl (WeakL.refl _) (zjT (by assumption))) ?_
 refine dq (zG (hs := [_, _]) zg0 zjm rfl rfl (by decide) (by decide) rfl) ?_
 refine dq (zo zrK rfl (WeakL.refl _) (zgF (l := [_, _]) (by simp))) ?_
 refine das rfl ?_
 refine dn ?_
 refine za ?_
 refine dmv rfl ?_
 refine dq (zaD rfl rfl) ?_
 refine dn ?_
 refine zi rfl (fun h1 => ?_) (fun h2 => ?_)
 ·try simp at h1
  refine za ?_
  refine dmv rfl ?_
  refine das rfl ?_
  refine das rfl ?_
  refine dn ?_
  refine zl ?_
  exact zcz rfl (za9 (by rw [zhL, if_pos (by simpa using h1)]; exact za3 3) (by rw [zhS, if_pos (by simpa using h1)]; exact Weak.refl _))
 ·try simp at h2
  refine zm ?_
  refine zh ?_
  refine zj ?_
  refine za ?_
  refine dmv rfl ?_
  refine dq (zo zsy rfl (WeakL.refl _) zj9) ?_
  refine dq (zac rfl) ?_
  refine dmv rfl ?_
  refine dg rfl rfl (fun hc => ⟨_, OpenTo.refl _, zf rfl⟩) ?_
  refine dg rfl rfl (fun hc => ⟨_, OpenTo.upd (t := 24) rfl (hc) (OpenTo.refl _), zo zlV rfl (WeakL.refl _) zde⟩) ?_
  refine dg rfl rfl (fun hc => ⟨_, OpenTo.upd (t := 25) rfl (hc) (OpenTo.refl _), zac rfl⟩) ?_
  refine dq (zA rfl (.inl rfl) (.inr ⟨_, rfl, fun h => by simp_all⟩)) ?_
  refine dn ?_
  refine zi rfl (fun h3 => ?_) (fun h4 => ?_)
  ·try simp at h3
   refine za ?_
   refine das rfl ?_
   refine das rfl ?_
   refine dn ?_
   refine zl ?_
   exact zcz rfl (za9 (by rw [zhL, if_neg (by simpa using h2), if_pos (by simp_all)]; exact za3 3) (by rw [zhS, if_neg (by simpa using h2), if_pos (by simp_all)]; exact Weak.refl _))
  ·try simp at h4
   refine zm ?_
   refine zh ?_
   refine za ?_
   refine dmv rfl ?_
   refine dmv rfl ?_
   refine dmv rfl ?_
   refine dmv rfl ?_
   refine dq (zo zur rfl (WeakL.refl _) (zoj hT (zmU (okPT h2).1).1 ht (zoV (okPT h2).1))) ?_
   refine dq (z6 rfl rfl) ?_
   refine dq (z6 rfl rfl) ?_
   refine das rfl ?_
   refine das rfl ?_
   refine dn ?_
   refine zl ?_
   (refine zD rfl ?_
    rw [zhL, zhS, if_neg (by simpa using h2), if_neg (by simp_all), if_neg (by simpa using h2), if_neg (by simp_all)])

end
section
open Go.HL
/-- slices.BinarySearch[[]string,string] -/
theorem zev [Tracks] {l : List Str} {s : Str} (hl : l.length ≤ 1000000) (hs : SortedS l) : ConP Tryz.prog 84 [eSs l, .str s] (.tup [.int .i64 (zdL l s), .bool (l.contains s)]) := by
 refine Con.of_body Tryz.func84 rfl Tryz.ntmps84 rfl rfl ?_
 refine za ?_
 refine das rfl ?_
 refine das rfl ?_
 refine dn ?_
 refine za ?_
 refine dmv rfl ?_
 refine dq (zK zP rfl) ?_
 refine das rfl ?_
 refine dn ?_
 refine za ?_
 refine dmv rfl ?_
 refine das rfl ?_
 refine das rfl ?_
 refine dn ?_
 refine zj ?_
 refine zq ?_
 refine zbi [7, 8, 9, 13, 14, 15, 16, 17, 18, 19, 20, 21, 22, 23, 24, 25, 26, 27, 28, 29, 30] (fun (i : Nat) (j : Nat) => [(7, .int .i64 i), (8, .int .i64 j)]) (fun (i : Nat) (j : Nat) => []) (fun (i : Nat) (j : Nat) => i ≤ j ∧ j ≤ l.length ∧ (∀ (k : Nat) (x : Str), k < i → l[k]? = some x → Op.bytesLess x s = true) ∧ (∀ (k : Nat) (x : Str), j ≤ k → l[k]? = some x → Op.bytesLess x s = false)) (fun (i : Nat) (j : Nat) => j - i) (0) (l.length) ?_ ?_ ?_ ?_
 ·exact ⟨Nat.zero_le _, Nat.le_refl _, fun k x h => by omega, fun k x h1 h2 => by have := zN h2; omega⟩
 ·exact ⟨rfl, rfl, trivial⟩
 ·exact List.Perm.refl _
 ·intro i j hinv
  obtain ⟨hij, hjl, ha, hb⟩ := hinv
  refine zj ?_
  refine za ?_
  refine dmv rfl ?_
  refine dmv rfl ?_
  refine dq (zS rfl rfl) ?_
  refine dn ?_
  refine zi rfl (fun h1 => ?_) (fun h2 => ?_)
  ·try simp at h1
   obtain ⟨x, hx⟩ : ∃ x, l[(i + j) / 2]? = some x := ⟨_, List.getElem?_eq_getElem (by omega)⟩
   have hm : (i + j) / 2 < j ∧ i ≤ (i + j) / 2 := by omega
   refine zm ?_
   refine zh ?_
   refine zq ?_
   refine za ?_
   refine dmv rfl ?_
   refine dmv rfl ?_
   refine dq (zB rfl rfl (by omega) (by omega)) ?_
   refine dq (zc1 ty3 zh2 rfl) ?_
   refine dq (zpe rfl rfl (by omega)) ?_
   refine dq (zfn (zc1 zh2 ty3 rfl) (zqL (i := i) (j := j) (by omega))) ?_
   refine das rfl ?_
   refine dn ?_
   refine za ?_
   refine dmv rfl ?_
   refine dmv rfl ?_
   refine dq (zW (j := (i + j) / 2) (a := x) zP ty9 rfl rfl rfl hx) ?_
   refine dq (zg ty9 rfl rfl rfl) ?_
   refine dmv rfl ?_
   refine dq (zo zuk rfl (WeakL.refl _) zjZ) ?_
   refine dn ?_
   refine zi rfl (fun h3 => ?_) (fun h4 => ?_)
   ·try simp at h3
    refine zC ?_
    refine dmv rfl ?_
    refine dq (zB rfl rfl (by omega) (by omega)) ?_
    refine das rfl ?_
    refine dn ?_
    refine zy ?_
    exact ⟨(i + j) / 2 + 1, j, ⟨by omega, hjl, zst hs hx h3, hb⟩, by dsimp only; omega, ⟨rfl, rfl, trivial⟩, (by repeat (first | exact zt | refine zw rfl ?_ | refine zu rfl rfl ?_)), List.Perm.refl _⟩
   ·try simp at h4
    refine zC ?_
    refine dmv rfl ?_
    refine das rfl ?_
    refine dn ?_
    refine zy ?_
    exact ⟨i, (i + j) / 2, ⟨by omega, by omega, ha, zsu hs hx h4⟩, by dsimp only; omega, ⟨rfl, rfl, trivial⟩, (by repeat (first | exact zt | refine zw rfl ?_ | refine zu rfl rfl ?_)), List.Perm.refl _⟩
  ·try simp at h2
   obtain rfl : i = j := by omega
   refine zX ?_
   refine z7 ?_
   refine zbr ?_
   refine zO ?_
   refine zh ?_
   refine za ?_
   refine dmv rfl ?_
   refine dmv rfl ?_
   refine dmv rfl ?_
   refine dq (zS rfl rfl) ?_
   refine dmv rfl ?_
   refine dg rfl rfl (fun hc => ⟨_, OpenTo.refl _, zf rfl⟩) ?_
   refine dg rfl rfl (fun hc => ⟨_, OpenTo.refl _, zf rfl⟩) ?_
   refine dg rfl rfl (fun hc => by have hq := hc; (try simp at hq); exact ⟨_, OpenTo.upd (t := 37) rfl (hc) (OpenTo.upd (t := 36) rfl (hc) (OpenTo.refl _)), zW (j := i) (a := l.getD i []) zP ty9 rfl rfl rfl (getD_some (by omega))⟩) ?_
   refine dg rfl rfl (fun hc => ⟨_, OpenTo.upd (t := 38) rfl (hc) (OpenTo.refl _), zg ty9 rfl rfl rfl⟩) ?_
   refine dg rfl rfl (fun hc => ⟨_, OpenTo.refl _, zf rfl⟩) ?_
   refine dg rfl rfl (fun hc => ⟨_, OpenTo.upd (t := 40) rfl (hc) (OpenTo.upd (t := 39) rfl (hc) (OpenTo.refl _)), zbt rfl rfl⟩) ?_
   refine dg rfl rfl (fun hc => ⟨_, OpenTo.upd (t := 41) rfl (hc) (OpenTo.refl _), zf rfl⟩) ?_
   refine dg rfl rfl (fun hc => ⟨_, OpenTo.refl _, zf rfl⟩) ?_
   refine dg rfl rfl (fun hc => ⟨_, OpenTo.refl _, zf rfl⟩) ?_
   refine dg rfl rfl (fun hc => ⟨_, OpenTo.upd (t := 44) rfl (hc) (OpenTo.upd (t := 43) rfl (hc) (OpenTo.refl _)), zW (j := i) (a := l.getD i []) zP ty9 rfl rfl rfl (getD_some (by simp_all))⟩) ?_
   refine dg rfl rfl (fun hc => ⟨_, OpenTo.upd (t := 45) rfl (hc) (OpenTo.refl _), zg ty9 rfl rfl rfl⟩) ?_
   refine dg rfl rfl (fun hc => ⟨_, OpenTo.upd (t := 46) rfl (hc) (OpenTo.refl _), zo zsS rfl (WeakL.refl _) ze4⟩) ?_
   refine dg rfl rfl (fun hc => ⟨_, OpenTo.upd (t := 47) rfl (hc) (OpenTo.refl _), zf rfl⟩) ?_
   refine dg rfl rfl (fun hc => ⟨_, OpenTo.refl _, zf rfl⟩) ?_
   refine dg rfl rfl (fun hc => ⟨_, OpenTo.upd (t := 49) rfl (hc) (OpenTo.refl _), zo zsS rfl (WeakL.refl _) ze4⟩) ?_
   refine dg rfl rfl (fun hc => ⟨_, OpenTo.upd (t := 48) rfl (hc) (OpenTo.refl _), zA rfl (.inr ⟨_, rfl, fun h => by simp_all⟩) (.inl rfl)⟩) ?_
   refine dg rfl rfl (fun hc => ⟨_, OpenTo.upd (t := 42) rfl (hc) (OpenTo.refl _), zA rfl (.inl rfl) (.inr ⟨_, rfl, fun h => by simp_all⟩)⟩) ?_
   refine dq (zA rfl (.inr ⟨_, rfl, fun h => by simp_all⟩) (.inl rfl)) ?_
   refine das rfl ?_
   refine das rfl ?_
   refine dn ?_
   refine zl ?_
   refine zD rfl ?_
   rw [zlS hjl ha hb, ← zoe hs hjl ha hb, ← zrI false]

/-- benchwarmer/draft.CheckSwaps -/
theorem zje [Tracks] {r : Room} {l : List Swap} (ht : r.Teams.length ≤ 1000000) (hp : r.Players.length ≤ 1000000) (hl : l.length ≤ 1000000) : ConP Tryz.prog 103 [zlj r, ziM l] (.int .i64 (zbK r l)) := by
 refine Con.of_body Tryz.func103 rfl Tryz.ntmps103 rfl rfl ?_
 refine za ?_
 refine dq (zas rfl rfl) ?_
 refine das rfl ?_
 refine dn ?_
 refine zj ?_
 refine za ?_
 refine dq (zH zcu rfl rfl rfl rfl) ?_
 refine dq (zo zvn rfl (WeakL.refl _) (zjX (by assumption) (by assumption))) ?_
 refine das rfl ?_
 refine dn ?_
 refine za ?_
 refine dmv rfl ?_
 refine dq (zaD rfl rfl) ?_
 refine dn ?_
 refine zi rfl (fun h1 => ?_) (fun h2 => ?_)
 ·try simp at h1
  refine za ?_
  refine dmv rfl ?_
  refine das rfl ?_
  refine dn ?_
  refine zl ?_
  refine zD rfl ?_
  show HVal.int .i64 _ = _
  (rw [zbK, if_pos (by simp_all)]; done)
 ·try simp at h2
  refine zm ?_
  refine zh ?_
  refine zj ?_
  refine za ?_
  refine dmv rfl ?_
  refine dq (zK zh0 rfl) ?_
  refine dq (zae rfl rfl) ?_
  refine dn ?_
  refine zi rfl (fun h3 => ?_) (fun h4 => ?_)
  ·try simp at h3
   refine za ?_
   refine das rfl ?_
   refine dn ?_
   refine zl ?_
   refine zD rfl ?_
   show HVal.int .i64 _ = _
   (rw [zbK, if_neg (by simp_all), if_pos (by omega)]; done)
  ·try simp at h4
   refine zm ?_
   refine zh ?_
   refine zj ?_
   refine za ?_
   refine dmv rfl ?_
   refine dq (zK zh0 rfl) ?_
   refine dmv rfl ?_
   refine dn ?_
   refine zq ?_
   refine zak [4, 6, 7, 18, 19, 20, 21, 22, 23, 24, 25, 26, 27, 28, 29, 30, 31, 32, 33, 34, 35, 36, 37, 38, 39, 40, 41, 42, 43, 44, 45, 46, 47, 48, 49, 50, 51, 52, 53, 54, 55, 56, 57, 58, 59, 60, 61, 62, 63, 64, 65, 66, 67, 68, 69, 70] (fun (k : Nat) => [(18, .int .i64 k)]) (fun (k : Nat) => []) (fun (k : Nat) => k ≤ l.length ∧ (zbK r l = zfB r l k (l.drop k))) (fun (k : Nat) => l.length - k) (0) ?_ ?_ ?_ ?_
   ·refine ⟨Nat.zero_le _, ?_⟩
    rw [zbK, if_neg (by simp_all), if_neg (by omega)]; rfl
   ·exact ⟨rfl, trivial⟩
   ·exact List.Perm.refl _
   ·intro k hinv
    obtain ⟨hk, hg⟩ := hinv
    refine za ?_
    refine dq (zS rfl rfl) ?_
    refine dn ?_
    refine zj ?_
    refine zi rfl (fun h5 => ?_) (fun h6 => ?_)
    ·try simp at h5
     obtain ⟨x, hx⟩ : ∃ x, l[k]? = some x := ⟨_, List.getElem?_eq_getElem h5⟩
     have hdx := zU hx
     rw [hdx] at hg
     refine zm ?_
     refine zh ?_
     refine zj ?_
     refine zq ?_
     refine za ?_
     refine dmv rfl ?_
     refine dq (zW zh0 zcy rfl rfl rfl (by assumption)) ?_
     refine dq (zH zcy rfl rfl rfl rfl) ?_
     refine de rfl (zY zcy rfl fun b7 => ?_)
     refine das rfl ?_
     refine de0 (zad zcy rfl rfl rfl rfl rfl ?_)
     refine dn ?_
     refine zL (Ghost.fc0 7 rfl) ?_
     refine zq ?_
     refine za ?_
     refine dq (zb zcy rfl ty3 (by decide) rfl) ?_
     refine dq (zg ty3 rfl rfl rfl) ?_
     refine dq (zb zcu rfl ty3 (by decide) rfl) ?_
     refine dq (zg ty3 rfl rfl rfl) ?_
     refine dq (zo zdD rfl (WeakL.refl _) zbc) ?_
     refine das rfl ?_
     refine dn ?_
     refine zi rfl (fun h7 => ?_) (fun h8 => ?_)
     ·try simp at h7
      refine za ?_
      refine das rfl ?_
      refine dn ?_
      refine zl ?_
      refine zD rfl ?_
      show HVal.int .i64 _ = _
      (rw [hg, zfB]; simp_all; done)
     ·try simp at h8
      refine za ?_
      refine dq (zb zcu rfl zP (by decide) rfl) ?_
      refine dq (zg zP rfl rfl rfl) ?_
      refine dq (zb zcy rfl ty9 (by decide) rfl) ?_
      refine dq (zg ty9 rfl rfl rfl) ?_
      refine dq (zo ziZ rfl (WeakL.refl _) (zaL (by omega))) ?_
      refine dq (zac rfl) ?_
      refine dmv rfl ?_
      refine dg rfl rfl (fun hc => ⟨_, OpenTo.refl _, zb zcu rfl zP (by decide) rfl⟩) ?_
      refine dg rfl rfl (fun hc => ⟨_, OpenTo.upd (t := 37) rfl (hc) (OpenTo.refl _), zg zP rfl rfl rfl⟩) ?_
      refine dg rfl rfl (fun hc => ⟨_, OpenTo.refl _, zb zcy rfl ty9 (by decide) rfl⟩) ?_
      refine dg rfl rfl (fun hc => ⟨_, OpenTo.upd (t := 39) rfl (hc) (OpenTo.refl _), zg ty9 rfl rfl rfl⟩) ?_
      refine dg rfl rfl (fun hc => by have hq := hc; (try simp at hq); exact ⟨_, OpenTo.upd (t := 40) rfl (hc) (OpenTo.upd (t := 38) rfl (hc) (OpenTo.refl _)), zo ziZ rfl (WeakL.refl _) (zaL (by omega))⟩) ?_
      refine dg rfl rfl (fun hc => ⟨_, OpenTo.upd (t := 41) rfl (hc) (OpenTo.refl _), zac rfl⟩) ?_
      refine dq (zA rfl (.inl rfl) (.inr ⟨_, rfl, fun h => by simp_all⟩)) ?_
      refine das rfl ?_
      refine dn ?_
      refine zi rfl (fun h9 => ?_) (fun h10 => ?_)
      ·try simp at h9
       refine za ?_
       refine das rfl ?_
       refine dn ?_
       refine zl ?_
       refine zD rfl ?_
       show HVal.int .i64 _ = _
       (rw [hg, zfB]; simp_all; done)
      ·try simp at h10
       refine zaF (fun _ => True) [] mixed ?_
       refine ahp 0 rfl rfl (by kernel_rfl) (by kernel_rfl) (zf rfl) ?_
       refine ahp 1 rfl rfl (by kernel_rfl) (by kernel_rfl) (zae rfl rfl) ?_
       refine ahp 2 rfl rfl (by kernel_rfl) (by kernel_rfl) (zf rfl) ?_
       refine ahg 3 rfl rfl (by kernel_rfl) (by kernel_rfl) rfl (fun hc => ⟨_, OpenTo.refl _, zb zcy rfl ty3 (by decide) rfl⟩) ?_
       refine ahg 4 rfl rfl (by kernel_rfl) (by kernel_rfl) rfl (fun hc => ⟨_, OpenTo.upd (t := 48) rfl (hc) (OpenTo.refl _), zg ty3 rfl rfl rfl⟩) ?_
       refine ahg 5 rfl rfl (by kernel_rfl) (by kernel_rfl) rfl (fun hc => ⟨_, OpenTo.refl _, zf rfl⟩) ?_
       refine ahg 6 rfl rfl (by kernel_rfl) (by kernel_rfl) rfl (fun hc => ⟨_, OpenTo.refl _, zf rfl⟩) ?_
       refine ahg 7 rfl rfl (by kernel_rfl) (by kernel_rfl) rfl (fun hc => by have hq := hc; (try simp at hq); exact ⟨_, OpenTo.upd (t := 51) rfl (hc) (OpenTo.refl _), zap rfl rfl (by omega) (by omega)⟩) ?_
       refine ahg 8 rfl rfl (by kernel_rfl) (by kernel_rfl) rfl (fun hc => by have hq := hc; (try simp at hq); exact ⟨_, OpenTo.upd (t := 52) rfl (hc) (OpenTo.upd (t := 50) rfl (hc) (OpenTo.refl _)), zW (j := k - 1) (a := l.getD (k - 1) zng) zh0 zcy rfl rfl (by omega) (getD_some (by omega))⟩) ?_
       refine ahg 9 rfl rfl (by kernel_rfl) (by kernel_rfl) rfl (fun hc => ⟨_, OpenTo.upd (t := 53) rfl (hc) (OpenTo.refl _), zb zcy rfl ty3 (by decide) rfl⟩) ?_
       refine ahg 10 rfl rfl (by kernel_rfl) (by kernel_rfl) rfl (fun hc => ⟨_, OpenTo.upd (t := 54) rfl (hc) (OpenTo.refl _), zg ty3 rfl rfl rfl⟩) ?_
       refine ahg 11 rfl rfl (by kernel_rfl) (by kernel_rfl) rfl (fun hc => ⟨_, OpenTo.upd (t := 55) rfl (hc) (OpenTo.upd (t := 49) rfl (hc) (OpenTo.refl _)), zo zlC rfl (WeakL.refl _) zcL⟩) ?_
       refine ahg 12 rfl rfl (by kernel_rfl) (by kernel_rfl) rfl (fun hc => ⟨_, OpenTo.refl _, zb zcy rfl ty9 (by decide) rfl⟩) ?_
       refine ahg 13 rfl rfl (by kernel_rfl) (by kernel_rfl) rfl (fun hc => ⟨_, OpenTo.upd (t := 57) rfl (hc) (OpenTo.refl _), zg ty9 rfl rfl rfl⟩) ?_
       refine ahg 14 rfl rfl (by kernel_rfl) (by kernel_rfl) rfl (fun hc => ⟨_, OpenTo.refl _, zf rfl⟩) ?_
       refine ahg 15 rfl rfl (by kernel_rfl) (by kernel_rfl) rfl (fun hc => ⟨_, OpenTo.refl _, zf rfl⟩) ?_
       refine ahg 16 rfl rfl (by kernel_rfl) (by kernel_rfl) rfl (fun hc => by have hq := hc; (try simp at hq); exact ⟨_, OpenTo.upd (t := 60) rfl (hc) (OpenTo.refl _), zap rfl rfl (by omega) (by omega)⟩) ?_
       refine ahg 17 rfl rfl (by kernel_rfl) (by kernel_rfl) rfl (fun hc => by have hq := hc; (try simp at hq); exact ⟨_, OpenTo.upd (t := 61) rfl (hc) (OpenTo.upd (t := 59) rfl (hc) (OpenTo.refl _)), zW (j := k - 1) (a := l.getD (k - 1) zng) zh0 zcy rfl rfl (by omega) (getD_some (by omega))⟩) ?_
       refine ahg 18 rfl rfl (by kernel_rfl) (by kernel_rfl) rfl (fun hc => ⟨_, OpenTo.upd (t := 62) rfl (hc) (OpenTo.refl _), zb zcy rfl ty9 (by decide) rfl⟩) ?_
       refine ahg 19 rfl rfl (by kernel_rfl) (by kernel_rfl) rfl (fun hc => ⟨_, OpenTo.upd (t := 63) rfl (hc) (OpenTo.refl _), zg ty9 rfl rfl rfl⟩) ?_
       refine ahg 20 rfl rfl (by kernel_rfl) (by kernel_rfl) rfl (fun hc => ⟨_, OpenTo.upd (t := 64) rfl (hc) (OpenTo.upd (t := 58) rfl (hc) (OpenTo.refl _)), zo zhk rfl (WeakL.refl _) zbp⟩) ?_
       refine ahg 21 rfl rfl (by kernel_rfl) (by kernel_rfl) rfl (fun hc => ⟨_, OpenTo.upd (t := 65) rfl (hc) (OpenTo.upd (t := 56) rfl (hc) (OpenTo.refl _)), zG (hs := [_, _]) zbL ty3 rfl rfl (by decide) (by decide) rfl⟩) ?_
       refine ahg 22 rfl rfl (by kernel_rfl) (by kernel_rfl) rfl (fun hc => ⟨_, OpenTo.upd (t := 66) rfl (hc) (OpenTo.refl _), zo zlb rfl (WeakL.refl _) (zel (l := [_, _]) (by simp))⟩) ?_
       refine ahg 23 rfl rfl (by kernel_rfl) (by kernel_rfl) rfl (fun hc => ⟨_, OpenTo.upd (t := 67) rfl (hc) (OpenTo.refl _), zcX rfl rfl⟩) ?_
       refine ahp 24 rfl rfl (by kernel_rfl) (by kernel_rfl) (zA rfl (.inr ⟨_, rfl, fun h => by simp_all⟩) (.inl rfl)) ?_
       refine ahp 25 rfl rfl (by kernel_rfl) (by kernel_rfl) (zar rfl) ?_
       refine ahz (by kernel_rfl) ?_
       refine zi rfl (fun h11 => ?_) (fun h12 => ?_)
       ·try simp at h11
        refine za ?_
        refine das rfl ?_
        refine dn ?_
        refine zl ?_
        refine zD rfl ?_
        show HVal.int .i64 _ = _
        (rw [hg, zfB]; simp_all; done)
       ·try simp at h12
        refine zm ?_
        refine zy ?_
        refine zy ?_
        refine zh ?_
        refine zC ?_
        refine dq (zB rfl rfl (by omega) (by omega)) ?_
        refine dmv rfl ?_
        refine dn ?_
        refine ⟨k + 1, ?_, ?_, ⟨rfl, trivial⟩, (by repeat (first | exact zt | refine zw rfl ?_ | refine zu rfl rfl ?_)), List.Perm.refl _⟩
        ·refine ⟨by omega, ?_⟩
         rw [hg, zfB]; simp_all
         intro h1 h2; have := h12 h1; omega
        ·dsimp only; omega
    ·try simp at h6
     have hnk : l.length ≤ k := by omega
     obtain rfl : k = l.length := by omega
     rw [zaV (Nat.le_refl _)] at hg
     refine zX ?_
     refine z7 ?_
     refine zaw ?_
     refine zO ?_
     refine zh ?_
     refine za ?_
     refine das rfl ?_
     refine dn ?_
     refine zl ?_
     refine zD rfl ?_
     show HVal.int .i64 _ = _
     (rw [hg]; rfl)
end
section
open Go.HL
/-- slices.Clone[[]string,string] -/
theorem zco [Tracks] {l : List Str} (hl : l.length ≤ 1000000) : zqk Tryz.prog 34 [eSs l] 1 (l.map .str) := by
 refine Con.of_body Tryz.func34 rfl Tryz.ntmps34 rfl rfl ?_
 refine za ?_
 refine das rfl ?_
 refine dn ?_
 refine zj ?_
 refine za ?_
 refine dmv rfl ?_
 refine de rfl (zmX zP rfl rfl fun b4 hb4 => ?_)
 refine dn ?_
 refine zi rfl (fun h1 => ?_) (fun h2 => ?_)
 ·try simp at h1
  refine za ?_
  refine das rfl ?_
  refine dn ?_
  refine zl ?_
  exact zbE (Ghost.arr_nil 1) rfl ⟨_, rfl, by simp_all⟩
 ·try simp at h2
  refine zm ?_
  refine zh ?_
  refine za ?_
  refine de rfl (zpg zP ty9 fun v5 => ?_)
  refine dmv rfl ?_
  refine de rfl (zay (i := 0) zP ty9 rfl rfl rfl rfl rfl (by simp [zbe, zn]) (by simp; omega) fun v7 => ?_)
  refine das rfl ?_
  refine dn ?_
  refine zl ?_
  exact znk rfl rfl

/-- slices.Reverse[[]string,string] -/
theorem zfc [Tracks] {l : List Str} {v : Value} (hl : l.length ≤ 1000000) : Con Tryz.prog 153 [.raw v] [.arr v 1 (l.map .str)] (fun x M' => x = .tup [] ∧ M' = [.arr v 1 (l.reverse.map .str)]) := by
 refine Con.of_body Tryz.func153 rfl Tryz.ntmps153 rfl rfl ?_
 refine za ?_
 refine dmv rfl ?_
 refine de rfl (zpr (i := 0) zP rfl rfl ?_)
 rw [List.length_map]
 refine dq (zap rfl rfl (by omega) (by omega)) ?_
 refine das rfl ?_
 refine das rfl ?_
 refine dn ?_
 refine zq ?_
 refine zfO [2, 3, 7, 8, 9, 10, 11, 12, 13, 14, 15, 16, 17, 18, 19, 20, 21, 22, 23, 24, 25, 26, 27] (fun (i : Nat) (j : Int) (c : List Str) => [(2, .int .i64 i), (3, .int .i64 j)]) (fun (i : Nat) (j : Int) (c : List Str) => [.arr v 1 (c.map .str)]) (fun (i : Nat) (j : Int) (c : List Str) => i ≤ l.length ∧ j = (l.length : Int) - 1 - i ∧ Rev l c i) (fun (i : Nat) (j : Int) (c : List Str) => l.length - i) (0) ((l.length : Int) - 1) (l) ?_ ?_ ?_ ?_
 ·exact ⟨Nat.zero_le _, by omega, zqF l⟩
 ·exact ⟨rfl, rfl, trivial⟩
 ·exact List.Perm.refl _
 ·intro i j c hinv
  obtain ⟨hi, hj, hr⟩ := hinv
  refine zj ?_
  refine za ?_
  refine dmv rfl ?_
  refine dmv rfl ?_
  refine dq (zS rfl rfl) ?_
  refine dn ?_
  refine zi rfl (fun h1 => ?_) (fun h2 => ?_)
  ·try simp at h1
   have hlen := hr.1
   obtain ⟨x, hx⟩ : ∃ x, c[i]? = some x := ⟨_, List.getElem?_eq_getElem (by omega)⟩
   obtain ⟨y, hy⟩ : ∃ y, c[l.length - 1 - i]? = some y := ⟨_, List.getElem?_eq_getElem (by omega)⟩
   refine zt2 (i := 0) rfl (fun h0 he => ?_) (fun b off cap hv => ?_)
   ·exfalso; simp at he; subst he; simp at hlen; omega
   subst hv
   refine zm ?_
   refine zh ?_
   refine zj ?_
   refine zq ?_
   refine zbU (fun M => M = [.arr (.slice (some ⟨b, off, none⟩) (c.map HVal.str).length cap) 1 (c.map .str)]) [7, 11] mixed ?_
   refine ahp 0 rfl rfl (by kernel_rfl) (by kernel_rfl) (zf rfl) ?_
   refine ahp 1 rfl rfl (by kernel_rfl) (by kernel_rfl) (zf rfl) ?_
   refine ahp 2 rfl rfl (by kernel_rfl) (by kernel_rfl) (zf rfl) ?_
   refine ahp 3 rfl rfl (by kernel_rfl) (by kernel_rfl) (zf rfl) ?_
   refine ahp 4 rfl rfl (by kernel_rfl) (by kernel_rfl) (zf rfl) ?_
   refine ahp 5 rfl rfl (by kernel_rfl) (by kernel_rfl) (zf rfl) ?_
   refine ahp 6 rfl rfl (by kernel_rfl) (by kernel_rfl) (zaC (j := l.length - 1 - i) zP ty9 rfl rfl (by omega) (by simp; omega)) ?_
   refine ahl 7 rfl rfl (by kernel_rfl) (by kernel_rfl) (by simp) rfl (fun M hM => by subst hM; exact zfb (i := 0) (j := l.length - 1 - i) (f := 0) (y := .str y) ty9 rfl rfl rfl (by simp [hy]) (.inl ⟨rfl, rfl⟩) ⟨rfl, rfl⟩) ?_
   refine ahp 8 rfl rfl (by kernel_rfl) (by kernel_rfl) (zf rfl) ?_
   refine ahp 9 rfl rfl (by kernel_rfl) (by kernel_rfl) (zf rfl) ?_
   refine ahp 10 rfl rfl (by kernel_rfl) (by kernel_rfl) (zaC (j := i) zP ty9 rfl rfl rfl (by simp; omega)) ?_
   refine ahl 11 rfl rfl (by kernel_rfl) (by kernel_rfl) (by simp) rfl (fun M hM => by subst hM; exact zfb (i := 0) (j := i) (f := 0) (y := .str x) ty9 rfl rfl rfl (by simp [hx]) (.inl ⟨rfl, rfl⟩) ⟨rfl, rfl⟩) ?_
   refine ahp 12 rfl rfl (by kernel_rfl) (by kernel_rfl) (zaC (j := i) zP ty9 rfl rfl rfl (by simp; omega)) ?_
   refine ahe 13 rfl (by kernel_rfl) ?_
   refine zab (zaQ (i := 0) (j := i) (f := 0) (y := .str x) (y' := .str y) ty9 rfl rfl rfl rfl (by simp [hx]) rfl rfl (by simp [zn]) rfl ?_)
   refine ⟨fun _ => .inr (by simp [zaO, Region.binds]), ?_⟩
   refine ahp 14 rfl rfl (by kernel_rfl) (by kernel_rfl) (zaC (j := l.length - 1 - i) zP ty9 rfl rfl (by omega) (by simp; omega)) ?_
   refine ahe 15 rfl (by kernel_rfl) ?_
   refine zab (zaQ (i := 0) (j := l.length - 1 - i) (f := 0) (y := .str y) (y' := .str x) ty9 rfl rfl rfl rfl (by simp [List.getElem?_set]; rw [if_neg (by omega)]; simp [hy]) rfl rfl (by simp [zn]) rfl ?_)
   refine ⟨fun _ => .inr (by simp [zaO, Region.binds]), ?_⟩
   refine ahz (by kernel_rfl) ?_
   refine zy ?_
   refine zh ?_
   refine zC ?_
   refine dmv rfl ?_
   refine dq (zB rfl rfl (by omega) (by omega)) ?_
   refine dmv rfl ?_
   refine dq (zap rfl rfl (by omega) (by omega)) ?_
   refine das rfl ?_
   refine das rfl ?_
   refine dn ?_
   refine ⟨i + 1, j - 1, (c.set i y).set (l.length - 1 - i) x, ?_, ?_, ⟨rfl, rfl, trivial⟩, (by repeat (first | exact zt | refine zw rfl ?_ | refine zu rfl rfl ?_)), zR (by simp [List.map_set])⟩
   ·exact ⟨by omega, by omega, zrT hr (by omega) hx hy⟩
   ·dsimp only; omega
  ·try simp at h2
   have hend := ztC hr (by omega)
   refine zX ?_
   refine z7 ?_
   refine zgK ?_
   refine zO ?_
   exact ⟨_, _, Ghost.sub (Sub.refl _), _, _, rfl, Weak.refl _, rfl, by rw [hend]⟩
end
section
open Go.HL
/-- benchwarmer/draft.turns -/
theorem znb [Tracks] {r : Room} {s : List Swap} (ht : r.Teams.length ≤ 20) (hr0 : 1 ≤ r.Rounds) (hr : r.Rounds ≤ 30) (hl : s.length ≤ 1000000) : ConP Tryz.prog 104 [.vptr (zn (zlj r)) 0, ziM s] (zt0 (turns r s)) := by
 refine Con.of_body Tryz.func104 rfl Tryz.ntmps104 rfl rfl ?_
 refine za ?_
 refine das rfl ?_
 refine dn ?_
 refine za ?_
 refine das rfl ?_
 refine dn ?_
 refine zL (Ghost.arr_nil 3) ?_
 refine zj ?_
 refine za ?_
 refine das rfl ?_
 refine dn ?_
 refine zq ?_
 refine zbi [5, 6, 7, 9, 10, 11, 12, 13, 14, 15, 16, 17, 18, 19, 20, 21, 22, 23, 24, 25, 26, 27, 28, 29, 30, 31, 32, 33, 34, 35, 36, 37, 38, 39, 40, 41, 42, 43, 44, 45, 46, 47] (fun (n : Nat) (v : Value) => [(6, .int .i64 ((n : Int) + 1)), (5, .raw v)]) (fun (n : Nat) (v : Value) => [.arr v 3 ((zdo r s n).map zk8)]) (fun (n : Nat) (v : Value) => n ≤ r.Rounds.toNat) (fun (n : Nat) (v : Value) => r.Rounds.toNat - n) (0) (.slice none 0 0) ?_ ?_ ?_ ?_
 ·exact Nat.zero_le _
 ·exact ⟨rfl, rfl, trivial⟩
 ·exact List.Perm.refl _
 ·intro n v hn
  refine zj ?_
  refine za ?_
  refine dmv rfl ?_
  refine dmv rfl ?_
  refine dq ((zx rfl)) ?_
  refine dq (zb zcu rfl ty3 (by decide) rfl) ?_
  refine dq (zg ty3 rfl rfl rfl) ?_
  refine dq (zcX rfl rfl) ?_
  refine dn ?_
  refine zi rfl (fun h1 => ?_) (fun h2 => ?_)
  ·try simp at h1
   have hn30 : n < r.Rounds.toNat := by omega
   refine zm ?_
   refine zh ?_
   refine zj ?_
   refine zq ?_
   refine za ?_
   refine dmv rfl ?_
   refine dq ((zx rfl)) ?_
   refine dq (zb zcu rfl zP (by decide) rfl) ?_
   refine dq (zg zP rfl rfl rfl) ?_
   refine de rfl (ze2 zrA rfl (WeakL.refl _) (zco (by omega)) fun v22 => ?_)
   refine das rfl ?_
   refine dn ?_
   refine ze3 [23, 24, 25, 26, 27, 28, 29, 30] (fun (L : List Str) => []) (fun (L : List Str) => [.arr v22 1 (L.map .str), .arr v 3 ((zdo r s n).map zk8)]) (fun (L : List Str) => L = if backwards r.Way ((n : Int) + 1) then r.Teams.reverse else r.Teams) ?_ ?_
   ·skip
    refine za ?_
    refine dmv rfl ?_
    refine dq ((zx rfl)) ?_
    refine dq (zb zcu rfl ty3 (by decide) rfl) ?_
    refine dq (zg ty3 rfl rfl rfl) ?_
    refine dmv rfl ?_
    refine dq (zo zus rfl (WeakL.refl _) zjU) ?_
    refine dn ?_
    refine zi rfl (fun h3 => ?_) (fun h4 => ?_)
    ·try simp at h3
     refine zC ?_
     refine dmv rfl ?_
     refine de rfl (zbl (M1 := [_]) (R := [_]) zva rfl (WeakL.refl _) (List.Perm.refl _) (zfc (l := r.Teams) (by omega)) ?_)
     rintro _ _ ⟨rfl, rfl⟩
     refine dn ?_
     refine ⟨_, ?_, trivial, (by repeat (first | exact zt | refine zw rfl ?_ | refine zu rfl rfl ?_)), List.Perm.refl _⟩
     ·simp_all
    ·try simp at h4
     refine zm ?_
     refine ⟨_, ?_, trivial, (by repeat (first | exact zt | refine zw rfl ?_ | refine zu rfl rfl ?_)), List.Perm.refl _⟩
     ·simp_all
   ·intro L hL
    have hLl : L.length = r.Teams.length := by rw [hL]; split <;> simp
    have hb := zfX r s n
    have hm := Nat.mul_le_mul (show n ≤ 30 by omega) (show r.Teams.length ≤ 20 by omega)
    refine zL (Ghost.fa0 7 rfl) ?_
    refine za ?_
    refine dmv rfl ?_
    refine dq (zK zP rfl) ?_
    refine dmv rfl ?_
    refine dn ?_
    refine zq ?_
    refine zbi [5, 9, 33, 34, 35, 36, 37, 38, 39, 40, 41, 42, 43, 44, 45, 46, 47] (fun (k : Nat) (u : Value) => [(33, .int .i64 k), (5, .raw u)]) (fun (k : Nat) (u : Value) => [.arr u 3 ((zdo r s n).map zk8 ++ (L.take k).map fun t => zk8 ⟨(n : Int) + 1, t, owner ((n : Int) + 1) t s⟩)]) (fun (k : Nat) (u : Value) => k ≤ L.length ∧ (True)) (fun (k : Nat) (u : Value) => L.length - k) (0) (v) ?_ ?_ ?_ ?_
    ·exact ⟨Nat.zero_le _, by simp_all⟩
    ·exact ⟨rfl, rfl, trivial⟩
    ·exact zR (by simp)
    ·intro k u hinv
     obtain ⟨hk, -⟩ := hinv
     refine za ?_
     refine dq (zS rfl rfl) ?_
     refine dn ?_
     refine zj ?_
     refine zi rfl (fun h5 => ?_) (fun h6 => ?_)
     ·try simp at h5
      obtain ⟨x, hx⟩ : ∃ x, L[k]? = some x := ⟨_, List.getElem?_eq_getElem h5⟩
      have hdx := zU hx
      refine zm ?_
      refine zh ?_
      refine zj ?_
      refine zq ?_
      refine za ?_
      refine dq (zW zP ty9 rfl rfl rfl (by assumption)) ?_
      refine dq (zg ty9 rfl rfl rfl) ?_
      refine das rfl ?_
      refine dn ?_
      refine zC ?_
      refine dmv rfl ?_
      refine dmv rfl ?_
      refine dmv rfl ?_
      refine dmv rfl ?_
      refine dmv rfl ?_
      refine dmv rfl ?_
      refine dq (zo zuq rfl (WeakL.refl _) (zm8 (by assumption))) ?_
      refine dq (zaB (cs := [_, _, _]) zg1 zuN rfl) ?_
      refine dq (zG (hs := [_]) znq zg1 rfl rfl (by decide) (by decide) rfl) ?_
      refine de rfl (zay (i := 0) znq zg1 rfl rfl rfl rfl rfl (by simp [zbe, zn]) (by simp; omega) fun v46 => ?_)
      refine das rfl ?_
      refine dn ?_
      refine zy ?_
      refine zh ?_
      refine zC ?_
      refine dq (zB rfl rfl (by omega) (by omega)) ?_
      refine dmv rfl ?_
      refine dn ?_
      refine ⟨k + 1, _, ?_, ?_, ⟨rfl, rfl, trivial⟩, (by repeat (first | exact zt | refine zw rfl ?_ | refine zu rfl rfl ?_)), zR (by simp [List.take_add_one, hx])⟩
      ·exact ⟨by omega, trivial⟩
      ·dsimp only; omega
     ·try simp at h6
      have hnk : L.length ≤ k := by omega
      obtain rfl : k = L.length := by omega
      refine zX ?_
      refine z7 ?_
      refine zbr ?_
      refine zO ?_
      refine zy ?_
      refine zh ?_
      refine zC ?_
      refine dmv rfl ?_
      refine dq (zB rfl rfl (by omega) (by omega)) ?_
      refine das rfl ?_
      refine dn ?_
      refine ⟨n + 1, _, ?_, ?_, ⟨rfl, rfl, trivial⟩, (by repeat (first | exact zt | refine zw rfl ?_ | refine zu rfl rfl ?_)), zR (by simp [zdo, zf5, hL, List.map_append, Function.comp_def])⟩
      ·omega
      ·dsimp only; omega
  ·try simp at h2
   obtain rfl : n = r.Rounds.toNat := by omega
   refine zX ?_
   refine z7 ?_
   refine zbr ?_
   refine zO ?_
   refine zh ?_
   refine za ?_
   refine dmv rfl ?_
   refine das rfl ?_
   refine dn ?_
   refine zl ?_
   exact zgy (M := []) 4 rfl rfl rfl

/-- benchwarmer/draft.Turns -/
theorem zm1 [Tracks] {r : Room} {s : List Swap} (ht : r.Teams.length ≤ 1000000) (hp : r.Players.length ≤ 1000000) (hl : s.length ≤ 1000000) : ConP Tryz.prog 62 [zlj r, ziM s] (.tup [eSs (zgW r s), .int .i64 (zbK r s)]) := by
 refine Con.of_body Tryz.func62 rfl Tryz.ntmps62 rfl rfl ?_
 refine za ?_
 refine dq (zas rfl rfl) ?_
 refine das rfl ?_
 refine das rfl ?_
 refine dn ?_
 refine zj ?_
 refine za ?_
 refine dq (zH zcu rfl rfl rfl rfl) ?_
 refine dmv rfl ?_
 refine dq (zo zuU rfl (WeakL.refl _) (zje (by assumption) (by assumption) (by assumption))) ?_
 refine das rfl ?_
 refine dn ?_
 refine za ?_
 refine dmv rfl ?_
 refine dq (zaD rfl rfl) ?_
 refine dn ?_
 refine zi rfl (fun h1 => ?_) (fun h2 => ?_)
 ·try simp at h1
  refine za ?_
  refine dmv rfl ?_
  refine das rfl ?_
  refine das rfl ?_
  refine dn ?_
  refine zl ?_
  exact zcz rfl (za9 (by rw [zgW, if_pos (by simp_all)]; exact za3 1) (Weak.refl _))
 ·try simp at h2
  refine zm ?_
  refine zh ?_
  refine za ?_
  refine das rfl ?_
  refine dn ?_
  refine zL (Ghost.arr_nil 1) ?_
  refine zj ?_
  refine za ?_
  obtain ⟨_, hq1, _, hq2, hq3, _⟩ := zgw (r := r) ((zfV (l := s) h2).1)
  have hlen := zq5 (r := r) (s := s) (zfV h2).1
  refine dmv rfl ?_
  refine dq (zo zuV rfl (WeakL.refl _) (znb (by assumption) (by assumption) (by assumption) (by assumption))) ?_
  refine dq (zK znq rfl) ?_
  refine dmv rfl ?_
  refine dn ?_
  refine zq ?_
  refine zbi [7, 9, 19, 20, 21, 22, 23, 24, 25, 26, 27, 28] (fun (k : Nat) (u : Value) => [(19, .int .i64 k), (7, .raw u)]) (fun (k : Nat) (u : Value) => [.arr u 1 (((turns r s).take k).map fun t => .str t.team)]) (fun (k : Nat) (u : Value) => k ≤ (turns r s).length ∧ (True)) (fun (k : Nat) (u : Value) => (turns r s).length - k) (0) (.slice none 0 0) ?_ ?_ ?_ ?_
  ·exact ⟨Nat.zero_le _, by simp_all⟩
  ·exact ⟨rfl, rfl, trivial⟩
  ·exact zR (by simp)
  ·intro k u hinv
   obtain ⟨hk, -⟩ := hinv
   refine za ?_
   refine dq (zS rfl rfl) ?_
   refine dn ?_
   refine zj ?_
   refine zi rfl (fun h3 => ?_) (fun h4 => ?_)
   ·try simp at h3
    obtain ⟨x, hx⟩ : ∃ x, (turns r s)[k]? = some x := ⟨_, List.getElem?_eq_getElem h3⟩
    have hdx := zU hx
    refine zm ?_
    refine zh ?_
    refine zj ?_
    refine zq ?_
    refine za ?_
    refine dq (zW znq zg1 rfl rfl rfl (by assumption)) ?_
    refine dq (zH zg1 rfl rfl rfl rfl) ?_
    refine de rfl (zY zg1 rfl fun b9 => ?_)
    refine de0 (zad zg1 rfl rfl rfl rfl rfl ?_)
    refine dn ?_
    refine zL (Ghost.fc0 9 rfl) ?_
    refine zC ?_
    refine dmv rfl ?_
    refine dq (zb zg1 rfl ty9 (by decide) rfl) ?_
    refine dq (zg ty9 rfl rfl rfl) ?_
    refine dq (zG (hs := [_]) zP ty9 rfl rfl (by decide) (by decide) rfl) ?_
    refine de rfl (zay (i := 0) zP ty9 rfl rfl rfl rfl rfl (by simp [zbe, zn]) (by simp; omega) fun v27 => ?_)
    refine das rfl ?_
    refine dn ?_
    refine zy ?_
    refine zh ?_
    refine zC ?_
    refine dq (zB rfl rfl (by omega) (by omega)) ?_
    refine dmv rfl ?_
    refine dn ?_
    refine ⟨k + 1, _, ?_, ?_, ⟨rfl, rfl, trivial⟩, (by repeat (first | exact zt | refine zw rfl ?_ | refine zu rfl rfl ?_)), zR (by simp [List.take_add_one, hx])⟩
    ·exact ⟨by omega, trivial⟩
    ·dsimp only; omega
   ·try simp at h4
    have hnk : (turns r s).length ≤ k := by omega
    obtain rfl : k = (turns r s).length := by omega
    refine zX ?_
    refine z7 ?_
    refine zbr ?_
    refine zO ?_
    refine zh ?_
    refine za ?_
    refine dmv rfl ?_
    refine das rfl ?_
    refine das rfl ?_
    refine dn ?_
    refine zl ?_
    (refine zgy (M := []) 4 rfl rfl ?_
     simp_all [zgW, eSs, Function.comp_def, zbV, zfH])

end
section
open Go.HL
/-- strings.makeASCIISet -/
theorem zha [Tracks] {l : Str} (hl : l.length ≤ 1000000) (ha : ∀ c ∈ l, c.toNat < 128) : ConP Tryz.prog 164 [.str l] (.tup [.agg (asciiSet l), .bool true]) := by
 refine Con.of_bodyc Tryz.func164 rfl Tryz.ntmps164 rfl rfl ?_
 refine za ?_
 refine de rfl (zY zgX rfl fun b2 => ?_)
 refine das rfl ?_
 refine dn ?_
 refine zj ?_
 refine za ?_
 refine das rfl ?_
 refine dn ?_
 refine zq ?_
 refine zak [3, 4, 5, 6, 7, 8, 9, 10, 11, 12, 13, 14, 15, 16, 17, 18, 19] (fun (k : Nat) => [(4, .int .i64 k)]) (fun (k : Nat) => [.cells b2 (asciiSet (l.take k))]) (fun (k : Nat) => k ≤ l.length ∧ (True)) (fun (k : Nat) => l.length - k) (0) ?_ ?_ ?_ ?_
 ·exact ⟨Nat.zero_le _, by simp_all⟩
 ·exact ⟨rfl, trivial⟩
 ·exact zR rfl
 ·intro k hinv
  obtain ⟨hk, -⟩ := hinv
  refine zj ?_
  refine za ?_
  refine dmv rfl ?_
  refine dmv rfl ?_
  refine dq (zdS ty9 rfl) ?_
  refine dq (zS rfl rfl) ?_
  refine dn ?_
  refine zi rfl (fun h1 => ?_) (fun h2 => ?_)
  ·try simp at h1
   obtain ⟨x, hx⟩ : ∃ x, l[k]? = some x := ⟨_, List.getElem?_eq_getElem h1⟩
   have hdx := zU hx
   have hc := ha x (List.mem_of_getElem? hx)
   refine zm ?_
   refine zh ?_
   refine zj ?_
   refine zq ?_
   refine za ?_
   refine dmv rfl ?_
   refine dmv rfl ?_
   refine dq (zcr ty9 rfl rfl rfl (by assumption)) ?_
   refine das rfl ?_
   refine dn ?_
   refine zj ?_
   refine za ?_
   refine dmv rfl ?_
   refine dq (zbS rfl rfl) ?_
   refine dn ?_
   refine zi rfl (fun h3 => ?_) (fun h3 => ?_)
   ·exfalso
    try simp at h3
    omega
   ·try simp at h3
    refine zm ?_
    refine zh ?_
    refine zC ?_
    refine dmv rfl ?_
    refine dq (znw zgX ty4 rfl rfl rfl (by omega)) ?_
    refine de0 (zz (i := 0) ty4 rfl rfl rfl rfl rfl (by rw [zc0]; omega) ?_)
    refine dn ?_
    refine zy ?_
    refine zh ?_
    refine zC ?_
    refine dmv rfl ?_
    refine dq (zB rfl rfl (by omega) (by omega)) ?_
    refine das rfl ?_
    refine dn ?_
    refine ⟨k + 1, ?_, ?_, ⟨rfl, trivial⟩, (by repeat (first | exact zt | refine zw rfl ?_ | refine zu rfl rfl ?_)), zR (by show [MObj.cells b2 (zZ _ (0 + x.toNat * 1) [.bool true])] = _; rw [znE]; dsimp only; rw [List.take_add_one, hx]; rfl)⟩
    ·exact ⟨by omega, trivial⟩
    ·dsimp only; omega
  ·try simp at h2
   have hnk : l.length ≤ k := by omega
   obtain rfl : k = l.length := by omega
   refine zX ?_
   refine z7 ?_
   refine zaw ?_
   refine zO ?_
   refine zh ?_
   refine zL (Ghost.of_eq (M' := [.cells b2 (asciiSet l)]) (by rw [List.take_length])) ?_
   refine za ?_
   refine de rfl (ze5 (i := 0) (h := .agg (asciiSet l)) zgX rfl rfl rfl rfl (zc0 l) ?_)
   refine de0 (zad (h := .agg (asciiSet l)) zgX rfl rfl (by simp [zdT, zc0]) (zm2 l) (zc0 l) ?_)
   refine das rfl ?_
   refine dn ?_
   refine zl ?_
   refine ⟨_, _, Ghost.fc0 2 rfl, [_, _], _, ⟨⟨_, _, _, _, _, rfl, zgX, .inr ⟨rfl, rfl, rfl⟩⟩, ⟨rfl, trivial⟩⟩, Weak.refl _, ?_, rfl⟩
   rfl

/-- (*strings.asciiSet).contains -/
theorem zdH [Tracks] {l : Str} {c : UInt8}  : ConP Tryz.prog 194 [.vptr (asciiSet l) 0, .int .u8 c.toNat] (.bool (l.contains c)) := by
 have hc := c.toNat_lt
 refine Con.of_body Tryz.func194 rfl Tryz.ntmps194 rfl rfl ?_
 refine za ?_
 refine das rfl ?_
 refine dn ?_
 refine za ?_
 refine dmv rfl ?_
 refine dmv rfl ?_
 refine dq ((zx rfl)) ?_
 refine dq (zrr zgX ty4 rfl rfl rfl (by omega)) ?_
 refine dq (zg ty4 rfl rfl (by rw [show 0 + c.toNat * 1 = c.toNat from by omega]; exact zi1 l c)) ?_
 refine das rfl ?_
 refine dn ?_
 refine zl ?_
 refine zD rfl ?_
 rfl

/-- strings.trimLeftASCII -/
theorem zgT [Tracks] {s l : Str} (hl : s.length ≤ 1000000) : ConP Tryz.prog 165 [.str s, .vptr (asciiSet l) 0] (.str (s.dropWhile (l.contains ·))) := by
 refine Con.of_body Tryz.func165 rfl Tryz.ntmps165 rfl rfl ?_
 refine za ?_
 refine das rfl ?_
 refine dn ?_
 refine zj ?_
 refine zq ?_
 refine zak [0, 5, 6, 7, 8, 9, 10, 11, 12, 13, 14] (fun (t : Str) => [(0, .str t)]) (fun (t : Str) => []) (fun (t : Str) => t.length ≤ s.length ∧ s.dropWhile (l.contains ·) = t.dropWhile (l.contains ·)) (fun (t : Str) => t.length) (s) ?_ ?_ ?_ ?_
 ·exact ⟨Nat.le_refl _, rfl⟩
 ·exact ⟨rfl, trivial⟩
 ·exact List.Perm.refl _
 ·intro t hinv
  obtain ⟨ht, hg⟩ := hinv
  refine zj ?_
  refine za ?_
  refine dmv rfl ?_
  refine dq (zdS ty9 rfl) ?_
  refine dq (zae rfl rfl) ?_
  refine dn ?_
  refine zi rfl (fun h1 => ?_) (fun h2 => ?_)
  ·try simp at h1
   obtain ⟨x, u, rfl⟩ : ∃ x u, t = x :: u := by cases t with | nil => simp at h1 | cons x u => exact ⟨x, u, rfl⟩
   have hlen : (x :: u).length = u.length + 1 := rfl
   refine zm ?_
   refine zh ?_
   refine zq ?_
   refine zj ?_
   refine za ?_
   refine dmv rfl ?_
   refine dmv rfl ?_
   refine dq (zcr (j := 0) (b := x) ty9 rfl rfl rfl rfl) ?_
   refine dq (zo zsN rfl (WeakL.refl _) zdH) ?_
   refine dq (zac rfl) ?_
   refine dn ?_
   refine zi rfl (fun h3 => ?_) (fun h4 => ?_)
   ·try simp at h3
    refine zX ?_
    refine z7 ?_
    refine zmg rfl ?_
    refine zaw ?_
    refine zO ?_
    refine zh ?_
    refine za ?_
    refine dmv rfl ?_
    refine das rfl ?_
    refine dn ?_
    refine zl ?_
    refine zD rfl ?_
    show HVal.str _ = _
    rw [hg]; simp_all [List.dropWhile_cons]
   ·try simp at h4
    refine zm ?_
    refine zh ?_
    refine zC ?_
    refine dmv rfl ?_
    refine dq (zk5 (l := 1) ty9 rfl ⟨_, _, rfl, rfl⟩ rfl (by omega) (by omega)) ?_
    refine das rfl ?_
    refine dn ?_
    refine zy ?_
    refine ⟨_, ?_, ?_, ⟨rfl, trivial⟩, (by repeat (first | exact zt | refine zw rfl ?_ | refine zu rfl rfl ?_)), List.Perm.refl _⟩
    ·refine ⟨by simp at ht ⊢; omega, ?_⟩
     rw [hg]; simp_all [List.dropWhile_cons]
    ·dsimp only; simp
  ·try simp at h2
   obtain rfl : t = [] := by simpa using h2
   refine zX ?_
   refine z7 ?_
   refine zaw ?_
   refine zO ?_
   refine zh ?_
   refine za ?_
   refine dmv rfl ?_
   refine das rfl ?_
   refine dn ?_
   refine zl ?_
   refine zD rfl ?_
   show HVal.str _ = _
   rw [hg]; simp_all [List.dropWhile_cons]

/-- strings.trimRightASCII -/
theorem zgD [Tracks] {s l : Str} (hl : s.length ≤ 1000000) : ConP Tryz.prog 166 [.str s, .vptr (asciiSet l) 0] (.str (zeO (l.contains ·) s)) := by
 refine Con.of_body Tryz.func166 rfl Tryz.ntmps166 rfl rfl ?_
 refine za ?_
 refine das rfl ?_
 refine dn ?_
 refine zj ?_
 refine zq ?_
 refine zak [0, 5, 6, 7, 8, 9, 10, 11, 12, 13, 14, 15, 16, 17, 18, 19, 20] (fun (t : Str) => [(0, .str t)]) (fun (t : Str) => []) (fun (t : Str) => t.length ≤ s.length ∧ zeO (l.contains ·) s = zeO (l.contains ·) t) (fun (t : Str) => t.length) (s) ?_ ?_ ?_ ?_
 ·exact ⟨Nat.le_refl _, rfl⟩
 ·exact ⟨rfl, trivial⟩
 ·exact List.Perm.refl _
 ·intro t hinv
  obtain ⟨ht, hg⟩ := hinv
  refine zj ?_
  refine za ?_
  refine dmv rfl ?_
  refine dq (zdS ty9 rfl) ?_
  refine dq (zae rfl rfl) ?_
  refine dn ?_
  refine zi rfl (fun h1 => ?_) (fun h2 => ?_)
  ·try simp at h1
   obtain ⟨u, x, rfl⟩ : ∃ u x, t = u ++ [x] := ⟨_, _, (List.dropLast_concat_getLast (by intro h0; subst h0; simp at h1)).symm⟩
   have hlen : (u ++ [x]).length = u.length + 1 := by simp
   refine zm ?_
   refine zh ?_
   refine zq ?_
   refine zj ?_
   refine za ?_
   refine dmv rfl ?_
   refine dmv rfl ?_
   refine dmv rfl ?_
   refine dq (zdS ty9 rfl) ?_
   refine dq (zap rfl rfl (by omega) (by omega)) ?_
   refine dq (zcr (j := u.length) (b := x) ty9 rfl rfl (by omega) (by simp)) ?_
   refine dq (zo zsN rfl (WeakL.refl _) zdH) ?_
   refine dq (zac rfl) ?_
   refine dn ?_
   refine zi rfl (fun h3 => ?_) (fun h4 => ?_)
   ·try simp at h3
    refine zX ?_
    refine z7 ?_
    refine zmg rfl ?_
    refine zaw ?_
    refine zO ?_
    refine zh ?_
    refine za ?_
    refine dmv rfl ?_
    refine das rfl ?_
    refine dn ?_
    refine zl ?_
    refine zD rfl ?_
    show HVal.str _ = _
    rw [hg]; first | rfl | (rw [zf3, if_neg (by simp_all)])
   ·try simp at h4
    refine zm ?_
    refine zh ?_
    refine zC ?_
    refine dmv rfl ?_
    refine dmv rfl ?_
    refine dq (zdS ty9 rfl) ?_
    refine dq (zap rfl rfl (by omega) (by omega)) ?_
    refine dq (zk5 (l := 0) (h := u.length) ty9 rfl rfl ⟨_, _, rfl, by omega⟩ (by omega) (by omega)) ?_
    refine das rfl ?_
    refine dn ?_
    refine zy ?_
    refine ⟨_, ?_, ?_, ⟨rfl, trivial⟩, (by repeat (first | exact zt | refine zw rfl ?_ | refine zu rfl rfl ?_)), List.Perm.refl _⟩
    ·refine ⟨by simp at ht ⊢; omega, ?_⟩
     rw [hg, zf3, if_pos (by simp_all)]; simp
    ·dsimp only; simp
  ·try simp at h2
   obtain rfl : t = [] := by simpa using h2
   refine zX ?_
   refine z7 ?_
   refine zaw ?_
   refine zO ?_
   refine zh ?_
   refine za ?_
   refine dmv rfl ?_
   refine das rfl ?_
   refine dn ?_
   refine zl ?_
   refine zD rfl ?_
   show HVal.str _ = _
   rw [hg]; first | rfl | (rw [zf3, if_neg (by simp_all)])

/-- strings.Trim -/
theorem zlY [Tracks] {s l : Str} (hs : s.length ≤ 1000000) (hl : l.length ≤ 1000000) (h2l : 2 ≤ l.length) (ha : ∀ c ∈ l, c.toNat < 128) : ConP Tryz.prog 112 [.str s, .str l] (.str ((zeO (l.contains ·) s).dropWhile (l.contains ·))) := by
 refine Con.of_body Tryz.func112 rfl Tryz.ntmps112 rfl rfl ?_
 refine za ?_
 refine das rfl ?_
 refine dn ?_
 refine zj ?_
 refine za ?_
 refine dmv rfl ?_
 refine dq (zbt rfl rfl) ?_
 refine dmv rfl ?_
 refine dg rfl rfl (fun hc => ⟨_, OpenTo.refl _, zf rfl⟩) ?_
 refine dg rfl rfl (fun hc => ⟨_, OpenTo.upd (t := 10) rfl (hc) (OpenTo.refl _), zbt rfl rfl⟩) ?_
 refine dq (zA rfl (.inl rfl) (.inr ⟨_, rfl, fun h => by simp_all⟩)) ?_
 refine dn ?_
 refine zi rfl (fun h1 => ?_) (fun h2 => ?_)
 ·try simp at h1
  refine za ?_
  refine dmv rfl ?_
  refine das rfl ?_
  refine dn ?_
  refine zl ?_
  refine zD rfl ?_
  show HVal.str _ = _
  (rcases h1 with rfl | rfl <;> first | (simp at h2l; done) | (simp [zeO]; done))
 ·try simp at h2
  refine zm ?_
  refine zh ?_
  refine zj ?_
  refine za ?_
  refine dmv rfl ?_
  refine dq (zdS ty9 rfl) ?_
  refine dq (zau rfl rfl) ?_
  refine dmv rfl ?_
  refine dg rfl rfl (fun hc => ⟨_, OpenTo.refl _, zf rfl⟩) ?_
  refine dg rfl rfl (fun hc => ⟨_, OpenTo.upd (t := 18) rfl (hc) (OpenTo.refl _), zcr (j := 0) (b := l.headD 0) ty9 rfl rfl rfl (hd0 (by intro h0; subst h0; simp at h2l))⟩) ?_
  refine dg rfl rfl (fun hc => ⟨_, OpenTo.upd (t := 19) rfl (hc) (OpenTo.refl _), zS rfl rfl⟩) ?_
  refine dq (zA rfl (.inr ⟨_, rfl, fun h => by simp_all⟩) (.inl rfl)) ?_
  refine dn ?_
  refine zi rfl (fun h3 => ?_) (fun h3 => ?_)
  ·exfalso
   try simp at h3
   omega
  ·try simp at h3
   refine zm ?_
   refine zh ?_
   refine zj ?_
   refine za ?_
   refine dmv rfl ?_
   refine dq (zo zve rfl (WeakL.refl _) (zha (by assumption) (by assumption))) ?_
   refine dmv rfl ?_
   refine dq (z6 rfl rfl) ?_
   refine dq (z6 rfl rfl) ?_
   refine de rfl (zY zgX rfl fun b5 => ?_)
   refine de0 (zad zgX rfl rfl rfl rfl rfl ?_)
   refine das rfl ?_
   refine dn ?_
   refine zL (Ghost.fc0 5 rfl) ?_
   refine za ?_
   refine dmv rfl ?_
   refine dn ?_
   refine zmC rfl ?_
   refine za ?_
   refine dmv rfl ?_
   refine dq (zo zup rfl (WeakL.refl _) (zgD (by assumption))) ?_
   refine dq (zo zuC rfl (WeakL.refl _) (zgT (Nat.le_trans (zqC _ _) hs))) ?_
   refine das rfl ?_
   refine dn ?_
   refine zl ?_
   refine zD rfl ?_
   show HVal.str _ = _
   rfl

/-- internal/stringslite.IndexByte -/
theorem zeQ [Tracks] {s : Str} {c : Int}  : ConP Tryz.prog 169 [.str s, .int .u8 c] (.int .i64 (Lib.indexByte s c.toNat.toUInt8)) := by
 refine Con.of_body Tryz.func169 rfl Tryz.ntmps169 rfl rfl ?_
 refine za ?_
 refine das rfl ?_
 refine dn ?_
 refine za ?_
 refine dmv rfl ?_
 refine dmv rfl ?_
 refine dq (zm7 Tryz.func198 (by kernel_rfl) (by kernel_rfl) (by kernel_rfl) (by kernel_rfl) rfl rfl rfl) ?_
 refine das rfl ?_
 refine dn ?_
 refine zl ?_
 refine zD rfl ?_
 rfl

/-- strings.IndexByte -/
theorem ziB [Tracks] {s : Str} {c : Int}  : ConP Tryz.prog 113 [.str s, .int .u8 c] (.int .i64 (Lib.indexByte s c.toNat.toUInt8)) := by
 refine Con.of_body Tryz.func113 rfl Tryz.ntmps113 rfl rfl ?_
 refine za ?_
 refine das rfl ?_
 refine dn ?_
 refine za ?_
 refine dmv rfl ?_
 refine dmv rfl ?_
 refine dq (zo zuc rfl (WeakL.refl _) zeQ) ?_
 refine das rfl ?_
 refine dn ?_
 refine zl ?_
 refine zD rfl ?_
 rfl

/-- benchwarmer/benchref1.in -/
theorem zb7 [Tracks] {n lo hi : Int}  : ConP Tryz.prog 75 [.int .i64 n, .int .i64 lo, .int .i64 hi] (.bool (!(out n lo hi))) := by
 refine Con.of_body Tryz.func75 rfl Tryz.ntmps75 rfl rfl ?_
 refine za ?_
 refine das rfl ?_
 refine dn ?_
 refine za ?_
 refine dmv rfl ?_
 refine dmv rfl ?_
 refine dq (zcX rfl rfl) ?_
 refine dmv rfl ?_
 refine dg rfl rfl (fun hc => ⟨_, OpenTo.refl _, zf rfl⟩) ?_
 refine dg rfl rfl (fun hc => ⟨_, OpenTo.refl _, zf rfl⟩) ?_
 refine dg rfl rfl (fun hc => ⟨_, OpenTo.upd (t := 12) rfl (hc) (OpenTo.upd (t := 11) rfl (hc) (OpenTo.refl _)), zcX rfl rfl⟩) ?_
 refine dq (zA rfl (.inr ⟨_, rfl, fun h => by simp_all⟩) (.inl rfl)) ?_
 refine das rfl ?_
 refine dn ?_
 refine zl ?_
 refine zD rfl ?_
 show HVal.bool _ = _
 congr 1; simp [out]; rw [Bool.eq_iff_iff]; simp; try omega

/-- benchwarmer/benchref1.Key -/
theorem zcA [Tracks] {s : Str} (hs : s.length ≤ 1000000) : ConP Tryz.prog 70 [.str s] (.bool (key s)) := by
 refine Con.of_body Tryz.func70 rfl Tryz.ntmps70 rfl rfl ?_
 refine za ?_
 refine das rfl ?_
 refine dn ?_
 refine za ?_
 refine dmv rfl ?_
 refine dq (zdS ty9 rfl) ?_
 refine dq (zo zjc rfl (WeakL.refl _) zb7) ?_
 refine dmv rfl ?_
 refine dg rfl rfl (fun hc => ⟨_, OpenTo.refl _, zf rfl⟩) ?_
 refine dg rfl rfl (fun hc => ⟨_, OpenTo.upd (t := 7) rfl (hc) (OpenTo.refl _), zo zu0 rfl (WeakL.refl _) (zlY (l := zh4) hs (by decide) (by decide) (by decide))⟩) ?_
 refine dg rfl rfl (fun hc => ⟨_, OpenTo.upd (t := 8) rfl (hc) (OpenTo.refl _), zbt rfl rfl⟩) ?_
 refine dq (zA rfl (.inr ⟨_, rfl, fun h => by simp_all⟩) (.inl rfl)) ?_
 refine dmv rfl ?_
 refine dg rfl rfl (fun hc => ⟨_, OpenTo.refl _, zf rfl⟩) ?_
 refine dg rfl rfl (fun hc => ⟨_, OpenTo.upd (t := 12) rfl (hc) (OpenTo.refl _), zcr (j := 0) (b := s.headD 0) ty9 rfl rfl rfl (hd0 (by rintro rfl; simp [out] at hc))⟩) ?_
 refine dg rfl rfl (fun hc => ⟨_, OpenTo.upd (t := 13) rfl (hc) (OpenTo.refl _), zo zuX rfl (WeakL.refl _) ziB⟩) ?_
 refine dg rfl rfl (fun hc => ⟨_, OpenTo.upd (t := 14) rfl (hc) (OpenTo.refl _), zbS rfl rfl⟩) ?_
 refine dq (zA rfl (.inr ⟨_, rfl, fun h => by simp_all⟩) (.inl rfl)) ?_
 refine das rfl ?_
 refine dn ?_
 refine zl ?_
 refine zD rfl ?_
 show HVal.bool _ = _
 rw [ztv]
 simp [zh4, zjE]

/-- benchwarmer/benchref1.SpanFault -/
theorem zhn [Tracks] {n lo hi : Int}  : ConP Tryz.prog 56 [.int .i64 n, .int .i64 lo, .int .i64 hi] (.int .i64 (if out n lo hi then 1 else 0)) := by
 refine Con.of_body Tryz.func56 rfl Tryz.ntmps56 rfl rfl ?_
 refine za ?_
 refine das rfl ?_
 refine dn ?_
 refine zj ?_
 refine za ?_
 refine dmv rfl ?_
 refine dmv rfl ?_
 refine dmv rfl ?_
 refine dq (zo zjc rfl (WeakL.refl _) zb7) ?_
 refine dq (zac rfl) ?_
 refine dn ?_
 refine zi rfl (fun h1 => ?_) (fun h2 => ?_)
 ·try simp at h1
  refine za ?_
  refine das rfl ?_
  refine dn ?_
  refine zl ?_
  refine zD rfl ?_
  show HVal.int .i64 _ = _
  simp_all
 ·try simp at h2
  refine zm ?_
  refine zh ?_
  refine za ?_
  refine das rfl ?_
  refine dn ?_
  refine zl ?_
  refine zD rfl ?_
  show HVal.int .i64 _ = _
  simp_all

/-- benchwarmer/benchref1.MomentFault -/
theorem zgS [Tracks] {n : Int}  : ConP Tryz.prog 18 [.int .i64 n] (.int .i64 (if za4 n then 0 else 1)) := by
 refine Con.of_body Tryz.func18 rfl Tryz.ntmps18 rfl rfl ?_
 refine za ?_
 refine das rfl ?_
 refine dn ?_
 refine za ?_
 refine dmv rfl ?_
 refine dq (zo ca56 rfl (WeakL.refl _) zhn) ?_
 refine das rfl ?_
 refine dn ?_
 refine zl ?_
 refine zD rfl ?_
 show HVal.int .i64 _ = _
 rw [zp1]
end
end Go.Proofs.YtpcaaekefgkhjaaGreatDoor
namespace Go.Proofs
section
open Go.Shelf
def Tryz.lays190_ren : Go.Shelf.Ren := ⟨fun | 190 => 131 | 125 => 73 | 258 => 178 | 128 => 122 | 129 => 123 | 302 => 200 | 303 => 201 | 304 => 202 | 305 => 203 | 306 => 204 | 307 => 205 | 308 => 129 | 309 => 206 | 310 => 207 | 333 => 226 | 329 => 171 | 330 => 172 | 334 => 227 | 335 => 228 | 336 => 177 | 344 => 252 | n => n, fun | 31 => 26 | 9 => 9 | 3 => 3 | 46 => 147 | 0 => 0 | 51 => 191 | 53 => 193 | 4 => 4 | 183 => 185 | 182 => 184 | 131 => 153 | 5 => 5 | 218 => 241 | 222 => 245 | 228 => 271 | 229 => 272 | n => n, fun | n => n⟩
theorem Tryz.lays190 : Go.Proofs.Lays.n190 Tryz.prog Tryz.lays190_ren := {
 mixed := by kernel_rfl
 f125 := Tryz.func73.trans (congrArg some (by kernel_rfl))
 f128 := Tryz.func122.trans (congrArg some (by kernel_rfl))
 f129 := Tryz.func123.trans (congrArg some (by kernel_rfl))
 f190 := Tryz.func131.trans (congrArg some (by kernel_rfl))
 f258 := Tryz.func178.trans (congrArg some (by kernel_rfl))
 f302 := Tryz.func200.trans (congrArg some (by kernel_rfl))
 f303 := Tryz.func201.trans (congrArg some (by kernel_rfl))
 f304 := Tryz.func202.trans (congrArg some (by kernel_rfl))
 f305 := Tryz.func203.trans (congrArg some (by kernel_rfl))
 f306 := Tryz.func204.trans (congrArg some (by kernel_rfl))
 f307 := Tryz.func205.trans (congrArg some (by kernel_rfl))
 f308 := Tryz.func129.trans (congrArg some (by kernel_rfl))
 f309 := Tryz.func206.trans (congrArg some (by kernel_rfl))
 f310 := Tryz.func207.trans (congrArg some (by kernel_rfl))
 f329 := Tryz.func171.trans (congrArg some (by kernel_rfl))
 f330 := Tryz.func172.trans (congrArg some (by kernel_rfl))
 f333 := Tryz.func226.trans (congrArg some (by kernel_rfl))
 f334 := Tryz.func227.trans (congrArg some (by kernel_rfl))
 f335 := Tryz.func228.trans (congrArg some (by kernel_rfl))
 f336 := Tryz.func177.trans (congrArg some (by kernel_rfl))
 f344 := Tryz.func252.trans (congrArg some (by kernel_rfl))
 t0 := Tryz.underlying0
 a0 := Tryz.isAgg0
 z0 := Tryz.sizeOf0
 v0 := Tryz.zeroValue0
 t3 := Tryz.underlying3
 a3 := Tryz.isAgg3
 z3 := Tryz.sizeOf3
 v3 := Tryz.zeroValue3
 t4 := Tryz.underlying4
 a4 := Tryz.isAgg4
 z4 := Tryz.sizeOf4
 v4 := Tryz.zeroValue4
 t5 := Tryz.underlying5
 a5 := Tryz.isAgg5
 z5 := Tryz.sizeOf5
 v5 := Tryz.zeroValue5
 t9 := Tryz.underlying9
 a9 := Tryz.isAgg9
 z9 := Tryz.sizeOf9
 v9 := Tryz.zeroValue9
 t31 := Tryz.underlying26
 a31 := Tryz.isAgg26
 z31 := Tryz.sizeOf26
 v31 := Tryz.zeroValue26
 t46 := Tryz.underlying147
 a46 := Tryz.isAgg147
 z46 := Tryz.sizeOf147
 v46 := Tryz.zeroValue147
 t51 := Tryz.underlying191
 a51 := Tryz.isAgg191
 z51 := Tryz.sizeOf191
 v51 := Tryz.zeroValue191
 t53 := Tryz.underlying193
 a53 := Tryz.isAgg193
 z53 := Tryz.sizeOf193
 v53 := Tryz.zeroValue193
 t131 := Tryz.underlying153
 a131 := Tryz.isAgg153
 z131 := Tryz.sizeOf153
 v131 := Tryz.zeroValue153
 t182 := Tryz.underlying184
 a182 := Tryz.isAgg184
 z182 := Tryz.sizeOf184
 v182 := Tryz.zeroValue184
 t183 := Tryz.underlying185
 a183 := Tryz.isAgg185
 z183 := Tryz.sizeOf185
 v183 := Tryz.zeroValue185
 t218 := Tryz.underlying241
 a218 := Tryz.isAgg241
 z218 := Tryz.sizeOf241
 v218 := Tryz.zeroValue241
 t222 := Tryz.underlying245
 a222 := Tryz.isAgg245
 z222 := Tryz.sizeOf245
 v222 := Tryz.zeroValue245
 t228 := Tryz.underlying271
 a228 := Tryz.isAgg271
 z228 := Tryz.sizeOf271
 v228 := Tryz.zeroValue271
 t229 := Tryz.underlying272
 a229 := Tryz.isAgg272
 z229 := Tryz.sizeOf272
 v229 := Tryz.zeroValue272 }
def Tryz.lays194_ren : Go.Shelf.Ren := ⟨fun | 194 => 132 | n => n, fun | 31 => 26 | 9 => 9 | 3 => 3 | 4 => 4 | 0 => 0 | n => n, fun | n => n⟩
theorem Tryz.lays194 : Go.Proofs.Lays.n194 Tryz.prog Tryz.lays194_ren := {
 mixed := by kernel_rfl
 f194 := Tryz.func132.trans (congrArg some (by kernel_rfl))
 t0 := Tryz.underlying0
 a0 := Tryz.isAgg0
 z0 := Tryz.sizeOf0
 v0 := Tryz.zeroValue0
 t3 := Tryz.underlying3
 a3 := Tryz.isAgg3
 z3 := Tryz.sizeOf3
 v3 := Tryz.zeroValue3
 t4 := Tryz.underlying4
 a4 := Tryz.isAgg4
 z4 := Tryz.sizeOf4
 v4 := Tryz.zeroValue4
 t9 := Tryz.underlying9
 a9 := Tryz.isAgg9
 z9 := Tryz.sizeOf9
 v9 := Tryz.zeroValue9
 t31 := Tryz.underlying26
 a31 := Tryz.isAgg26
 z31 := Tryz.sizeOf26
 v31 := Tryz.zeroValue26 }
def Tryz.lays171_ren : Go.Shelf.Ren := ⟨fun | 171 => 36 | 243 => 68 | 246 => 111 | 283 => 158 | 284 => 159 | 285 => 160 | 286 => 161 | 129 => 123 | 317 => 190 | 318 => 191 | 319 => 192 | 320 => 193 | 337 => 221 | 338 => 222 | n => n, fun | 3 => 3 | 9 => 9 | 2 => 2 | 4 => 4 | 171 => 229 | 0 => 0 | 53 => 193 | 37 => 231 | 5 => 5 | 173 => 232 | 212 => 265 | 51 => 191 | 20 => 20 | 213 => 266 | 46 => 147 | 232 => 302 | 233 => 303 | n => n, fun | 17 => 1 | 18 => 2 | 19 => 3 | n => n⟩
theorem Tryz.lays171 : Go.Proofs.Lays.n171 Tryz.prog Tryz.lays171_ren := {
 mixed := by kernel_rfl
 f129 := Tryz.func123.trans (congrArg some (by kernel_rfl))
 f171 := Tryz.func36.trans (congrArg some (by kernel_rfl))
 f243 := Tryz.func68.trans (congrArg some (by kernel_rfl))
 f246 := Tryz.func111.trans (congrArg some (by kernel_rfl))
 f283 := Tryz.func158.trans (congrArg some (by kernel_rfl))
 f284 := Tryz.func159.trans (congrArg some (by kernel_rfl))
 f285 := Tryz.func160.trans (congrArg some (by kernel_rfl))
 f286 := Tryz.func161.trans (congrArg some (by kernel_rfl))
 f317 := Tryz.func190.trans (congrArg some (by kernel_rfl))
 f318 := Tryz.func191.trans (congrArg some (by kernel_rfl))
 f319 := Tryz.func192.trans (congrArg some (by kernel_rfl))
 f320 := Tryz.func193.trans (congrArg some (by kernel_rfl))
 f337 := Tryz.func221.trans (congrArg some (by kernel_rfl))
 f338 := Tryz.func222.trans (congrArg some (by kernel_rfl))
 t0 := Tryz.underlying0
 a0 := Tryz.isAgg0
 z0 := Tryz.sizeOf0
 v0 := Tryz.zeroValue0
 t2 := Tryz.underlying2
 a2 := Tryz.isAgg2
 z2 := Tryz.sizeOf2
 v2 := Tryz.zeroValue2
 t3 := Tryz.underlying3
 a3 := Tryz.isAgg3
 z3 := Tryz.sizeOf3
 v3 := Tryz.zeroValue3
 t4 := Tryz.underlying4
 a4 := Tryz.isAgg4
 z4 := Tryz.sizeOf4
 v4 := Tryz.zeroValue4
 t5 := Tryz.underlying5
 a5 := Tryz.isAgg5
 z5 := Tryz.sizeOf5
 v5 := Tryz.zeroValue5
 t9 := Tryz.underlying9
 a9 := Tryz.isAgg9
 z9 := Tryz.sizeOf9
 v9 := Tryz.zeroValue9
 t20 := Tryz.underlying20
 a20 := Tryz.isAgg20
 z20 := Tryz.sizeOf20
 v20 := Tryz.zeroValue20
 t37 := Tryz.underlying231
 a37 := Tryz.isAgg231
 z37 := Tryz.sizeOf231
 v37 := Tryz.zeroValue231
 t46 := Tryz.underlying147
 a46 := Tryz.isAgg147
 z46 := Tryz.sizeOf147
 v46 := Tryz.zeroValue147
 t51 := Tryz.underlying191
 a51 := Tryz.isAgg191
 z51 := Tryz.sizeOf191
 v51 := Tryz.zeroValue191
 t53 := Tryz.underlying193
 a53 := Tryz.isAgg193
 z53 := Tryz.sizeOf193
 v53 := Tryz.zeroValue193
 t171 := Tryz.underlying229
 a171 := Tryz.isAgg229
 z171 := Tryz.sizeOf229
 v171 := Tryz.zeroValue229
 t173 := Tryz.underlying232
 a173 := Tryz.isAgg232
 z173 := Tryz.sizeOf232
 v173 := Tryz.zeroValue232
 t212 := Tryz.underlying265
 a212 := Tryz.isAgg265
 z212 := Tryz.sizeOf265
 v212 := Tryz.zeroValue265
 t213 := Tryz.underlying266
 a213 := Tryz.isAgg266
 z213 := Tryz.sizeOf266
 t232 := Tryz.underlying302
 a232 := Tryz.isAgg302
 z232 := Tryz.sizeOf302
 v232 := Tryz.zeroValue302
 t233 := Tryz.underlying303
 a233 := Tryz.isAgg303
 z233 := Tryz.sizeOf303
 v233 := Tryz.zeroValue303
 g17 := by kernel_rfl
 g18 := by kernel_rfl
 g19 := by kernel_rfl }
end
end Go.Proofs
namespace Go.Proofs.YtpcaaekefgkhjaaGreatDoor
set_option maxRecDepth 100000
set_option linter.unusedVariables false
set_option linter.unusedSimpArgs false
section
open Go.HL
/-- math/bits.Len64 -/
theorem zjW [Tracks]   : ConP Tryz.prog 123 [.int .u64 0] (.int .i64 0) := by
 refine Con.of_body Tryz.func123 rfl Tryz.ntmps123 rfl rfl ?_
 refine za ?_
 refine das rfl ?_
 refine dn ?_
 refine zj ?_
 refine za ?_
 refine dmv rfl ?_
 refine dq (zbS rfl rfl) ?_
 refine dn ?_
 refine zdI rfl ?_
 refine zm ?_
 refine zh ?_
 refine zj ?_
 refine za ?_
 refine dmv rfl ?_
 refine dq (zbS rfl rfl) ?_
 refine dn ?_
 refine zdI rfl ?_
 refine zm ?_
 refine zh ?_
 refine zj ?_
 refine za ?_
 refine dmv rfl ?_
 refine dq (zbS rfl rfl) ?_
 refine dn ?_
 refine zdI rfl ?_
 refine zm ?_
 refine zh ?_
 refine za ?_
 refine dmv rfl ?_
 refine dmv rfl ?_
 refine dq (zc1 zsA ty5 rfl) ?_
 refine dq (zcr (j := 0) (b := 0) ty9 rfl rfl rfl rfl) ?_
 refine dq (zc1 ty5 ty3 rfl) ?_
 refine dq (zB rfl rfl (by decide) (by decide)) ?_
 refine das rfl ?_
 refine dn ?_
 refine zl ?_
 refine zD rfl ?_
 rfl

/-- math/bits.Len -/
theorem zk9 [Tracks]   : ConP Tryz.prog 73 [.int .u64 0] (.int .i64 0) := by
 refine Con.of_body Tryz.func73 rfl Tryz.ntmps73 rfl rfl ?_
 refine za ?_
 refine das rfl ?_
 refine dn ?_
 refine zj ?_
 refine zdI rfl ?_
 refine zm ?_
 refine zh ?_
 refine za ?_
 refine dmv rfl ?_
 refine dq (zo zsQ rfl (WeakL.refl _) zjW) ?_
 refine das rfl ?_
 refine dn ?_
 refine zl ?_
 refine zD rfl ?_
 rfl

/-- slices.insertionSortOrdered[string] -/
theorem zeh [Tracks]   : ConP Tryz.prog 200 [eSs [], .int .i64 0, .int .i64 0] (.tup []) := by
 refine Con.of_body Tryz.func200 rfl Tryz.ntmps200 rfl rfl ?_
 refine za ?_
 refine dmv rfl ?_
 refine dq (zB rfl rfl (by omega) (by omega)) ?_
 refine das rfl ?_
 refine dn ?_
 refine zq ?_
 refine zak [6, 7, 10, 11, 12, 13, 14, 15, 16, 17, 18, 19, 20, 21, 22, 23, 24, 25, 26, 27, 28, 29, 30, 31, 32, 33, 34, 35, 36, 37, 38, 39, 40, 41, 42, 43, 44, 45, 46, 47, 48] (fun (u : Unit) => [(6, .int .i64 1)]) (fun (u : Unit) => []) (fun (u : Unit) => True) (fun (u : Unit) => 0) (()) ?_ ?_ ?_ ?_
 ·trivial
 ·exact ⟨rfl, trivial⟩
 ·exact List.Perm.refl _
 ·intro u hu
  refine zj ?_
  refine za ?_
  refine dmv rfl ?_
  refine dmv rfl ?_
  refine dq (zS rfl rfl) ?_
  refine dn ?_
  refine zdI rfl ?_
  refine zX ?_
  refine z7 ?_
  refine zaw ?_
  refine zO ?_
  refine zsG rfl ?_
  rfl

/-- slices.pdqsortOrdered[string] -/
theorem zfk [Tracks]   : ConP Tryz.prog 178 [eSs [], .int .i64 0, .int .i64 0, .int .i64 0] (.tup []) := by
 refine Con.of_body Tryz.func178 rfl Tryz.ntmps178 rfl rfl ?_
 refine za ?_
 refine das rfl ?_
 refine dn ?_
 refine za ?_
 refine das rfl ?_
 refine dn ?_
 refine zq ?_
 refine zak (1 :: 2 :: 3 :: 8 :: 9 :: 10 :: 11 :: 12 :: 13 :: 14 :: 15 :: 16 :: 17 :: 18 :: 19 :: 20 :: 21 :: 22 :: 23 :: 24 :: 25 :: 26 :: 27 :: 28 :: 29 :: 30 :: 31 :: 32 :: 33 :: 34 :: 35 :: 36 :: 37 :: 38 :: 39 :: 40 :: 41 :: 42 :: 43 :: 44 :: 45 :: 46 :: 47 :: 48 :: 49 :: 50 :: 51 :: 52 :: 53 :: 54 :: 55 :: 56 :: 57 :: 58 :: 59 :: 60 :: 61 :: 62 :: 63 :: 64 :: 65 :: 66 :: 67 :: 68 :: 69 :: 70 :: 71 :: 72 :: 73 :: 74 :: 75 :: 76 :: 77 :: 78 :: 79 :: 80 :: 81 :: 82 :: 83 :: 84 :: 85 :: 86 :: 87 :: 88 :: 89 :: 90 :: 91 :: 92 :: 93 :: 94 :: 95 :: 96 :: 97 :: 98 :: 99 :: 100 :: 101 :: 102 :: 103 :: 104 :: 105 :: 106 :: 107 :: 108 :: 109 :: 110 :: 111 :: 112 :: 113 :: 114 :: 115 :: 116 :: 117 :: 118 :: 119 :: 120 :: 121 :: 122 :: 123 :: 124 :: 125 :: 126 :: 127 :: 128 :: 129 :: 130 :: 131 :: 132 :: 133 :: []) (fun (u : Unit) => [(1, .int .i64 0), (2, .int .i64 0)]) (fun (u : Unit) => []) (fun (u : Unit) => True) (fun (u : Unit) => 0) (()) ?_ ?_ ?_ ?_
 ·trivial
 ·exact ⟨rfl, rfl, trivial⟩
 ·exact List.Perm.refl _
 ·intro u hu
  refine zq ?_
  refine za ?_
  refine dmv rfl ?_
  refine dmv rfl ?_
  refine dq (zap rfl rfl (by omega) (by omega)) ?_
  refine das rfl ?_
  refine dn ?_
  refine zj ?_
  refine za ?_
  refine dmv rfl ?_
  refine dq (zcX rfl rfl) ?_
  refine dn ?_
  refine zmC rfl ?_
  refine za ?_
  refine dmv rfl ?_
  refine dmv rfl ?_
  refine dmv rfl ?_
  refine dq (zo zu3 rfl (WeakL.refl _) zeh) ?_
  refine dn ?_
  refine zl ?_
  refine zD rfl ?_
  rfl

/-- slices.Sort[[]string,string] -/
theorem zjY [Tracks]   : ConP Tryz.prog 131 [eSs []] (.tup []) := by
 refine Con.of_body Tryz.func131 rfl Tryz.ntmps131 rfl rfl ?_
 refine za ?_
 refine dmv rfl ?_
 refine dq (zK zP rfl) ?_
 refine das rfl ?_
 refine dn ?_
 refine zC ?_
 refine dmv rfl ?_
 refine dmv rfl ?_
 refine dmv rfl ?_
 refine dq (zc1 ty3 zh2 rfl) ?_
 refine dq (zo zry rfl (WeakL.refl _) zk9) ?_
 refine dq (zo zuv rfl (WeakL.refl _) zfk) ?_
 refine dn ?_
 refine zsG rfl ?_
 rfl

/-- slices.Sort: the slice holds the same strings in order -/
theorem zfW [Tracks] {l : List Str} {v : Value} (hl : l.length ≤ 1000000) : Con Tryz.prog 131 [.raw v] [.arr v 1 (l.map .str)] fun x M' => x = .tup [] ∧ M' = [.arr v 1 ((zbj l).map .str)] :=
 ztn (zee l) (fun b off cap w h1 h2 _ => Any.slices_Sort_string Tryz.lays190 b off cap l w h1 h2 (by omega)) (fun _ => zjY)

/-- slices.Compact: the slice is cut to the strings that differ from the one before -/
theorem zgv [Tracks] {l : List Str} {v : Value} (hl : l.length ≤ 1000000) : Con Tryz.prog 132 [.raw v] [.arr v 1 (l.map .str)] fun x M' => ∃ u, x = .raw u ∧ M' = [.arr u 1 ((Lib.compact l).map .str)] :=
 zsa (zqj l) (fun b off cap w h1 h2 h3 => Any.slices_Compact_string Tryz.lays194 b off cap l w h1 (by omega) h3) (fun _ w => Any.slices_Compact_string_empty Tryz.lays194 none 0 w)

/-- benchwarmer/benchref1.once -/
theorem zkf [Tracks] {l : List Str} (hl : l.length ≤ 1000000) : zqk Tryz.prog 96 [eSs l] 1 ((Lib.compact (zbj l)).map .str) := by
 refine Con.of_body Tryz.func96 rfl Tryz.ntmps96 rfl rfl ?_
 refine za ?_
 refine das rfl ?_
 refine dn ?_
 refine za ?_
 refine dmv rfl ?_
 refine de rfl (ze2 zrA rfl (WeakL.refl _) (zco (by assumption)) fun v4 => ?_)
 refine das rfl ?_
 refine dn ?_
 refine za ?_
 refine dmv rfl ?_
 refine de rfl (zbl (M1 := [_]) (R := []) zpW rfl (WeakL.refl _) (List.Perm.refl _) (zfW hl) ?_)
 rintro _ _ ⟨rfl, rfl⟩
 refine dn ?_
 refine za ?_
 refine dmv rfl ?_
 refine de rfl (zbl (M1 := [_]) (R := []) zsx rfl (WeakL.refl _) (List.Perm.refl _) (zgv (l := zbj l) (by rw [zee]; exact hl)) ?_)
 rintro _ _ ⟨u8, rfl, rfl⟩
 refine das rfl ?_
 refine dn ?_
 refine zl ?_
 refine znk rfl ?_
 rfl
end
section
open Go.HL
/-- benchwarmer/benchmake.Below -/
theorem zeD [Tracks] {x n : Int} (hn : n ≤ 4000000000) : ConP Tryz.prog 71 [.int .i64 x, .int .i64 n] (.int .i64 (zeN x n)) := by
 refine Con.of_body Tryz.func71 rfl Tryz.ntmps71 rfl rfl ?_
 refine za ?_
 refine das rfl ?_
 refine dn ?_
 refine zj ?_
 refine za ?_
 refine dmv rfl ?_
 refine dq (zS rfl rfl) ?_
 refine dn ?_
 refine zi rfl (fun h1 => ?_) (fun h2 => ?_)
 ·try simp at h1
  refine za ?_
  refine das rfl ?_
  refine dn ?_
  refine zl ?_
  refine zD rfl ?_
  show HVal.int .i64 _ = _
  simp_all [zeN]
  try omega
 ·try simp at h2
  refine zm ?_
  refine zh ?_
  refine za ?_
  refine dmv rfl ?_
  refine dmv rfl ?_
  refine dq (zjJ rfl rfl (by omega)) ?_
  refine das rfl ?_
  refine dn ?_
  refine zj ?_
  refine za ?_
  refine dmv rfl ?_
  refine dq (zS rfl rfl) ?_
  refine dn ?_
  refine zi rfl (fun h3 => ?_) (fun h4 => ?_)
  ·try simp at h3
   refine zC ?_
   refine dmv rfl ?_
   refine dmv rfl ?_
   have hm := Int.tmod_lt_of_pos x (show 0 < n by omega)
   obtain ⟨y, hy1, hy2⟩ := zi9 x n
   have hb : zeN x n = x.tmod n + n := by unfold zeN; rw [if_neg (by omega), if_pos (by omega)]
   refine dq (zB rfl rfl (by omega) (by omega)) ?_
   refine das rfl ?_
   refine dn ?_
   refine zh ?_
   refine za ?_
   refine dmv rfl ?_
   refine das rfl ?_
   refine dn ?_
   refine zl ?_
   refine zD rfl ?_
   show HVal.int .i64 _ = _
   simp_all [zeN]
   try omega
  ·try simp at h4
   refine zm ?_
   refine zh ?_
   refine za ?_
   refine dmv rfl ?_
   refine das rfl ?_
   refine dn ?_
   refine zl ?_
   refine zD rfl ?_
   show HVal.int .i64 _ = _
   simp_all [zeN]
   try omega

/-- (*benchwarmer/benchmake.Stream).Next -/
theorem zaa [Tracks] {b : Nat} {l : List Int} {a : Nat} {n : Int} (ha : a ≤ 1000000) (hn : n ≤ 4000000000) : Con Tryz.prog 40 [pAt b, .int .i64 n] [St b l a] (fun x M' => ∃ y : Nat, x = .int .i64 (y : Int) ∧ (y : Int) < max n 1 ∧ M' = [St b l (a + 1)]) := by
 refine Con.of_body Tryz.func40 rfl Tryz.ntmps40 rfl rfl ?_
 refine za ?_
 refine das rfl ?_
 refine dn ?_
 refine za ?_
 refine dmv rfl ?_
 refine dq ((zp rfl)) ?_
 refine dq (ze zgB rfl ty3 (by decide) rfl) ?_
 refine de rfl (zJ (i := 0) ty3 rfl rfl (.inl ⟨rfl, rfl⟩) ?_)
 refine dq (zB rfl rfl (by omega) (by omega)) ?_
 refine dq ((zp rfl)) ?_
 refine dq (ze zgB rfl ty3 (by decide) rfl) ?_
 refine de0 (zz (i := 0) ty3 rfl rfl rfl rfl rfl (Nat.le_of_ble_eq_true rfl) ?_)
 refine dn ?_
 refine zj ?_
 refine za ?_
 refine dmv rfl ?_
 refine dq ((zp rfl)) ?_
 refine dq (ze zgB rfl zbL (by decide) rfl) ?_
 refine de rfl (zJ (i := 0) zbL rfl rfl (.inl ⟨rfl, rfl⟩) ?_)
 refine dq (zK zbL rfl) ?_
 refine dq (zau rfl rfl) ?_
 refine dn ?_
 refine zi rfl (fun h1 => ?_) (fun h2 => ?_)
 ·try simp at h1
  refine za ?_
  refine dmv rfl ?_
  refine dq ((zp rfl)) ?_
  refine dq (ze zgB rfl ty3 (by decide) rfl) ?_
  refine de rfl (zJ (i := 0) ty3 rfl rfl (.inl ⟨rfl, rfl⟩) ?_)
  refine dq (zl3 rfl rfl) ?_
  refine dmv rfl ?_
  refine dq (zo zrV rfl (WeakL.refl _) (zeD (by assumption))) ?_
  refine das rfl ?_
  refine dn ?_
  refine zl ?_
  refine zbb rfl ?_
  obtain ⟨y, h1, h2⟩ := zi9 _ n
  exact ⟨y, congrArg _ h1, h2, rfl⟩
 ·try simp at h2
  refine zm ?_
  refine zh ?_
  have hl0 : 0 < l.length := List.length_pos_iff.2 (by simpa using h2)
  refine zaF (fun M => ∃ i : Nat, M[i]? = some (St b l (a + 1))) [3, 8] mixed ?_
  refine ahp 0 rfl rfl (by kernel_rfl) (by kernel_rfl) (zf rfl) ?_
  refine ahp 1 rfl rfl (by kernel_rfl) (by kernel_rfl) ((zp rfl)) ?_
  refine ahp 2 rfl rfl (by kernel_rfl) (by kernel_rfl) (ze zgB rfl ty3 (by decide) rfl) ?_
  refine ahl 3 rfl rfl (by kernel_rfl) (by kernel_rfl) (by simp) (⟨0, rfl⟩) (fun M hM => by obtain ⟨i, hi⟩ := hM; exact zJ (i := i) ty3 rfl hi (.inl ⟨rfl, rfl⟩) ⟨rfl, rfl⟩) ?_
  refine ahp 4 rfl rfl (by kernel_rfl) (by kernel_rfl) (zap rfl rfl (by omega) (by omega)) ?_
  refine ahp 5 rfl rfl (by kernel_rfl) (by kernel_rfl) (zf rfl) ?_
  refine ahp 6 rfl rfl (by kernel_rfl) (by kernel_rfl) ((zp rfl)) ?_
  refine ahp 7 rfl rfl (by kernel_rfl) (by kernel_rfl) (ze zgB rfl zbL (by decide) rfl) ?_
  refine ahl 8 rfl rfl (by kernel_rfl) (by kernel_rfl) (by simp) (⟨0, rfl⟩) (fun M hM => by obtain ⟨i, hi⟩ := hM; exact zJ (i := i) zbL rfl hi (.inl ⟨rfl, rfl⟩) ⟨rfl, rfl⟩) ?_
  refine ahp 9 rfl rfl (by kernel_rfl) (by kernel_rfl) (zK zbL rfl) ?_
  refine ahp 10 rfl rfl (by kernel_rfl) (by kernel_rfl) (zfn (h' := .int .i64 ((a % l.length : Nat) : Int)) (zjJ rfl rfl (by omega)) (by show HVal.int .i64 (((a : Int) + 1 - 1).tmod _) = _; rw [show ((a : Int) + 1 - 1) = (a : Int) by omega]; exact congrArg _ (zsm _ _))) ?_
  refine ahp 11 rfl rfl (by kernel_rfl) (by kernel_rfl) (zar rfl) ?_
  refine ahz (by kernel_rfl) ?_
  refine zaF (fun M => ∃ i : Nat, M[i]? = some (St b l (a + 1))) [3, 8] mixed ?_
  refine ahp 0 rfl rfl (by kernel_rfl) (by kernel_rfl) (zf rfl) ?_
  refine ahp 1 rfl rfl (by kernel_rfl) (by kernel_rfl) ((zp rfl)) ?_
  refine ahp 2 rfl rfl (by kernel_rfl) (by kernel_rfl) (ze zgB rfl ty3 (by decide) rfl) ?_
  refine ahl 3 rfl rfl (by kernel_rfl) (by kernel_rfl) (by simp) (⟨0, rfl⟩) (fun M hM => by obtain ⟨i, hi⟩ := hM; exact zJ (i := i) ty3 rfl hi (.inl ⟨rfl, rfl⟩) ⟨rfl, rfl⟩) ?_
  refine ahp 4 rfl rfl (by kernel_rfl) (by kernel_rfl) (zap rfl rfl (by omega) (by omega)) ?_
  refine ahp 5 rfl rfl (by kernel_rfl) (by kernel_rfl) (zf rfl) ?_
  refine ahp 6 rfl rfl (by kernel_rfl) (by kernel_rfl) ((zp rfl)) ?_
  refine ahp 7 rfl rfl (by kernel_rfl) (by kernel_rfl) (ze zgB rfl zbL (by decide) rfl) ?_
  refine ahl 8 rfl rfl (by kernel_rfl) (by kernel_rfl) (by simp) (⟨0, rfl⟩) (fun M hM => by obtain ⟨i, hi⟩ := hM; exact zJ (i := i) zbL rfl hi (.inl ⟨rfl, rfl⟩) ⟨rfl, rfl⟩) ?_
  refine ahp 9 rfl rfl (by kernel_rfl) (by kernel_rfl) (zK zbL rfl) ?_
  refine ahp 10 rfl rfl (by kernel_rfl) (by kernel_rfl) (ztm rfl rfl (by omega)) ?_
  refine ahp 11 rfl rfl (by kernel_rfl) (by kernel_rfl) (zar rfl) ?_
  refine ahz (by kernel_rfl) ?_
  refine za ?_
  refine dmv rfl ?_
  refine dq ((zp rfl)) ?_
  refine dq (ze zgB rfl zbL (by decide) rfl) ?_
  refine de rfl (zJ (i := 0) zbL rfl rfl (.inl ⟨rfl, rfl⟩) ?_)
  refine dmv rfl ?_
  refine dq (zW (j := a % l.length) (a := l[a % l.length]'(Nat.mod_lt _ (by omega))) zbL ty3 rfl rfl rfl (List.getElem?_eq_getElem _)) ?_
  refine dq (zg ty3 rfl rfl rfl) ?_
  refine dq (zo zrV rfl (WeakL.refl _) (zeD (by omega))) ?_
  refine dmv rfl ?_
  refine dmv rfl ?_
  refine dq (zjO rfl rfl) ?_
  refine dq (zl3 rfl rfl) ?_
  refine dq (zjO rfl rfl) ?_
  refine dmv rfl ?_
  refine dq (zo zrV rfl (WeakL.refl _) (zeD (by assumption))) ?_
  refine das rfl ?_
  refine dn ?_
  refine zl ?_
  refine zbb rfl ?_
  obtain ⟨y, h1, h2⟩ := zi9 _ n
  exact ⟨y, congrArg _ h1, h2, rfl⟩

/-- (*benchwarmer/benchmake.Stream).Range -/
theorem zI [Tracks] {b : Nat} {l : List Int} {a : Nat} {lo hi : Int} (ha : a ≤ 1000000) (hlh : lo ≤ hi) (h0 : -1000000000 ≤ lo) (h1 : hi ≤ 1000000000) : Con Tryz.prog 29 [pAt b, .int .i64 lo, .int .i64 hi] [St b l a] (fun x M' => ∃ y : Int, x = .int .i64 y ∧ (lo ≤ y ∧ y ≤ hi) ∧ M' = [St b l (a + 1)]) := by
 refine Con.of_body Tryz.func29 rfl Tryz.ntmps29 rfl rfl ?_
 refine za ?_
 refine das rfl ?_
 refine dn ?_
 refine zj ?_
 refine za ?_
 refine dmv rfl ?_
 refine dmv rfl ?_
 refine dq (zS rfl rfl) ?_
 refine dn ?_
 refine zi rfl (fun h1 => ?_) (fun h1 => ?_)
 ·exfalso
  try simp at h1
  omega
 ·try simp at h1
  refine zm ?_
  refine zh ?_
  refine za ?_
  refine dmv rfl ?_
  refine dmv rfl ?_
  refine dmv rfl ?_
  refine dmv rfl ?_
  refine dq (zap rfl rfl (by omega) (by omega)) ?_
  refine dq (zB rfl rfl (by omega) (by omega)) ?_
  refine de rfl (zd (i := 0) zdA rfl (WeakL.refl _) rfl (zaa (by assumption) (by omega)) ?_)
  rintro _ _ ⟨y17, rfl, hy17, rfl⟩
  refine dq (zB rfl rfl (by omega) (by omega)) ?_
  refine das rfl ?_
  refine dn ?_
  refine zl ?_
  exact zbb rfl ⟨_, rfl, by omega, rfl⟩

/-- (*benchwarmer/benchmake.Stream).Flip -/
theorem zal [Tracks] {b : Nat} {l : List Int} {a : Nat} {n : Int} (ha : a ≤ 1000000) (hn : n ≤ 4000000000) : Con Tryz.prog 33 [pAt b, .int .i64 n] [St b l a] (fun x M' => ∃ y : Bool, x = .bool y ∧ M' = [St b l (a + 1)]) := by
 refine Con.of_body Tryz.func33 rfl Tryz.ntmps33 rfl rfl ?_
 refine za ?_
 refine das rfl ?_
 refine dn ?_
 refine za ?_
 refine dmv rfl ?_
 refine dmv rfl ?_
 refine de rfl (zd (i := 0) zdA rfl (WeakL.refl _) rfl (zaa (by assumption) (by assumption)) ?_)
 rintro _ _ ⟨y7, rfl, hy7, rfl⟩
 refine dq (zau rfl rfl) ?_
 refine das rfl ?_
 refine dn ?_
 refine zl ?_
 exact zbb rfl ⟨_, rfl, rfl⟩

/-- (*benchwarmer/benchmake.Stream).Pick -/
theorem zc [Tracks] {b : Nat} {l : List Int} {a : Nat} {L : List Int} (ha : a ≤ 1000000) (h0 : 0 < L.length) (h1 : L.length ≤ 1000000) : Con Tryz.prog 10 [pAt b, .slice 1 (L.map (.int .i64))] [St b l a] (fun x M' => ∃ y : Int, x = .int .i64 y ∧ y ∈ L ∧ M' = [St b l (a + 1)]) := by
 refine Con.of_body Tryz.func10 rfl Tryz.ntmps10 rfl rfl ?_
 refine za ?_
 refine das rfl ?_
 refine dn ?_
 refine za ?_
 refine dmv rfl ?_
 refine dmv rfl ?_
 refine dmv rfl ?_
 refine dq (zK zbL rfl) ?_
 refine de rfl (zd (i := 0) zdA rfl (WeakL.refl _) rfl (zaa (by assumption) (by omega)) ?_)
 rintro _ _ ⟨y9, rfl, hy9, rfl⟩
 obtain ⟨z, hz, hm⟩ := getI hy9 h0
 refine dq (zW (j := y9) (a := z) zbL ty3 rfl rfl rfl hz) ?_
 refine dq (zg ty3 rfl rfl rfl) ?_
 refine das rfl ?_
 refine dn ?_
 refine zl ?_
 exact zbb rfl ⟨_, rfl, hm, rfl⟩

/-- (*benchwarmer/benchmake.Stream).Some -/
theorem zk [Tracks] {b : Nat} {l : List Int} {a : Nat} {L : List Str} (ha : a ≤ 1000000) (h0 : 0 < L.length) (h1 : L.length ≤ 1000000) : Con Tryz.prog 11 [pAt b, eSs L] [St b l a] (fun x M' => ∃ y : Str, x = .str y ∧ y ∈ L ∧ M' = [St b l (a + 1)]) := by
 refine Con.of_body Tryz.func11 rfl Tryz.ntmps11 rfl rfl ?_
 refine za ?_
 refine das rfl ?_
 refine dn ?_
 refine za ?_
 refine dmv rfl ?_
 refine dmv rfl ?_
 refine dmv rfl ?_
 refine dq (zK zP rfl) ?_
 refine de rfl (zd (i := 0) zdA rfl (WeakL.refl _) rfl (zaa (by assumption) (by omega)) ?_)
 rintro _ _ ⟨y9, rfl, hy9, rfl⟩
 obtain ⟨z, hz, hm⟩ := getS hy9 h0
 refine dq (zW (j := y9) (a := z) zP ty9 rfl rfl rfl hz) ?_
 refine dq (zg ty9 rfl rfl rfl) ?_
 refine das rfl ?_
 refine dn ?_
 refine zl ?_
 exact zbb rfl ⟨_, rfl, hm, rfl⟩

/-- (*benchwarmer/benchmake.Stream).Odd -/
theorem zao [Tracks] {b : Nat} {l : List Int} {a : Nat} {lo hi : Int} (ha : a ≤ 900000) (hlh : lo ≤ hi) (h0 : -1000000000 ≤ lo) (h1 : hi ≤ 1000000000) : Con Tryz.prog 35 [pAt b, .int .i64 lo, .int .i64 hi] [St b l a] (fun x M' => ∃ y : Int, x = .int .i64 y ∧ M' = [St b l (a + 2)]) := by
 refine Con.of_body Tryz.func35 rfl Tryz.ntmps35 rfl rfl ?_
 refine za ?_
 refine das rfl ?_
 refine dn ?_
 refine zj ?_
 refine za ?_
 refine dmv rfl ?_
 refine de rfl (zd (i := 0) zeE rfl (WeakL.refl _) rfl (zal (by omega) (by omega)) ?_)
 rintro _ _ ⟨y8, rfl, rfl⟩
 refine dn ?_
 refine zi rfl (fun h1 => ?_) (fun h2 => ?_)
 ·try simp at h1
  refine za ?_
  refine dmv rfl ?_
  refine dmv rfl ?_
  refine dq (zap rfl rfl (by omega) (by omega)) ?_
  refine dmv rfl ?_
  refine dq (zB rfl rfl (by omega) (by omega)) ?_
  refine dmv rfl ?_
  refine dmv rfl ?_
  refine dq (zG (hs := [_, _, _, _, _, _]) zbL ty3 rfl rfl (by decide) (by decide) rfl) ?_
  refine de rfl (zd (i := 0) zV rfl (WeakL.refl _) rfl (zc (L := [_, _, _, _, _, _]) (by omega) (by simp_all) (by simp_all)) ?_)
  rintro _ _ ⟨y17, rfl, hy17, rfl⟩
  refine das rfl ?_
  refine dn ?_
  refine zl ?_
  exact zbb rfl ⟨_, rfl, rfl⟩
 ·try simp at h2
  refine zm ?_
  refine zh ?_
  refine za ?_
  refine dmv rfl ?_
  refine dmv rfl ?_
  refine dmv rfl ?_
  refine de rfl (zd (i := 0) zbT rfl (WeakL.refl _) rfl (zI (by omega) (by assumption) (by assumption) (by assumption)) ?_)
  rintro _ _ ⟨y21, rfl, hy21, rfl⟩
  refine das rfl ?_
  refine dn ?_
  refine zl ?_
  exact zbb rfl ⟨_, rfl, rfl⟩
end
section
open Go.HL
/-- strconv.Itoa of a small number -/
theorem zhw [Tracks] {i : Nat} (hi : i < 100) : ConP Tryz.prog 36 [.int .i64 (i : Int)] (.str (Lib.decDigits i)) :=
 zm9 fun I w args ha => by
  obtain ⟨u, rfl, hu⟩ := ha.one
  obtain rfl := hu.int_inv
  exact ⟨_, .str _, Any.strconv_Itoa_small Tryz.lays171 i hi w⟩
end
end Go.Proofs.YtpcaaekefgkhjaaGreatDoor
section
namespace Go.HL
section
variable {P : Program} {ops : Array Oper} {n : Nat} {S : List MObj → Prop} {ld : List Nat} {K : Env → List MObj → Prop} {e : Env} {M : List MObj} {listed : Array Bool} {fuel : Nat} {d : Nat} {op : Op} {ty : TypeId} {pos : String} {af : Array Edge} {h : HVal}
/-- A load under a guard out of owned objects of which S knows enough is taken first. -/
theorem zhj [Tracks] (i : Nat) {j : Nat} {want c : Bool} (hi : ops[i]? = some ⟨some d, op, ty, pos, af, some (j, want)⟩) (hd : Nat.blt d n = true) (hf : Region.free .any ops listed i = true) (hr : (Region.ready .any ops listed).contains i = true) (hl : i ∈ ld) (hS : S M)
 (hg : zeJ ops e j want = some c) (hp : c = true → ∃ e2, OpenTo e e2 ∧ ∀ M, S M → EOp P e2 M ⟨some d, op, ty, pos, af, some (j, want)⟩ fun x M' => x = h ∧ M' = M)
 (k : HAny P ops n S ld K fuel (listed.setIfInBounds i true) (upd e d (.opt c h)) M) : HAny P ops n S ld K (fuel + 1) listed e M :=
 HAny.first (T := S) hi (fun t ht => by simp at ht; subst ht; exact zeG hd) (.inr ⟨rfl, hl⟩) fuel listed e M (Region.free_spec hi hf) (by simpa using hr)
  ⟨c, hg, fun hc M hM => by
   obtain ⟨e2, h1, h2⟩ := hp hc
   intro I F a w ho hs
   exact Oper.wp_noQ (fun _ _ ⟨v, x, M', J, h3, h4, ⟨e1, e3⟩, h5, h6⟩ => ⟨v, .opt c h, M, J, h3, h4, ⟨rfl, rfl⟩, .opt (fun _ => e1 ▸ h5) (fun hf => by rw [hc] at hf; cases hf), e3 ▸ h6⟩) (h2 M hM I F a w (ho.open h1) hs),
   fun hc => ⟨h, by rw [hc]⟩⟩ hS k
end
theorem zvb {x : Nat} (h : x < 16) : IntKind.wrap .u8 (x : Int) = (x : Int) := by
 have : (List.range 16).all (fun x => IntKind.wrap .u8 (x : Int) == (x : Int)) = true := by decide
 simpa using List.all_eq_true.1 this x (List.mem_range.2 h)
theorem zpk {x : Nat} (h : x < 16) : IntKind.wrap .u64 (x : Int) = (x : Int) := by
 have : (List.range 16).all (fun x => IntKind.wrap .u64 (x : Int) == (x : Int)) = true := by decide
 simpa using List.all_eq_true.1 this x (List.mem_range.2 h)
theorem zcG {k : IntKind} {a b : Int} (h : a = b) : some (HVal.int k a) = some (.int k b) := by rw [h]
section
variable {α : Type} {c : α → α → Int}
theorem zj6 (l : List α) : zbf c (l.take 1) ++ l.drop 1 = l := by
 cases l with
 | nil => rfl
 | cons x r => simp [zbf, zdb, zh6]
theorem zgh {A R : List α} {x : α} : (A ++ x :: R)[A.length]? = some x := by simp
theorem zex {A R : List α} {x : α} (h : 0 < A.length) : (A ++ x :: R)[A.length - 1]? = some ((A[A.length - 1]?).getD x) := by
 rw [List.getElem?_append_left (by omega), List.getElem?_eq_getElem (by omega)]
 simp [List.getElem?_eq_getElem (show A.length - 1 < A.length by omega)]
theorem zl1 {A : List α} (h : 0 < A.length) : ∃ B y, A = B ++ [y] := by
 have hne : A ≠ [] := fun e => by subst e; simp at h
 exact ⟨_, _, (List.dropLast_concat_getLast hne).symm⟩
theorem zeb {A : List α} {y d : α} : ((A ++ [y])[(A ++ [y]).length - 1]?).getD d = y := by simp
theorem zoo {A R : List α} {x y : α} : (((A ++ [y]) ++ x :: R).set (A ++ [y]).length y).set ((A ++ [y]).length - 1) x = A ++ x :: y :: R := by
 have e1 : ((A ++ [y]) ++ x :: R).set (A ++ [y]).length y = (A ++ [y]) ++ y :: R := by rw [List.set_append_right _ _ (Nat.le_refl _)]; simp
 rw [e1, List.append_assoc]
 have e2 : (A ++ [y]).length - 1 = A.length := by simp
 rw [e2, List.set_append_right _ _ (Nat.le_refl _)]
 simp
/-- The zc8 loop ends. -/
theorem zoh {l A B : List α} {x : α} {k : Nat} (hx : l[k]? = some x) (hB : zdb c x (zbf c (l.take k)) = zdb c x A ++ B) (h : 0 < A.length → ¬ c x ((A[A.length - 1]?).getD x) < 0) : A ++ x :: (B ++ l.drop (k + 1)) = zbf c (l.take (k + 1)) ++ l.drop (k + 1) := by
 rw [zaI hx, zlF, hB]
 rcases Nat.eq_zero_or_pos A.length with h0 | h0
 ·obtain rfl := List.length_eq_zero_iff.1 h0
  simp [zsn]
 ·obtain ⟨A', y, rfl⟩ := zl1 h0
  have := h h0
  rw [zeb] at this
  rw [zmH, if_neg this]; simp
theorem zn9 {A B : List α} {x y : α} {S : List α} (hB : zdb c x S = zdb c x (A ++ [y]) ++ B) (h : c x y < 0) : zdb c x S = zdb c x A ++ (y :: B) := by
 rw [hB, zmH, if_pos h]; simp
end
end Go.HL
namespace Go.HL
section
variable {α : Type} {p : α → Bool}
/-- What slices.DeleteFunc has done when it looks at place j. -/
structure DelInv (p : α → Bool) (l : List α) (j : Nat) (D : List α) : Prop where
 len : D.length = l.length
 jle : j ≤ l.length
 lt : ((l.take j).filter (fun x => !p x)).length < j
 kept : D.take ((l.take j).filter (fun x => !p x)).length = (l.take j).filter (fun x => !p x)
 rest : D.drop j = l.drop j
theorem zoF {l : List α} {j : Nat} {x : α} (hx : l[j]? = some x) : (l.take (j + 1)).filter (fun x => !p x) = (l.take j).filter (fun x => !p x) ++ if p x then [] else [x] := by
 rw [zaI hx, List.filter_append]
 by_cases h : p x <;> simp [h]
theorem DelInv.get {l D : List α} {j : Nat} {x : α} (h : DelInv p l j D) (hx : l[j]? = some x) : D[j]? = some x := by
 have h1 := congrArg (fun t => t[0]?) h.rest
 simp only [List.getElem?_drop, Nat.add_zero] at h1
 rw [h1]; exact hx
theorem DelInv.start {l : List α} {i : Nat} {x : α} (hi : i < l.length) (hx : l[i]? = some x) (hp : p x = true) (hb : ∀ y ∈ l.take i, p y = false) : DelInv p l (i + 1) l ∧ ((l.take (i + 1)).filter (fun x => !p x)).length = i := by
 have e := zoF (p := p) hx
 rw [if_pos hp, List.append_nil, (List.filter_eq_self (l := l.take i) (p := fun x => !p x)).2 (fun y hy => by simp [hb y hy])] at e
 have hl : (l.take i).length = i := by simp; omega
 refine ⟨⟨rfl, by omega, by rw [e]; omega, by rw [e, hl], rfl⟩, by rw [e, hl]⟩
theorem DelInv.done {l D : List α} (h : DelInv p l l.length D) : D.take (l.filter (fun x => !p x)).length = l.filter (fun x => !p x) := by
 have := h.kept
 rwa [List.take_length] at this
end
theorem zrv {cap off sz m n : Nat} (h1 : m ≤ n) (h2 : n ≤ cap) : n - m = 0 ∨ zg5 cap off sz m = off + m * sz := by
 unfold zg5
 by_cases h : cap = m
 ·exact .inl (by omega)
 ·exact .inr (by rw [if_neg h])
end Go.HL
namespace Go.HL
end Go.HL
end
namespace Go.Proofs.YtpcaaekefgkhjaaGreatDoor
set_option maxRecDepth 100000
set_option linter.unusedVariables false
set_option linter.unusedSimpArgs false
section
open Go.HL
/-- math/bits.Len64 -/
theorem zlL [Tracks] {x : Nat} (hx : x < 16) : Con Tryz.prog 123 [.int .u64 (x : Int)] [] (fun y M' => ∃ n : Int, y = .int .i64 n ∧ M' = []) := by
 refine Con.of_body Tryz.func123 rfl Tryz.ntmps123 rfl rfl ?_
 refine za ?_
 refine das rfl ?_
 refine dn ?_
 refine zj ?_
 refine za ?_
 refine dmv rfl ?_
 refine dq (zbS rfl rfl) ?_
 refine dn ?_
 refine zi rfl (fun h1 => ?_) (fun h1 => ?_)
 ·exfalso
  try simp at h1
  omega
 ·try simp at h1
  refine zm ?_
  refine zh ?_
  refine zj ?_
  refine za ?_
  refine dmv rfl ?_
  refine dq (zbS rfl rfl) ?_
  refine dn ?_
  refine zi rfl (fun h2 => ?_) (fun h2 => ?_)
  ·exfalso
   try simp at h2
   omega
  ·try simp at h2
   refine zm ?_
   refine zh ?_
   refine zj ?_
   refine za ?_
   refine dmv rfl ?_
   refine dq (zbS rfl rfl) ?_
   refine dn ?_
   refine zi rfl (fun h3 => ?_) (fun h3 => ?_)
   ·exfalso
    try simp at h3
    omega
   ·try simp at h3
    refine zm ?_
    refine zh ?_
    refine za ?_
    refine dmv rfl ?_
    refine dmv rfl ?_
    refine dq (zc1 zsA ty5 rfl) ?_
    refine dq (zcr (j := x) ty9 rfl rfl (zvb hx) (List.getElem?_eq_getElem (Nat.lt_of_lt_of_le hx (Nat.le_of_ble_eq_true (by kernel_rfl))))) ?_
    refine dq (zc1 ty5 ty3 rfl) ?_
    refine dq (zjO rfl rfl) ?_
    refine das rfl ?_
    refine dn ?_
    refine zl ?_
    exact zbb rfl ⟨_, rfl, rfl⟩

/-- math/bits.Len -/
theorem zjd [Tracks] {x : Nat} (hx : x < 16) : Con Tryz.prog 73 [.int .u64 (x : Int)] [] (fun y M' => ∃ n : Int, y = .int .i64 n ∧ M' = []) := by
 refine Con.of_body Tryz.func73 rfl Tryz.ntmps73 rfl rfl ?_
 refine za ?_
 refine das rfl ?_
 refine dn ?_
 refine zj ?_
 refine zdI rfl ?_
 refine zm ?_
 refine zh ?_
 refine za ?_
 refine dmv rfl ?_
 refine de rfl (zbl (M1 := []) (R := []) zsQ rfl (WeakL.refl _) (List.Perm.refl _) (zlL hx) ?_)
 rintro _ _ ⟨n7, rfl, rfl⟩
 refine das rfl ?_
 refine dn ?_
 refine zl ?_
 exact zbb rfl ⟨_, rfl, rfl⟩

set_option maxHeartbeats 1000000 in
/-- slices.insertionSortCmpFunc[benchwarmer/api.Asset] -/
theorem zdU [Tracks] {l : List Asset} {v : Value} {fid : FuncId} {caps : List HVal} {c : Asset → Asset → Int} {n : Int} (hca : Callable Tryz.prog fid) (hp : ∀ x y, ConP Tryz.prog fid ([zbM x, zbM y] ++ caps) (.int .i64 (c x y))) (hn : n = l.length) (hl : l.length ≤ 1000000) : Con Tryz.prog 241 [.raw v, .int .i64 0, .int .i64 n, .fn (.func fid) [] caps] [.arr v 3 (l.map zbM)] (fun x M' => x = .tup [] ∧ M' = [.arr v 3 ((zbf c l).map zbM)]) := by
 subst hn
 refine Con.of_body Tryz.func241 rfl Tryz.ntmps241 rfl rfl ?_
 refine za ?_
 refine dmv rfl ?_
 refine dq (zB rfl rfl (by omega) (by omega)) ?_
 refine das rfl ?_
 refine dn ?_
 refine zq ?_
 refine zak [8, 9, 12, 13, 14, 15, 16, 17, 18, 19, 20, 21, 22, 23, 24, 25, 26, 27, 28, 29, 30, 31, 32, 33, 34, 35, 36, 37, 38, 39, 40, 41, 42, 43, 44, 45, 46, 47, 48, 49, 50, 51, 52] (fun (k : Nat) => [(8, .int .i64 (k : Int))]) (fun (k : Nat) => [.arr v 3 ((zbf c (l.take k) ++ l.drop k).map zbM)]) (fun (k : Nat) => 1 ≤ k) (fun (k : Nat) => l.length - k) (1) ?_ ?_ ?_ ?_
 ·exact Nat.le_refl _
 ·exact ⟨rfl, trivial⟩
 ·exact zR (by rw [zj6])
 ·intro k hk
  refine zj ?_
  refine za ?_
  refine dmv rfl ?_
  refine dmv rfl ?_
  refine dq (zS rfl rfl) ?_
  refine dn ?_
  refine zi rfl (fun h1 => ?_) (fun h2 => ?_)
  ·try simp at h1
   obtain ⟨x, hx⟩ : ∃ x, l[k]? = some x := ⟨_, List.getElem?_eq_getElem (by omega)⟩
   refine zdc (i := 0) rfl (fun h0 he => ?_) (fun b off cap hv hcap => ?_)
   ·exfalso; have := congrArg List.length he; simp [zcw] at this; omega
   rw [show ((zbf c (l.take k) ++ l.drop k).map zbM).length = l.length by simp [zcw]; omega] at hv
   subst hv
   refine zm ?_
   refine zh ?_
   refine zj ?_
   refine zq ?_
   refine za ?_
   refine dmv rfl ?_
   refine das rfl ?_
   refine dn ?_
   refine zq ?_
   refine zbi [9, 18, 19, 20, 21, 22, 23, 24, 25, 26, 27, 28, 29, 30, 31, 32, 33, 34, 35, 36, 37, 38, 39, 40, 41, 42, 43, 44, 45, 46, 47, 48, 49, 50, 51, 52] (fun (A : List Asset) (B : List Asset) => [(9, .int .i64 (A.length : Int))]) (fun (A : List Asset) (B : List Asset) => [.arr (.slice (some ⟨b, off, none⟩) l.length cap) 3 ((A ++ x :: (B ++ l.drop (k + 1))).map zbM)]) (fun (A : List Asset) (B : List Asset) => A.length + B.length = k ∧ zdb c x (zbf c (l.take k)) = zdb c x A ++ B) (fun (A : List Asset) (B : List Asset) => A.length) (zbf c (l.take k)) ([]) ?_ ?_ ?_ ?_
   ·exact ⟨by simp [zcw]; omega, by simp⟩
   ·exact ⟨zcG (by simp [zcw]; omega), trivial⟩
   ·exact zR (by rw [zU hx]; rfl)
   ·intro A B hinv
    obtain ⟨hA, hB⟩ := hinv
    have hlA : A.length < l.length := by omega
    have hll : ((A ++ x :: (B ++ l.drop (k + 1)))).length = l.length := by simp; omega
    refine zj ?_
    refine zaF (fun M => M = [.arr (.slice (some ⟨b, off, none⟩) l.length cap) 3 ((A ++ x :: (B ++ l.drop (k + 1))).map zbM)]) [8, 13] mixed ?_
    refine ahp 0 rfl rfl (by kernel_rfl) (by kernel_rfl) (zf rfl) ?_
    refine ahp 1 rfl rfl (by kernel_rfl) (by kernel_rfl) (zf rfl) ?_
    refine ahp 2 rfl rfl (by kernel_rfl) (by kernel_rfl) (zae rfl rfl) ?_
    refine ahp 3 rfl rfl (by kernel_rfl) (by kernel_rfl) (zf rfl) ?_
    refine ahg 4 rfl rfl (by kernel_rfl) (by kernel_rfl) rfl (fun hc => ⟨_, OpenTo.refl _, zf rfl⟩) ?_
    refine ahg 5 rfl rfl (by kernel_rfl) (by kernel_rfl) rfl (fun hc => ⟨_, OpenTo.refl _, zf rfl⟩) ?_
    refine ahg 6 rfl rfl (by kernel_rfl) (by kernel_rfl) rfl (fun hc => ⟨_, OpenTo.refl _, zf rfl⟩) ?_
    refine ahg 7 rfl rfl (by kernel_rfl) (by kernel_rfl) rfl (fun hc => by
     have hq : 0 < A.length := by simpa using hc
     exact ⟨_, OpenTo.upd (t := 24) rfl (hc) (OpenTo.upd (t := 23) rfl (hc) (OpenTo.refl _)), zaC (j := A.length) zcC za2 rfl rfl (by rfl) (by omega)⟩) ?_
    refine zhj 8 rfl rfl (by kernel_rfl) (by kernel_rfl) (by simp) rfl rfl (fun hc => ⟨_, OpenTo.upd (t := 25) rfl (hc) (OpenTo.refl _), fun M hM => by
     subst hM; exact zb0 (i := 0) (j := A.length) za2 rfl rfl rfl zgh rfl rfl rfl ⟨rfl, rfl⟩
     ⟩) ?_
    refine ahg 9 rfl rfl (by kernel_rfl) (by kernel_rfl) rfl (fun hc => ⟨_, OpenTo.refl _, zf rfl⟩) ?_
    refine ahg 10 rfl rfl (by kernel_rfl) (by kernel_rfl) rfl (fun hc => ⟨_, OpenTo.refl _, zf rfl⟩) ?_
    refine ahg 11 rfl rfl (by kernel_rfl) (by kernel_rfl) rfl (fun hc => by
     have hq : 0 < A.length := by simpa using hc
     exact ⟨_, OpenTo.upd (t := 28) rfl (hc) (OpenTo.refl _), zap rfl rfl (by omega) (by omega)⟩) ?_
    refine ahg 12 rfl rfl (by kernel_rfl) (by kernel_rfl) rfl (fun hc => by
     have hq : 0 < A.length := by simpa using hc
     exact ⟨_, OpenTo.upd (t := 29) rfl (hc) (OpenTo.upd (t := 27) rfl (hc) (OpenTo.refl _)), zaC (j := A.length - 1) zcC za2 rfl rfl (by omega) (by omega)⟩) ?_
    refine zhj 13 rfl rfl (by kernel_rfl) (by kernel_rfl) (by simp) rfl rfl (fun hc => ⟨_, OpenTo.upd (t := 30) rfl (hc) (OpenTo.refl _), fun M hM => by
     have hq : 0 < A.length := by simpa using hc
     subst hM; exact zb0 (i := 0) (j := A.length - 1) za2 rfl rfl rfl (zex hq) rfl rfl rfl ⟨rfl, rfl⟩
     ⟩) ?_
    refine ahg 14 rfl rfl (by kernel_rfl) (by kernel_rfl) rfl (fun hc => ⟨_, OpenTo.upd (t := 31) rfl (hc) (OpenTo.upd (t := 26) rfl (hc) (OpenTo.upd (t := 22) rfl (hc) (OpenTo.refl _))), zfN hca rfl rfl (WeakL.refl _) (hp _ _)⟩) ?_
    refine ahg 15 rfl rfl (by kernel_rfl) (by kernel_rfl) rfl (fun hc => ⟨_, OpenTo.upd (t := 32) rfl (hc) (OpenTo.refl _), zS rfl rfl⟩) ?_
    refine ahp 16 rfl rfl (by kernel_rfl) (by kernel_rfl) (zA rfl (.inr ⟨_, rfl, fun h => by simp_all⟩) (.inl rfl)) ?_
    refine ahz (by kernel_rfl) ?_
    refine zi rfl (fun h3 => ?_) (fun h4 => ?_)
    ·try simp at h3
     obtain ⟨hA0, hcx⟩ := h3
     obtain ⟨A1, y, rfl⟩ := zl1 hA0
     rw [zeb] at hcx
     refine zm ?_
     refine zh ?_
     refine zj ?_
     refine zq ?_
     refine zbU (fun M => M = [.arr (.slice (some ⟨b, off, none⟩) l.length cap) 3 (((A1 ++ [y]) ++ x :: (B ++ l.drop (k + 1))).map zbM)]) [9, 13] mixed ?_
     refine ahp 0 rfl rfl (by kernel_rfl) (by kernel_rfl) (zf rfl) ?_
     refine ahp 1 rfl rfl (by kernel_rfl) (by kernel_rfl) (zf rfl) ?_
     refine ahp 2 rfl rfl (by kernel_rfl) (by kernel_rfl) (zf rfl) ?_
     refine ahp 3 rfl rfl (by kernel_rfl) (by kernel_rfl) (zf rfl) ?_
     refine ahp 4 rfl rfl (by kernel_rfl) (by kernel_rfl) (zap rfl rfl (by omega) (by omega)) ?_
     refine ahp 5 rfl rfl (by kernel_rfl) (by kernel_rfl) (zf rfl) ?_
     refine ahp 6 rfl rfl (by kernel_rfl) (by kernel_rfl) (zf rfl) ?_
     refine ahp 7 rfl rfl (by kernel_rfl) (by kernel_rfl) (zap rfl rfl (by omega) (by omega)) ?_
     refine ahp 8 rfl rfl (by kernel_rfl) (by kernel_rfl) (zaC (j := (A1 ++ [y]).length - 1) zcC za2 rfl rfl (by omega) (by omega)) ?_
     refine ahl 9 rfl rfl (by kernel_rfl) (by kernel_rfl) (by simp) rfl (fun M hM => by subst hM; exact zb0 (i := 0) (j := (A1 ++ [y]).length - 1) za2 rfl rfl rfl ((zex hA0).trans (by rw [zeb])) rfl rfl rfl ⟨rfl, rfl⟩) ?_
     refine ahp 10 rfl rfl (by kernel_rfl) (by kernel_rfl) (zf rfl) ?_
     refine ahp 11 rfl rfl (by kernel_rfl) (by kernel_rfl) (zf rfl) ?_
     refine ahp 12 rfl rfl (by kernel_rfl) (by kernel_rfl) (zaC (j := (A1 ++ [y]).length) zcC za2 rfl rfl rfl (by omega)) ?_
     refine ahl 13 rfl rfl (by kernel_rfl) (by kernel_rfl) (by simp) rfl (fun M hM => by subst hM; exact zb0 (i := 0) (j := (A1 ++ [y]).length) za2 rfl rfl rfl zgh rfl rfl rfl ⟨rfl, rfl⟩) ?_
     refine ahp 14 rfl rfl (by kernel_rfl) (by kernel_rfl) (zaC (j := (A1 ++ [y]).length) zcC za2 rfl rfl rfl (by omega)) ?_
     refine ahe 15 rfl (by kernel_rfl) ?_
     refine zab (zdV (i := 0) (j := (A1 ++ [y]).length) (y := x) (y' := y) za2 rfl rfl rfl rfl zgh rfl rfl rfl ?_)
     refine ⟨fun _ => .inr (by simp [zaO, Region.binds]), ?_⟩
     refine ahp 16 rfl rfl (by kernel_rfl) (by kernel_rfl) (zaC (j := (A1 ++ [y]).length - 1) zcC za2 rfl rfl (by omega) (by omega)) ?_
     refine ahe 17 rfl (by kernel_rfl) ?_
     refine zab (zdV (i := 0) (j := (A1 ++ [y]).length - 1) (y := y) (y' := x) za2 rfl rfl rfl rfl (by rw [List.getElem?_set_ne (by simp)]; exact (zex hA0).trans (by rw [zeb])) rfl rfl rfl ?_)
     refine ⟨fun _ => .inr (by simp [zaO, Region.binds]), ?_⟩
     refine ahz (by kernel_rfl) ?_
     refine zy ?_
     refine zh ?_
     refine zC ?_
     refine dmv rfl ?_
     refine dq (zap rfl rfl (by omega) (by omega)) ?_
     refine das rfl ?_
     refine dn ?_
     exact ⟨A1, y :: B, ⟨by simp at hA ⊢; omega, zn9 hB hcx⟩, by dsimp only; simp, ⟨zcG (by simp), trivial⟩, (by repeat (first | exact zt | refine zw rfl ?_ | refine zu rfl rfl ?_)), zR (by rw [zoo]; rfl)⟩
    ·try simp at h4
     have hins := zoh (l := l) (k := k) hx hB (by intro h0; have := h4 h0; omega)
     refine zX ?_
     refine z7 ?_
     refine zbr ?_
     refine zO ?_
     refine zy ?_
     refine zh ?_
     refine zC ?_
     refine dmv rfl ?_
     refine dq (zB rfl rfl (by omega) (by omega)) ?_
     refine das rfl ?_
     refine dn ?_
     refine ⟨k + 1, ?_, ?_, ⟨rfl, trivial⟩, (by repeat (first | exact zt | refine zw rfl ?_ | refine zu rfl rfl ?_)), zR (by rw [hins])⟩
     ·omega
     ·dsimp only; omega
  ·try simp at h2
   have hend : zbf c (l.take k) ++ l.drop k = zbf c l := by rw [List.take_of_length_le (by omega), zaV (by omega)]; simp
   refine zX ?_
   refine z7 ?_
   refine zaw ?_
   refine zO ?_
   exact ⟨_, _, Ghost.sub (Sub.refl _), _, _, rfl, Weak.refl _, rfl, by rw [hend]⟩

/-- slices.pdqsortCmpFunc[benchwarmer/api.Asset] -/
theorem zeI [Tracks] {l : List Asset} {v : Value} {fid : FuncId} {caps : List HVal} {c : Asset → Asset → Int} {lim : Int} (hca : Callable Tryz.prog fid) (hp : ∀ x y, ConP Tryz.prog fid ([zbM x, zbM y] ++ caps) (.int .i64 (c x y))) (hl : l.length ≤ 12) : Con Tryz.prog 220 [.raw v, .int .i64 0, .int .i64 (l.length : Int), .int .i64 lim, .fn (.func fid) [] caps] [.arr v 3 (l.map zbM)] (fun x M' => x = .tup [] ∧ M' = [.arr v 3 ((zbf c l).map zbM)]) := by
 refine Con.of_body Tryz.func220 rfl Tryz.ntmps220 rfl rfl ?_
 refine za ?_
 refine das rfl ?_
 refine dn ?_
 refine za ?_
 refine das rfl ?_
 refine dn ?_
 refine zq ?_
 refine zak (1 :: 2 :: 3 :: 10 :: 11 :: 12 :: 13 :: 14 :: 15 :: 16 :: 17 :: 18 :: 19 :: 20 :: 21 :: 22 :: 23 :: 24 :: 25 :: 26 :: 27 :: 28 :: 29 :: 30 :: 31 :: 32 :: 33 :: 34 :: 35 :: 36 :: 37 :: 38 :: 39 :: 40 :: 41 :: 42 :: 43 :: 44 :: 45 :: 46 :: 47 :: 48 :: 49 :: 50 :: 51 :: 52 :: 53 :: 54 :: 55 :: 56 :: 57 :: 58 :: 59 :: 60 :: 61 :: 62 :: 63 :: 64 :: 65 :: 66 :: 67 :: 68 :: 69 :: 70 :: 71 :: 72 :: 73 :: 74 :: 75 :: 76 :: 77 :: 78 :: 79 :: 80 :: 81 :: 82 :: 83 :: 84 :: 85 :: 86 :: 87 :: 88 :: 89 :: 90 :: 91 :: 92 :: 93 :: 94 :: 95 :: 96 :: 97 :: 98 :: 99 :: 100 :: 101 :: 102 :: 103 :: 104 :: 105 :: 106 :: 107 :: 108 :: 109 :: 110 :: 111 :: 112 :: 113 :: 114 :: 115 :: 116 :: 117 :: 118 :: 119 :: 120 :: 121 :: 122 :: 123 :: 124 :: 125 :: 126 :: 127 :: 128 :: 129 :: 130 :: 131 :: 132 :: 133 :: 134 :: 135 :: 136 :: 137 :: 138 :: 139 :: 140 :: 141 :: 142 :: 143 :: 144 :: 145 :: 146 :: 147 :: []) (fun (u : Unit) => [(1, .int .i64 0), (2, .int .i64 (l.length : Int))]) (fun (u : Unit) => [.arr v 3 (l.map zbM)]) (fun (u : Unit) => True) (fun (u : Unit) => 0) (()) ?_ ?_ ?_ ?_
 ·trivial
 ·exact ⟨rfl, rfl, trivial⟩
 ·exact List.Perm.refl _
 ·intro u hu
  refine zq ?_
  refine za ?_
  refine dmv rfl ?_
  refine dmv rfl ?_
  refine dq (zap rfl rfl (by omega) (by omega)) ?_
  refine das rfl ?_
  refine dn ?_
  refine zj ?_
  refine za ?_
  refine dmv rfl ?_
  refine dq (zcX rfl rfl) ?_
  refine dn ?_
  refine zi rfl (fun h1 => ?_) (fun h1 => ?_)
  ·try simp at h1
   refine za ?_
   refine dmv rfl ?_
   refine dmv rfl ?_
   refine dmv rfl ?_
   refine dmv rfl ?_
   refine de rfl (zd (i := 0) zuK rfl (WeakL.refl _) rfl (zdU (l := l) hca hp (by omega) (by omega)) ?_)
   rintro _ _ ⟨rfl, rfl⟩
   refine dn ?_
   refine zl ?_
   exact zbb rfl ⟨rfl, rfl⟩
  ·exfalso
   try simp at h1
   omega

/-- slices.SortFunc[[]benchwarmer/api.Asset,benchwarmer/api.Asset] -/
theorem zd7 [Tracks] {l : List Asset} {v : Value} {fid : FuncId} {caps : List HVal} {c : Asset → Asset → Int} (hca : Callable Tryz.prog fid) (hp : ∀ x y, ConP Tryz.prog fid ([zbM x, zbM y] ++ caps) (.int .i64 (c x y))) (hl : l.length ≤ 12) : Con Tryz.prog 188 [.raw v, .fn (.func fid) [] caps] [.arr v 3 (l.map zbM)] (fun x M' => x = .tup [] ∧ M' = [.arr v 3 ((zbf c l).map zbM)]) := by
 refine Con.of_body Tryz.func188 rfl Tryz.ntmps188 rfl rfl ?_
 refine za ?_
 refine dmv rfl ?_
 refine de rfl (zaG (i := 0) zcC rfl rfl ?_)
 refine das rfl ?_
 refine dn ?_
 refine zC ?_
 refine dmv rfl ?_
 refine dmv rfl ?_
 refine dmv rfl ?_
 refine dq (zfn (zc1 ty3 zh2 rfl) (congrArg _ (zpk (by omega)))) ?_
 refine de rfl (zbl (M1 := []) (R := [_]) zry rfl (WeakL.refl _) (List.Perm.refl _) (zjd (x := l.length) (by omega)) ?_)
 rintro _ _ ⟨n11, rfl, rfl⟩
 refine dmv rfl ?_
 refine de rfl (zd (i := 0) zuA rfl (WeakL.refl _) rfl (zeI hca hp hl) ?_)
 rintro _ _ ⟨rfl, rfl⟩
 refine dn ?_
 exact ⟨_, _, Ghost.sub (Sub.refl _), _, _, rfl, Weak.refl _, rfl, rfl⟩
end
section
open Go.HL

end
section
open Go.HL
/-- benchwarmer/value.assetFault -/
theorem zjh [Tracks] {x : Asset}  : ConP Tryz.prog 155 [zbM x] (.int .i64 (assetFault x)) := by
 refine Con.of_body Tryz.func155 rfl Tryz.ntmps155 rfl rfl ?_
 refine za ?_
 refine dq (zas rfl rfl) ?_
 refine das rfl ?_
 refine dn ?_
 refine zj ?_
 refine zq ?_
 refine za ?_
 refine dq (zb za2 rfl ty9 (by decide) rfl) ?_
 refine dq (zg ty9 rfl rfl rfl) ?_
 refine dq (zo ze9 rfl (WeakL.refl _) zbH) ?_
 refine dq (zac rfl) ?_
 refine dmv rfl ?_
 refine dg rfl rfl (fun hc => ⟨_, OpenTo.refl _, zb za2 rfl ty9 (by decide) rfl⟩) ?_
 refine dg rfl rfl (fun hc => ⟨_, OpenTo.upd (t := 9) rfl (hc) (OpenTo.refl _), zg ty9 rfl rfl rfl⟩) ?_
 refine dg rfl rfl (fun hc => ⟨_, OpenTo.upd (t := 10) rfl (hc) (OpenTo.refl _), zo ze9 rfl (WeakL.refl _) zbH⟩) ?_
 refine dg rfl rfl (fun hc => ⟨_, OpenTo.upd (t := 11) rfl (hc) (OpenTo.refl _), zac rfl⟩) ?_
 refine dq (zA rfl (.inl rfl) (.inr ⟨_, rfl, fun h => by simp_all⟩)) ?_
 refine das rfl ?_
 refine dn ?_
 refine zi rfl (fun h1 => ?_) (fun h2 => ?_)
 ·try simp at h1
  refine za ?_
  refine das rfl ?_
  refine dn ?_
  refine zl ?_
  refine zD rfl ?_
  show HVal.int .i64 _ = _
  simp_all [assetFault]
 ·try simp at h2
  refine za ?_
  refine dq (zb za2 rfl ty3 (by decide) rfl) ?_
  refine dq (zg ty3 rfl rfl rfl) ?_
  refine dq (zo zdD rfl (WeakL.refl _) zbc) ?_
  refine das rfl ?_
  refine dn ?_
  refine zi rfl (fun h3 => ?_) (fun h4 => ?_)
  ·try simp at h3
   refine za ?_
   refine das rfl ?_
   refine dn ?_
   refine zl ?_
   refine zD rfl ?_
   show HVal.int .i64 _ = _
   simp_all [assetFault]
  ·try simp at h4
   refine zm ?_
   refine zy ?_
   refine zh ?_
   refine za ?_
   refine das rfl ?_
   refine dn ?_
   refine zl ?_
   refine zD rfl ?_
   show HVal.int .i64 _ = _
   simp_all [assetFault]

/-- benchwarmer/value.CheckAssets -/
theorem ziD [Tracks] {l : List Asset} (hl : l.length ≤ 1000000) : ConP Tryz.prog 105 [zgi l] (.int .i64 (zcT l)) := by
 refine Con.of_body Tryz.func105 rfl Tryz.ntmps105 rfl rfl ?_
 refine za ?_
 refine das rfl ?_
 refine dn ?_
 refine zj ?_
 refine za ?_
 refine dmv rfl ?_
 refine dq (zK zcC rfl) ?_
 refine dq (zae rfl rfl) ?_
 refine dn ?_
 refine zi rfl (fun h1 => ?_) (fun h2 => ?_)
 ·try simp at h1
  refine za ?_
  refine das rfl ?_
  refine dn ?_
  refine zl ?_
  refine zD rfl ?_
  show HVal.int .i64 _ = _
  (rw [zcT, if_pos (by omega)]; done)
 ·try simp at h2
  refine zm ?_
  refine zh ?_
  refine zj ?_
  refine za ?_
  refine dmv rfl ?_
  refine dq (zK zcC rfl) ?_
  refine dmv rfl ?_
  refine dn ?_
  refine zq ?_
  refine zak [2, 3, 4, 5, 11, 12, 13, 14, 15, 16, 17, 18, 19, 20, 21, 22, 23, 24, 25, 26, 27, 28, 29, 30, 31, 32, 33, 34] (fun (k : Nat) => [(11, .int .i64 k)]) (fun (k : Nat) => []) (fun (k : Nat) => k ≤ l.length ∧ (zcT l = zdR l k (l.drop k))) (fun (k : Nat) => l.length - k) (0) ?_ ?_ ?_ ?_
  ·refine ⟨Nat.zero_le _, ?_⟩
   rw [zcT, if_neg (by omega)]; rfl
  ·exact ⟨rfl, trivial⟩
  ·exact List.Perm.refl _
  ·intro k hinv
   obtain ⟨hk, hg⟩ := hinv
   refine za ?_
   refine dq (zS rfl rfl) ?_
   refine dn ?_
   refine zj ?_
   refine zi rfl (fun h3 => ?_) (fun h4 => ?_)
   ·try simp at h3
    obtain ⟨x, hx⟩ : ∃ x, l[k]? = some x := ⟨_, List.getElem?_eq_getElem h3⟩
    have hdx := zU hx
    rw [hdx] at hg
    refine zm ?_
    refine zh ?_
    refine zj ?_
    refine zq ?_
    refine za ?_
    refine dmv rfl ?_
    refine dq (zW zcC za2 rfl rfl rfl (by assumption)) ?_
    refine dq (zH za2 rfl rfl rfl rfl) ?_
    refine de rfl (zY za2 rfl fun b4 => ?_)
    refine das rfl ?_
    refine de0 (zad za2 rfl rfl rfl rfl rfl ?_)
    refine dn ?_
    refine zL (Ghost.fc0 4 rfl) ?_
    refine zj ?_
    refine za ?_
    refine dq (zH za2 rfl rfl rfl rfl) ?_
    refine dq (zo zu6 rfl (WeakL.refl _) zjh) ?_
    refine das rfl ?_
    refine dn ?_
    refine za ?_
    refine dmv rfl ?_
    refine dq (zaD rfl rfl) ?_
    refine dn ?_
    refine zi rfl (fun h5 => ?_) (fun h6 => ?_)
    ·try simp at h5
     refine za ?_
     refine dmv rfl ?_
     refine das rfl ?_
     refine dn ?_
     refine zl ?_
     refine zD rfl ?_
     show HVal.int .i64 _ = _
     (rw [hg]; simp_all [zdR, leS]; done)
    ·try simp at h6
     refine zm ?_
     refine zh ?_
     refine zaF (fun _ => True) [] mixed ?_
     refine ahp 0 rfl rfl (by kernel_rfl) (by kernel_rfl) (zf rfl) ?_
     refine ahp 1 rfl rfl (by kernel_rfl) (by kernel_rfl) (zae rfl rfl) ?_
     refine ahp 2 rfl rfl (by kernel_rfl) (by kernel_rfl) (zf rfl) ?_
     refine ahg 3 rfl rfl (by kernel_rfl) (by kernel_rfl) rfl (fun hc => ⟨_, OpenTo.refl _, zb za2 rfl ty9 (by decide) rfl⟩) ?_
     refine ahg 4 rfl rfl (by kernel_rfl) (by kernel_rfl) rfl (fun hc => ⟨_, OpenTo.upd (t := 24) rfl (hc) (OpenTo.refl _), zg ty9 rfl rfl rfl⟩) ?_
     refine ahg 5 rfl rfl (by kernel_rfl) (by kernel_rfl) rfl (fun hc => ⟨_, OpenTo.refl _, zf rfl⟩) ?_
     refine ahg 6 rfl rfl (by kernel_rfl) (by kernel_rfl) rfl (fun hc => ⟨_, OpenTo.refl _, zf rfl⟩) ?_
     refine ahg 7 rfl rfl (by kernel_rfl) (by kernel_rfl) rfl (fun hc => by have hq := hc; (try simp at hq); exact ⟨_, OpenTo.upd (t := 27) rfl (hc) (OpenTo.refl _), zap rfl rfl (by omega) (by omega)⟩) ?_
     refine ahg 8 rfl rfl (by kernel_rfl) (by kernel_rfl) rfl (fun hc => by have hq := hc; (try simp at hq); exact ⟨_, OpenTo.upd (t := 28) rfl (hc) (OpenTo.upd (t := 26) rfl (hc) (OpenTo.refl _)), zW (j := k - 1) (a := l.getD (k - 1) ziU) zcC za2 rfl rfl (by omega) (getD_some (by omega))⟩) ?_
     refine ahg 9 rfl rfl (by kernel_rfl) (by kernel_rfl) rfl (fun hc => ⟨_, OpenTo.upd (t := 29) rfl (hc) (OpenTo.refl _), zb za2 rfl ty9 (by decide) rfl⟩) ?_
     refine ahg 10 rfl rfl (by kernel_rfl) (by kernel_rfl) rfl (fun hc => ⟨_, OpenTo.upd (t := 30) rfl (hc) (OpenTo.refl _), zg ty9 rfl rfl rfl⟩) ?_
     refine ahg 11 rfl rfl (by kernel_rfl) (by kernel_rfl) rfl (fun hc => ⟨_, OpenTo.upd (t := 31) rfl (hc) (OpenTo.upd (t := 25) rfl (hc) (OpenTo.refl _)), zdt rfl rfl⟩) ?_
     refine ahp 12 rfl rfl (by kernel_rfl) (by kernel_rfl) (zA rfl (.inr ⟨_, rfl, fun h => by simp_all⟩) (.inl rfl)) ?_
     refine ahz (by kernel_rfl) ?_
     refine zi rfl (fun h7 => ?_) (fun h8 => ?_)
     ·try simp at h7
      refine za ?_
      refine das rfl ?_
      refine dn ?_
      refine zl ?_
      refine zD rfl ?_
      show HVal.int .i64 _ = _
      (rw [hg]; simp_all [zdR, leS]; done)
     ·try simp at h8
      refine zm ?_
      refine zy ?_
      refine zh ?_
      refine zC ?_
      refine dq (zB rfl rfl (by omega) (by omega)) ?_
      refine dmv rfl ?_
      refine dn ?_
      refine ⟨k + 1, ?_, ?_, ⟨rfl, trivial⟩, (by repeat (first | exact zt | refine zw rfl ?_ | refine zu rfl rfl ?_)), List.Perm.refl _⟩
      ·refine ⟨by omega, ?_⟩
       rw [hg]; simp_all [zdR, leS]
      ·dsimp only; omega
   ·try simp at h4
    have hnk : l.length ≤ k := by omega
    obtain rfl : k = l.length := by omega
    rw [zaV (Nat.le_refl _)] at hg
    refine zX ?_
    refine z7 ?_
    refine zaw ?_
    refine zO ?_
    refine zh ?_
    refine za ?_
    refine das rfl ?_
    refine dn ?_
    refine zl ?_
    refine zD rfl ?_
    show HVal.int .i64 _ = _
    (rw [hg]; simp_all [zdR, leS]; done)

/-- benchwarmer/value.CheckPlaces -/
theorem ziA [Tracks] {l : List HL.Place} (hl : l.length ≤ 1000000) : ConP Tryz.prog 106 [zjN l] (.int .i64 (zcU l)) := by
 refine Con.of_body Tryz.func106 rfl Tryz.ntmps106 rfl rfl ?_
 refine za ?_
 refine das rfl ?_
 refine dn ?_
 refine zj ?_
 refine za ?_
 refine dmv rfl ?_
 refine dq (zK zia rfl) ?_
 refine dq (zae rfl rfl) ?_
 refine dn ?_
 refine zi rfl (fun h1 => ?_) (fun h2 => ?_)
 ·try simp at h1
  refine za ?_
  refine das rfl ?_
  refine dn ?_
  refine zl ?_
  refine zD rfl ?_
  show HVal.int .i64 _ = _
  (rw [zcU, if_pos (by omega)]; done)
 ·try simp at h2
  refine zm ?_
  refine zh ?_
  refine zj ?_
  refine za ?_
  refine dmv rfl ?_
  refine dq (zK zia rfl) ?_
  refine dmv rfl ?_
  refine dn ?_
  refine zq ?_
  refine zak [2, 3, 4, 10, 11, 12, 13, 14, 15, 16, 17, 18, 19, 20, 21, 22, 23, 24, 25, 26, 27, 28, 29, 30, 31, 32, 33, 34, 35, 36, 37, 38] (fun (k : Nat) => [(10, .int .i64 k)]) (fun (k : Nat) => []) (fun (k : Nat) => k ≤ l.length ∧ (zcU l = zdr l k (l.drop k))) (fun (k : Nat) => l.length - k) (0) ?_ ?_ ?_ ?_
  ·refine ⟨Nat.zero_le _, ?_⟩
   rw [zcU, if_neg (by omega)]; rfl
  ·exact ⟨rfl, trivial⟩
  ·exact List.Perm.refl _
  ·intro k hinv
   obtain ⟨hk, hg⟩ := hinv
   refine za ?_
   refine dq (zS rfl rfl) ?_
   refine dn ?_
   refine zj ?_
   refine zi rfl (fun h3 => ?_) (fun h4 => ?_)
   ·try simp at h3
    obtain ⟨x, hx⟩ : ∃ x, l[k]? = some x := ⟨_, List.getElem?_eq_getElem h3⟩
    have hdx := zU hx
    rw [hdx] at hg
    refine zm ?_
    refine zh ?_
    refine zj ?_
    refine zq ?_
    refine za ?_
    refine dmv rfl ?_
    refine dq (zW zia zdk rfl rfl rfl (by assumption)) ?_
    refine dq (zH zdk rfl rfl rfl rfl) ?_
    refine de rfl (zY zdk rfl fun b4 => ?_)
    refine das rfl ?_
    refine de0 (zad zdk rfl rfl rfl rfl rfl ?_)
    refine dn ?_
    refine zL (Ghost.fc0 4 rfl) ?_
    refine zq ?_
    refine za ?_
    refine dq (zb zdk rfl ty9 (by decide) rfl) ?_
    refine dq (zg ty9 rfl rfl rfl) ?_
    refine dq (zo ze9 rfl (WeakL.refl _) zbH) ?_
    refine dq (zac rfl) ?_
    refine das rfl ?_
    refine dn ?_
    refine zi rfl (fun h5 => ?_) (fun h6 => ?_)
    ·try simp at h5
     refine za ?_
     refine das rfl ?_
     refine dn ?_
     refine zl ?_
     refine zD rfl ?_
     show HVal.int .i64 _ = _
     (rw [hg]; simp_all [zdr, leS]; done)
    ·try simp at h6
     refine za ?_
     refine dq (zb zdk rfl ty3 (by decide) rfl) ?_
     refine dq (zg ty3 rfl rfl rfl) ?_
     refine dq (zo zdD rfl (WeakL.refl _) zbc) ?_
     refine das rfl ?_
     refine dn ?_
     refine zi rfl (fun h7 => ?_) (fun h8 => ?_)
     ·try simp at h7
      refine za ?_
      refine das rfl ?_
      refine dn ?_
      refine zl ?_
      refine zD rfl ?_
      show HVal.int .i64 _ = _
      (rw [hg]; simp_all [zdr, leS]; done)
     ·try simp at h8
      refine zaF (fun _ => True) [] mixed ?_
      refine ahp 0 rfl rfl (by kernel_rfl) (by kernel_rfl) (zf rfl) ?_
      refine ahp 1 rfl rfl (by kernel_rfl) (by kernel_rfl) (zae rfl rfl) ?_
      refine ahp 2 rfl rfl (by kernel_rfl) (by kernel_rfl) (zf rfl) ?_
      refine ahg 3 rfl rfl (by kernel_rfl) (by kernel_rfl) rfl (fun hc => ⟨_, OpenTo.refl _, zb zdk rfl ty9 (by decide) rfl⟩) ?_
      refine ahg 4 rfl rfl (by kernel_rfl) (by kernel_rfl) rfl (fun hc => ⟨_, OpenTo.upd (t := 28) rfl (hc) (OpenTo.refl _), zg ty9 rfl rfl rfl⟩) ?_
      refine ahg 5 rfl rfl (by kernel_rfl) (by kernel_rfl) rfl (fun hc => ⟨_, OpenTo.refl _, zf rfl⟩) ?_
      refine ahg 6 rfl rfl (by kernel_rfl) (by kernel_rfl) rfl (fun hc => ⟨_, OpenTo.refl _, zf rfl⟩) ?_
      refine ahg 7 rfl rfl (by kernel_rfl) (by kernel_rfl) rfl (fun hc => by have hq := hc; (try simp at hq); exact ⟨_, OpenTo.upd (t := 31) rfl (hc) (OpenTo.refl _), zap rfl rfl (by omega) (by omega)⟩) ?_
      refine ahg 8 rfl rfl (by kernel_rfl) (by kernel_rfl) rfl (fun hc => by have hq := hc; (try simp at hq); exact ⟨_, OpenTo.upd (t := 32) rfl (hc) (OpenTo.upd (t := 30) rfl (hc) (OpenTo.refl _)), zW (j := k - 1) (a := l.getD (k - 1) zn5) zia zdk rfl rfl (by omega) (getD_some (by omega))⟩) ?_
      refine ahg 9 rfl rfl (by kernel_rfl) (by kernel_rfl) rfl (fun hc => ⟨_, OpenTo.upd (t := 33) rfl (hc) (OpenTo.refl _), zb zdk rfl ty9 (by decide) rfl⟩) ?_
      refine ahg 10 rfl rfl (by kernel_rfl) (by kernel_rfl) rfl (fun hc => ⟨_, OpenTo.upd (t := 34) rfl (hc) (OpenTo.refl _), zg ty9 rfl rfl rfl⟩) ?_
      refine ahg 11 rfl rfl (by kernel_rfl) (by kernel_rfl) rfl (fun hc => ⟨_, OpenTo.upd (t := 35) rfl (hc) (OpenTo.upd (t := 29) rfl (hc) (OpenTo.refl _)), zdt rfl rfl⟩) ?_
      refine ahp 12 rfl rfl (by kernel_rfl) (by kernel_rfl) (zA rfl (.inr ⟨_, rfl, fun h => by simp_all⟩) (.inl rfl)) ?_
      refine ahp 13 rfl rfl (by kernel_rfl) (by kernel_rfl) (zar rfl) ?_
      refine ahz (by kernel_rfl) ?_
      refine zi rfl (fun h9 => ?_) (fun h10 => ?_)
      ·try simp at h9
       refine za ?_
       refine das rfl ?_
       refine dn ?_
       refine zl ?_
       refine zD rfl ?_
       show HVal.int .i64 _ = _
       (rw [hg]; simp_all [zdr, leS]; done)
      ·try simp at h10
       refine zm ?_
       refine zy ?_
       refine zy ?_
       refine zh ?_
       refine zC ?_
       refine dq (zB rfl rfl (by omega) (by omega)) ?_
       refine dmv rfl ?_
       refine dn ?_
       refine ⟨k + 1, ?_, ?_, ⟨rfl, trivial⟩, (by repeat (first | exact zt | refine zw rfl ?_ | refine zu rfl rfl ?_)), List.Perm.refl _⟩
       ·refine ⟨by omega, ?_⟩
        rw [hg]; simp_all [zdr, leS]
       ·dsimp only; omega
   ·try simp at h4
    have hnk : l.length ≤ k := by omega
    obtain rfl : k = l.length := by omega
    rw [zaV (Nat.le_refl _)] at hg
    refine zX ?_
    refine z7 ?_
    refine zaw ?_
    refine zO ?_
    refine zh ?_
    refine za ?_
    refine das rfl ?_
    refine dn ?_
    refine zl ?_
    refine zD rfl ?_
    show HVal.int .i64 _ = _
    (rw [hg]; simp_all [zdr, leS]; done)

/-- benchwarmer/value.byValue -/
theorem zlI [Tracks] {x y : Asset}  : ConP Tryz.prog 189 [zbM x, zbM y] (.int .i64 (byValue x y)) := by
 refine Con.of_body Tryz.func189 rfl Tryz.ntmps189 rfl rfl ?_
 refine za ?_
 refine dq (zas rfl rfl) ?_
 refine dq (zas rfl rfl) ?_
 refine das rfl ?_
 refine dn ?_
 refine zaF (fun _ => True) [] mixed ?_
 refine ahp 0 rfl rfl (by kernel_rfl) (by kernel_rfl) (zb za2 rfl ty3 (by decide) rfl) ?_
 refine ahp 1 rfl rfl (by kernel_rfl) (by kernel_rfl) (zg ty3 rfl rfl rfl) ?_
 refine ahp 2 rfl rfl (by kernel_rfl) (by kernel_rfl) (zb za2 rfl ty3 (by decide) rfl) ?_
 refine ahp 3 rfl rfl (by kernel_rfl) (by kernel_rfl) (zg ty3 rfl rfl rfl) ?_
 refine ahp 4 rfl rfl (by kernel_rfl) (by kernel_rfl) (zo zlC rfl (WeakL.refl _) zcL) ?_
 refine ahp 5 rfl rfl (by kernel_rfl) (by kernel_rfl) (zb za2 rfl ty9 (by decide) rfl) ?_
 refine ahp 6 rfl rfl (by kernel_rfl) (by kernel_rfl) (zg ty9 rfl rfl rfl) ?_
 refine ahp 7 rfl rfl (by kernel_rfl) (by kernel_rfl) (zb za2 rfl ty9 (by decide) rfl) ?_
 refine ahp 8 rfl rfl (by kernel_rfl) (by kernel_rfl) (zg ty9 rfl rfl rfl) ?_
 refine ahp 9 rfl rfl (by kernel_rfl) (by kernel_rfl) (zo zhk rfl (WeakL.refl _) zbp) ?_
 refine ahp 10 rfl rfl (by kernel_rfl) (by kernel_rfl) (zG (hs := [_, _]) zbL ty3 rfl rfl (by decide) (by decide) rfl) ?_
 refine ahp 11 rfl rfl (by kernel_rfl) (by kernel_rfl) (zo zlb rfl (WeakL.refl _) (zel (l := [_, _]) (by simp))) ?_
 refine ahp 12 rfl rfl (by kernel_rfl) (by kernel_rfl) (zar rfl) ?_
 refine ahz (by kernel_rfl) ?_
 refine zl ?_
 refine zD rfl ?_
 rfl

/-- benchwarmer/value.of -/
theorem zpE [Tracks] {l : List Asset} {pos : Str} (hl : l.length ≤ 12) : ConP Tryz.prog 156 [zgi l, .str pos] (zgi (ofP l pos)) := by
 refine Con.of_body Tryz.func156 rfl Tryz.ntmps156 rfl rfl ?_
 refine za ?_
 refine das rfl ?_
 refine dn ?_
 refine za ?_
 refine das rfl ?_
 refine dn ?_
 refine zL (Ghost.arr_nil 3) ?_
 refine zj ?_
 refine za ?_
 refine dmv rfl ?_
 refine dq (zK zcC rfl) ?_
 refine dmv rfl ?_
 refine dn ?_
 refine zq ?_
 refine zbi [5, 7, 10, 11, 12, 13, 14, 15, 16, 17, 18, 19, 20, 21, 22] (fun (k : Nat) (u : Value) => [(10, .int .i64 k), (5, .raw u)]) (fun (k : Nat) (u : Value) => [.arr u 3 ((zfh (l.take k) pos).map zbM)]) (fun (k : Nat) (u : Value) => k ≤ l.length ∧ (True)) (fun (k : Nat) (u : Value) => l.length - k) (0) (.slice none 0 0) ?_ ?_ ?_ ?_
 ·exact ⟨Nat.zero_le _, by simp_all⟩
 ·exact ⟨rfl, rfl, trivial⟩
 ·exact zR (by simp [zfh])
 ·intro k u hinv
  obtain ⟨hk, -⟩ := hinv
  refine za ?_
  refine dq (zS rfl rfl) ?_
  refine dn ?_
  refine zj ?_
  refine zi rfl (fun h1 => ?_) (fun h2 => ?_)
  ·try simp at h1
   obtain ⟨x, hx⟩ : ∃ x, l[k]? = some x := ⟨_, List.getElem?_eq_getElem h1⟩
   have hdx := zU hx
   refine zm ?_
   refine zh ?_
   refine zj ?_
   refine zq ?_
   refine za ?_
   refine dq (zW zcC za2 rfl rfl rfl (by assumption)) ?_
   refine dq (zH za2 rfl rfl rfl rfl) ?_
   refine de rfl (zY za2 rfl fun b7 => ?_)
   refine de0 (zad za2 rfl rfl rfl rfl rfl ?_)
   refine dn ?_
   refine zL (Ghost.fc0 7 rfl) ?_
   refine za ?_
   refine dq (zb za2 rfl ty9 (by decide) rfl) ?_
   refine dq (zg ty9 rfl rfl rfl) ?_
   refine dmv rfl ?_
   refine dq (zbt rfl rfl) ?_
   refine dn ?_
   refine zi rfl (fun h3 => ?_) (fun h4 => ?_)
   ·try simp at h3
    refine zC ?_
    refine dmv rfl ?_
    refine dq (zH za2 rfl rfl rfl rfl) ?_
    refine dq (zG (hs := [_]) zcC za2 rfl rfl (by decide) (by decide) rfl) ?_
    have hal : (zfh (l.take k) pos).length ≤ 12 := Nat.le_trans (zke _ _) (by simp; omega)
    refine de rfl (zay (i := 0) zcC za2 rfl rfl rfl rfl rfl (by simp [zbe, zn]) (by simp; omega) fun v21 => ?_)
    refine das rfl ?_
    refine dn ?_
    refine zy ?_
    refine zh ?_
    refine zC ?_
    refine dq (zB rfl rfl (by omega) (by omega)) ?_
    refine dmv rfl ?_
    refine dn ?_
    exact ⟨k + 1, _, ⟨by omega, trivial⟩, by dsimp only; omega, ⟨rfl, rfl, trivial⟩, (by repeat (first | exact zt | refine zw rfl ?_ | refine zu rfl rfl ?_)), zR (by dsimp only; rw [zlB hx, if_pos (by simp_all)]; simp)⟩
   ·try simp at h4
    refine zm ?_
    refine zy ?_
    refine zh ?_
    refine zC ?_
    refine dq (zB rfl rfl (by omega) (by omega)) ?_
    refine dmv rfl ?_
    refine dn ?_
    exact ⟨k + 1, _, ⟨by omega, trivial⟩, by dsimp only; omega, ⟨rfl, rfl, trivial⟩, (by repeat (first | exact zt | refine zw rfl ?_ | refine zu rfl rfl ?_)), zR (by dsimp only; rw [zlB hx, if_neg (by simp_all)]; simp)⟩
  ·try simp at h2
   have hnk : l.length ≤ k := by omega
   obtain rfl : k = l.length := by omega
   rw [List.take_length]
   refine zX ?_
   refine z7 ?_
   refine zbr ?_
   refine zO ?_
   refine zh ?_
   have hal := zke l pos
   refine za ?_
   refine dmv rfl ?_
   refine de rfl (zd (i := 0) zuH rfl (WeakL.refl _) rfl (zd7 (l := zfh l pos) (c := byValue) (caps := []) zu5 (fun x y => zlI) (by omega)) ?_)
   rintro _ _ ⟨rfl, rfl⟩
   refine dn ?_
   refine za ?_
   refine dmv rfl ?_
   refine das rfl ?_
   refine dn ?_
   refine zl ?_
   exact zgy (M := []) 4 rfl rfl rfl

set_option maxHeartbeats 1000000 in
/-- benchwarmer/value.fielded -/
theorem zkT [Tracks] {l : List Asset} {p : List HL.Place} (hl : l.length ≤ 12) (hp : p.length ≤ 10) (hm : ∀ x ∈ p, 0 ≤ x.Many) (hv : ∀ x ∈ l, -1000000 ≤ x.Value ∧ x.Value ≤ 1000000) : ConP Tryz.prog 107 [zgi l, zjN p] (.tup [.int .i64 (zdy (zaZ (ofP l) p)), eSs (zli (zaZ (ofP l) p))]) := by
 have hon : ∀ s, (ofP l s).length ≤ 12 := fun s => Nat.le_trans (zth l s) hl
 refine Con.of_body Tryz.func107 rfl Tryz.ntmps107 rfl rfl ?_
 refine za ?_
 refine das rfl ?_
 refine das rfl ?_
 refine dn ?_
 refine za ?_
 refine das rfl ?_
 refine dn ?_
 refine za ?_
 refine das rfl ?_
 refine dn ?_
 refine zL (Ghost.arr_nil 1) ?_
 refine zj ?_
 refine za ?_
 refine dmv rfl ?_
 refine dq (zK zia rfl) ?_
 refine dmv rfl ?_
 refine dn ?_
 refine zq ?_
 refine zbi [6, 7, 9, 10, 12, 15, 16, 17, 18, 19, 20, 21, 22, 23, 24, 25, 26, 27, 28, 29, 30, 31, 32, 33, 34, 35, 36, 37, 38, 39, 40, 41, 42, 43, 44, 45, 46, 47, 48] (fun (i : Nat) (u : Value) => [(15, .int .i64 i), (6, .int .i64 (zdy (zaZ (ofP l) (p.take i)))), (7, .raw u)]) (fun (i : Nat) (u : Value) => [.arr u 1 (((zaZ (ofP l) (p.take i)).map (·.Player)).map .str)]) (fun (i : Nat) (u : Value) => i ≤ p.length ∧ (True)) (fun (i : Nat) (u : Value) => p.length - i) (0) (.slice none 0 0) ?_ ?_ ?_ ?_
 ·exact ⟨Nat.zero_le _, by simp_all⟩
 ·exact ⟨rfl, zcG (by simp [zaZ, zdy]), rfl, trivial⟩
 ·exact zR (by simp [zaZ])
 ·intro i u hinv
  obtain ⟨hi, -⟩ := hinv
  refine za ?_
  refine dq (zS rfl rfl) ?_
  refine dn ?_
  refine zj ?_
  refine zi rfl (fun h1 => ?_) (fun h2 => ?_)
  ·try simp at h1
   obtain ⟨x, hx⟩ : ∃ x, p[i]? = some x := ⟨_, List.getElem?_eq_getElem h1⟩
   have hdx := zU hx
   refine zm ?_
   refine zh ?_
   refine zj ?_
   refine zq ?_
   refine za ?_
   refine dq (zW zia zdk rfl rfl rfl (by assumption)) ?_
   refine dq (zH zdk rfl rfl rfl rfl) ?_
   refine de rfl (zY zdk rfl fun b9 => ?_)
   refine de0 (zad zdk rfl rfl rfl rfl rfl ?_)
   refine dn ?_
   refine zL (Ghost.fc0 9 rfl) ?_
   refine za ?_
   refine dmv rfl ?_
   refine dq (zb zdk rfl ty9 (by decide) rfl) ?_
   refine dq (zg ty9 rfl rfl rfl) ?_
   refine dq (zo zuY rfl (WeakL.refl _) (zpE (by assumption))) ?_
   refine das rfl ?_
   refine dn ?_
   have hx0 := hm x (List.mem_of_getElem? hx)
   have hon1 := hon x.Position
   obtain ⟨N, hN⟩ : ∃ N : Nat, (if ((ofP l x.Position).length : Int) < x.Many then ((ofP l x.Position).length : Int) else x.Many) = (N : Int) := ⟨_, (Int.toNat_of_nonneg (by split <;> omega)).symm⟩
   have hNle : N ≤ (ofP l x.Position).length := by split at hN <;> omega
   refine za ?_
   refine dmv rfl ?_
   refine dq (zb zdk rfl ty3 (by decide) rfl) ?_
   refine dq (zg ty3 rfl rfl rfl) ?_
   refine dmv rfl ?_
   refine dq (zK zcC rfl) ?_
   refine dq (zfn (zo0 rfl rfl) (congrArg _ hN)) ?_
   refine dq (zer (h := N) zcC za2 rfl rfl ⟨_, _, rfl, rfl⟩ (by omega) hNle) ?_
   refine dq (zK zcC rfl) ?_
   refine dmv rfl ?_
   refine dn ?_
   have hCl : ((List.drop 0 (List.take N (ofP l x.Position)))).length ≤ 12 := by simp; omega
   have hCm : ∀ y ∈ (List.drop 0 (List.take N (ofP l x.Position))), y ∈ l := fun y hy => by
    have := List.mem_of_mem_take (List.mem_of_mem_drop hy)
    unfold ofP zfh at this
    exact (List.mem_filter.1 ((zmY _).1 this)).1
   generalize hCd : List.drop 0 (List.take N (ofP l x.Position)) = C at *
   refine zq ?_
   refine zbi [6, 7, 12, 31, 32, 33, 34, 35, 36, 37, 38, 39, 40, 41, 42, 43, 44, 45, 46, 47] (fun (k : Nat) (w : Value) => [(31, .int .i64 k), (6, .int .i64 (zdy ((zaZ (ofP l) (p.take i)) ++ ((C.take k).filter (fun y => decide (0 < y.Value)))))), (7, .raw w)]) (fun (k : Nat) (w : Value) => [.arr w 1 ((((zaZ (ofP l) (p.take i)) ++ ((C.take k).filter (fun y => decide (0 < y.Value)))).map (·.Player)).map .str)]) (fun (k : Nat) (w : Value) => k ≤ C.length ∧ (True)) (fun (k : Nat) (w : Value) => C.length - k) (0) (u) ?_ ?_ ?_ ?_
   ·exact ⟨Nat.zero_le _, by simp_all⟩
   ·exact ⟨rfl, zcG (by simp), rfl, trivial⟩
   ·exact zR (by simp)
   ·intro k w hinv
    obtain ⟨hk, -⟩ := hinv
    refine za ?_
    refine dq (zS rfl rfl) ?_
    refine dn ?_
    refine zj ?_
    refine zi rfl (fun h3 => ?_) (fun h4 => ?_)
    ·try simp at h3
     obtain ⟨y, hy⟩ : ∃ y, C[k]? = some y := ⟨_, List.getElem?_eq_getElem h3⟩
     have hdy := zU hy
     refine zm ?_
     refine zh ?_
     refine zj ?_
     refine zq ?_
     refine za ?_
     refine dq (zW zcC za2 rfl rfl rfl (by assumption)) ?_
     refine dq (zH za2 rfl rfl rfl rfl) ?_
     refine de rfl (zY za2 rfl fun b12 => ?_)
     refine de0 (zad za2 rfl rfl rfl rfl rfl ?_)
     refine dn ?_
     refine zL (Ghost.fc0 12 rfl) ?_
     refine za ?_
     refine dq (zb za2 rfl ty3 (by decide) rfl) ?_
     refine dq (zg ty3 rfl rfl rfl) ?_
     refine dq (zae rfl rfl) ?_
     refine dn ?_
     refine zi rfl (fun h5 => ?_) (fun h6 => ?_)
     ·try simp at h5
      refine za ?_
      refine dmv rfl ?_
      refine dq (zb za2 rfl ty3 (by decide) rfl) ?_
      refine dq (zg ty3 rfl rfl rfl) ?_
      have hb1 := znI (f := ofP l) (p := p) (i := i) (fun s m y => zlh) hon hp hv
      have hb2 := zub (k := k) hCm hCl hv
      have hb3 := hv y (hCm y (List.mem_of_getElem? hy))
      have hb4 := zop (zaZ (ofP l) (p.take i)) ((C.take k).filter (fun y => decide (0 < y.Value)))
      refine dq (zB rfl rfl (by omega) (by omega)) ?_
      refine das rfl ?_
      refine dn ?_
      refine zC ?_
      refine dmv rfl ?_
      refine dq (zb za2 rfl ty9 (by decide) rfl) ?_
      refine dq (zg ty9 rfl rfl rfl) ?_
      refine dq (zG (hs := [_]) zP ty9 rfl rfl (by decide) (by decide) rfl) ?_
      refine de rfl (zay (i := 0) zP ty9 rfl rfl rfl rfl rfl (by simp [zbe, zn]) (by simp only [List.length_map, List.length_append, List.length_cons, List.length_nil]; omega) fun v46 => ?_)
      refine das rfl ?_
      refine dn ?_
      refine zy ?_
      refine zh ?_
      refine zC ?_
      refine dq (zB rfl rfl (by omega) (by omega)) ?_
      refine dmv rfl ?_
      refine dn ?_
      exact ⟨k + 1, _, ⟨by omega, trivial⟩, by dsimp only; omega, ⟨rfl, zcG (by rw [zif hy, if_pos (by simp_all), ← List.append_assoc, zop _ [y]]; simp [zdy]), rfl, trivial⟩, (by repeat (first | exact zt | refine zw rfl ?_ | refine zu rfl rfl ?_)), zR (by dsimp only; rw [zif hy, if_pos (by simp_all)]; simp)⟩
     ·try simp at h6
      refine zm ?_
      refine zy ?_
      refine zh ?_
      refine zC ?_
      refine dq (zB rfl rfl (by omega) (by omega)) ?_
      refine dmv rfl ?_
      refine dn ?_
      exact ⟨k + 1, _, ⟨by omega, trivial⟩, by dsimp only; omega, ⟨rfl, zcG (by rw [zif hy, if_neg (by omega)]; simp), rfl, trivial⟩, (by repeat (first | exact zt | refine zw rfl ?_ | refine zu rfl rfl ?_)), zR (by dsimp only; rw [zif hy, if_neg (by omega)]; simp)⟩
    ·try simp at h4
     have hnk : C.length ≤ k := by omega
     obtain rfl : k = C.length := by omega
     refine zX ?_
     refine z7 ?_
     refine zbr ?_
     refine zO ?_
     refine zy ?_
     refine zh ?_
     refine zC ?_
     refine dq (zB rfl rfl (by omega) (by omega)) ?_
     refine dmv rfl ?_
     refine dn ?_
     exact ⟨i + 1, _, ⟨by omega, trivial⟩, by dsimp only; omega, ⟨rfl, zcG (by rw [ziv _ hx, zmZ hN, hCd, List.take_length]), rfl, trivial⟩, (by repeat (first | exact zt | refine zw rfl ?_ | refine zu rfl rfl ?_)), zR (by dsimp only; rw [ziv _ hx, zmZ hN, hCd, List.take_length])⟩
  ·try simp at h2
   have hni : p.length ≤ i := by omega
   obtain rfl : i = p.length := by omega
   refine zX ?_
   refine z7 ?_
   refine zbr ?_
   refine zO ?_
   refine zh ?_
   rw [List.take_length]
   refine za ?_
   refine dmv rfl ?_
   refine de rfl (zd (i := 0) zpW rfl (WeakL.refl _) rfl (zfW (l := (zaZ (ofP l) p).map (·.Player)) (by have hb1 := znI (f := ofP l) (p := p) (i := p.length) (fun s m y => zlh) hon hp hv; rw [List.take_length] at hb1; simp; omega)) ?_)
   rintro _ _ ⟨rfl, rfl⟩
   refine dn ?_
   refine za ?_
   refine dmv rfl ?_
   refine dmv rfl ?_
   refine das rfl ?_
   refine das rfl ?_
   refine dn ?_
   refine zl ?_
   exact zgy (M := []) 5 rfl rfl rfl
end
section
open Go.HL
/-- benchwarmer/value.Fielded -/
theorem zlf [Tracks] {l : List Asset} {p : List HL.Place} (hl : l.length ≤ 11) (hp : p.length ≤ 1000000) : ConP Tryz.prog 63 [zgi l, zjN p] (.tup [.int .i64 (if zhg l p != 0 then 0 else zqb l p), eSs (if zhg l p != 0 then [] else zli (zaZ (ofP l) p)), .int .i64 (zhg l p)]) := by
 refine Con.of_body Tryz.func63 rfl Tryz.ntmps63 rfl rfl ?_
 refine za ?_
 refine das rfl ?_
 refine das rfl ?_
 refine das rfl ?_
 refine dn ?_
 refine zj ?_
 refine za ?_
 refine dmv rfl ?_
 refine dq (zo zvh rfl (WeakL.refl _) (ziD (by omega))) ?_
 refine dmv rfl ?_
 refine dq (zo zu8 rfl (WeakL.refl _) (ziA (by assumption))) ?_
 refine dq (zG (hs := [_, _]) zg0 zjm rfl rfl (by decide) (by decide) rfl) ?_
 refine dq (zo zrK rfl (WeakL.refl _) (zgF (l := [_, _]) (by simp))) ?_
 refine das rfl ?_
 refine dn ?_
 refine za ?_
 refine dmv rfl ?_
 refine dq (zaD rfl rfl) ?_
 refine dn ?_
 refine zi rfl (fun h1 => ?_) (fun h2 => ?_)
 ·try simp at h1
  refine za ?_
  refine dmv rfl ?_
  refine das rfl ?_
  refine das rfl ?_
  refine das rfl ?_
  refine dn ?_
  refine zl ?_
  (refine zcz rfl (zq0 ?_ ?_ (Weak.refl _))
   ·rw [if_pos (by simpa [zhg] using h1)]; exact Weak.refl _
   ·rw [if_pos (by simpa [zhg] using h1)]; exact za3 1)
 ·try simp at h2
  refine zm ?_
  refine zh ?_
  obtain ⟨hca0, hcp0⟩ := ztg (l := l) (p := p) (by simpa [zhg] using h2)
  obtain ⟨hsr, haf⟩ := zlU hca0
  obtain ⟨hmm, hp10⟩ := zlR hcp0
  have hvv : ∀ x ∈ l, -1000000 ≤ x.Value ∧ x.Value ≤ 1000000 := fun x hx => (ziy (haf x hx)).2.2
  refine za ?_
  refine dmv rfl ?_
  refine dmv rfl ?_
  refine dq (zo zu9 rfl (WeakL.refl _) (zkT (by omega) (by assumption) (by simp_all) (by assumption))) ?_
  refine dmv rfl ?_
  refine dq (z6 rfl rfl) ?_
  refine dq (z6 rfl rfl) ?_
  refine das rfl ?_
  refine das rfl ?_
  refine dn ?_
  refine za ?_
  refine dmv rfl ?_
  refine dmv rfl ?_
  refine das rfl ?_
  refine das rfl ?_
  refine das rfl ?_
  refine dn ?_
  refine zl ?_
  (refine zD rfl ?_
   have h0 : zhg l p = 0 := by simpa [zhg] using h2
   simp [h0, zqb, zbV, zfH])

end
section
open Go.HL

end
section
open Go.HL

end
section
open Go.HL

end
end Go.Proofs.YtpcaaekefgkhjaaGreatDoor
namespace Go.HL
section
def znj : Room := ⟨[[97], [98]], 2, 2, [[112], [113], [114], [115]], 1000, 0⟩
theorem zsg : zbK znj [] = 0 := by kernel_rfl
theorem zoO : zgW znj [] = [[97], [98], [98], [97]] := by kernel_rfl
end
section
open Op (bytesLess)
abbrev zk4 : Pick := ⟨0, [], [], 0, false⟩
theorem zqA {α : Type} {R : α → α → Prop} : ∀ {l : List α}, l.Pairwise R → ∀ x ∈ l, ∀ y ∈ l, x = y ∨ R x y ∨ R y x
 | [], _, x, hx, _, _ => by simp at hx
 | a :: l, h, x, hx, y, hy => by
   obtain ⟨h1, h2⟩ := List.pairwise_cons.1 h
   rcases List.mem_cons.1 hx with e | hx' <;> rcases List.mem_cons.1 hy with e' | hy'
   ·exact .inl (e.trans e'.symm)
   ·exact .inr (.inl (e ▸ h1 y hy'))
   ·exact .inr (.inr (e' ▸ h1 x hx'))
   ·exact zqA h2 x hx' y hy'
/-! keeps that are right -/
def kLt (a b : Keep) : Prop := bytesLess a.Team b.Team = true ∨ (a.Team = b.Team ∧ a.Round < b.Round)
structure KeepsOk (r : Room) (k : List Keep) : Prop where
 all : ∀ x ∈ k, x.Team ∈ r.Teams ∧ x.Player ∈ r.Players ∧ 1 ≤ x.Round ∧ x.Round ≤ r.Rounds
 lt : k.Pairwise kLt
theorem ziW {l : List Str} : ∀ (r : List Str) (k : Nat), zbk l k r = 0 → ∀ s ∈ r, key s = true
 | [], _, _, s, hs => by simp at hs
 | x :: r, k, h, s, hs => by
   simp only [zbk] at h
   split at h
   ·omega
   ·rename_i h1
    split at h
    ·omega
    ·rcases List.mem_cons.1 hs with rfl | hs
     ·simpa using h1
     ·exact ziW r (k + 1) h s hs
structure RoomOk (r : Room) : Prop where
 sorted : SortedS r.Players
 t20 : r.Teams.length ≤ 20
 t0 : 0 < r.Teams.length
 r1 : 1 ≤ r.Rounds
 r30 : r.Rounds ≤ 30
 p500 : r.Players.length ≤ 500
 ne : ∀ s ∈ r.Players, s ≠ []
 many : (r.Teams.length : Int) * r.Rounds ≤ r.Players.length
 clock : 1000 ≤ r.Clock ∧ r.Clock ≤ 86400000
 start : za4 r.Start = true
theorem zs0 {r : Room} (h : zbn r = 0) : RoomOk r := by
 obtain ⟨a1, a2, a3, a4, a5, a6⟩ := zgw h
 unfold zbn at h
 split at h
 ·rename_i hc; simp [h] at hc
 ·split at h
  ·omega
  ·split at h
   ·omega
   ·split at h
    ·rename_i hc; simp [h] at hc
    ·rename_i hp
     split at h
     ·omega
     ·rename_i hcl
      split at h
      ·omega
      ·rename_i hm
       simp at hcl hp
       refine ⟨a1, a2, a3, a4, a5, a6, fun s hs e => ?_, by omega, zdK hcl.1, hcl.2⟩
       unfold playersFault at hp
       split at hp
       ·omega
       ·have := ziW _ 0 hp s hs
        subst e; simp [key, zf4] at this
def fits (t : Turn) (x : Keep) : Bool := decide (x.Team = t.of ∧ x.Round = t.round)
theorem zkM (r : Room) (t : Turn) : ∀ (k : List Keep) (p : Pick), (zja r t p k).No = p.No ∧ (zja r t p k).Team = p.Team
 | [], p => ⟨rfl, rfl⟩
 | x :: k, p => by
   obtain ⟨h1, h2⟩ := zkM r t k (if x.Team = t.of ∧ x.Round = t.round then { p with Player := x.Player, At := r.Start } else p)
   simp only [zja]; rw [h1, h2]
   split <;> exact ⟨rfl, rfl⟩
theorem KeepsOk.one {r : Room} {k : List Keep} (h : KeepsOk r k) {t : Turn} {x y : Keep} (hx : x ∈ k) (hy : y ∈ k) (fx : fits t x = true) (fy : fits t y = true) : y = x := by
 simp [fits] at fx fy
 rcases zqA h.lt x hx y hy with e | e | e
 ·exact e.symm
 ·exfalso
  rcases e with e | ⟨e1, e2⟩
  ·rw [fx.1, fy.1, zaX] at e; cases e
  ·omega
 ·exfalso
  rcases e with e | ⟨e1, e2⟩
  ·rw [fx.1, fy.1, zaX] at e; cases e
  ·omega
def zfF (r : Room) (k : List Keep) (s : List Swap) : List Pick := (zjL r k s).filter fun p => p.Player == []
def zjC (k : List Keep) (l : List Pick) (s : Str) : Bool := k.any (fun x => x.Player == s) || l.any (fun p => p.Player == s)
end
section
def zt4 (r : Room) (l : List Pick) : Int := match l.getLast? with | some p => p.At | none => r.Start
def pkF (r : Room) (k : List Keep) (fr l : List Pick) (p : Pick) : Int :=
 if !(za4 p.At) then 1 else if !(p.No == (fr.getD l.length zk4).No) then 7 else if !(p.Team == (fr.getD l.length zk4).Team) then 13
 else if !(r.Players.contains p.Player) then 8 else if zjC k l p.Player then 6 else if p.At < zt4 r l then 11 else 0
def zge (r : Room) (k : List Keep) (fr l : List Pick) : Nat → List Pick → Int
 | _, [] => 0
 | i, p :: t => if pkF r k fr (l.take i) p != 0 then pkF r k fr (l.take i) p else zge r k fr l (i + 1) t
def pksR (r : Room) (k : List Keep) (s : List Swap) (l : List Pick) : Int := if (zfF r k s).length < l.length then 2 else zge r k (zfF r k s) l 0 l
def zkJ (r : Room) (k : List Keep) (s : List Swap) (l : List Pick) : Int := if zfT r k s != 0 then zfT r k s else pksR r k s l
theorem ztQ {r : Room} {k : List Keep} {fr l : List Pick} {i : Nat} {p : Pick} {t : List Pick} (h : pkF r k fr (l.take i) p ≠ 0) : zge r k fr l i (p :: t) = pkF r k fr (l.take i) p := by
 rw [zge, if_pos (by simpa using h)]
theorem zuZ {r : Room} {k : List Keep} {fr l : List Pick} {i : Nat} {p : Pick} {t : List Pick} (h : pkF r k fr (l.take i) p = 0) : zge r k fr l i (p :: t) = zge r k fr l (i + 1) t := by
 rw [zge, if_neg (by simp [h])]
section
variable {r : Room} {k : List Keep} {fr l : List Pick} {p : Pick}
theorem ztM (h : pkF r k fr l p = 0) : za4 p.At = true ∧ p.No = (fr.getD l.length zk4).No ∧ p.Team = (fr.getD l.length zk4).Team ∧ p.Player ∈ r.Players ∧ zjC k l p.Player = false := by
 unfold pkF at h
 split at h
 ·omega
 ·rename_i h1
  split at h
  ·omega
  ·rename_i h2
   split at h
   ·omega
   ·rename_i h3
    split at h
    ·omega
    ·rename_i h4
     split at h
     ·omega
     ·rename_i h5
      simp at h1 h2 h3 h4 h5
      exact ⟨h1, h2, h3, h4, h5⟩
end
theorem zqK {r : Room} {k : List Keep} {s : List Swap} {l : List Pick} (h : zkJ r k s l = 0) : zfT r k s = 0 ∧ l.length ≤ (zfF r k s).length ∧ zge r k (zfF r k s) l 0 l = 0 := by
 unfold zkJ at h
 split at h
 ·rename_i hc; simp [h] at hc
 ·rename_i hc
  unfold pksR at h
  split at h
  ·omega
  ·exact ⟨by simpa using hc, by omega, h⟩
theorem zos {r : Room} {k : List Keep} {fr l : List Pick} : ∀ (t : List Pick) (i : Nat), l.drop i = t → zge r k fr l i t = 0 → ∀ (j : Nat) (p : Pick), i ≤ j → l[j]? = some p → pkF r k fr (l.take j) p = 0
 | [], i, hd, _, j, p, hj, hp => by
   have := zN hp
   have h2 : l.length ≤ i := by rw [← List.drop_eq_nil_iff]; exact hd
   omega
 | x :: t, i, hd, h, j, p, hj, hp => by
   have hk : l[i]? = some x := by
    have := congrArg (fun q => q[0]?) hd
    simpa using this
   have hd' : l.drop (i + 1) = t := by
    have := zU hk
    rw [hd] at this; simp at this; exact this.symm
   by_cases e : pkF r k fr (l.take i) x = 0
   ·rw [zuZ e] at h
    by_cases hij : i = j
    ·subst hij; rw [hk] at hp; cases hp; exact e
    ·exact zos t (i + 1) hd' h j p (by omega) hp
   ·rw [ztQ e] at h; exact absurd h e
structure Wish where
 Team : Str
 Players : List Str
theorem zpZ (k : List Keep) (l : List Pick) (p : Pick) (s : Str) : zjC k (l ++ [p]) s = (zjC k l s || p.Player == s) := by
 simp [zjC, Bool.or_assoc]
/-! what a run holds -/
structure RunOk (r : Room) (k : List Keep) (s : List Swap) (l : List Pick) (S : List Str) : Prop where
 gone : ∀ x ∈ r.Players, S.contains x = zjC k l x
theorem RunOk.add {r : Room} {k : List Keep} {s : List Swap} {l : List Pick} {S : List Str} (ok : RunOk r k s l S) (p : Pick) : RunOk r k s (l ++ [p]) (zaR p.Player S) :=
 ⟨fun x hx => by rw [zpZ, ziw, ok.gone x hx]⟩
end
section
section
variable {r : Room} {w : List Wish} {k : Nat} {x : Wish} {t : List Wish}
end
end
end Go.HL
namespace Go.Proofs.YtpcaaekefgkhjaaGreatDoor
set_option maxRecDepth 100000
set_option linter.unusedVariables false
set_option linter.unusedSimpArgs false
section
open Go.HL
/-- slices.IndexFunc[[]string,string] -/
theorem zeS [Tracks] {l : List Str} {fid : FuncId} {caps : List HVal} {p : Str → Bool} (hca : Callable Tryz.prog fid) (hp : ∀ x, ConP Tryz.prog fid ([HVal.str x] ++ caps) (.bool (p x))) (hl : l.length ≤ 1000000) : ConP Tryz.prog 157 [.slice 1 (l.map HVal.str), .fn (.func fid) [] caps] (.int .i64 (zdZ p l 0)) := by
 refine Con.of_body Tryz.func157 rfl Tryz.ntmps157 rfl rfl ?_
 refine za ?_
 refine das rfl ?_
 refine dn ?_
 refine zj ?_
 refine za ?_
 refine dmv rfl ?_
 refine dq (zK zP rfl) ?_
 refine dmv rfl ?_
 refine dn ?_
 refine zq ?_
 refine zak [4, 5, 8, 9, 10, 11, 12, 13, 14, 15, 16, 17, 18] (fun (k : Nat) => [(8, .int .i64 k)]) (fun (k : Nat) => []) (fun (k : Nat) => k ≤ l.length ∧ (zdZ p l 0 = zdZ p (l.drop k) k)) (fun (k : Nat) => l.length - k) (0) ?_ ?_ ?_ ?_
 ·exact ⟨Nat.zero_le _, rfl⟩
 ·exact ⟨rfl, trivial⟩
 ·exact List.Perm.refl _
 ·intro k hinv
  obtain ⟨hk, hg⟩ := hinv
  refine za ?_
  refine dq (zS rfl rfl) ?_
  refine dn ?_
  refine zj ?_
  refine zi rfl (fun h1 => ?_) (fun h2 => ?_)
  ·try simp at h1
   obtain ⟨x, hx⟩ : ∃ x, l[k]? = some x := ⟨_, List.getElem?_eq_getElem h1⟩
   have hdx := zU hx
   rw [hdx] at hg
   refine zm ?_
   refine zh ?_
   refine zj ?_
   refine zq ?_
   refine za ?_
   refine dmv rfl ?_
   refine das rfl ?_
   refine dn ?_
   refine za ?_
   refine dmv rfl ?_
   refine dmv rfl ?_
   refine dmv rfl ?_
   refine dq (zW zP ty9 rfl rfl rfl (by assumption)) ?_
   refine dq (zg ty9 rfl rfl rfl) ?_
   refine dq (zfN hca rfl rfl (WeakL.refl _) (hp _)) ?_
   refine dn ?_
   refine zi rfl (fun h3 => ?_) (fun h4 => ?_)
   ·try simp at h3
    refine za ?_
    refine dmv rfl ?_
    refine das rfl ?_
    refine dn ?_
    refine zl ?_
    refine zD rfl ?_
    show HVal.int .i64 _ = _
    (rw [hg]; simp_all [zdZ])
   ·try simp at h4
    refine zm ?_
    refine zy ?_
    refine zh ?_
    refine zC ?_
    refine dq (zB rfl rfl (by omega) (by omega)) ?_
    refine dmv rfl ?_
    refine dn ?_
    refine ⟨k + 1, ?_, ?_, ⟨rfl, trivial⟩, (by repeat (first | exact zt | refine zw rfl ?_ | refine zu rfl rfl ?_)), List.Perm.refl _⟩
    ·refine ⟨by omega, ?_⟩
     rw [hg, zdZ, if_neg (by simp_all)]; rfl
    ·dsimp only; omega
  ·try simp at h2
   have hnk : l.length ≤ k := by omega
   obtain rfl : k = l.length := by omega
   rw [zaV (Nat.le_refl _)] at hg
   refine zX ?_
   refine z7 ?_
   refine zaw ?_
   refine zO ?_
   refine zh ?_
   refine za ?_
   refine das rfl ?_
   refine dn ?_
   refine zl ?_
   refine zD rfl ?_
   show HVal.int .i64 _ = _
   (rw [hg]; rfl)

/-- slices.ContainsFunc[[]string,string] -/
theorem zep [Tracks] {l : List Str} {fid : FuncId} {caps : List HVal} {p : Str → Bool} (hca : Callable Tryz.prog fid) (hp : ∀ x, ConP Tryz.prog fid ([HVal.str x] ++ caps) (.bool (p x))) (hl : l.length ≤ 1000000) : ConP Tryz.prog 109 [.slice 1 (l.map HVal.str), .fn (.func fid) [] caps] (.bool (l.any p)) := by
 refine Con.of_body Tryz.func109 rfl Tryz.ntmps109 rfl rfl ?_
 refine za ?_
 refine das rfl ?_
 refine dn ?_
 refine za ?_
 refine dmv rfl ?_
 refine dmv rfl ?_
 refine dq (zo zux rfl (WeakL.refl _) (zeS hca hp hl)) ?_
 refine dq (zbS rfl rfl) ?_
 refine das rfl ?_
 refine dn ?_
 refine zl ?_
 refine zD rfl ?_
 congr 1; exact zhd p l 0 (by omega)
end
section
open Go.HL

end
section
open Go.HL
set_option linter.unusedSimpArgs false
end
section
open Go.HL

end
section
open Go.HL

end
section
open Go.HL

end
section
open Go.HL

end
section
open Go.HL

end
end Go.Proofs.YtpcaaekefgkhjaaGreatDoor
namespace Go.HL
section
section
variable {r : Room} {k : List Keep} {s : List Swap} {l : List Pick} {w : List Wish} {n : Int}
end
end
section
section
variable {r : Room} {k : List Keep} {s : List Swap} {l : List Pick}
def zjD (A : List Pick) (p : Pick) : List Pick := A.set p.No.toNat p
def NoInc (A : List Pick) : Prop := ∀ (i : Nat) (p : Pick), A[i]? = some p → p.No = (i : Int)
theorem zj2 : ∀ (t : List Turn) (i j : Nat) (p : Pick), (zfu r k i t)[j]? = some p → p.No = ((i + j : Nat) : Int)
 | [], i, j, p, h => by simp [zfu] at h
 | x :: t, i, 0, p, h => by
   simp only [zfu, List.getElem?_cons_zero, Option.some.injEq] at h
   subst h; rw [(zkM r x k _).1]; rfl
 | x :: t, i, j + 1, p, h => by
   simp only [zfu, List.getElem?_cons_succ] at h
   rw [zj2 t (i + 1) j p h]; congr 1; omega
theorem zpy : NoInc (zjL r k s) := fun i p h => by
 have := zj2 _ 0 i p h
 rw [this]; congr 1; omega
theorem NoInc.pw {A : List Pick} (h : NoInc A) : A.Pairwise fun a b => a.No < b.No :=
 List.pairwise_iff_getElem.2 fun i j hi hj hij => by
  rw [h i _ (List.getElem?_eq_getElem hi), h j _ (List.getElem?_eq_getElem hj)]; omega
theorem NoInc.put {A : List Pick} (h : NoInc A) {p : Pick} (hp : 0 ≤ p.No) : NoInc (zjD A p) := fun i x hx => by
 unfold zjD at hx
 by_cases e : p.No.toNat = i
 ·subst e
  have hlt := zN hx
  rw [List.length_set] at hlt
  rw [List.getElem?_set_self hlt] at hx; cases hx; omega
 ·rw [List.getElem?_set_ne e] at hx; exact h i x hx
theorem zkQ {α : Type} (q : α → Bool) {x y : α} (hx : q x = true) (hy : q y = false) : ∀ {A : List α} {j : Nat}, A[j]? = some y → ((A.set j x).filter q).Perm (A.filter q ++ [x])
 | [], j, h => by simp at h
 | a :: A, 0, h => by
   simp at h; subst h
   simp only [List.set_cons_zero, List.filter_cons, hx, hy, if_true, Bool.false_eq_true, if_false]
   exact (List.perm_append_comm (l₁ := [x]))
 | a :: A, j + 1, h => by
   simp only [List.getElem?_cons_succ] at h
   have := zkQ q hx hy h
   simp only [List.set_cons_succ, List.filter_cons]
   split
   ·exact this.cons a
   ·exact this
def isP (p : Pick) : Bool := !(p.Player == [])
structure AllOk (r : Room) (k : List Keep) (s : List Swap) (l : List Pick) (i : Nat) (A : List Pick) : Prop where
 inc : NoInc A
 len : A.length = (zjL r k s).length
 free : ∀ (j : Nat) (p : Pick), i ≤ j → (zfF r k s)[j]? = some p → A[p.No.toNat]? = some p
 perm : (A.filter isP).Perm ((zjL r k s).filter isP ++ l.take i)
theorem zoy {j : Nat} {p : Pick} (h : (zfF r k s)[j]? = some p) : p ∈ zjL r k s ∧ p.Player = [] := by
 have := List.mem_filter.1 (List.mem_of_getElem? h)
 exact ⟨this.1, by simpa using this.2⟩
theorem ztz {j : Nat} {p : Pick} (h : (zfF r k s)[j]? = some p) : 0 ≤ p.No ∧ (zjL r k s)[p.No.toNat]? = some p := by
 obtain ⟨m, hm⟩ := List.getElem?_of_mem (zoy h).1
 have := zpy m p hm
 exact ⟨by omega, by rw [this]; simpa using hm⟩
theorem zs8 (h : zkJ r k s l = 0) {i : Nat} {x : Pick} (hx : l[i]? = some x) : ∃ p, (zfF r k s)[i]? = some p ∧ x.No = p.No ∧ x.Player ≠ [] := by
 obtain ⟨h1, h2, h3⟩ := zqK h
 have hi := zN hx
 obtain ⟨_, a2, _, a4, _⟩ := ztM (zos l 0 rfl h3 i x (Nat.zero_le _) hx)
 have hg := getD_some (d := zk4) (show i < (zfF r k s).length by omega)
 refine ⟨_, hg, ?_, (zs0 (zoc h1).1).ne _ a4⟩
 rw [a2]; congr 2; simp; omega
theorem AllOk.step (h : zkJ r k s l = 0) {i : Nat} {x : Pick} (hx : l[i]? = some x) {A : List Pick} (ok : AllOk r k s l i A) : AllOk r k s l (i + 1) (zjD A x) ∧ 0 ≤ x.No ∧ x.No.toNat < A.length ∧ ∃ y, A[x.No.toNat]? = some y := by
 obtain ⟨p, hp, hn, hpl⟩ := zs8 h hx
 obtain ⟨n0, _⟩ := ztz hp
 have hA := ok.free i p (Nat.le_refl _) hp
 have hlt := zN hA
 refine ⟨⟨ok.inc.put (by omega), by unfold zjD; rw [List.length_set]; exact ok.len, fun j q hj hq => ?_, ?_⟩, by omega, by rw [hn]; exact hlt, p, by rw [hn]; exact hA⟩
 ·have hq1 := ok.free j q (by omega) hq
  have hne : p.No < q.No := by
   have hpw : (zfF r k s).Pairwise fun a b => a.No < b.No := (zpy (r := r) (k := k) (s := s)).pw.sublist List.filter_sublist
   obtain ⟨hi', e1⟩ := List.getElem?_eq_some_iff.1 hp
   obtain ⟨hj', e2⟩ := List.getElem?_eq_some_iff.1 hq
   have := List.pairwise_iff_getElem.1 hpw i j hi' hj' (by omega)
   rw [e1, e2] at this; exact this
  unfold zjD
  rw [List.getElem?_set_ne (by omega)]; exact hq1
 ·have hf := zkQ isP (x := x) (y := p) (by unfold isP; simpa using hpl) (by unfold isP; simp [(zoy hp).2]) hA
  unfold zjD
  rw [hn, zaI hx, ← List.append_assoc]
  exact hf.trans (ok.perm.append_right _)
end
end
section
section
variable {P : Program} {e : Env} {dst : Option Tmp} {ty : TypeId} {pos : String} {af : Array Edge} {g : Option (Nat × Bool)} {M : List MObj} {K : HVal → List MObj → Prop}
end
end
end Go.HL
namespace Go.Proofs.YtpcaaekefgkhjaaGreatDoor
set_option maxRecDepth 100000
set_option linter.unusedVariables false
set_option linter.unusedSimpArgs false
section
open Go.HL

end
end Go.Proofs.YtpcaaekefgkhjaaGreatDoor
namespace Go.HL
section
def zjH : Str := [103, 111, 97, 108]
def zjF : Play := ⟨[115], 1, 0, 1, [109], [112], zjH, 2, 0⟩
def zpB : LineS := ⟨[112], 1, [⟨zjH, 2⟩]⟩
theorem zns : zen [zjF] [[115]] 1 5 [zjF] = ⟨[[112]], [(([112], zjH), 2)]⟩ := by kernel_rfl
theorem znG : orI [zcZ [zjF], zeM [[115]]] = 0 := by kernel_rfl
theorem zkU : zgd [(([112], zjH), 2)] [[112]] = false := by kernel_rfl
theorem zoQ : zfr [(([112], zjH), 2)] [112] = [⟨zjH, 2⟩] := by kernel_rfl
theorem zs1 : zhS [zjF] [[115]] 1 5 = 0 := by
 rw [zhS, znG, if_neg (by decide), if_neg (by decide), zoB, zns, zgk, zkU]; rfl
theorem zsW : zhL [zjF] [[115]] 1 5 = [zpB] := by
 rw [zhL, znG, if_neg (by decide), if_neg (by decide), zoa, zns, zgj, zkU, if_neg (by decide)]
 simp [zbj, zoQ, zpB]
end
end Go.HL
namespace Go.Proofs.YtpcaaekefgkhjaaGreatDoor
set_option maxRecDepth 100000
set_option linter.unusedVariables false
set_option linter.unusedSimpArgs false
section
open Go.HL
/-- benchwarmer/benchkeep1.ready -/
theorem zdp [Tracks]  (hT : Tracks.on = false) : ConP Tryz.prog 30 [] (.bool true) := by
 refine Con.of_body Tryz.func30 rfl Tryz.ntmps30 rfl rfl ?_
 refine za ?_
 refine das rfl ?_
 refine dn ?_
 refine za ?_
 refine dq (zaB (cs := [_, _, _, _, _, _, _, _, _]) zah zuB rfl) ?_
 refine dq (zG (hs := [_]) zeu zah rfl rfl (by decide) (by decide) rfl) ?_
 refine dq (zG (hs := [_]) zP ty9 rfl rfl (by decide) (by decide) rfl) ?_
 refine dq (zo (hs' := [zhD [zjF], eSs [[115]], .int .i64 1, .int .i64 5]) ca61 rfl (WeakL.refl _) (znZ hT (by decide) (by decide))) ?_
 refine dmv rfl ?_
 refine dq (z6 rfl rfl) ?_
 refine dq (z6 rfl rfl) ?_
 refine das rfl ?_
 refine das rfl ?_
 refine dn ?_
 simp only [zs1, zsW]
 refine za ?_
 refine dq (zG (hs := [_, _]) zP ty9 rfl rfl (by decide) (by decide) rfl) ?_
 refine dq (zG (hs := [_, _, _, _]) zP ty9 rfl rfl (by decide) (by decide) rfl) ?_
 refine dq (zaB (cs := [_, _, _, _, _, _]) zcu zuM rfl) ?_
 refine de rfl (zY zcu rfl fun b3 => ?_)
 refine de0 (zad zcu rfl rfl rfl rfl rfl ?_)
 refine dn ?_
 refine zL (Ghost.fc0 3 rfl) ?_
 refine za ?_
 refine dq (zH zcu rfl rfl rfl rfl) ?_
 refine dq (zo (hs' := [zlj znj, ziM []]) ca62 rfl ⟨Weak.refl _, za3 3, trivial⟩ (zm1 (r := znj) (s := []) (by decide) (by decide) (by decide))) ?_
 refine dmv rfl ?_
 refine dq (z6 rfl rfl) ?_
 refine dq (z6 rfl rfl) ?_
 refine das rfl ?_
 refine das rfl ?_
 refine dn ?_
 simp only [zoO, zsg]
 refine za ?_
 refine dq (zaB (cs := [_, _, _]) za2 zud rfl) ?_
 refine dq (zG (hs := [_]) zcC za2 rfl rfl (by decide) (by decide) rfl) ?_
 refine dq (zaB (cs := [_, _]) zdk zuO rfl) ?_
 refine dq (zG (hs := [_]) zia zdk rfl rfl (by decide) (by decide) rfl) ?_
 refine dq (zo (hs' := [zgi [zfJ], zjN [zhy]]) ca63 rfl (WeakL.refl _) (zlf (l := [zfJ]) (p := [zhy]) (by decide) (by decide))) ?_
 refine dmv rfl ?_
 refine dq (z6 rfl rfl) ?_
 refine dq (z6 rfl rfl) ?_
 refine dq (z6 rfl rfl) ?_
 refine das rfl ?_
 refine das rfl ?_
 refine das rfl ?_
 refine dn ?_
 simp only [ztT, ztw, zrl]
 refine za ?_
 refine dmv rfl ?_
 refine dq (zau rfl rfl) ?_
 refine dmv rfl ?_
 refine dg rfl rfl (fun hc => ⟨_, OpenTo.refl _, zf rfl⟩) ?_
 refine dg rfl rfl (fun hc => ⟨_, OpenTo.upd (t := 36) rfl (hc) (OpenTo.refl _), zK znm rfl⟩) ?_
 refine dg rfl rfl (fun hc => ⟨_, OpenTo.upd (t := 37) rfl (hc) (OpenTo.refl _), zau rfl rfl⟩) ?_
 refine dq (zA rfl (.inr ⟨_, rfl, fun h => by simp_all⟩) (.inl rfl)) ?_
 refine dmv rfl ?_
 refine dg rfl rfl (fun hc => ⟨_, OpenTo.refl _, zf rfl⟩) ?_
 refine dg rfl rfl (fun hc => ⟨_, OpenTo.upd (t := 41) rfl (hc) (OpenTo.refl _), zW (j := 0) (a := zpB) znm zkN rfl rfl rfl rfl⟩) ?_
 refine dg rfl rfl (fun hc => ⟨_, OpenTo.upd (t := 42) rfl (hc) (OpenTo.refl _), zb zkN rfl zf7 (by decide) rfl⟩) ?_
 refine dg rfl rfl (fun hc => ⟨_, OpenTo.upd (t := 43) rfl (hc) (OpenTo.refl _), zg zf7 rfl rfl rfl⟩) ?_
 refine dg rfl rfl (fun hc => ⟨_, OpenTo.upd (t := 44) rfl (hc) (OpenTo.refl _), zK zf7 rfl⟩) ?_
 refine dg rfl rfl (fun hc => ⟨_, OpenTo.upd (t := 45) rfl (hc) (OpenTo.refl _), zau rfl rfl⟩) ?_
 refine dq (zA rfl (.inr ⟨_, rfl, fun h => by simp_all⟩) (.inl rfl)) ?_
 refine dmv rfl ?_
 refine dg rfl rfl (fun hc => ⟨_, OpenTo.refl _, zf rfl⟩) ?_
 refine dg rfl rfl (fun hc => ⟨_, OpenTo.upd (t := 49) rfl (hc) (OpenTo.refl _), zau rfl rfl⟩) ?_
 refine dq (zA rfl (.inr ⟨_, rfl, fun h => by simp_all⟩) (.inl rfl)) ?_
 refine dmv rfl ?_
 refine dg rfl rfl (fun hc => ⟨_, OpenTo.refl _, zf rfl⟩) ?_
 refine dg rfl rfl (fun hc => ⟨_, OpenTo.refl _, zG (hs := [_, _, _, _]) zP ty9 rfl rfl (by decide) (by decide) rfl⟩) ?_
 refine dg rfl rfl (fun hc => ⟨_, OpenTo.upd (t := 54) rfl (hc) (OpenTo.upd (t := 53) rfl (hc) (OpenTo.refl _)), zo ca27 rfl (WeakL.refl _) (zfq (l := [[97], [98], [98], [97]]) (m := [[97], [98], [98], [97]]) (by decide))⟩) ?_
 refine dq (zA rfl (.inr ⟨_, rfl, fun h => by simp_all⟩) (.inl rfl)) ?_
 refine dmv rfl ?_
 refine dg rfl rfl (fun hc => ⟨_, OpenTo.refl _, zf rfl⟩) ?_
 refine dg rfl rfl (fun hc => ⟨_, OpenTo.upd (t := 58) rfl (hc) (OpenTo.refl _), zau rfl rfl⟩) ?_
 refine dq (zA rfl (.inr ⟨_, rfl, fun h => by simp_all⟩) (.inl rfl)) ?_
 refine dmv rfl ?_
 refine dg rfl rfl (fun hc => ⟨_, OpenTo.refl _, zf rfl⟩) ?_
 refine dg rfl rfl (fun hc => ⟨_, OpenTo.upd (t := 62) rfl (hc) (OpenTo.refl _), zau rfl rfl⟩) ?_
 refine dq (zA rfl (.inr ⟨_, rfl, fun h => by simp_all⟩) (.inl rfl)) ?_
 refine das rfl ?_
 refine dn ?_
 refine zl ?_
 refine zD rfl ?_
 rfl
end
end Go.Proofs.YtpcaaekefgkhjaaGreatDoor
namespace Go.HL
section
section
variable {α : Type}
def Srt (c : α → α → Int) (l : List α) : Prop := l.Pairwise fun a b => c a b ≤ 0
theorem Cmp.self {c : α → α → Int} (hc : Cmp c fun _ => True) (x : α) : c x x ≤ 0 := by
 have := hc.flip x x trivial trivial; omega
theorem Srt.get {c : α → α → Int} (hc : Cmp c fun _ => True) {l : List α} (h : Srt c l) {i j : Nat} {x y : α} (hij : i ≤ j) (hx : l[i]? = some x) (hy : l[j]? = some y) : c x y ≤ 0 := by
 rcases Nat.lt_or_ge i j with hlt | hge
 ·have h1 := zN hx
  have h2 := zN hy
  have := List.pairwise_iff_getElem.1 h i j h1 h2 hlt
  rw [List.getElem?_eq_getElem h1] at hx
  rw [List.getElem?_eq_getElem h2] at hy
  rw [Option.some.inj hx, Option.some.inj hy] at this
  exact this
 ·have e : i = j := by omega
  rw [e, hy] at hx
  rw [Option.some.inj hx]; exact hc.self _
theorem Srt.take {c : α → α → Int} {l : List α} (h : Srt c l) (k : Nat) : Srt c (l.take k) := List.Pairwise.sublist (List.take_sublist k l) h
theorem Srt.drop {c : α → α → Int} {l : List α} (h : Srt c l) (k : Nat) : Srt c (l.drop k) := List.Pairwise.sublist (List.drop_sublist k l) h
theorem Srt.nil {c : α → α → Int} : Srt c [] := List.Pairwise.nil
end
end
section
section
variable {α : Type} {c : α → α → Int}
/-- Each block of so many elements is sorted. -/
def Blk (c : α → α → Int) (bs : Nat) (l : List α) : Prop := ∀ q, Srt c ((l.drop (bs * q)).take bs)
theorem Blk.all {bs : Nat} {l : List α} (h : Blk c bs l) (hl : l.length ≤ bs) : Srt c l := by
 have := h 0
 rw [Nat.mul_zero, List.drop_zero, List.take_of_length_le hl] at this
 exact this
theorem Blk.nil {bs : Nat} : Blk c bs [] := fun q => by simp [Srt.nil]
theorem Blk.add {bs k : Nat} {Z W : List α} (h : Blk c bs Z) (hZ : Z.length = bs * k) (hW : Srt c W) (hl : W.length ≤ bs) : Blk c bs (Z ++ W) := by
 intro q
 rcases Nat.lt_trichotomy q k with hq | hq | hq
 ·have h1 : bs * q + bs ≤ Z.length := by rw [hZ, ← Nat.mul_succ]; exact Nat.mul_le_mul_left bs hq
  rw [List.drop_append_of_le_length (by omega), List.take_append_of_le_length (by rw [List.length_drop]; omega)]
  exact h q
 ·rw [hq, ← hZ, List.drop_left, List.take_of_length_le hl]; exact hW
 ·have h1 : Z.length + bs ≤ bs * q := by rw [hZ, ← Nat.mul_succ]; exact Nat.mul_le_mul_left bs hq
  rw [List.drop_of_length_le (by rw [List.length_append]; omega)]
  simp [Srt.nil]
theorem Blk.at {bs q a : Nat} {l : List α} (h : Blk c bs l) (ha : a = bs * q) : Srt c ((l.drop a).take bs) := by rw [ha]; exact h q
theorem Blk.last {bs q a : Nat} {l : List α} (h : Blk c bs l) (ha : a = bs * q) (hl : l.length ≤ a + bs) : Srt c (l.drop a) := by
 have := h.at ha
 rw [List.take_of_length_le (by rw [List.length_drop]; omega)] at this
 exact this
end
end
section
section
variable {α : Type} [DecidableEq α]
/-- A list without the things that equal the one before (p ahead of the first). -/
def zc7 (p : Option α) : List α → List α
 | [] => []
 | x :: r => if p = some x then zc7 (some x) r else x :: zc7 (some x) r
theorem zlo (x : α) : ∀ (A : List α) (p : Option α), zc7 p (A ++ [x]) = zc7 p A ++ if (A.getLast?.or p) = some x then [] else [x]
 | [], p => by
   by_cases h : p = some x <;> simp [zc7, h]
 | y :: A, p => by
   have ih := zlo x A (some y)
   have e : ((y :: A).getLast?.or p) = (A.getLast?.or (some y)) := by
    cases A with
    | nil => simp
    | cons z A => simp [List.getLast?_cons_cons, List.getLast?_cons]
   simp only [List.cons_append, zc7]
   rw [e, ih]
   split <;> simp
theorem zk0 {l : List α} {k : Nat} {x y : α} (hx : l[k]? = some x) (hy : l[k - 1]? = some y) (h0 : 0 < k) : zc7 none (l.take (k + 1)) = zc7 none (l.take k) ++ if x = y then [] else [x] := by
 have hk := zN hx
 rw [zaI hx, zlo]
 have e : ((l.take k).getLast?.or none) = some y := by
  rw [List.getLast?_eq_getElem?, List.length_take, Nat.min_eq_left (by omega), List.getElem?_take_of_lt (by omega), hy]; rfl
 rw [e]
 by_cases h : x = y
 ·rw [if_pos h, if_pos (by rw [h])]
 ·rw [if_neg h, if_neg (by simpa using fun q : y = x => h q.symm)]
structure CmpA (l : List α) (j : Nat) (D : List α) : Prop where
 len : D.length = l.length
 lo : D.take (zc7 none (l.take j)).length = zc7 none (l.take j)
 lt : (zc7 none (l.take j)).length < j
 hi : ∀ i, j ≤ i + 1 → D[i]? = l[i]?
theorem CmpA.start {l : List α} {k : Nat} {x y : α} (hx : l[k]? = some x) (hy : l[k - 1]? = some y) (h0 : 0 < k) (e : x = y) (h : zc7 none (l.take k) = l.take k) : CmpA l (k + 1) l ∧ (zc7 none (l.take (k + 1))).length = k := by
 have hk := zN hx
 have h1 : zc7 none (l.take (k + 1)) = l.take k := by rw [zk0 hx hy h0, if_pos e, h]; simp
 have h2 : (l.take k).length = k := by rw [List.length_take]; omega
 exact ⟨⟨rfl, by rw [h1, h2], by rw [h1, h2]; omega, fun _ _ => rfl⟩, by rw [h1, h2]⟩
theorem CmpA.same {l D : List α} {j : Nat} (h : CmpA l j D) {x y : α} (hx : l[j]? = some x) (hy : l[j - 1]? = some y) (e : x = y) : CmpA l (j + 1) D ∧ (zc7 none (l.take (j + 1))).length = (zc7 none (l.take j)).length := by
 have h0 := h.lt
 have h1 : zc7 none (l.take (j + 1)) = zc7 none (l.take j) := by rw [zk0 hx hy (by omega), if_pos e]; simp
 exact ⟨⟨h.len, by rw [h1]; exact h.lo, by rw [h1]; omega, fun i hi => h.hi i (by omega)⟩, by rw [h1]⟩
variable {c : α → α → Int}
end
end
section
structure MendS where
 Player : Str
 Week : Int
 Stat : Str
 Count : Int
 At : Int
 Version : Int
 By : Str
abbrev Plc := Str × Int
section
variable {α : Type}
def zax (f : α → Int) (c : α → α → Int) (d : α) (l : List α) : Nat → List α → Int
 | _, [] => 0
 | k, x :: r => if f x ≠ 0 then f x else if 0 < k ∧ c x (l.getD (k - 1) d) ≤ 0 then 7 else zax f c d l (k + 1) r
theorem zgL {f : α → Int} {c : α → α → Int} {d : α} {l : List α} {k : Nat} {x : α} {r : List α} (h1 : f x = 0) (h2 : 0 < k → ¬ c x (l.getD (k - 1) d) ≤ 0) : zax f c d l k (x :: r) = zax f c d l (k + 1) r := by
 rw [zax, if_neg (by simp [h1]), if_neg (fun h => h2 h.1 h.2)]
theorem zqP {f : α → Int} {c : α → α → Int} {d : α} {l : List α} {k : Nat} {x : α} {r : List α} (h1 : f x ≠ 0) : zax f c d l k (x :: r) = f x := by
 rw [zax, if_pos h1]
theorem zqw {f : α → Int} {c : α → α → Int} {d : α} {l : List α} {k : Nat} {x : α} {r : List α} (h1 : f x = 0) (h0 : 0 < k) (h2 : c x (l.getD (k - 1) d) ≤ 0) : zax f c d l k (x :: r) = 7 := by
 rw [zax, if_neg (by simp [h1]), if_pos ⟨h0, h2⟩]
theorem zfK {f : α → Int} {c : α → α → Int} {d : α} {l : List α} : ∀ (r : List α) (k : Nat), zax f c d l k r = 0 → ∀ x ∈ r, f x = 0
 | [], _, _, x, hx => by cases hx
 | p :: r, k, h, x, hx => by
   rw [zax] at h
   split at h
   ·contradiction
   ·split at h
    ·omega
    ·rename_i h1 _
     rcases List.mem_cons.1 hx with rfl | hx
     ·simpa using h1
     ·exact zfK r (k + 1) h x hx
/-- Each is behind the one ahead of it. -/
theorem zml {f : α → Int} {c : α → α → Int} {d : α} (hc : Cmp c fun _ => True) : ∀ (r : List α) (l : List α) (k : Nat), l.drop k = r → k ≤ l.length → (l.take k).Pairwise (fun a b => c a b < 0) → zax f c d l k r = 0 → l.Pairwise (fun a b => c a b < 0)
 | [], l, k, hd, hk, hp, _ => by
   have h1 : l.length ≤ k := by simpa using hd
   rw [List.take_of_length_le h1] at hp; exact hp
 | x :: r, l, k, hd, hk, hp, h => by
   rw [zax] at h
   split at h
   ·contradiction
   ·split at h
    ·omega
    ·rename_i h2
     have hx : l[k]? = some x := by have := congrArg (fun q : List α => q[0]?) hd; simpa using this
     have hlt := zN hx
     refine zml hc r l (k + 1) (by rw [← List.drop_drop (i := 1), hd]; rfl) hlt ?_ h
     rw [zaI hx]
     refine List.pairwise_append.2 ⟨hp, List.pairwise_singleton _ _, fun a ha b hb => ?_⟩
     obtain rfl := List.mem_singleton.1 hb
     obtain ⟨i, hi⟩ := List.getElem?_of_mem ha
     have hik : i < k := by have := zN hi; rw [List.length_take] at this; omega
     have hy : l[k - 1]? = some (l.getD (k - 1) d) := getD_some (by omega)
     have h3 : c (l.getD (k - 1) d) b < 0 := by
      rw [hc.flip _ _ trivial trivial]
      have : ¬ c b (l.getD (k - 1) d) ≤ 0 := fun e => h2 ⟨by omega, e⟩
      omega
     rcases Nat.lt_or_ge i (k - 1) with hlt' | hge
     ·have hyk : (l.take k)[k - 1]? = some (l.getD (k - 1) d) := by rw [List.getElem?_take_of_lt (by omega)]; exact hy
      have h4 : c a (l.getD (k - 1) d) < 0 := by
       have hi2 := zN hi
       have hk2 := zN hyk
       have := List.pairwise_iff_getElem.1 hp i (k - 1) hi2 hk2 hlt'
       rw [List.getElem?_eq_getElem hi2] at hi
       rw [List.getElem?_eq_getElem hk2] at hyk
       rw [Option.some.inj hi, Option.some.inj hyk] at this
       exact this
      have h5 := hc.trans a (l.getD (k - 1) d) b trivial trivial trivial (by omega) (by omega)
      have f1 := hc.flip a (l.getD (k - 1) d) trivial trivial
      have f2 := hc.flip (l.getD (k - 1) d) b trivial trivial
      have f3 := hc.flip a b trivial trivial
      have f4 := hc.flip b a trivial trivial
      rcases Int.lt_or_eq_of_le h5 with e | e
      ·exact e
      ·exfalso
       have := hc.trans b a (l.getD (k - 1) d) trivial trivial trivial (by omega) (by omega)
       omega
     ·have e : i = k - 1 := by omega
      rw [e, List.getElem?_take_of_lt (by omega), hy] at hi
      rw [← Option.some.inj hi]; exact h3
theorem zf8 {f : α → Int} {c : α → α → Int} {d : α} (hc : Cmp c fun _ => True) {l : List α} (h : zax f c d l 0 l = 0) : l.Pairwise (fun a b => c a b < 0) :=
 zml hc l l 0 rfl (Nat.zero_le _) (by simp) h
theorem zqW {f : α → Int} {c : α → α → Int} {d : α} (hc : Cmp c fun _ => True) {l : List α} (hf : ∀ x ∈ l, f x = 0) (hp : l.Pairwise (fun a b => c a b < 0)) : ∀ (r : List α) (k : Nat), l.drop k = r → zax f c d l k r = 0
 | [], _, _ => rfl
 | x :: r, k, hd => by
   have hx : l[k]? = some x := by have := congrArg (fun q : List α => q[0]?) hd; simpa using this
   have hlt := zN hx
   rw [zgL (hf x (List.mem_of_getElem? hx)) (fun h0 h => ?_)]
   ·exact zqW hc hf hp r (k + 1) (by rw [← List.drop_drop (i := 1), hd]; rfl)
   ·have hy : l[k - 1]? = some (l.getD (k - 1) d) := getD_some (by omega)
    have hk1 : k - 1 < l.length := by omega
    have := List.pairwise_iff_getElem.1 hp (k - 1) k hk1 hlt (by omega)
    rw [List.getElem?_eq_getElem hlt] at hx
    rw [List.getElem?_eq_getElem hk1] at hy
    rw [Option.some.inj hx, Option.some.inj hy] at this
    have f1 := hc.flip (l.getD (k - 1) d) x trivial trivial
    omega
theorem Cmp.lex {c d : α → α → Int} (hc : Cmp c fun _ => True) (hd : Cmp d fun _ => True) : Cmp (fun a b => if c a b ≠ 0 then c a b else d a b) fun _ => True where
 flip x y _ _ := by
  have f1 := hc.flip x y trivial trivial
  have f2 := hc.flip y x trivial trivial
  have f3 := hd.flip x y trivial trivial
  by_cases h : c x y = 0
  ·have h' : c y x = 0 := by omega
   rw [if_neg (by simp [h]), if_neg (by simp [h'])]; exact f3
  ·have h' : c y x ≠ 0 := by omega
   rw [if_pos h, if_pos h']; exact f1
 trans x y z _ _ _ h1 h2 := by
  have fxy := hc.flip x y trivial trivial
  have fyx := hc.flip y x trivial trivial
  have fyz := hc.flip y z trivial trivial
  have fzy := hc.flip z y trivial trivial
  have fxz := hc.flip x z trivial trivial
  have fzx := hc.flip z x trivial trivial
  have a1 : c x y ≤ 0 := by split at h1 <;> omega
  have a2 : c y z ≤ 0 := by split at h2 <;> omega
  have a3 := hc.trans x y z trivial trivial trivial a1 a2
  by_cases h : c x z = 0
  ·have b1 := hc.trans z x y trivial trivial trivial (by omega) a1
   have b2 := hc.trans y z x trivial trivial trivial a2 (by omega)
   have e1 : c x y = 0 := by omega
   have e2 : c y z = 0 := by omega
   rw [if_neg (by simp [e1])] at h1
   rw [if_neg (by simp [e2])] at h2
   rw [if_neg (by simp [h])]
   exact hd.trans x y z trivial trivial trivial h1 h2
  ·rw [if_pos h]; exact a3
theorem zhM (f : α → Str) : Cmp (fun a b => zbg (f a) (f b)) fun _ => True where
 flip x y _ _ := by rw [zek (f x) (f y)]; omega
 trans x y z _ _ _ h1 h2 := zf9 h1 h2
theorem ztj (f : α → Int) : Cmp (fun a b => zdF (f a) (f b)) fun _ => True where
 flip x y _ _ := by rw [zq2 (f x) (f y)]; omega
 trans x y z _ _ _ h1 h2 := by rw [ztu] at *; omega
theorem zki (a b : Int) (r : List Int) : orI (a :: b :: r) = if a ≠ 0 then a else orI (b :: r) := by rw [orI]
end
theorem zjS {a b : Int} (h : (if a ≠ 0 then a else b) = 0) : a = 0 ∧ b = 0 := by
 split at h
 ·contradiction
 ·rename_i h1; exact ⟨by simpa using h1, h⟩
theorem zoq (a b : Str) : (Op.bytesLess a b || a == b) = decide (zbg a b ≤ 0) := by
 rw [Bool.eq_iff_iff, decide_eq_true_iff, zgm]
 rcases zct a b with h | h | h
 ·simp [h, zbD h]
 ·subst h; simp [zaX]
 ·have hne : a ≠ b := fun e => by subst e; rw [zaX] at h; cases h
  simp [h, zbD h, hne]
/-! what is wrong -/
end
section
section
variable {α : Type} [DecidableEq α]
end
end
section

end
section
theorem Cmp.lt_trans {α : Type} {c : α → α → Int} {s : α → Prop} (h : Cmp c s) {x y z : α} (hx : s x) (hy : s y) (hz : s z) (h1 : c x y < 0) (h2 : c y z < 0) : c x z < 0 := by
 rcases Int.lt_or_le (c x z) 0 with q | q
 ·exact q
 ·exfalso
  have a1 := h.flip y z hy hz
  have a2 := h.flip z x hz hx
  have hzx : c z x ≤ 0 := by
   rcases Int.lt_or_le 0 (c z x) with r | r
   ·have := h.flip x z hx hz; omega
   ·exact r
  have := h.trans z x y hz hx hy hzx (by omega)
  omega
theorem znf {a b c : Str} (h1 : zbg a b ≤ 0) (h2 : zbg b c ≤ 0) (h : zbg a c = 0) : zbg a b = 0 ∧ zbg b c = 0 := by
 have e := zeZ.1 h
 subst e
 rw [zek b a] at *
 omega
end
section
theorem zkP : ∀ (l : List Str) (p : Option Str) (s : Str), s ∈ l → s ∈ zdq p l ∨ p = some s
 | [], _, _, h => by cases h
 | x :: r, p, s, h => by
   simp only [zdq]
   rcases List.mem_cons.1 h with rfl | h
   ·split
    ·rename_i e; exact .inr e
    ·exact .inl (by simp)
   ·rcases zkP r (some x) s h with q | q
    ·split
     ·exact .inl q
     ·exact .inl (List.mem_cons_of_mem _ q)
    ·cases q
     split
     ·rename_i e; exact .inr e
     ·exact .inl (by simp)
def zno (l : List Str) : List Str := Lib.compact (zbj l)
theorem zmx {l : List Str} {s : Str} : s ∈ zno l ↔ s ∈ l := by
 constructor
 ·exact ztN
 ·intro h
  unfold zno
  rw [zgz]
  rcases zkP (zbj l) none s ((List.mergeSort_perm _ _).mem_iff.2 h) with q | q
  ·exact q
  ·cases q
/-- The sums of one player. -/
def zc8 {κ : Type} (c : List ((Str × κ) × Int)) (s : Str) : List (κ × Int) := (c.filter fun e => e.1.1 == s).map fun e => (e.1.2, e.2)
theorem zmo {κ : Type} [DecidableEq κ] (s : Str) (st : κ) (v : Int) (s' : Str) : ∀ c : List ((Str × κ) × Int), zc8 (zaK (s, st) v c) s' = if s' = s then zaK st v (zc8 c s) else zc8 c s'
 | [] => by
   by_cases e : s' = s
   ·subst e; simp [zc8, zaK]
   ·have : ¬ s = s' := fun q => e q.symm
    simp [zc8, zaK, e, this]
 | p :: r => by
   have ih := zmo s st v s' r
   obtain ⟨⟨a, b⟩, w⟩ := p
   simp only [zaK, Prod.mk.injEq]
   by_cases h1 : s = a
   ·subst h1
    by_cases h2 : st = b
    ·subst h2
     rw [if_pos ⟨rfl, rfl⟩]
     by_cases e : s' = s
     ·subst e; simp [zc8, zaK]
     ·have : ¬ s = s' := fun q => e q.symm
      simp [zc8, e, this]
    ·rw [if_neg (fun q => h2 q.2)]
     by_cases e : s' = s
     ·subst e
      rw [if_pos rfl] at ih ⊢
      simp only [zc8, List.filter_cons, beq_self_eq_true, if_true, List.map_cons, zaK, if_neg h2] at ih ⊢
      rw [ih]
     ·have : ¬ s = s' := fun q => e q.symm
      rw [if_neg e] at ih ⊢
      simp only [zc8, List.filter_cons, beq_iff_eq, if_neg this] at ih ⊢
      exact ih
   ·rw [if_neg (fun q => h1 q.1)]
    by_cases e : s' = s
    ·subst e
     have : ¬ a = s' := fun q => h1 q.symm
     rw [if_pos rfl] at ih ⊢
     simp only [zc8, List.filter_cons, beq_iff_eq, if_neg this] at ih ⊢
     exact ih
    ·rw [if_neg e] at ih ⊢
     by_cases h3 : a = s'
     ·simp only [zc8, List.filter_cons, beq_iff_eq, if_pos h3, List.map_cons] at ih ⊢
      rw [ih]
     ·simp only [zc8, List.filter_cons, beq_iff_eq, if_neg h3] at ih ⊢
      exact ih
end
section
structure MarketS where
 Teams : List Str
 Vetoes : Int
 Wait : Int
 Deadline : Int
 Least : Int
 Most : Int
structure OwnerS where
 Player : Str
 Team : Str
structure GiveS where
 Player : Str
 From : Str
 To : Str
structure DealS where
 Id : Str
 By : Str
 From : Int
 To : Int
 Gives : List GiveS
structure ReplyS where
 Offer : Str
 Team : Str
 At : Int
 Kind : Int
abbrev zaM (m : MarketS) : HVal := .agg [eSs m.Teams, .int .i64 m.Vetoes, .int .i64 m.Wait, .int .i64 m.Deadline, .int .i64 m.Least, .int .i64 m.Most]
abbrev zaY (x : OwnerS) : HVal := .agg [.str x.Player, .str x.Team]
abbrev za8 (l : List OwnerS) : HVal := .slice 2 (l.map zaY)
abbrev za6 (x : GiveS) : HVal := .agg [.str x.Player, .str x.From, .str x.To]
abbrev zlu (l : List GiveS) : HVal := .slice 3 (l.map za6)
abbrev zii (x : DealS) : HVal := .agg [.str x.Id, .str x.By, .int .i64 x.From, .int .i64 x.To, zlu x.Gives]
abbrev zec (l : List DealS) : HVal := .slice 5 (l.map zii)
abbrev zbJ (x : ReplyS) : HVal := .agg [.str x.Offer, .str x.Team, .int .i64 x.At, .int .i64 x.Kind]
abbrev zb3 (l : List ReplyS) : HVal := .slice 4 (l.map zbJ)
def zb1 : OwnerS := ⟨[], []⟩
def zc9 : GiveS := ⟨[], [], []⟩
def zcb : DealS := ⟨[], [], 0, 0, []⟩
def zbN : ReplyS := ⟨[], [], 0, 0⟩
/-! what is wrong -/
def zaf (m : MarketS) : Int :=
 if m.Teams.length = 0 then 8 else if (20 : Int) < m.Teams.length then 2
 else if zdX m.Teams ≠ 0 then zdX m.Teams
 else if out m.Vetoes 1 20 || out m.Wait 0 864000000 || out m.Deadline 0 345686400000 || out m.Least 0 m.Most || decide (60 < m.Most) then 1 else 0
structure MarketOk (m : MarketS) : Prop where
 pos : 0 < m.Teams.length
 len : m.Teams.length ≤ 20
 sorted : SortedS m.Teams
 least : 0 ≤ m.Least ∧ m.Least ≤ m.Most
 most : m.Most ≤ 60
theorem zie {m : MarketS} (h : zaf m = 0) : MarketOk m := by
 unfold zaf at h
 split at h
 ·omega
 split at h
 ·omega
 split at h
 ·rename_i h1 h2 h3; exact absurd h h3
 split at h
 ·omega
 rename_i h1 h2 h3 h4
 simp only [Bool.or_eq_true, not_or, Bool.not_eq_true, decide_eq_true_eq] at h4
 have h5 := zdK h4.1.2
 exact ⟨by omega, by omega, zfA (by simpa using h3), ⟨h5.1, h5.2⟩, by omega⟩
def zd6 (a b : OwnerS) : Int := zbg a.Player b.Player
def zcv (a b : GiveS) : Int := zbg a.Player b.Player
def zdg (a b : DealS) : Int := zbg a.Id b.Id
def zca (a b : ReplyS) : Int := orI [zdF a.At b.At, zbg a.Offer b.Offer, zbg a.Team b.Team]
theorem zmV : Cmp zd6 fun _ => True := zhM OwnerS.Player
theorem zqr : Cmp zcv fun _ => True := zhM GiveS.Player
theorem zpT : Cmp zdg fun _ => True := zhM DealS.Id
theorem zjr : Cmp zca fun _ => True := by
 have h := Cmp.lex (ztj ReplyS.At) (Cmp.lex (zhM ReplyS.Offer) (zhM ReplyS.Team))
 have e : zca = fun a b => if zdF a.At b.At ≠ 0 then zdF a.At b.At else if zbg a.Offer b.Offer ≠ 0 then zbg a.Offer b.Offer else zbg a.Team b.Team := by
  funext a b; unfold zca; rw [zki, zsl]
 rw [e]; exact h
def zdC : List OwnerS → Str → Int
 | [], _ => 0
 | x :: r, t => (if x.Team = t then 1 else 0) + zdC r t
theorem zra (l : List OwnerS) (x : OwnerS) (t : Str) : zdC (l ++ [x]) t = zdC l t + (if x.Team = t then 1 else 0) := by
 induction l with
 | nil => simp [zdC]
 | cons y r ih => simp only [List.cons_append, zdC, ih]; omega
theorem zpb (l : List OwnerS) (t : Str) : 0 ≤ zdC l t ∧ zdC l t ≤ l.length := by
 induction l with
 | nil => simp [zdC]
 | cons y r ih => simp only [zdC, List.length_cons]; split <;> omega
def zfd (m : MarketS) (o : List OwnerS) : Bool := m.Teams.all fun t => !(out (zdC o t) m.Least m.Most)
theorem zqH (m : MarketS) (o : List OwnerS) : (!(m.Teams.any fun t => out (zdC o t) m.Least m.Most)) = zfd m o := by
 unfold zfd; rw [List.not_any_eq_all_not]
def za0 (m : MarketS) (x : OwnerS) : Int := if !(key x.Player) then 5 else if !(m.Teams.contains x.Team) then 8 else 0
def zdd (m : MarketS) (o : List OwnerS) : Int := zax (za0 m) zd6 zb1 o 0 o
def zb9 (m : MarketS) (o : List OwnerS) : Int := if 500 < o.length then 2 else if zdd m o ≠ 0 then zdd m o else if zfd m o then 0 else 12
def zbR (m : MarketS) (o : List OwnerS) : Int := if zaf m ≠ 0 then zaf m else zb9 m o
theorem zic {m : MarketS} {o : List OwnerS} (h : zb9 m o = 0) : o.length ≤ 500 ∧ (∀ x ∈ o, za0 m x = 0) ∧ o.Pairwise (fun a b => zd6 a b < 0) ∧ zfd m o = true := by
 unfold zb9 at h
 split at h
 ·omega
 split at h
 ·rename_i h1 h2; exact absurd h h2
 rename_i h1 h2
 have h3 : zdd m o = 0 := by simpa using h2
 split at h
 ·rename_i h4; exact ⟨by omega, zfK o 0 h3, zf8 zmV h3, h4⟩
 ·omega
theorem zid {m : MarketS} {o : List OwnerS} (h : zbR m o = 0) : zaf m = 0 ∧ zb9 m o = 0 := by
 unfold zbR at h; exact zjS h
def zaA (m : MarketS) (g : GiveS) : Int := if !(key g.Player) then 5 else if !(m.Teams.contains g.From) || !(m.Teams.contains g.To) then 8 else if g.From = g.To then 16 else 0
def zaJ (m : MarketS) (l : List GiveS) : Int := if l.length = 0 then 8 else if 40 < l.length then 2 else zax (zaA m) zcv zc9 l 0 l
theorem zfL {m : MarketS} {l : List GiveS} (h : zaJ m l = 0) : 0 < l.length ∧ l.length ≤ 40 ∧ (∀ x ∈ l, zaA m x = 0) ∧ l.Pairwise (fun a b => zcv a b < 0) := by
 unfold zaJ at h
 split at h
 ·omega
 split at h
 ·omega
 ·exact ⟨by omega, by omega, zfK l 0 h, zf8 zqr h⟩
def zcN (l : List GiveS) : List Str := l.flatMap fun g => [g.From, g.To]
theorem zeq (l : List GiveS) : (zcN l).length = 2 * l.length := by
 induction l with
 | nil => rfl
 | cons g r ih => simp only [zcN, List.flatMap_cons, List.length_append, List.length_cons, List.length_nil] at ih ⊢; omega
theorem zkd {l : List GiveS} {k : Nat} {g : GiveS} (h : l[k]? = some g) : zcN (l.take (k + 1)) = zcN (l.take k) ++ [g.From, g.To] := by
 unfold zcN; rw [zaI h, List.flatMap_append]; simp
def zbz (l : List GiveS) : List Str := zno (zcN l)
theorem zjl (l : List GiveS) : (zbz l).length ≤ 2 * l.length := by
 unfold zbz zno
 rw [zgz]
 have := zoi (zbj (zcN l)) none
 rw [zee, zeq] at this
 exact this
def zaS (m : MarketS) (x : DealS) : Int :=
 if !(key x.Id) then 5 else if !(m.Teams.contains x.By) then 8
 else if out x.To 1 345686400000 || out x.From 0 (x.To - 1) then 1
 else if zaJ m x.Gives ≠ 0 then zaJ m x.Gives
 else if !((zbz x.Gives).contains x.By) then 16 else 0
theorem zku {m : MarketS} {x : DealS} (h : zaS m x = 0) : zaJ m x.Gives = 0 := by
 unfold zaS at h
 split at h
 ·omega
 split at h
 ·omega
 split at h
 ·omega
 exact (zjS (b := if !((zbz x.Gives).contains x.By) then 16 else 0) h).1
theorem zkS (f t : Int) : (decide (f < 0) || decide (t ≤ f) || decide (345686400000 < t)) = (out t 1 345686400000 || out f 0 (t - 1)) := by
 rw [Bool.eq_iff_iff]; simp [out]; omega
theorem zrX {f t : Int} (h : (f < 0 ∨ t ≤ f) ∨ 345686400000 < t) : (out t 1 345686400000 || out f 0 (t - 1)) = true := by
 rw [← zkS]; simpa using h
theorem zso {f t : Int} (h : (0 ≤ f ∧ f < t) ∧ t ≤ 345686400000) : out t 1 345686400000 = false ∧ out f 0 (t - 1) = false := by
 have h1 : (out t 1 345686400000 || out f 0 (t - 1)) = false := by rw [← zkS]; simpa using h
 simpa using h1
def zcK (m : MarketS) (l : List DealS) : Int := if 500 < l.length then 2 else zax (zaS m) zdg zcb l 0 l
def zdE (m : MarketS) (l : List DealS) : Int := if zaf m ≠ 0 then zaf m else zcK m l
theorem zmN {m : MarketS} {l : List DealS} (h : zcK m l = 0) : l.length ≤ 500 ∧ (∀ x ∈ l, zaS m x = 0) ∧ l.Pairwise (fun a b => zdg a b < 0) := by
 unfold zcK at h
 split at h
 ·omega
 ·exact ⟨by omega, zfK l 0 h, zf8 zpT h⟩
theorem zmv {m : MarketS} {l : List DealS} (h : zdE m l = 0) : zaf m = 0 ∧ zcK m l = 0 := by
 unfold zdE at h; exact zjS h
def zan (m : MarketS) (x : ReplyS) : Int := if !(key x.Offer) then 5 else if !(m.Teams.contains x.Team) then 8 else if !(za4 x.At) then 1 else if out x.Kind 1 4 then 4 else 0
def zcR (m : MarketS) (a : List ReplyS) : Int := if 2000 < a.length then 2 else zax (zan m) zca zbN a 0 a
def zch (m : MarketS) (a : List ReplyS) : Int := if zaf m ≠ 0 then zaf m else zcR m a
theorem zrx {m : MarketS} {l : List ReplyS} (h : zcR m l = 0) : l.length ≤ 2000 ∧ (∀ x ∈ l, zan m x = 0) ∧ l.Pairwise (fun a b => zca a b < 0) := by
 unfold zcR at h
 split at h
 ·omega
 ·exact ⟨by omega, zfK l 0 h, zf8 zjr h⟩
theorem zrz {m : MarketS} {l : List ReplyS} (h : zch m l = 0) : zaf m = 0 ∧ zcR m l = 0 := by
 unfold zch at h; exact zjS h
def zfG (o : List OwnerS) (g : GiveS) : Option (List OwnerS) :=
 match o[o.findIdx (fun y => y.Player == g.Player)]? with
 | some y => if y.Team = g.From then some (o.set (o.findIdx (fun y => y.Player == g.Player)) ⟨y.Player, g.To⟩) else none
 | none => none
def zb5 : List OwnerS → List GiveS → Option (List OwnerS)
 | o, [] => some o
 | o, g :: r => (zfG o g).bind fun p => zb5 p r
theorem zpU {α : Type} {p : α → Bool} {l : List α} {i : Nat} {y : α} (hi : l[i]? = some y) (hp : p y = true) (hb : ∀ (j : Nat) (z : α), j < i → l[j]? = some z → p z = false) : l.findIdx p = i := by
 have hl := zN hi
 rw [List.getElem?_eq_getElem hl] at hi
 have e := Option.some.inj hi
 rw [List.findIdx_eq hl]
 refine ⟨by rw [e]; exact hp, fun j hj => ?_⟩
 have := hb j l[j] hj (List.getElem?_eq_getElem (by omega))
 simpa using this
theorem znS {o : List OwnerS} {g : GiveS} {i : Nat} {y : OwnerS} (hi : o[i]? = some y) (hp : y.Player = g.Player) (hb : ∀ (j : Nat) (z : OwnerS), j < i → o[j]? = some z → z.Player ≠ g.Player) : zfG o g = if y.Team = g.From then some (o.set i ⟨y.Player, g.To⟩) else none := by
 have h := zpU (p := fun y => y.Player == g.Player) hi (by simpa using hp) (fun j z hj hz => by simpa using hb j z hj hz)
 unfold zfG
 rw [h, hi]
theorem zp7 {o : List OwnerS} {g : GiveS} (h : ∀ y ∈ o, y.Player ≠ g.Player) : zfG o g = none := by
 unfold zfG
 rw [List.findIdx_eq_length.2 (fun y hy => by simpa using h y hy), List.getElem?_eq_none (Nat.le_refl _)]
theorem zlr {o : List OwnerS} {i : Nat} {y : OwnerS} {t : Str} (hi : o[i]? = some y) : (o.set i ⟨y.Player, t⟩).map (·.Player) = o.map (·.Player) := by
 rw [List.map_set]
 refine List.ext_getElem? fun j => ?_
 by_cases e : i = j
 ·subst e
  have hl := zN hi
  rw [List.getElem?_set_self (by simpa using hl), List.getElem?_map, hi]; rfl
 ·rw [List.getElem?_set_ne e]
theorem zp4 {o : List OwnerS} (h : o.Pairwise fun a b => zd6 a b < 0) : SortedS (o.map (·.Player)) :=
 List.pairwise_map.2 (h.imp fun {a b} hab => by
  rcases zct a.Player b.Player with q | q | q
  ·exact q
  ·exfalso; unfold zd6 at hab; rw [zeZ.2 q] at hab; omega
  ·exfalso
   have h1 : zbg b.Player a.Player ≤ 0 := zgm.2 (zbD q)
   have h2 := zek a.Player b.Player
   unfold zd6 at hab
   have h3 : ¬ zbg a.Player b.Player ≤ 0 := fun e => by
    have := zgm.1 e; rw [q] at this; cases this
   omega)
/-- The one that a search finds. -/
theorem ztG {l : List Str} {s : Str} (hs : SortedS l) (h : l.contains s = true) : l[zdL l s]? = some s ∧ ∀ (j : Nat) (z : Str), j < zdL l s → l[j]? = some z → z ≠ s := by
 obtain ⟨k, hk, e⟩ := List.getElem_of_mem (by simpa using h)
 have hk' : l[k]? = some s := by rw [List.getElem?_eq_getElem hk, e]
 have hp : zdL l s = k := zlS (by omega) (fun j x hj hx => hs.get hj hx hk') (fun j x hj hx => by
  rcases Nat.lt_or_eq_of_le hj with q | q
  ·exact zbD (hs.get q hk' hx)
  ·subst q; rw [hk'] at hx; cases hx; exact zaX _)
 rw [hp]
 refine ⟨hk', fun j z hj hz e2 => ?_⟩
 have := hs.get hj hz hk'
 rw [e2, zaX] at this; cases this
/-! as a walk tells it -/
section
variable {α : Type} {f : α → Int} {c : α → α → Int} {d : α} {l r : List α} {k : Nat} {x : α} {e : Int}
theorem zik (hg : zax f c d l 0 l = zax f c d l k (x :: r)) (he : e ≠ 0) (hf : f x = e) : zax f c d l 0 l = e := by
 rw [hg, zqP (by rw [hf]; exact he), hf]
theorem zis (hg : zax f c d l 0 l = zax f c d l k (x :: r)) (hf : f x = 0) (h0 : 0 < k) (h : c x (l.getD (k - 1) d) ≤ 0) : zax f c d l 0 l = 7 := by
 rw [hg, zqw hf h0 h]
theorem zl8 {a b : Str} : (Op.bytesLess a b || a == b) = true ↔ zbg a b ≤ 0 := by rw [zoq, decide_eq_true_iff]
theorem zqf {a b : Str} (h : (Op.bytesLess a b || a == b) = false) : ¬ zbg a b ≤ 0 := by rwa [zoq, decide_eq_false_iff_not] at h
end
theorem zbm {m : MarketS} {o r : List OwnerS} {k : Nat} {x : OwnerS} {e : Int} (hl : ¬ 500 < o.length) (hg : zdd m o = zax (za0 m) zd6 zb1 o k (x :: r)) (he : e ≠ 0) (hf : za0 m x = e) : e = zb9 m o := by
 have h : zdd m o = e := zik hg he hf
 rw [zb9, if_neg hl, h, if_pos he]
theorem zcV {m : MarketS} {o r : List OwnerS} {k : Nat} {x : OwnerS} (hl : ¬ 500 < o.length) (hg : zdd m o = zax (za0 m) zd6 zb1 o k (x :: r)) (hf : za0 m x = 0) (h0 : 0 < k) (h : (Op.bytesLess x.Player (o.getD (k - 1) zb1).Player || x.Player == (o.getD (k - 1) zb1).Player) = true) : 7 = zb9 m o := by
 have h : zdd m o = 7 := zis hg hf h0 (zl8.1 h)
 rw [zb9, if_neg hl, h]; rfl
theorem znH {m : MarketS} {o r : List OwnerS} {k : Nat} {x : OwnerS} (hf : za0 m x = 0) (h : 0 < k → (Op.bytesLess x.Player (o.getD (k - 1) zb1).Player || x.Player == (o.getD (k - 1) zb1).Player) = false) : zax (za0 m) zd6 zb1 o k (x :: r) = zax (za0 m) zd6 zb1 o (k + 1) r :=
 zgL hf fun h0 => zqf (h h0)
theorem zcW {m : MarketS} {o : List OwnerS} (h : 500 < o.length) : 2 = zb9 m o := by rw [zb9, if_pos h]
theorem zcY {m : MarketS} {o : List OwnerS} (hl : ¬ 500 < o.length) (hg : zdd m o = 0) : (if zfd m o then 0 else 12) = zb9 m o := by
 have h : ¬ zdd m o ≠ 0 := by simp [hg]
 rw [zb9, if_neg hl, if_neg h]
theorem zaE {m : MarketS} {l r : List GiveS} {k : Nat} {x : GiveS} {e : Int} (h0 : ¬ l.length = 0) (hl : ¬ 40 < l.length) (hg : zax (zaA m) zcv zc9 l 0 l = zax (zaA m) zcv zc9 l k (x :: r)) (he : e ≠ 0) (hf : zaA m x = e) : e = zaJ m l := by
 rw [zaJ, if_neg h0, if_neg hl, zik hg he hf]
theorem zcx {m : MarketS} {l r : List GiveS} {k : Nat} {x : GiveS} (h0 : ¬ l.length = 0) (hl : ¬ 40 < l.length) (hg : zax (zaA m) zcv zc9 l 0 l = zax (zaA m) zcv zc9 l k (x :: r)) (hf : zaA m x = 0) (hk : 0 < k) (h : (Op.bytesLess x.Player (l.getD (k - 1) zc9).Player || x.Player == (l.getD (k - 1) zc9).Player) = true) : 7 = zaJ m l := by
 rw [zaJ, if_neg h0, if_neg hl, zis hg hf hk (zl8.1 h)]
theorem znN {m : MarketS} {l r : List GiveS} {k : Nat} {x : GiveS} (hf : zaA m x = 0) (h : 0 < k → (Op.bytesLess x.Player (l.getD (k - 1) zc9).Player || x.Player == (l.getD (k - 1) zc9).Player) = false) : zax (zaA m) zcv zc9 l k (x :: r) = zax (zaA m) zcv zc9 l (k + 1) r :=
 zgL hf fun h0 => zqf (h h0)
theorem zcD {m : MarketS} {l : List GiveS} (h0 : ¬ l.length = 0) (hl : ¬ 40 < l.length) (hg : zax (zaA m) zcv zc9 l 0 l = 0) : 0 = zaJ m l := by
 rw [zaJ, if_neg h0, if_neg hl, hg]
theorem zbs {m : MarketS} {l r : List DealS} {k : Nat} {x : DealS} {e : Int} (hl : ¬ 500 < l.length) (hg : zax (zaS m) zdg zcb l 0 l = zax (zaS m) zdg zcb l k (x :: r)) (he : e ≠ 0) (hf : zaS m x = e) : e = zcK m l := by
 rw [zcK, if_neg hl, zik hg he hf]
theorem zcm {m : MarketS} {l r : List DealS} {k : Nat} {x : DealS} (hl : ¬ 500 < l.length) (hg : zax (zaS m) zdg zcb l 0 l = zax (zaS m) zdg zcb l k (x :: r)) (hf : zaS m x = 0) (hk : 0 < k) (h : (Op.bytesLess x.Id (l.getD (k - 1) zcb).Id || x.Id == (l.getD (k - 1) zcb).Id) = true) : 7 = zcK m l := by
 rw [zcK, if_neg hl, zis hg hf hk (zl8.1 h)]
theorem zmi {m : MarketS} {l r : List DealS} {k : Nat} {x : DealS} (hf : zaS m x = 0) (h : 0 < k → (Op.bytesLess x.Id (l.getD (k - 1) zcb).Id || x.Id == (l.getD (k - 1) zcb).Id) = false) : zax (zaS m) zdg zcb l k (x :: r) = zax (zaS m) zdg zcb l (k + 1) r :=
 zgL hf fun h0 => zqf (h h0)
theorem zcj {m : MarketS} {l : List DealS} (h : 500 < l.length) : 2 = zcK m l := by rw [zcK, if_pos h]
theorem zck {m : MarketS} {l : List DealS} (hl : ¬ 500 < l.length) (hg : zax (zaS m) zdg zcb l 0 l = 0) : 0 = zcK m l := by rw [zcK, if_neg hl, hg]
theorem zag {m : MarketS} {l r : List ReplyS} {k : Nat} {x : ReplyS} {e : Int} (hl : ¬ 2000 < l.length) (hg : zax (zan m) zca zbN l 0 l = zax (zan m) zca zbN l k (x :: r)) (he : e ≠ 0) (hf : zan m x = e) : e = zcR m l := by
 rw [zcR, if_neg hl, zik hg he hf]
theorem zcq {m : MarketS} {l r : List ReplyS} {k : Nat} {x : ReplyS} (hl : ¬ 2000 < l.length) (hg : zax (zan m) zca zbN l 0 l = zax (zan m) zca zbN l k (x :: r)) (hf : zan m x = 0) (hk : 0 < k) (h : zca x (l.getD (k - 1) zbN) ≤ 0) : 7 = zcR m l := by
 rw [zcR, if_neg hl, zis hg hf hk h]
theorem zor {m : MarketS} {l r : List ReplyS} {k : Nat} {x : ReplyS} (hf : zan m x = 0) (h : 0 < k → ¬ zca x (l.getD (k - 1) zbN) ≤ 0) : zax (zan m) zca zbN l k (x :: r) = zax (zan m) zca zbN l (k + 1) r :=
 zgL hf h
theorem zcn {m : MarketS} {l : List ReplyS} (h : 2000 < l.length) : 2 = zcR m l := by rw [zcR, if_pos h]
theorem zcl {m : MarketS} {l : List ReplyS} (hl : ¬ 2000 < l.length) (hg : zax (zan m) zca zbN l 0 l = 0) : 0 = zcR m l := by rw [zcR, if_neg hl, hg]
theorem zfR {x y : ReplyS} : 0 ≤ zca x y ↔ zca y x ≤ 0 := by
 have h1 := zjr.flip x y trivial trivial
 have h2 := zjr.flip y x trivial trivial
 omega
/-- Loops that count. -/
theorem zkw (o : List OwnerS) (t : Str) (k : Nat) (x : OwnerS) (hx : o[k]? = some x) : zdC (o.take (k + 1)) t = zdC (o.take k) t + (if x.Team = t then 1 else 0) := by
 rw [zaI hx, zra]
/-! an owner that is looked for -/
theorem zlO {a b : Str} : zbg a b < 0 ↔ Op.bytesLess a b = true := by
 have h1 := zek a b
 constructor
 ·intro h
  rcases zct a b with q | q | q
  ·exact q
  ·rw [zeZ.2 q] at h; omega
  ·have := zgm.2 (zbD q); omega
 ·intro h
  have h2 : ¬ zbg a b = 0 := fun e => by rw [zeZ.1 e, zaX] at h; cases h
  have h3 := zgm.2 (zbD h)
  omega
theorem zrm {l : List OwnerS} {s : Str} {i : Nat} : (bif decide ((i : Int) < (l.length : Int)) then zbg (l.getD i zb1).Player s == 0 else false) = ((l.map (·.Player))[i]? == some s) := by
 by_cases h : i < l.length
 ·have h' : (i : Int) < (l.length : Int) := by omega
  rw [List.getElem?_map, getD_some (d := zb1) h]
  simp only [h', decide_true, cond_true]
  rw [Bool.eq_iff_iff]; simp [zeZ]
 ·have h' : ¬ (i : Int) < (l.length : Int) := by omega
  rw [List.getElem?_map, List.getElem?_eq_none (by omega : l.length ≤ i)]
  simp [h']
theorem zjo {o : List OwnerS} {s : Str} (hs : SortedS (o.map (·.Player))) (h : (o.map (·.Player)).contains s = true) :
 zdL (o.map (·.Player)) s < o.length ∧ o[zdL (o.map (·.Player)) s]? = some (o.getD (zdL (o.map (·.Player)) s) zb1) ∧ (o.getD (zdL (o.map (·.Player)) s) zb1).Player = s ∧ ∀ (j : Nat) (z : OwnerS), j < zdL (o.map (·.Player)) s → o[j]? = some z → z.Player ≠ s := by
 obtain ⟨h1, h2⟩ := ztG hs h
 have hl : zdL (o.map (·.Player)) s < o.length := by simpa using zN h1
 have hg := getD_some (d := zb1) hl
 refine ⟨hl, hg, ?_, fun j z hj hz => h2 j z.Player hj (by rw [List.getElem?_map, hz]; rfl)⟩
 rw [List.getElem?_map, hg] at h1
 simpa using h1
theorem zre {o : List OwnerS} {s : Str} (h : (o.map (·.Player)).contains s = false) : ∀ y ∈ o, y.Player ≠ s := fun y hy e => by
 have : (o.map (·.Player)).contains s = true := by
  simp only [List.contains_eq_mem, decide_eq_true_eq]
  exact List.mem_map.2 ⟨y, hy, e⟩
 rw [h] at this; cases this
theorem zqE {o D : List OwnerS} {g : GiveS} {r l : List GiveS} {i : Nat} {y : OwnerS} (hg : zb5 o l = zb5 D (g :: r)) (hi : D[i]? = some y) (hp : y.Player = g.Player) (hb : ∀ (j : Nat) (z : OwnerS), j < i → D[j]? = some z → z.Player ≠ g.Player) (ht : y.Team = g.From) : zb5 o l = zb5 (D.set i ⟨y.Player, g.To⟩) r := by
 rw [hg, zb5, znS hi hp hb, if_pos ht]; rfl
theorem zkZ {o D : List OwnerS} {g : GiveS} {r l : List GiveS} {i : Nat} {y : OwnerS} (hg : zb5 o l = zb5 D (g :: r)) (hi : D[i]? = some y) (hp : y.Player = g.Player) (hb : ∀ (j : Nat) (z : OwnerS), j < i → D[j]? = some z → z.Player ≠ g.Player) (ht : ¬ y.Team = g.From) : zb5 o l = none := by
 rw [hg, zb5, znS hi hp hb, if_neg ht]; rfl
theorem zmu {o D : List OwnerS} {g : GiveS} {r l : List GiveS} (hg : zb5 o l = zb5 D (g :: r)) (h : ∀ y ∈ D, y.Player ≠ g.Player) : zb5 o l = none := by
 rw [hg, zb5, zp7 h]; rfl
def zdQ (o : List OwnerS) (l : List GiveS) : List OwnerS := (zb5 o l).getD []
def zfy (m : MarketS) (o : List OwnerS) (l : List GiveS) : Bool := match zb5 o l with | some d => zfd m d | none => false
theorem zmL {m : MarketS} {o : List OwnerS} {l : List GiveS} (h : zb5 o l = none) : zfy m o l = false ∧ zdQ o l = [] := by
 unfold zfy zdQ; rw [h]; exact ⟨rfl, rfl⟩
theorem zro {m : MarketS} {o d : List OwnerS} {l : List GiveS} (h : zb5 o l = some d) : zfy m o l = zfd m d ∧ zdQ o l = d := by
 unfold zfy zdQ; rw [h]; exact ⟨rfl, rfl⟩
end
end Go.HL
