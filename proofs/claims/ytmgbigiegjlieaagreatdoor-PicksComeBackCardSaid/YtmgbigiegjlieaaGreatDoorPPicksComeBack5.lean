/- The statement is proved: the card of the law, out of its function's contract; no conditions. -/
import Derived.Test.YtmgbigiegjlieaaGreatDoorPPicksComeBack4
import Derived.Ground.Names2Prog
import Derived.Handed
import Derived.KernelRfl
import Derived.LaidMore
import Derived.Lay
import Derived.OpenShut
import Derived.ProofKit
import Derived.SevenTiedAt
import Derived.Shelf.SlIter.Collect
import Derived.Shelf.SlIter.Keys
import Derived.Shelf.SlIter.Sorted
import Derived.Shelf.SlSortCmp.NoneTotal
import Derived.Shelf.Slices.CompactS
import Derived.Shelf.Slices.Delete
import Derived.Shelf.Sort.Plain
import Derived.Shelf.SortM.Plain
import Derived.Shelf.SortM.SortNone
import Derived.Shelf.Strconv.Atoi
import Derived.Shelf.Strconv.Itoa3
import Derived.Shelf.Strings.Count
import Derived.Shelf.Strings.Cut
import Derived.Shelf.Strings.Prefix
import Derived.Shelf.Strings.Split
import Derived.Shelf.Strings.SplitShaped
import Derived.Stop.Joined
import Derived.Test.YtmgbigiegjlieaaGreatDoorCards
import Derived.Test.YtmgbigiegjlieaaGreatDoorProg
import Derived.Test.YtmgbigiegjlieaaGreatDoorTie
set_option linter.unusedVariables false
set_option linter.unusedSimpArgs false
section
namespace Go.HL
variable {P : Program}
open Go.Sort Go.Proofs Go.Shelf Go.RowKit
theorem grown_of_sat [Tracks] {w w' : World} {J : Imm} {M : List MObj} (hT : Tracks.on = true) (hl : Le (allI w) J) (hs : Sat P J M w') : ∃ q os, w' = grow (w.drewN q) os := by
 have hb := below_of_sat hl hs
 have hd : w.drawn ≤ w'.drawn := Nat.le_trans (hl.low hT) (hs.low hT)
 refine ⟨w'.drawn - w.drawn, w'.heap.extract w.heap.size w'.heap.size, ?_⟩
 have hh : w'.heap = w.heap ++ w'.heap.extract w.heap.size w'.heap.size := by
  apply Array.ext_getElem?
  intro i
  by_cases hi : i < w.heap.size
  ·rw [Array.getElem?_append_left hi]; exact hb.block i hi
  ·rw [Array.getElem?_append_right (by omega), Array.getElem?_extract]
   have := hb.size
   split
   ·congr 1; omega
   ·rw [Array.getElem?_eq_none (by omega)]
 have h1 := hb.os
 have h2 := hb.tape
 have h3 := hb.output
 obtain ⟨a1, a2, a3, a4, a5⟩ := w'
 obtain ⟨b1, b2, b3, b4, b5⟩ := w
 simp only at h1 h2 h3 hd hh
 subst h1 h2 h3
 simp only [grow, World.drewN, World.mk.injEq]
 exact ⟨hh, trivial, by omega, trivial, trivial⟩
theorem ConP.calls [Tracks] {f : FuncId} {hargs : List HVal} {h : HVal} (hT : Tracks.on = true) (hc : ConP P f hargs h) {w : World} (ht : TabI P (allI w)) {args : List Value} (ha : VL (allI w) hargs args) :
 Calls P f args.toArray w fun e w' => ∃ v, e = .returned v ∧ V (allI w') h v ∧ ∃ q os, w' = grow (w.drewN q) os := by
 refine (hc (allI w) [] w args ha (sat_now ht)).mono ?_
 rintro e w' ⟨v, x, M', J, rfl, hle, ⟨rfl, rfl⟩, hV, hs⟩
 exact ⟨v, rfl, hV.mono hs.le_all, grown_of_sat hT hle hs⟩
@[reducible] def trackOn : Tracks := ⟨true⟩
/-- A row of cells that reads as an element. -/
abbrev RowT {A : Type} (I : Imm) (e : A → HVal) (k : Nat) : Type := { p : A × List Value // p.2.length = k ∧ (∀ v ∈ p.2, v.oneCell' = true) ∧ VL I (hcells (e p.1)) p.2 }
theorem rows_ex [Tracks] {A : Type} {I : Imm} {e : A → HVal} {k : Nat} (hk : ∀ x, (hcells (e x)).length = k) (hf : ∀ x, flat (hcells (e x)) = true) {rc : Array Value} : ∀ (l : List A) (off : Nat), off + l.length * k ≤ rc.size →
 (∀ (i j : Nat) (x : A) (c : HVal) (v : Value), l[i]? = some x → (hcells (e x))[j]? = some c → rc[off + i * k + j]? = some v → V I c v) →
 ∃ d : List (RowT I e k), d.map (·.1.1) = l ∧ ∀ (i j : Nat) (p : RowT I e k), d[i]? = some p → j < k → rc[off + i * k + j]? = p.1.2[j]?
 | [], off, _, _ => ⟨[], rfl, fun i j p h => by simp at h⟩
 | x :: l, off, hb, hV => by
   have hb' : off + k + l.length * k ≤ rc.size := by simp [Nat.add_mul] at hb; omega
   obtain ⟨d, h1, h2⟩ := rows_ex hk hf l (off + k) hb' fun i j y c v a1 a2 a3 => hV (i + 1) j y c v (by simpa using a1) a2 (by rw [Nat.add_mul, Nat.one_mul]; rw [show off + (i * k + k) + j = off + k + i * k + j by omega]; exact a3)
   have hlen : (rc.extract off (off + k)).toList.length = k := by simp; omega
   have hg : ∀ j, j < k → (rc.extract off (off + k)).toList[j]? = rc[off + j]? := fun j hj => by
    rw [Array.getElem?_toList, Array.getElem?_extract, if_pos (by omega)]
   have hvl : VL I (hcells (e x)) (rc.extract off (off + k)).toList := ⟨by rw [hlen, hk], fun j c v a1 a2 => by
    have hj : j < k := by have := lt_of_get a1; rw [hk] at this; exact this
    rw [hg j hj] at a2
    exact hV 0 j x c v rfl a1 (by simpa using a2)⟩
   refine ⟨⟨(x, (rc.extract off (off + k)).toList), hlen, flat_one hvl (hf x), hvl⟩ :: d, by simp [h1], fun i j p hp hj => ?_⟩
   cases i with
   | zero =>
     simp only [List.getElem?_cons_zero, Option.some.injEq] at hp
     subst hp
     simp only [Nat.zero_mul, Nat.add_zero]
     exact (hg j hj).symm
   | succ i =>
     simp only [List.getElem?_cons_succ] at hp
     rw [← h2 i j p hp hj, Nat.add_mul, Nat.one_mul]
     congr 1; omega
section
variable {A : Type} {e : A → HVal} {k : Nat}
theorem sortW_get {α : Type} [Inhabited α] {enc : α → List Value} {w : World} {b off m : Nat} {dk : Array α} {os : Array Obj} {c : Nat} (hc : c < w.heap.size) (hb : c ≠ b) : (sortWorldK enc k w b off m dk os).heap[c]? = w.heap[c]? := by
 simp only [sortWorldK, grow, putRowK, putRow, mapBlock, Sort.ahead]
 rw [Array.getElem?_append_left (by simpa using hc), Array.getElem?_modify, if_neg (Ne.symm hb)]
theorem sortW_blk {α : Type} [Inhabited α] {enc : α → List Value} {w : World} {b off m : Nat} {dk : Array α} {os : Array Obj} {rc : Array Value} {el : TypeId} {fr : Nat × Nat} (hb : w.heap[b]? = some (.cells rc el fr)) :
 (sortWorldK enc k w b off m dk os).heap[b]? = some (.cells (putCells id off (flatK enc k dk) rc) el fr) := by
 have hlt : b < w.heap.size := lt_of_get' hb
 simp only [sortWorldK, grow, putRowK, putRow, mapBlock, Sort.ahead]
 rw [Array.getElem?_append_left (by simpa using hlt), Array.getElem?_modify, if_pos rfl, hb]
 rfl
where
 lt_of_get' {α : Type} {a : Array α} {i : Nat} {x : α} (h : a[i]? = some x) : i < a.size := by
  rcases Nat.lt_or_ge i a.size with h' | h'
  ·exact h'
  ·simp [Array.getElem?_eq_none h'] at h
theorem flatK_get {α : Type} [Inhabited α] {enc : α → List Value} (hk : ∀ x, (enc x).length = k) {dk : Array α} {i j : Nat} {x : α} (hx : dk[i]? = some x) (hj : j < k) : some ((flatK enc k dk)[i * k + j]!) = (enc x)[j]? := by
 have hi : i < dk.size := by
  rcases Nat.lt_or_ge i dk.size with h' | h'
  ·exact h'
  ·simp [Array.getElem?_eq_none h'] at hx
 have hle : (i + 1) * k ≤ dk.size * k := Nat.mul_le_mul_right _ hi
 rw [Nat.add_mul, Nat.one_mul] at hle
 rw [get_flatK enc k dk _ (by omega)]
 have e1 : (i * k + j) / k = i := by rw [Nat.mul_comm, Nat.mul_add_div (by omega), Nat.div_eq_of_lt hj]; rfl
 have e2 : (i * k + j) % k = j := by rw [Nat.mul_comm, Nat.mul_add_mod, Nat.mod_eq_of_lt hj]
 rw [e1, e2]
 have e3 : dk[i]! = x := by rw [getElem!_pos dk i hi]; rw [Array.getElem?_eq_getElem hi] at hx; exact Option.some.inj hx
 rw [e3]
 have hjl : j < (enc x).length := by rw [hk]; exact hj
 rw [List.getElem?_eq_getElem hjl, getElem!_pos (enc x) j hjl]
set_option maxHeartbeats 1000000 in
/-- slices.SortFunc: a permutation that is sorted. -/
theorem con_sortf [Tracks] {ρ : Ren} (L : SlLaysF0.n6 P ρ) (aE : ∀ w, (isAgg (ρ.t 24)).run P w = .ok true w) (zE : ∀ w, (Go.sizeOf (ρ.t 24)).run P w = .ok k w) (hk : ∀ x, (hcells (e x)).length = k) (ha : ∀ x, e x = .agg (hcells (e x))) (hf : ∀ x, flat (hcells (e x)) = true)
 {c : A → A → Int} (hO : SWO (ltOf c)) {g : FuncId} (hg : Callable P g) {cap : List HVal} (hc : ∀ x y, @ConP trackOn P g (e x :: e y :: cap) (.int .i64 (c x y))) {l : List A} (hl : l.length ≤ 1000000) {v : Value} :
 Con P (ρ.f 6) [.raw v, .fn (.func g) [] cap] [.arr v k (l.map e)] fun x M' => ∃ l' : List A, x = .tup [] ∧ l'.Perm l ∧ l'.Pairwise (fun a b => ¬ c b a < 0) ∧ M' = [.arr v k (l'.map e)] := by
 intro I F w args hargs hs
 obtain ⟨n1, n2⟩ := hargs
 match args, n1, n2 with
 | [u, fv], _, n2 =>
   obtain rfl : u = v := (n2 0 _ _ rfl rfl).raw_inv
   obtain ⟨f1, cb, rfl, f2, f3⟩ := (n2 1 _ _ rfl rfl).fn_inv
   have hf1 : f1 = #[] := by have := f2.1; simp at this; exact this
   subst hf1
   by_cases h0 : l = []
   ·subst h0
    have hu : ∃ p cp, u = .slice p 0 cp := by
     rcases hs.obj (.arr u k (([] : List A).map e)) (by simp) with ⟨rfl, _⟩ | ⟨b, off, cp, rc, el, fr, rfl, _⟩
     ·exact ⟨_, _, rfl⟩
     ·exact ⟨_, _, rfl⟩
    obtain ⟨p, cp, rfl⟩ := hu
    refine (AnyF.slices_SortFunc_none L p cp _ w).mono ?_
    rintro _ _ ⟨rfl, rfl⟩
    exact ⟨_, .tup [], _, I, rfl, .refl I, ⟨[], rfl, .refl _, .nil, rfl⟩, .tup (by simp) (fun j c v h _ => by simp at h), hs⟩
   ·rcases hs.obj (.arr u k (l.map e)) (by simp) with ⟨_, hn⟩ | ⟨b, off, cp, rc, el, fr, rfl, _⟩
    ·simp at hn; exact absurd hn h0
    ·rw [List.length_map] at hs ⊢
     obtain ⟨_, rc, el, fr, h2, h3, h4, h5, h6, h7⟩ := arr_some hs
     rw [List.length_map] at h5
     have hblt : b < w.heap.size := sortW_blk.lt_of_get' h2
     have hsz : off + l.length * k ≤ rc.size := by
      have : l.length * k ≤ cp * k := Nat.mul_le_mul_right _ h5.1
      omega
     obtain ⟨d, d1, d2⟩ := rows_ex (I := I) (e := e) hk hf (rc := rc) l off hsz fun i j x c v a1 a2 a3 => h7 i j (e x) c v (by simp [a1]) a2 a3
     have dl : d.length = l.length := by rw [← d1]; simp
     obtain ⟨p0, hp0⟩ : ∃ p, d[0]? = some p := ⟨_, List.getElem?_eq_getElem (by have := List.length_pos_iff.2 h0; omega)⟩
     haveI : Inhabited (RowT I e k) := ⟨p0⟩
     have hkr : ∀ x : RowT I e k, (x.1.2).length = k := fun x => x.2.1
     have hH : HoldsK (fun x : RowT I e k => x.1.2) k w b off d.toArray := fun j hj => by
      simp only [size_flatK, List.size_toArray, dl] at hj
      have hk0 : 0 < k := by rcases Nat.eq_zero_or_pos k with h | h; (subst h; simp at hj); exact h
      have hi : j / k < d.length := by rw [dl]; exact Nat.div_lt_of_lt_mul (by rw [Nat.mul_comm]; exact hj)
      have hjk := Nat.mod_lt j hk0
      have hdj : j / k * k + j % k = j := by rw [Nat.mul_comm]; exact Nat.div_add_mod j k
      have hg1 := d2 (j / k) (j % k) d[j / k] (List.getElem?_eq_getElem hi) hjk
      have hg2 := flatK_get (enc := fun x : RowT I e k => x.1.2) (k := k) hkr (dk := d.toArray) (i := j / k) (j := j % k) (x := d[j / k]) (by simp [hi]) hjk
      rw [hdj] at hg2
      constructor
      ·rw [cell_of h2]
       rw [show off + j = off + j / k * k + j % k by omega, hg1, ← hg2]; rfl
      ·simp only [World.frozen?, h2]
       have := h3 (off + j) (by omega)
       simpa using this
     have hle : ∀ (m : Nat) (dk : Array (RowT I e k)) (os : Array Obj), Le I (allI (sortWorldK (fun x : RowT I e k => x.1.2) k w b off m dk os)) := fun m dk os =>
      ⟨fun c o ho => by
       have hcb : c ≠ b := fun hh => by
        subst hh
        have := hs.apart c (by simp [blocks, MObj.blocks])
        rw [this] at ho; cases ho
       have h9 := hs.imm c o ho
       show (sortWorldK _ k w b off m dk os).heap[c]? = some o
       rw [sortW_get (sortW_blk.lt_of_get' h9) hcb]; exact h9, hs.os, hs.output, hs.tape, fun ht => Nat.le_trans (hs.low ht) (Nat.le_add_right _ _)⟩
     have hcmp : CmpLays P g cb (fun x : RowT I e k => x.1.2) k (fun x y => c x.1.1 y.1.1) b off d.toArray.size w := fun m os dk _ x y => by
      have hI := hle m dk os
      have hxa : ∀ z : RowT I e k, V (allI (sortWorldK (fun x : RowT I e k => x.1.2) k w b off m dk os)) (e z.1.1) (.agg z.1.2.toArray) := fun z => by
       rw [ha]; exact V.mk_agg (by simpa using z.2.2.2.mono hI)
      have e9 : (#[Value.agg x.1.2.toArray, .agg y.1.2.toArray] ++ cb) = (Value.agg x.1.2.toArray :: .agg y.1.2.toArray :: cb.toList).toArray := by simp
      rw [e9]
      refine (@ConP.calls P trackOn g _ _ rfl (hc x.1.1 y.1.1) _ (hs.tab.mono hI) _ (VL.cons (hxa x) (VL.cons (hxa y) (f3.mono hI)))).mono ?_
      rintro _ w' ⟨u, rfl, hu, q, os', rfl⟩
      exact ⟨by rw [hu.int_inv], q, os', rfl⟩
     have hO' : SWO (ltOf fun x y : RowT I e k => c x.1.1 y.1.1) := ⟨fun x => hO.irrefl x.1.1, fun x y z => hO.trans x.1.1 y.1.1 z.1.1, fun x y z => hO.ntrans x.1.1 y.1.1 z.1.1⟩
     have hrun := AnyQ.slices_SortFunc L k aE zE (fun x : RowT I e k => x.1.2) hkr (fun x => x.2.2.1) (fun x y => c x.1.1 y.1.1) hO' g cb b off cp d.toArray w (run_callFunc hg) hcmp hH hblt (by simp; omega)
     rw [List.size_toArray, dl] at hrun
     refine hrun.mono ?_
     rintro _ w' ⟨rfl, d', m, os, ⟨q1, _, q3⟩, q4, rfl⟩
     simp only [List.size_toArray, dl] at q1
     have q3' : d'.toList.Perm d := by
      have e1 : (d'.extract 0 l.length) = d' := by rw [← q1]; exact Array.extract_size
      have e2 : (d.toArray.extract 0 l.length) = d.toArray := by have := Array.extract_size (xs := d.toArray); rw [List.size_toArray, dl] at this; exact this
      rw [e1, e2] at q3; simpa using q3
     refine ⟨_, .tup [], [.arr (.slice (some ⟨b, off, none⟩) l.length cp) k ((d'.toList.map (·.1.1)).map e)], I, rfl, .refl I, ⟨d'.toList.map (·.1.1), rfl, by rw [← d1]; exact q3'.map _, ?_, rfl⟩, .tup (by simp) (fun j c v h _ => by simp at h), ?_⟩
     ·refine List.pairwise_iff_getElem.2 fun i j hi hj hij => ?_
      simp only [List.length_map, Array.length_toList] at hi hj
      have := q4 i j (Nat.zero_le _) hij (by omega)
      rw [getElem!_pos d' i hi, getElem!_pos d' j hj] at this
      simp only [ltOf, decide_eq_false_iff_not] at this
      simpa using this
     ·have hchg : ∀ x, x < w.heap.size → x ∉ (MObj.arr (.slice (some ⟨b, off, none⟩) l.length cp) k (l.map e)).blocks → (sortWorldK (fun x : RowT I e k => x.1.2) k w b off m d' os).heap[x]? = w.heap[x]? := fun x hx hnx => sortW_get hx fun hh => hnx (by rw [hh]; simp [MObj.blocks])
      refine hs.change (m' := .arr (.slice (some ⟨b, off, none⟩) l.length cp) k ((d'.toList.map (·.1.1)).map e)) hchg (fun x hx => .inl hx) (by simp [MObj.blocks]) ?_ rfl rfl rfl (fun _ => Nat.le_add_right _ _)
      refine .inr ⟨b, off, cp, putCells id off (flatK (fun x : RowT I e k => x.1.2) k d') rc, el, fr, by simp [q1], sortW_blk h2, by simpa [putCells] using h3, ?_, by simp [q1]; exact h5, by simpa [putCells] using h6, ?_⟩
      ·intro y hy; obtain ⟨z, _, rfl⟩ := List.mem_map.1 hy; exact hk z
      ·intro i j y z v a1 a2 a3
       rw [List.map_map, List.getElem?_map] at a1
       cases hq : d'.toList[i]? with
       | none => rw [hq] at a1; simp at a1
       | some r =>
         rw [hq] at a1
         simp only [Option.map_some, Function.comp_apply, Option.some.injEq] at a1
         subst a1
         have hj : j < k := by have := lt_of_get a2; rw [hk] at this; exact this
         have hi : i < l.length := by have := lt_of_get hq; simp at this; omega
         have hle : (i + 1) * k ≤ l.length * k := Nat.mul_le_mul_right _ hi
         rw [Nat.add_mul, Nat.one_mul] at hle
         have hr : off + i * k + j < rc.size := by omega
         rw [putCells, Array.getElem?_mapIdx, Array.getElem?_eq_getElem hr, Option.map_some, if_pos ⟨by omega, by rw [size_flatK, q1]; omega⟩] at a3
         rw [show off + i * k + j - off = i * k + j by omega] at a3
         have hg2 := flatK_get (enc := fun x : RowT I e k => x.1.2) (k := k) hkr (dk := d') (i := i) (j := j) (x := r) (by simpa using hq) hj
         rw [show (id (flatK (fun x : RowT I e k => x.1.2) k d')[i * k + j]!) = (flatK (fun x : RowT I e k => x.1.2) k d')[i * k + j]! from rfl, hg2] at a3
         exact r.2.2.2.2 j z v a2 a3
end
end Go.HL
end
section
namespace Go.HL
open Go.Proofs Go.RowKit Go.Maps Go.Sort Go.Shelf
section
variable {P : Program}
def anyR (H : Type) : Value → Option (DataW H × List MemPlace) := fun _ => some (.nil, [])
theorem map_keys {I : Imm} {w : World} {b : Nat} {α : Type} {f : α → HVal} {L : List (Str × α)} (hm : MSat I w (.map b (sk (em f L)))) :
 ∃ es clk, w.heap[b]? = some (.map es clk) ∧ BornOk es clk ∧ es.size = L.length ∧ es.toList.map (·.key) = L.map fun p => encStr p.1 := by
 obtain ⟨es, clk, h1, ⟨h2, h4⟩, h3⟩ := hm
 have hl : es.size = L.length := by rw [h2]; simp [sk]
 refine ⟨es, clk, h1, h4, hl, List.ext_getElem? fun i => ?_⟩
 rw [List.getElem?_map, List.getElem?_map]
 rcases Nat.lt_or_ge i L.length with h | h
 ·have a1 : L[i]? = some L[i] := List.getElem?_eq_getElem h
  have a2 : es[i]? = some es[i] := Array.getElem?_eq_getElem (by omega)
  have a3 : (sk (em f L))[i]? = some (.str L[i].1, f L[i].2) := by simp [sk, a1]
  have a4 := (h3 i _ _ a3 a2).1.str_inv
  rw [a1, Array.getElem?_toList, a2]
  simp only [Option.map_some, Option.some.injEq]
  rw [a4]
  try rfl
 ·rw [List.getElem?_eq_none h, List.getElem?_eq_none (by rw [Array.length_toList]; omega)]; rfl
theorem nodup_born {es : Array MapEntry} {clk : Nat} (h : BornOk es clk) : (es.toList.map (·.born)).Nodup := by
 refine List.pairwise_iff_getElem.2 fun i j hi hj hij e => ?_
 rw [List.getElem_map, List.getElem_map] at e
 rw [List.length_map, Array.length_toList] at hi hj
 have := h.2 i j es[i] es[j] (Array.getElem?_eq_getElem hi) (Array.getElem?_eq_getElem hj) (by simpa using e)
 omega
theorem owns_of_map {I : Imm} {w : World} {b : Nat} {α : Type} {f : α → HVal} {L : List (Str × α)} {k : TypeId} (hk : P.underlying k = some .string) (hm : MSat I w (.map b (sk (em f L)))) (hn : ANodup L)
 (hl : ∀ p ∈ L, p.1.length ≤ 1000000) (hs : L.length ≤ 1000000) : ∃ D : DataW Unit, w.ownsMap P k (anyR Unit) b L.length D ∧ (strKeys D).Perm (L.map (·.1)) ∧ Maps.size D = L.length := by
 obtain ⟨es, clk, h1, h2, h3, h4⟩ := map_keys hm
 have hx : ∀ x ∈ es.toList, ∃ p ∈ L, x.key = encStr p.1 := fun x hx => by
  have := List.mem_map_of_mem (f := (·.key)) hx
  rw [h4] at this
  obtain ⟨p, hp, e⟩ := List.mem_map.1 this
  exact ⟨p, hp, e.symm⟩
 have hrd : ∀ x ∈ es.toList, ∀ p ∈ L, x.key = encStr p.1 → WideElems.rd P k (anyR Unit) x = some (.string p.1, .nil) := fun x _ p hp e => by
  have := hl p hp
  have hm : maxLen = 9223372036854775807 := by rfl
  simp [WideElems.rd, keyOf, hk, e, mapKey, encStr, anyR, hm]
  rw [if_pos (by show p.1.toArray.size ≤ _; simp; omega)]
  rfl
 have hkeys : es.toList.map (fun x => strOf (WideElems.rg P k (anyR Unit) x).1) = L.map (·.1) := by
  have e2 : es.toList.map (fun x => strOf (WideElems.rg P k (anyR Unit) x).1) = (es.toList.map (·.key)).map fun v => match v with | .string s => s.data.toList | _ => [] := by
   rw [List.map_map]
   refine List.map_congr_left fun x hx' => ?_
   obtain ⟨p, hp, e⟩ := hx x hx'
   rw [WideElems.rg_of (hrd x hx' p hp e)]
   simp [e, encStr, strOf]
  rw [e2, h4, List.map_map]
  refine List.map_congr_left fun p _ => ?_
  simp [encStr]
 have hml : maxLen = 9223372036854775807 := by rfl
 refine ⟨_, ⟨es, clk, h1, ⟨by omega, ⟨fun x hx' => ?_, nodup_born h2, ?_⟩, fun x hx' => ?_⟩, by omega, rfl⟩, ?_, ?_⟩
 ·obtain ⟨i, hi⟩ := List.getElem?_of_mem hx'
  exact h2.1 i x (by simpa using hi)
 ·rw [h4]
  have : (L.map fun p => encStr p.1) = (L.map (·.1)).map encStr := by rw [List.map_map]; rfl
  rw [this]
  exact List.Pairwise.map encStr (fun a b hab e => hab (encStr_inj e)) hn
 ·obtain ⟨p, hp, e⟩ := hx x hx'
  exact ⟨_, hrd x hx' p hp e⟩
 ·show ((List.foldr DataW.insert [] _).map fun p => strOf p.1).Perm _
  rw [← hkeys]
  have := (WideShapes.sorted_perm (es.toList.map (WideElems.rg P k (anyR Unit)))).map fun p => strOf p.1
  rw [List.map_map] at this
  exact this
 ·show (List.foldr DataW.insert [] _).length = _
  rw [(WideShapes.sorted_perm _).length_eq, List.length_map, Array.length_toList, h3]
theorem con_keys [Tracks] {ρ : Ren} (L : SlLaysZ.n7 P ρ) {b : Nat} : Con P (ρ.f 7) [.raw (.map (some b))] [] fun x M' => ∃ bx, x = .fn (.func (ρ.f 10)) [] [.raw (.pointer (some ⟨bx, 0, none⟩))] ∧ M' = [.cells bx [.raw (.map (some b))]] := by
 intro I F w args ha hs
 obtain ⟨u, rfl, hu⟩ := ha.one
 obtain rfl := hu.raw_inv
 refine ((callsIn_wide (n := 1)).1 (AnyZ.keys_in L Fence.wide 1 trivial rfl (some b) w)).mono ?_
 rintro _ w' ⟨rfl, rfl⟩
 refine ⟨_, _, _, I, rfl, .refl I, ⟨w.heap.size, rfl, rfl⟩, .fn rfl rfl (fun j c v h _ => by simp at h) (fun j c v h1 h2 => ?_), ?_⟩
 ·exact (VL.cons (.raw _ rfl) VL.nil : VL I [.raw (.pointer (some ⟨w.heap.size, 0, none⟩))] [.pointer (some ⟨w.heap.size, 0, none⟩)]).2 j c v h1 (by simpa using h2)
 ·exact hs.new_own _ _ rfl ⟨#[.map (some b)], ρ.t 23, (0, 0), by simp, Free.zero _, VL.cons (.raw _ rfl) VL.nil⟩
theorem con_sorted [Tracks] (hT : Tracks.on = false) {ρ ρk : Ren} (L : SlLaysZ.n6 P ρ) (Lk : SlLaysZ.n7 P ρk) (hsort : ∀ m, AnyZ.SortsIn P ρ Fence.wide m)
 (e9 : ∀ args w, (callFunc (ρ.f 9) args).run P w = .ok (.enter (ρ.f 9) args) w) (eg : ∀ args w, (callFunc (ρk.f 10) args).run P w = .ok (.enter (ρk.f 10) args) w)
 {α : Type} {f : α → HVal} {l : List (Str × α)} (hn : ANodup l) (hl : ∀ p ∈ l, p.1.length ≤ 1000000) (hs : l.length ≤ 1000000) {b bx : Nat} :
 Con P (ρ.f 6) [.fn (.func (ρk.f 10)) [] [.raw (.pointer (some ⟨bx, 0, none⟩))]] [.cells bx [.raw (.map (some b))], .map b (sk (em f l))] fun x M' => ∃ v, x = .raw v ∧ M' = [.arr v 1 ((sortS (l.map (·.1))).map .str), .map b (sk (em f l))] := by
 intro I F w args ha hsat
 obtain ⟨u, rfl, hu⟩ := ha.one
 obtain ⟨v1, v2, rfl, hv1, hv2, hc⟩ : ∃ v1 v2, u = .func (.func (ρk.f 10)) v1 v2 ∧ v1 = #[] ∧ v2.size = 1 ∧ ∀ (j : Nat) (c : HVal) (v : Value), [HVal.raw (.pointer (some ⟨bx, 0, none⟩))][j]? = some c → v2[j]? = some v → V I c v := by
  cases hu with
  | fn h1 h2 h3 h4 => exact ⟨_, _, rfl, Array.eq_empty_of_size_eq_zero (by simpa using h1), by simpa using h2, h4⟩
 subst hv1
 obtain rfl : v2 = #[.pointer (some ⟨bx, 0, none⟩)] := by
  match v2, hv2 with
  | ⟨[y]⟩, _ => have := (hc 0 _ y rfl rfl).raw_inv; rw [this]
 obtain ⟨rc, el, fr, c1, c2, c3⟩ := hsat.obj (.cells bx [.raw (.map (some b))]) (by simp)
 have hmap := hsat.obj (.map b (sk (em f l))) (by simp)
 obtain ⟨D, d1, d2, d3⟩ := owns_of_map (k := ρk.t 26) (by exact Lk.t26) hmap hn hl hs
 have hbx : bx < w.heap.size := (Array.getElem?_eq_some_iff.1 c1).1
 have hcell : w.cell? ⟨bx, 0, none⟩ = some (.map (some b)) := by
  have := c3.1
  match rc, this, c1, c3 with
  | ⟨[y]⟩, _, c1, c3 =>
    have hy := c3.head.raw_inv
    subst hy
    simp [World.cell?, c1]
 have hseq := AnyZ.keys_gives (ρ := ρk) { Lk with } Fence.wide 2 trivial rfl (by omega) bx b l.length D w hbx hcell d1
 have cS := AnyZ.sorted_in L Fence.wide 5 trivial trivial trivial trivial rfl (by omega) (hsort _) e9 (ρk.f 10) #[.pointer (some ⟨bx, 0, none⟩)] trivial eg _ _ (by rw [d3]; exact Nat.le_trans hs (by decide)) (by rw [d3]; omega) w hseq
 refine ((callsIn_wide (n := 5)).1 cS).mono ?_
 rintro e w' ⟨v, ss, rfl, hS, hrow, hnil, hb⟩
 have hss : (ss.mergeSort fun x y => decide (x ≤ y)) = sortS (l.map (·.1)) := mergeSort_of_perm (hS.trans d2)
 rw [hss] at hrow
 have hlen : ss.length = (sortS (l.map (·.1))).length := by rw [sortS_len, (hS.trans d2).length_eq]
 have hmem : MSat I w' (.arr v 1 ((sortS (l.map (·.1))).map .str)) := by
  rcases hrow.2 with ⟨rfl, hz⟩ | ⟨gb, cap, cur, rfl, hbase, hgb, r1, r2, r3, r4⟩
  ·refine .inl ⟨rfl, ?_⟩
   have : sortS (l.map (·.1)) = [] := List.length_eq_zero_iff.1 (by omega)
   rw [this]; rfl
  ·refine .inr ⟨gb, 0, cap, cur, _, _, by rw [List.length_map, ← hlen], hgb, Free.zero _, fun e he => ?_, ⟨by rw [List.length_map]; omega, Nat.le_trans r2 (by decide)⟩, by omega, fun i j e c y h1 h2 h3 => ?_⟩
   ·obtain ⟨s, _, rfl⟩ := List.mem_map.1 he; rfl
   ·rw [List.getElem?_map] at h1
    cases hq : (sortS (l.map (·.1)))[i]? with
    | none => rw [hq] at h1; cases h1
    | some s =>
      rw [hq] at h1
      simp only [Option.map_some, Option.some.injEq] at h1
      subst h1
      have hj : j = 0 := by
       cases j with
       | zero => rfl
       | succ j => simp [hcells] at h2
      subst hj
      simp only [hcells, List.getElem?_cons_zero, Option.some.injEq] at h2
      subst h2
      have hi := lt_of_get hq
      have h4 : (cur.toList.take (ss.length * 1))[i]? = some (encStr s) := by rw [r4, List.getElem?_map, hq]; rfl
      rw [List.getElem?_take_of_lt (by omega), Array.getElem?_toList] at h4
      have e0 : 0 + i * 1 + 0 = i := by omega
      rw [e0, h4] at h3
      cases h3
      exact .str s
 have hown : ∀ k, v.ownBlock = some k → w.heap.size ≤ k ∧ k < w'.heap.size := hrow.lt
 refine ⟨v, .raw v, _, I, rfl, .refl I, ⟨v, rfl, rfl⟩, ?_, ?_⟩
 ·rcases hrow.2 with ⟨rfl, _⟩ | ⟨gb, cap, cur, rfl, _⟩
  ·exact .raw _ rfl
  ·exact .raw _ rfl
 ·refine hsat.change (m' := .arr v 1 _) (fun k hk _ => hb.block k hk) (fun k hk => .inr ?_) ?_ hmem hb.os hb.output hb.tape (fun ht => by rw [hT] at ht; cases ht)
  ·rcases hrow.2 with ⟨rfl, _⟩ | ⟨gb, cap, cur, rfl, hbase, _⟩
   ·simp [MObj.blocks] at hk
   ·simp [MObj.blocks] at hk; omega
  ·rcases hrow.2 with ⟨rfl, _⟩ | ⟨gb, cap, cur, rfl, hbase, _⟩ <;> simp [MObj.blocks]
theorem con_sortedset [Tracks] (hT : Tracks.on = false) {ρ ρk : Ren} (L : SlLaysZ.n6 P ρ) (Lk : SlLaysZ.n7 P ρk) (hsort : ∀ m, AnyZ.SortsIn P ρ Fence.wide m)
 (e9 : ∀ args w, (callFunc (ρ.f 9) args).run P w = .ok (.enter (ρ.f 9) args) w) (eg : ∀ args w, (callFunc (ρk.f 10) args).run P w = .ok (.enter (ρk.f 10) args) w)
 {S : List Str} (hn : S.Nodup) (hl : ∀ s ∈ S, s.length ≤ 1000000) (hs : S.length ≤ 1000000) {b bx : Nat} :
 Con P (ρ.f 6) [.fn (.func (ρk.f 10)) [] [.raw (.pointer (some ⟨bx, 0, none⟩))]] [.cells bx [.raw (.map (some b))], .map b (sk (mset S))] fun x M' => ∃ v, x = .raw v ∧ M' = [.arr v 1 ((sortS S).map .str), .map b (sk (mset S))] := by
 have e1 : mset S = em HVal.bool (S.map fun s => (s, true)) := by simp [mset]
 have e2 : (S.map fun s => (s, true)).map (·.1) = S := by simp [Function.comp_def]
 have := con_sorted hT L Lk hsort e9 eg (f := HVal.bool) (l := S.map fun s => (s, true)) (by unfold ANodup; rw [e2]; exact hn) (fun p hp => by obtain ⟨s, hs, rfl⟩ := List.mem_map.1 hp; exact hl s hs) (by simpa using hs) (b := b) (bx := bx)
 rw [e2, ← e1] at this
 exact this
end
end Go.HL
end
section
namespace Go.Proofs.YtmgbigiegjlieaaGreatDoor
open Go.HL
set_option maxRecDepth 100000
set_option linter.unusedVariables false
set_option linter.unusedSimpArgs false
/-- benchwarmer/play.undone -/
theorem c_play_undone [Tracks] {l : List Play} {n : Int} (hl : l.length ≤ 1000000) : Con Tryz.prog 125 [ePlays l, .int .i64 n] [] (fun x M' => ∃ b, x = .raw (.map (some b)) ∧ M' = [.map b (kk eNum (em HVal.bool (goneL l n)))]) := by
 refine Con.of_body Tryz.func125 rfl Tryz.ntmps125 rfl rfl ?_
 refine hw_reg ?_
 refine dp rfl (pop_assign rfl) ?_
 refine dn ?_
 refine hw_reg ?_
 refine de rfl (eop_makeMap fun m14 => ?_)
 refine dp rfl (pop_assign rfl) ?_
 refine dn ?_
 refine hw_seq ?_
 refine hw_reg ?_
 refine dp rfl (pop_move rfl) ?_
 refine dp rfl (pop_lenm ty88 rfl) ?_
 refine dp rfl (pop_move rfl) ?_
 refine dn ?_
 refine hw_block ?_
 refine hw_loopw [7, 17, 18, 19, 20, 21, 22, 23, 24, 25, 26, 27, 28, 29, 30, 31, 32] (fun (k : Nat) => [(17, .int .i64 k)]) (fun (k : Nat) => [.map m14 (kk eNum (em ePlay (numL (l.take k) n)))]) (fun (k : Nat) => k ≤ l.length ∧ (True)) (fun (k : Nat) => l.length - k) (0) ?_ ?_ ?_ ?_
 ·exact ⟨Nat.zero_le _, trivial⟩
 ·exact ⟨rfl, trivial⟩
 ·exact List.Perm.refl _
 ·intro k hinv
  obtain ⟨hk, -⟩ := hinv
  refine hw_reg ?_
  refine dp rfl (pop_lss rfl rfl) ?_
  refine dn ?_
  refine hw_seq ?_
  refine hw_cond rfl (fun h1 => ?_) (fun h2 => ?_)
  ·try simp at h1
   obtain ⟨x, hx⟩ : ∃ x, l[k]? = some x := ⟨_, List.getElem?_eq_getElem h1⟩
   have hdx := drop_cons hx
   refine hw_skip ?_
   refine seqQ_n ?_
   refine hw_seq ?_
   refine hw_block ?_
   refine hw_reg ?_
   refine dp rfl (pop_idx ty88 ty87 rfl rfl rfl (by assumption)) ?_
   refine dp rfl (pop_loadw ty87 rfl rfl rfl rfl) ?_
   refine de rfl (eop_alloc ty87 rfl fun b7 => ?_)
   refine de0 (eop_storew ty87 rfl rfl rfl rfl rfl ?_)
   refine dn ?_
   refine hw_ghost (Ghost.fc0 7 rfl) ?_
   refine hw_reg ?_
   refine dp rfl (pop_fieldAddr ty87 rfl ty3 (by decide) rfl) ?_
   refine dp rfl (pop_load ty3 rfl rfl rfl) ?_
   refine dp rfl (pop_move rfl) ?_
   refine dp rfl (pop_leq rfl rfl) ?_
   refine dn ?_
   refine hw_cond rfl (fun h3 => ?_) (fun h4 => ?_)
   ·try simp at h3
    refine hw_reg1 ?_
    refine dp rfl (pop_move rfl) ?_
    refine dp rfl (pop_fieldAddr ty87 rfl ty9 (by decide) rfl) ?_
    refine dp rfl (pop_load ty9 rfl rfl rfl) ?_
    refine dp rfl (pop_fieldAddr ty87 rfl ty3 (by decide) rfl) ?_
    refine dp rfl (pop_load ty3 rfl rfl rfl) ?_
    refine dp rfl (pop_build (cs := [_, _]) ty172 pl172 rfl) ?_
    refine dp rfl (pop_loadw ty87 rfl rfl rfl rfl) ?_
    refine de0 (eop_updatekA (i := 0) (s := (x.Source, x.No)) (v := x) ty193 ok172 rfl rfl rfl rfl ?_)
    refine dn ?_
    refine blockQ_n ?_
    refine seqQ_n ?_
    refine hw_reg1 ?_
    refine dp rfl (pop_add64 rfl rfl (by omega) (by omega)) ?_
    refine dp rfl (pop_move rfl) ?_
    refine dn ?_
    exact ⟨k + 1, ⟨by omega, trivial⟩, by dsimp only; omega, ⟨rfl, trivial⟩, (by repeat (first | exact keeps_refl | refine keeps_upd rfl ?_ | refine keeps_loop rfl rfl ?_)), perm_eq (by dsimp only; rw [numL_snoc hx, numStep, if_pos (by simpa using h3)]; try rfl)⟩
   ·try simp at h4
    refine hw_skip ?_
    refine blockQ_n ?_
    refine seqQ_n ?_
    refine hw_reg1 ?_
    refine dp rfl (pop_add64 rfl rfl (by omega) (by omega)) ?_
    refine dp rfl (pop_move rfl) ?_
    refine dn ?_
    exact ⟨k + 1, ⟨by omega, trivial⟩, by dsimp only; omega, ⟨rfl, trivial⟩, (by repeat (first | exact keeps_refl | refine keeps_upd rfl ?_ | refine keeps_loop rfl rfl ?_)), perm_eq (by dsimp only; rw [numL_snoc hx, numStep, if_neg (by simpa using h4)]; try rfl)⟩
  ·try simp at h2
   have hnk : l.length ≤ k := by omega
   obtain rfl : k = l.length := by omega
   refine hw_exit ?_
   refine seqQ_x ?_
   refine loopQ_x ?_
   refine blockQ_eq ?_
   refine seqQ_n ?_
   rw [List.take_length]
   refine hw_reg ?_
   refine de rfl (eop_makeMap fun m33 => ?_)
   refine dp rfl (pop_assign rfl) ?_
   refine dn ?_
   refine hw_seq ?_
   refine hw_reg ?_
   refine dp rfl (pop_move rfl) ?_
   refine dp rfl (pop_lenm ty88 rfl) ?_
   refine dp rfl (pop_move rfl) ?_
   refine dn ?_
   refine hw_block ?_
   refine hw_loopw [10, 11, 12, 13, 36, 37, 38, 39, 40, 41, 42, 43, 44, 45, 46, 47, 48, 49, 50, 51, 52, 53, 54, 55, 56, 57, 58, 59, 60, 61, 62, 63, 64, 65, 66, 67, 68, 69, 70, 71, 72, 73, 74, 75, 76, 77, 78, 79, 80, 81, 82, 83, 84, 85, 86, 87, 88, 89] (fun (k : Nat) => [(36, .int .i64 k)]) (fun (k : Nat) => [.map m33 (kk eNum (em HVal.bool (goneGo (numL l n) n (l.take k)))), .map m14 (kk eNum (em ePlay (numL l n)))]) (fun (k : Nat) => k ≤ l.length ∧ (True)) (fun (k : Nat) => l.length - k) (0) ?_ ?_ ?_ ?_
   ·exact ⟨Nat.zero_le _, trivial⟩
   ·exact ⟨rfl, trivial⟩
   ·exact List.Perm.refl _
   ·intro k hinv
    obtain ⟨hk, -⟩ := hinv
    refine hw_reg ?_
    refine dp rfl (pop_lss rfl rfl) ?_
    refine dn ?_
    refine hw_seq ?_
    refine hw_cond rfl (fun h5 => ?_) (fun h6 => ?_)
    ·try simp at h5
     obtain ⟨x, hx⟩ : ∃ x, l[k]? = some x := ⟨_, List.getElem?_eq_getElem h5⟩
     have hdx := drop_cons hx
     refine hw_skip ?_
     refine seqQ_n ?_
     refine hw_seq ?_
     refine hw_block ?_
     refine hw_reg ?_
     refine dp rfl (pop_idx ty88 ty87 rfl rfl rfl (by assumption)) ?_
     refine dp rfl (pop_loadw ty87 rfl rfl rfl rfl) ?_
     refine de rfl (eop_alloc ty87 rfl fun b10 => ?_)
     refine de0 (eop_storew ty87 rfl rfl rfl rfl rfl ?_)
     refine dn ?_
     refine hw_ghost (Ghost.fc0 10 rfl) ?_
     refine hw_seq ?_
     refine hw_reg ?_
     refine dp rfl (pop_fieldAddr ty87 rfl ty3 (by decide) rfl) ?_
     refine dp rfl (pop_load ty3 rfl rfl rfl) ?_
     refine dp rfl (pop_move rfl) ?_
     refine dp rfl (pop_gtr rfl rfl) ?_
     refine dp rfl (pop_move rfl) ?_
     refine dg rfl rfl (fun hc => ⟨_, OpenTo.refl _, pop_fieldAddr ty87 rfl ty3 (by decide) rfl⟩) ?_
     refine dg rfl rfl (fun hc => ⟨_, OpenTo.upd (t := 45) rfl (hc) (OpenTo.refl _), pop_load ty3 rfl rfl rfl⟩) ?_
     refine dg rfl rfl (fun hc => ⟨_, OpenTo.upd (t := 46) rfl (hc) (OpenTo.refl _), pop_eql rfl rfl⟩) ?_
     refine dp rfl (pop_picko rfl (.inl rfl) (.inr ⟨_, rfl, fun h => by simp_all⟩)) ?_
     refine dn ?_
     refine hw_cond rfl (fun h7 => ?_) (fun h8 => ?_)
     ·try simp at h7
      refine hw_exit ?_
      refine seqQ_x ?_
      refine blockQ_eq ?_
      refine seqQ_n ?_
      refine hw_reg1 ?_
      refine dp rfl (pop_add64 rfl rfl (by omega) (by omega)) ?_
      refine dp rfl (pop_move rfl) ?_
      refine dn ?_
      exact ⟨k + 1, ⟨by omega, trivial⟩, by dsimp only; omega, ⟨rfl, trivial⟩, (by repeat (first | exact keeps_refl | refine keeps_upd rfl ?_ | refine keeps_loop rfl rfl ?_)), perm_eq (by dsimp only; rw [goneGo_snoc hx, goneStep, if_pos (by simpa using h7)]; try rfl)⟩
     ·try simp at h8
      refine hw_skip ?_
      refine seqQ_n ?_
      refine hw_reg ?_
      refine dp rfl (pop_fieldAddr ty87 rfl ty9 (by decide) rfl) ?_
      refine dp rfl (pop_load ty9 rfl rfl rfl) ?_
      refine dp rfl (pop_fieldAddr ty87 rfl ty3 (by decide) rfl) ?_
      refine dp rfl (pop_load ty3 rfl rfl rfl) ?_
      refine dp rfl (pop_build (cs := [_, _]) ty172 pl172 rfl) ?_
      refine de rfl (eop_alloc ty172 rfl fun b11 => ?_)
      refine de0 (eop_storew ty172 rfl rfl rfl rfl rfl ?_)
      refine dn ?_
      refine hw_ghost (Ghost.fc0 11 rfl) ?_
      refine hw_reg ?_
      refine dp rfl (pop_move rfl) ?_
      refine dp rfl (pop_loadw ty172 rfl rfl rfl rfl) ?_
      refine de rfl (eop_lookupk2A (i := 1) (s := (x.Source, x.Undo)) (z0 := play0) ty193 ok172 ty87 rfl rfl rfl rfl ?_)
      refine dp rfl (pop_move rfl) ?_
      refine dp rfl (pop_extract rfl rfl) ?_
      refine dp rfl (pop_extract rfl rfl) ?_
      refine de rfl (eop_alloc ty87 rfl fun b12 => ?_)
      refine de0 (eop_storew ty87 rfl rfl rfl rfl rfl ?_)
      refine dp rfl (pop_assign rfl) ?_
      refine dn ?_
      refine hw_ghost (Ghost.fc0 12 rfl) ?_
      refine hw_reg ?_
      refine dp rfl (pop_move rfl) ?_
      refine dp rfl (pop_move rfl) ?_
      refine dg rfl rfl (fun hc => ⟨_, OpenTo.refl _, pop_fieldAddr ty87 rfl ty3 (by decide) rfl⟩) ?_
      refine dg rfl rfl (fun hc => ⟨_, OpenTo.upd (t := 62) rfl (hc) (OpenTo.refl _), pop_load ty3 rfl rfl rfl⟩) ?_
      refine dg rfl rfl (fun hc => ⟨_, OpenTo.upd (t := 63) rfl (hc) (OpenTo.refl _), pop_eql rfl rfl⟩) ?_
      refine dp rfl (pop_picko rfl (.inr ⟨_, rfl, fun h => by simp_all⟩) (.inl rfl)) ?_
      refine dp rfl (pop_move rfl) ?_
      refine dg rfl rfl (fun hc => ⟨_, OpenTo.refl _, pop_fieldAddr ty87 rfl ty9 (by decide) rfl⟩) ?_
      refine dg rfl rfl (fun hc => ⟨_, OpenTo.upd (t := 67) rfl (hc) (OpenTo.refl _), pop_load ty9 rfl rfl rfl⟩) ?_
      refine dg rfl rfl (fun hc => ⟨_, OpenTo.refl _, pop_fieldAddr ty87 rfl ty9 (by decide) rfl⟩) ?_
      refine dg rfl rfl (fun hc => ⟨_, OpenTo.upd (t := 69) rfl (hc) (OpenTo.refl _), pop_load ty9 rfl rfl rfl⟩) ?_
      refine dg rfl rfl (fun hc => ⟨_, OpenTo.upd (t := 70) rfl (hc) (OpenTo.upd (t := 68) rfl (hc) (OpenTo.refl _)), pop_eqls rfl rfl⟩) ?_
      refine dp rfl (pop_picko rfl (.inr ⟨_, rfl, fun h => by simp_all⟩) (.inl rfl)) ?_
      refine dp rfl (pop_move rfl) ?_
      refine dg rfl rfl (fun hc => ⟨_, OpenTo.refl _, pop_fieldAddr ty87 rfl ty9 (by decide) rfl⟩) ?_
      refine dg rfl rfl (fun hc => ⟨_, OpenTo.upd (t := 74) rfl (hc) (OpenTo.refl _), pop_load ty9 rfl rfl rfl⟩) ?_
      refine dg rfl rfl (fun hc => ⟨_, OpenTo.refl _, pop_fieldAddr ty87 rfl ty9 (by decide) rfl⟩) ?_
      refine dg rfl rfl (fun hc => ⟨_, OpenTo.upd (t := 76) rfl (hc) (OpenTo.refl _), pop_load ty9 rfl rfl rfl⟩) ?_
      refine dg rfl rfl (fun hc => ⟨_, OpenTo.upd (t := 77) rfl (hc) (OpenTo.upd (t := 75) rfl (hc) (OpenTo.refl _)), pop_eqls rfl rfl⟩) ?_
      refine dp rfl (pop_picko rfl (.inr ⟨_, rfl, fun h => by simp_all⟩) (.inl rfl)) ?_
      refine dp rfl (pop_move rfl) ?_
      refine dg rfl rfl (fun hc => ⟨_, OpenTo.refl _, pop_fieldAddr ty87 rfl ty9 (by decide) rfl⟩) ?_
      refine dg rfl rfl (fun hc => ⟨_, OpenTo.upd (t := 81) rfl (hc) (OpenTo.refl _), pop_load ty9 rfl rfl rfl⟩) ?_
      refine dg rfl rfl (fun hc => ⟨_, OpenTo.refl _, pop_fieldAddr ty87 rfl ty9 (by decide) rfl⟩) ?_
      refine dg rfl rfl (fun hc => ⟨_, OpenTo.upd (t := 83) rfl (hc) (OpenTo.refl _), pop_load ty9 rfl rfl rfl⟩) ?_
      refine dg rfl rfl (fun hc => ⟨_, OpenTo.upd (t := 84) rfl (hc) (OpenTo.upd (t := 82) rfl (hc) (OpenTo.refl _)), pop_eqls rfl rfl⟩) ?_
      refine dp rfl (pop_picko rfl (.inr ⟨_, rfl, fun h => by simp_all⟩) (.inl rfl)) ?_
      refine dn ?_
      refine hw_cond rfl (fun h9 => ?_) (fun h10 => ?_)
      ·try simp at h9
       refine hw_reg1 ?_
       refine dp rfl (pop_move rfl) ?_
       refine dp rfl (pop_loadw ty172 rfl rfl rfl rfl) ?_
       refine de0 (eop_updatekA (i := 0) (s := (x.Source, x.Undo)) (v := true) ty167 ok172 rfl rfl rfl rfl ?_)
       refine dn ?_
       refine blockQ_n ?_
       refine seqQ_n ?_
       refine hw_reg1 ?_
       refine dp rfl (pop_add64 rfl rfl (by omega) (by omega)) ?_
       refine dp rfl (pop_move rfl) ?_
       refine dn ?_
       exact ⟨k + 1, ⟨by omega, trivial⟩, by dsimp only; omega, ⟨rfl, trivial⟩, (by repeat (first | exact keeps_refl | refine keeps_upd rfl ?_ | refine keeps_loop rfl rfl ?_)), perm_eq (by dsimp only; rw [goneGo_snoc hx, goneStep, if_neg (by simp_all; try omega), if_pos (by simp_all [undoes])]; try rfl)⟩
      ·try simp at h10
       refine hw_skip ?_
       refine blockQ_n ?_
       refine seqQ_n ?_
       refine hw_reg1 ?_
       refine dp rfl (pop_add64 rfl rfl (by omega) (by omega)) ?_
       refine dp rfl (pop_move rfl) ?_
       refine dn ?_
       exact ⟨k + 1, ⟨by omega, trivial⟩, by dsimp only; omega, ⟨rfl, trivial⟩, (by repeat (first | exact keeps_refl | refine keeps_upd rfl ?_ | refine keeps_loop rfl rfl ?_)), perm_eq (by dsimp only; rw [goneGo_snoc hx, goneStep, if_neg (by simp_all; try omega), if_neg (by simp_all [undoes])]; try rfl)⟩
    ·try simp at h6
     have hnk : l.length ≤ k := by omega
     obtain rfl : k = l.length := by omega
     refine hw_exit ?_
     refine seqQ_x ?_
     refine loopQ_x ?_
     refine blockQ_eq ?_
     refine seqQ_n ?_
     rw [List.take_length]
     refine hw_ghost (Ghost.only (i := 0) rfl) ?_
     refine hw_reg ?_
     refine dp rfl (pop_move rfl) ?_
     refine dp rfl (pop_assign rfl) ?_
     refine dn ?_
     refine hw_ret ?_
     exact ret_q rfl ⟨_, rfl, rfl⟩

/-- benchwarmer/play.byName -/
theorem c_play_byName [Tracks] {a b : StatS}  : ConP Tryz.prog 157 [eStat a, eStat b] (.int .i64 (byNm a b)) := by
 refine Con.of_body Tryz.func157 rfl Tryz.ntmps157 rfl rfl ?_
 refine hw_reg ?_
 refine dp rfl (pop_box rfl rfl) ?_
 refine dp rfl (pop_box rfl rfl) ?_
 refine dp rfl (pop_assign rfl) ?_
 refine dn ?_
 refine hw_reg ?_
 refine dp rfl (pop_fieldAddr ty197 rfl ty9 (by decide) rfl) ?_
 refine dp rfl (pop_load ty9 rfl rfl rfl) ?_
 refine dp rfl (pop_fieldAddr ty197 rfl ty9 (by decide) rfl) ?_
 refine dp rfl (pop_load ty9 rfl rfl rfl) ?_
 refine dp rfl (pop_call ca118 rfl (WeakL.refl _) c_strings_Compare) ?_
 refine dp rfl (pop_assign rfl) ?_
 refine dn ?_
 refine hw_ret ?_
 refine ret_p rfl ?_
 rfl

/-- slices.SortFunc -/
theorem c_sort_Stat [Tracks] {c : StatS → StatS → Int} (hO : Go.Sort.SWO (Go.Proofs.ltOf c)) {g : FuncId} (hg : Callable Tryz.prog g) {cap : List HVal} (hc : ∀ x y, @ConP trackOn Tryz.prog g (eStat x :: eStat y :: cap) (.int .i64 (c x y))) {l : List StatS} (hl : l.length ≤ 1000000) {v : Value} :
 Con Tryz.prog 156 [.raw v, .fn (.func g) [] cap] [.arr v 2 (l.map eStat)] fun x M' => ∃ l' : List StatS, x = .tup [] ∧ l'.Perm l ∧ l'.Pairwise (fun a b => ¬ c b a < 0) ∧ M' = [.arr v 2 (l'.map eStat)] :=
 con_sortf (e := eStat) Tryz.g156 (Tryz.isAgg197) (Tryz.sizeOf197) (fun _ => rfl) (fun _ => rfl) (fun _ => rfl) hO hg hc hl

theorem sortsIn [Tracks] (m : Nat) : Go.Proofs.AnyZ.SortsIn Tryz.prog Tryz.g154_ren Fence.wide m :=
 ⟨fun blk off cap ss W hH hblk hsz => callsIn_wide.2 (AnyM.slices_Sort_string Tryz.g129 blk off cap ss W hH hblk hsz), fun p cap W => callsIn_wide.2 (AnyM.slices_Sort_string_none Tryz.g129 p cap W)⟩
theorem c_keys_155 [Tracks] {b : Nat} : Con Tryz.prog 155 [.raw (.map (some b))] [] fun x M' => ∃ bx, x = .fn (.func 185) [] [.raw (.pointer (some ⟨bx, 0, none⟩))] ∧ M' = [.cells bx [.raw (.map (some b))]] :=
 con_keys (ρ := Tryz.g155_ren) Tryz.g155
theorem c_sortedset_155 [Tracks] (hT : Tracks.on = false) {S : List Str} (hn : S.Nodup) (hl : ∀ s ∈ S, s.length ≤ 1000000) (hs : S.length ≤ 1000000) {b bx : Nat} :
 Con Tryz.prog 154 [.fn (.func 185) [] [.raw (.pointer (some ⟨bx, 0, none⟩))]] [.cells bx [.raw (.map (some b))], .map b (sk (mset S))] fun x M' => ∃ v, x = .raw v ∧ M' = [.arr v 1 ((sortS S).map .str), .map b (sk (mset S))] :=
 con_sortedset hT (ρ := Tryz.g154_ren) (ρk := Tryz.g155_ren) Tryz.g154 Tryz.g155 sortsIn (enters_of Tryz.func129 (by kernel_rfl) rfl) (enters_of Tryz.func185 (by kernel_rfl) rfl) hn hl hs

set_option maxHeartbeats 1000000 in
/-- (benchwarmer/play.counted).lines -/
theorem c_play_counted_lines [Tracks] {b0 b1 : Nat} {c : List (Of2 × Int)} {S : List Str} {week : Int} (hT : Tracks.on = false) (hn : ANodup c) (hSn : S.Nodup) (hSk : ∀ s ∈ S, s.length ≤ 40) (hc : c.length ≤ 1000000) (hSl : S.length ≤ 1000000) : Con Tryz.prog 126 [.raw (.map (some b0)), .raw (.map (some b1)), .int .i64 week] [.map b0 (kk eOf (em (HVal.int .i64) c)), .map b1 (sk (mset S))] (fun x M' => x = .tup [eLines (clinesL c S week), .int .i64 (clinesE c S)] ∧ M' = []) := by
 refine Con.of_body Tryz.func126 rfl Tryz.ntmps126 rfl rfl ?_
 refine hw_reg ?_
 refine dp rfl (pop_assign rfl) ?_
 refine dp rfl (pop_assign rfl) ?_
 refine dn ?_
 refine hw_reg ?_
 refine de rfl (eop_makeMap fun m15 => ?_)
 refine dp rfl (pop_assign rfl) ?_
 refine dn ?_
 refine hw_seq ?_
 refine hw_reg ?_
 refine dp rfl (pop_move rfl) ?_
 refine de rfl (eop_range (i := 1) ty170 rfl rfl fun r => ?_)
 refine dn ?_
 refine hw_block ?_
 refine hw_loopw3 [6, 7, 9, 10, 18, 19, 20, 21, 22, 23, 24, 25, 26, 27, 28, 29, 30, 31, 32, 33, 34, 35, 36, 37, 38, 39, 40, 41] (fun (vis : List Nat) (E : List (Of2 × Int)) (G : Grp StatS) => []) (fun (vis : List Nat) (E : List (Of2 × Int)) (G : Grp StatS) => [.map m15 (sk (em fG G)), .iter r b0 (kk eOf (em (HVal.int .i64) c)) vis, .map b1 (sk (mset S))] ++ grp 2 eStat G) (fun (vis : List Nat) (E : List (Of2 × Int)) (G : Grp StatS) => VisOk (c) vis E ∧ (GOk E G ∧ ∀ y ∈ E, out y.2 (-100000) 100000 = false)) (fun (vis : List Nat) (E : List (Of2 × Int)) (G : Grp StatS) => (c).length - vis.length) ([]) ([]) ([]) ?_ ?_ ?_ ?_
 ·exact ⟨VisOk.nil _, GOk.nil, fun y h => by cases h⟩
 ·exact trivial
 ·exact perm_eq rfl
 ·intro vis E G hinv
  obtain ⟨hvis, hG, hO⟩ := hinv
  refine hw_reg ?_
  refine de rfl (eop_nextA (i := 1) (L := c) (enc := (fun p : Of2 × Int => (eOf p.1, HVal.int .i64 p.2))) rfl rfl (kk_em _ _ _) hvis.nd hvis.lt fun cb R vis' hnx => ?_)
  refine dp rfl (pop_extract rfl rfl) ?_
  refine dn ?_
  refine hw_seq ?_
  refine hw_cond rfl (fun h1 => ?_) (fun h2 => ?_)
  ·try simp at h1
   obtain ⟨j, q, hq, hj, rfl⟩ := hnx.t h1
   have hroom := hvis.room hq hj
   have hstep := hvis.step hq hj
   have hqm := List.mem_of_getElem? hq
   refine hw_skip ?_
   refine seqQ_n ?_
   refine hw_block ?_
   refine hw_reg ?_
   refine de rfl (eop_entryA (i := 1) (L := c) (enc := (fun p : Of2 × Int => (eOf p.1, HVal.int .i64 p.2))) rfl rfl (kk_em _ _ _) hq ?_)
   refine dp rfl (pop_extract rfl rfl) ?_
   refine dp rfl (pop_extract rfl rfl) ?_
   refine de rfl (eop_alloc ty174 rfl fun b9 => ?_)
   refine de0 (eop_storew ty174 rfl rfl rfl rfl rfl ?_)
   refine dp rfl (pop_assign rfl) ?_
   refine dn ?_
   refine hw_ghost (Ghost.fc0 9 rfl) ?_
   refine hw_block ?_
   refine hw_reg ?_
   refine dp rfl (pop_move rfl) ?_
   refine dp rfl (pop_call ca68 rfl (WeakL.refl _) c_base_Out) ?_
   refine dp rfl (pop_assign rfl) ?_
   refine dn ?_
   refine hw_cond rfl (fun h3 => ?_) (fun h4 => ?_)
   ·try simp at h3
    refine hw_reg ?_
    refine dp rfl (pop_assign rfl) ?_
    refine dp rfl (pop_assign rfl) ?_
    refine dn ?_
    refine hw_ret ?_
    exact ⟨_, [], Ghost.clear, _, _, rfl, weak_tup2 (weak_nil 3) (Weak.refl _), by have hf := full_count (S := S) hqm (by simpa using h3); rw [clinesL, clinesE, hf]; rfl, rfl⟩
   ·try simp at h4
    refine hw_reg ?_
    refine dp rfl (pop_move rfl) ?_
    refine dp rfl (pop_neq rfl rfl) ?_
    refine dp rfl (pop_assign rfl) ?_
    refine dn ?_
    refine hw_cond rfl (fun h5 => ?_) (fun h6 => ?_)
    ·try simp at h5
     refine hw_ghost (Ghost.of_eq (M' := [.map m15 (sk (em fG G)), .iter r b0 (kk eOf (em (HVal.int .i64) c)) (vis ++ [j]), .map b1 (sk (mset S))] ++ grp 2 eStat G) rfl) ?_
     refine hw_draw1 (fun _ => True) [] mixed ?_
     refine ahp 0 rfl rfl (by kernel_rfl) (by kernel_rfl) (pop_move rfl) ?_
     refine ahp 1 rfl rfl (by kernel_rfl) (by kernel_rfl) ((pop_fieldAddr ty174 rfl ty9 (by decide) rfl)) ?_
     refine ahp 2 rfl rfl (by kernel_rfl) (by kernel_rfl) (pop_load ty9 rfl rfl rfl) ?_
     refine ahp 3 rfl rfl (by kernel_rfl) (by kernel_rfl) (pop_move rfl) ?_
     refine ahp 4 rfl rfl (by kernel_rfl) (by kernel_rfl) ((pop_fieldAddr ty174 rfl ty9 (by decide) rfl)) ?_
     refine ahp 5 rfl rfl (by kernel_rfl) (by kernel_rfl) (pop_load ty9 rfl rfl rfl) ?_
     refine ahp 7 rfl rfl (by kernel_rfl) (by kernel_rfl) ((pop_fieldAddr ty174 rfl ty9 (by decide) rfl)) ?_
     refine ahp 8 rfl rfl (by kernel_rfl) (by kernel_rfl) (pop_load ty9 rfl rfl rfl) ?_
     refine ahp 9 rfl rfl (by kernel_rfl) (by kernel_rfl) (pop_move rfl) ?_
     refine ahp 10 rfl rfl (by kernel_rfl) (by kernel_rfl) (pop_build (cs := [_, _]) ty197 pl197 rfl) ?_
     refine ahp 11 rfl rfl (by kernel_rfl) (by kernel_rfl) (pop_buildSlice (hs := [_]) ty97 ty197 rfl rfl (by decide) (by decide) rfl) ?_
     refine ahe 6 rfl (by kernel_rfl) ?_
     refine hop_e rfl (eop_lookupA (i := 0) (z0 := gZ StatS) ty195 ty9 ty97 rfl rfl rfl rfl ?_)
     refine ⟨fun _ => .inl trivial, ?_⟩
     refine ahe 12 rfl (by kernel_rfl) ?_
     refine hop_e rfl (eop_append_grp (A := [.map m15 (sk (em fG G)), .iter r b0 (kk eOf (em (HVal.int .i64) c)) (vis ++ [j]), .map b1 (sk (mset S))]) (G := G) (s := q.1.1) (ys := [⟨q.1.2, q.2⟩]) (eb := eStat) ty97 ty197 rfl rfl rfl rfl (by simp [flat, hcells]) (by have := rawStats_le E q.1.1; rw [← hG.raw] at this; have := hvis.len; simp only [List.length_cons, List.length_nil]; omega) fun v41 => ?_)
     refine ⟨fun _ => .inl trivial, ?_⟩
     refine ahe 13 rfl (by kernel_rfl) ?_
     refine hop_e0 (eop_updateA (i := 0) (f := fG) (L := G) (v := (v41, gL q.1.1 G ++ [⟨q.1.2, q.2⟩])) ty195 ty9 rfl rfl rfl rfl ?_)
     refine ⟨fun _ => .inl trivial, ?_⟩
     refine ahz (by kernel_rfl) ?_
     refine blockQ_n ?_
     refine blockQ_n ?_
     have hO' : ∀ y ∈ E ++ [q], out y.2 (-100000) 100000 = false := fun y hy => by
      rcases List.mem_append.1 hy with hy | hy
      ·exact hO y hy
      ·rw [List.mem_singleton.1 hy]; simpa using h4
     exact ⟨_, E ++ [q], _, ⟨hstep, hG.put (by simpa using h5) v41, hO'⟩, by dsimp only; rw [List.length_append]; simp only [List.length_cons, List.length_nil]; omega, trivial, (by repeat (first | exact keeps_refl | refine keeps_upd rfl ?_ | refine keeps_loop rfl rfl ?_)), perm_eq rfl⟩
    ·try simp at h6
     refine hw_skip ?_
     refine blockQ_n ?_
     refine blockQ_n ?_
     have hO' : ∀ y ∈ E ++ [q], out y.2 (-100000) 100000 = false := fun y hy => by
      rcases List.mem_append.1 hy with hy | hy
      ·exact hO y hy
      ·rw [List.mem_singleton.1 hy]; simpa using h4
     exact ⟨_, E ++ [q], G, ⟨hstep, hG.skip (by simpa using h6), hO'⟩, by dsimp only; rw [List.length_append]; simp only [List.length_cons, List.length_nil]; omega, trivial, (by repeat (first | exact keeps_refl | refine keeps_upd rfl ?_ | refine keeps_loop rfl rfl ?_)), perm_eq rfl⟩
  ·try simp at h2
   obtain ⟨rfl, hlen⟩ := hnx.f h2
   have hEp := hvis.done hlen
   refine hw_exit ?_
   refine seqQ_x ?_
   refine loopQ3_x ?_
   refine blockQ_eq ?_
   refine seqQ_n ?_
   refine hw_ghost (Ghost.iterOver (i := 1) rfl) ?_
   refine hw_ghost (Ghost.of_eq (M' := [.map m15 (sk (em fG G)), .map b0 (kk eOf (em (HVal.int .i64) c)), .map b1 (sk (mset S))] ++ grp 2 eStat G) rfl) ?_
   refine hw_reg ?_
   refine dp rfl (pop_assign rfl) ?_
   refine dn ?_
   refine hw_seq ?_
   refine hw_reg ?_
   refine dp rfl (pop_move rfl) ?_
   refine de rfl (eop_callf (M1 := []) (R := _) ca155 rfl (WeakL.refl _) (List.Perm.refl _) c_keys_155 ?_)
   rintro _ _ ⟨bx, rfl, rfl⟩
   refine de rfl (EOp.fzi (N := [.map b1 (sk (mset S)), .map b0 (kk eOf (em (HVal.int .i64) c))] ++ ([.map m15 (sk (em fG G))] ++ grp 2 eStat G)) (sz := 1) (es := (sortS S).map .str) 0 (eop_callf (M1 := [.cells bx [.raw (.map (some b1))], .map b1 (sk (mset S))]) (R := [.map b0 (kk eOf (em (HVal.int .i64) c))] ++ ([.map m15 (sk (em fG G))] ++ grp 2 eStat G)) ca154 rfl (WeakL.refl _) (by exact perm3) (c_sortedset_155 hT hSn (fun s hs => Nat.le_trans (hSk s hs) (by decide)) hSl) (by rintro _ _ ⟨v, rfl, rfl⟩; exact ⟨v, rfl, rfl, rfl⟩)) ?_)
   refine dp rfl (pop_lenm ty26 rfl) ?_
   refine dp rfl (pop_move rfl) ?_
   refine dn ?_
   refine hw_ghost (Ghost.suffix (R := [_, _])) ?_
   refine hw_ghost (Ghost.arr_nil 3) ?_
   have hSSl : (sortS S).length ≤ 1000000 := by rw [sortS_len]; exact hSl
   have hSS : (sortS S).Nodup := (sortS_perm S).nodup_iff.2 hSn
   refine hw_block ?_
   refine hw_loopw2 [6, 7, 11, 13, 14, 46, 47, 48, 49, 50, 51, 52, 53, 54, 55, 56, 57, 58, 59, 60, 61, 62, 63, 64, 65] (fun (k : Nat) (u : Value) => [(46, .int .i64 k), (11, .raw u)]) (fun (k : Nat) (u : Value) => [.arr u 3 (((sortS S).take k).map fun s => eLine ⟨s, week, statsOf c s⟩), .map m15 (sk (em fG G))] ++ grp 2 eStat (restG G ((sortS S).take k))) (fun (k : Nat) (u : Value) => k ≤ (sortS S).length ∧ (∀ s ∈ (sortS S).take k, ¬ 40 < (rawStats c s).length)) (fun (k : Nat) (u : Value) => (sortS S).length - k) (0) (.slice none 0 0) ?_ ?_ ?_ ?_
   ·exact ⟨Nat.zero_le _, fun s h => by simp at h⟩
   ·exact ⟨rfl, rfl, trivial⟩
   ·exact perm_eq (by simp [rest_nil])
   ·intro k u hinv
    obtain ⟨hk, hg⟩ := hinv
    refine hw_reg ?_
    refine dp rfl (pop_lss rfl rfl) ?_
    refine dn ?_
    refine hw_seq ?_
    refine hw_cond rfl (fun h7 => ?_) (fun h8 => ?_)
    ·try simp at h7
     obtain ⟨x, hx⟩ : ∃ x, (sortS S)[k]? = some x := ⟨_, List.getElem?_eq_getElem h7⟩
     have hdx := drop_cons hx
     refine hw_skip ?_
     refine seqQ_n ?_
     refine hw_seq ?_
     refine hw_block ?_
     refine hw_reg ?_
     refine dp rfl (pop_idx ty26 ty9 rfl rfl rfl (by assumption)) ?_
     refine dp rfl (pop_load ty9 rfl rfl rfl) ?_
     refine dp rfl (pop_assign rfl) ?_
     refine dn ?_
     refine hw_reg ?_
     refine dp rfl (pop_move rfl) ?_
     refine dp rfl (pop_move rfl) ?_
     refine de rfl (eop_lookupA (i := 1) (z0 := gZ StatS) ty195 ty9 ty97 rfl rfl rfl rfl ?_)
     refine dp rfl (pop_assign rfl) ?_
     refine dn ?_
     have hnx := take_notin hSS hx
     have hxS : x ∈ S := (sortS_perm S).mem_iff.1 (List.mem_of_getElem? hx)
     refine hw_ghost (Ghost.grp_take (A := [.arr u 3 (((sortS S).take k).map fun s => eLine ⟨s, week, statsOf c s⟩), .map m15 (sk (em fG G))]) (G := restG G ((sortS S).take k)) (G' := G) (s := x) (rest_nodup hG.nd) (rest_alk hnx)) ?_
     rw [rest_snoc]
     refine hw_seq ?_
     refine hw_reg ?_
     refine dp rfl (pop_move rfl) ?_
     refine de rfl (eop_lenm (i := 0) (es := gL x G) ty97 rfl rfl ?_)
     refine dp rfl (pop_gtr rfl rfl) ?_
     refine dn ?_
     refine hw_cond rfl (fun h9 => ?_) (fun h10 => ?_)
     ·try simp at h9
      refine hw_reg ?_
      refine dp rfl (pop_assign rfl) ?_
      refine dp rfl (pop_assign rfl) ?_
      refine dn ?_
      refine hw_ret ?_
      exact ⟨_, [], Ghost.clear, _, _, rfl, weak_tup2 (weak_nil 3) (Weak.refl _), by have hf := full_stats (c := c) hxS (by rw [← gL_len hEp hG]; omega); rw [clinesL, clinesE, hf]; rfl, rfl⟩
     ·try simp at h10
      refine hw_skip ?_
      refine seqQ_n ?_
      refine hw_reg ?_
      refine dp rfl (pop_move rfl) ?_
      refine de rfl (eop_callf (M1 := [.arr (gV x G) 2 ((gL x G).map eStat)]) (R := [.arr u 3 (((sortS S).take k).map fun s => eLine ⟨s, week, statsOf c s⟩), .map m15 (sk (em fG G))] ++ grp 2 eStat (restG G ((sortS S).take k ++ [x]))) ca156 rfl (WeakL.refl _) (List.Perm.refl _) (c_sort_Stat (c := byNm) (swo_cmp byNm_cmp) ca157 (fun _ _ => @c_play_byName trackOn _ _) (l := gL x G) (by have := rawStats_le c x; rw [gL_len hEp hG]; omega)) ?_)
      rintro _ _ ⟨l', rfl, hp', hw', rfl⟩
      obtain rfl := stats_sorted hEp hn hG hp' hw'
      refine dn ?_
      refine hw_ghost (Ghost.fa 14 (i := 0) rfl rfl) ?_
      refine hw_reg1 ?_
      refine dp rfl (pop_move rfl) ?_
      refine dp rfl (pop_move rfl) ?_
      refine dp rfl (pop_move rfl) ?_
      refine dp rfl (pop_move rfl) ?_
      refine dp rfl (pop_build (cs := [_, _, _]) ty99 pl99 rfl) ?_
      refine dp rfl (pop_buildSlice (hs := [_]) ty83 ty99 rfl rfl (by decide) (by decide) rfl) ?_
      refine de rfl (eop_append (i := 0) ty83 ty99 rfl rfl rfl rfl rfl (by simp [flat, hcells]) (by have := sortS_len S; simp only [List.length_map, List.length_cons, List.length_nil, List.length_take]; omega) fun v64 => ?_)
      refine dp rfl (pop_assign rfl) ?_
      refine dn ?_
      refine blockQ_n ?_
      refine seqQ_n ?_
      refine hw_reg1 ?_
      refine dp rfl (pop_add64 rfl rfl (by omega) (by omega)) ?_
      refine dp rfl (pop_move rfl) ?_
      refine dn ?_
      refine ⟨k + 1, v64, ⟨by omega, fun s hs => ?_⟩, by dsimp only; omega, ⟨rfl, rfl, trivial⟩, (by repeat (first | exact keeps_refl | refine keeps_upd rfl ?_ | refine keeps_loop rfl rfl ?_)), perm_eq (by dsimp only; rw [take_snoc' hx, List.map_append]; rfl)⟩
      rw [take_snoc' hx] at hs
      rcases List.mem_append.1 hs with hs | hs
      ·exact hg s hs
      ·rw [List.mem_singleton.1 hs, ← gL_len hEp hG]; omega
    ·try simp at h8
     have hnk : (sortS S).length ≤ k := by omega
     obtain rfl : k = (sortS S).length := by omega
     refine hw_exit ?_
     refine seqQ_x ?_
     refine loopQ2_x ?_
     refine blockQ_eq ?_
     refine seqQ_n ?_
     rw [List.take_length] at hg ⊢
     refine hw_ghost (Ghost.only (i := 0) rfl) ?_
     refine hw_reg ?_
     refine dp rfl (pop_move rfl) ?_
     refine dp rfl (pop_assign rfl) ?_
     refine dp rfl (pop_assign rfl) ?_
     refine dn ?_
     refine hw_ret ?_
     (refine ret_fa (M := []) 6 rfl rfl ?_
      have hf := full_none (c := c) (S := S) (fun y hy => hO y (hEp.mem_iff.2 hy)) (fun s hs => hg s ((sortS_perm S).mem_iff.2 hs))
      rw [clinesL, clinesE, hf]; simp [Function.comp_def, ofVal, ofVal1])

end Go.Proofs.YtmgbigiegjlieaaGreatDoor
end
section
namespace Go.Proofs.YtmgbigiegjlieaaGreatDoor
open Go.HL
set_option maxRecDepth 100000
set_option linter.unusedVariables false
set_option linter.unusedSimpArgs false
set_option maxHeartbeats 1000000 in
/-- benchwarmer/play.lines -/
theorem c_play_lines [Tracks] {l : List Play} {trust : List Str} {week n : Int} (hT : Tracks.on = false) (hl : l.length ≤ 3000) (ht : trust.length ≤ 1000000) (ok : ∀ x ∈ l, playFault x = 0) : ConP Tryz.prog 81 [ePlays l, eSs trust, .int .i64 week, .int .i64 n] (.tup [eLines (linesL l trust week n), .int .i64 (linesE l trust week n)]) := by
 refine Con.of_body Tryz.func81 rfl Tryz.ntmps81 rfl rfl ?_
 refine hw_reg ?_
 refine dp rfl (pop_assign rfl) ?_
 refine dp rfl (pop_assign rfl) ?_
 refine dn ?_
 refine hw_reg ?_
 refine dp rfl (pop_move rfl) ?_
 refine dp rfl (pop_move rfl) ?_
 refine dp rfl (pop_move rfl) ?_
 refine de rfl (eop_callf (M1 := []) (R := []) ca124 rfl (WeakL.refl _) (List.Perm.refl _) (c_play_told (l := l) (trust := trust) (n := n) (by omega) ht) ?_)
 rintro _ _ ⟨b19, O19, rfl, hn19, hO19, rfl⟩
 refine dp rfl (pop_move rfl) ?_
 refine dp rfl (pop_move rfl) ?_
 refine de rfl (eop_callf (M1 := []) (R := _) ca125 rfl (WeakL.refl _) (List.Perm.refl _) (c_play_undone (l := l) (n := n) (by omega)) ?_)
 rintro _ _ ⟨b22, rfl, rfl⟩
 refine dp rfl (pop_assign rfl) ?_
 refine dp rfl (pop_assign rfl) ?_
 refine dn ?_
 refine hw_reg ?_
 refine de rfl (eop_makeMap fun m23 => ?_)
 refine de rfl (eop_makeMap fun m24 => ?_)
 refine dp rfl (pop_assign rfl) ?_
 refine dp rfl (pop_assign rfl) ?_
 refine dn ?_
 refine hw_seq ?_
 refine hw_reg ?_
 refine dp rfl (pop_move rfl) ?_
 refine dp rfl (pop_lenm ty88 rfl) ?_
 refine dp rfl (pop_move rfl) ?_
 refine dn ?_
 refine hw_block ?_
 refine hw_loopw [15, 27, 28, 29, 30, 31, 32, 33, 34, 35, 36, 37, 38, 39, 40, 41, 42, 43, 44, 45, 46, 47, 48, 49, 50, 51, 52, 53, 54, 55, 56, 57, 58, 59, 60, 61, 62, 63, 64, 65, 66, 67, 68, 69, 70, 71, 72, 73, 74, 75, 76, 77, 78, 79] (fun (k : Nat) => [(27, .int .i64 k)]) (fun (k : Nat) => [.map m24 (kk eOf (em (HVal.int .i64) (lnGo l trust week n (l.take k)).c)), .map m23 (sk (mset (lnGo l trust week n (l.take k)).S)), .map b22 (kk eNum (em HVal.bool (goneL l n))), .map b19 (sk (em HVal.str O19))]) (fun (k : Nat) => k ≤ l.length ∧ (True)) (fun (k : Nat) => l.length - k) (0) ?_ ?_ ?_ ?_
 ·exact ⟨Nat.zero_le _, trivial⟩
 ·exact ⟨rfl, trivial⟩
 ·exact perm_eq rfl
 ·intro k hinv
  obtain ⟨hk, -⟩ := hinv
  refine hw_reg ?_
  refine dp rfl (pop_lss rfl rfl) ?_
  refine dn ?_
  refine hw_seq ?_
  refine hw_cond rfl (fun h1 => ?_) (fun h2 => ?_)
  ·try simp at h1
   obtain ⟨x, hx⟩ : ∃ x, l[k]? = some x := ⟨_, List.getElem?_eq_getElem h1⟩
   have hdx := drop_cons hx
   refine hw_skip ?_
   refine seqQ_n ?_
   refine hw_seq ?_
   refine hw_block ?_
   refine hw_reg ?_
   refine dp rfl (pop_idx ty88 ty87 rfl rfl rfl (by assumption)) ?_
   refine dp rfl (pop_loadw ty87 rfl rfl rfl rfl) ?_
   refine de rfl (eop_alloc ty87 rfl fun b15 => ?_)
   refine de0 (eop_storew ty87 rfl rfl rfl rfl rfl ?_)
   refine dn ?_
   refine hw_ghost (Ghost.fc0 15 rfl) ?_
   refine hw_seq ?_
   refine hw_reg ?_
   refine dp rfl (pop_fieldAddr ty87 rfl ty3 (by decide) rfl) ?_
   refine dp rfl (pop_load ty3 rfl rfl rfl) ?_
   refine dp rfl (pop_move rfl) ?_
   refine dp rfl (pop_gtr rfl rfl) ?_
   refine dp rfl (pop_move rfl) ?_
   refine dg rfl rfl (fun hc => ⟨_, OpenTo.refl _, pop_fieldAddr ty87 rfl ty3 (by decide) rfl⟩) ?_
   refine dg rfl rfl (fun hc => ⟨_, OpenTo.upd (t := 36) rfl (hc) (OpenTo.refl _), pop_load ty3 rfl rfl rfl⟩) ?_
   refine dg rfl rfl (fun hc => ⟨_, OpenTo.refl _, pop_move rfl⟩) ?_
   refine dg rfl rfl (fun hc => ⟨_, OpenTo.upd (t := 38) rfl (hc) (OpenTo.upd (t := 37) rfl (hc) (OpenTo.refl _)), pop_neq rfl rfl⟩) ?_
   refine dp rfl (pop_picko rfl (.inl rfl) (.inr ⟨_, rfl, fun h => by simp_all⟩)) ?_
   refine dp rfl (pop_move rfl) ?_
   refine dg rfl rfl (fun hc => ⟨_, OpenTo.refl _, pop_fieldAddr ty87 rfl ty3 (by decide) rfl⟩) ?_
   refine dg rfl rfl (fun hc => ⟨_, OpenTo.upd (t := 42) rfl (hc) (OpenTo.refl _), pop_load ty3 rfl rfl rfl⟩) ?_
   refine dg rfl rfl (fun hc => ⟨_, OpenTo.upd (t := 43) rfl (hc) (OpenTo.refl _), pop_gtr rfl rfl⟩) ?_
   refine dp rfl (pop_picko rfl (.inl rfl) (.inr ⟨_, rfl, fun h => by simp_all⟩)) ?_
   refine dp rfl (pop_move rfl) ?_
   refine dg rfl rfl (fun hc => ⟨_, OpenTo.refl _, pop_move rfl⟩) ?_
   refine dg rfl rfl (fun hc => ⟨_, OpenTo.refl _, pop_fieldAddr ty87 rfl ty9 (by decide) rfl⟩) ?_
   refine dg rfl rfl (fun hc => ⟨_, OpenTo.upd (t := 48) rfl (hc) (OpenTo.refl _), pop_load ty9 rfl rfl rfl⟩) ?_
   refine dg rfl rfl (fun hc => ⟨_, OpenTo.refl _, pop_fieldAddr ty87 rfl ty3 (by decide) rfl⟩) ?_
   refine dg rfl rfl (fun hc => ⟨_, OpenTo.upd (t := 50) rfl (hc) (OpenTo.refl _), pop_load ty3 rfl rfl rfl⟩) ?_
   refine dg rfl rfl (fun hc => ⟨_, OpenTo.upd (t := 51) rfl (hc) (OpenTo.upd (t := 49) rfl (hc) (OpenTo.refl _)), pop_build (cs := [_, _]) ty172 pl172 rfl⟩) ?_
   refine dgl rfl rfl (fun hc => ⟨_, OpenTo.upd (t := 52) rfl (hc) (OpenTo.upd (t := 47) rfl (hc) (OpenTo.refl _)), eop_lookupkA (i := 2) (s := (x.Source, x.No)) (z0 := false) ty167 ok172 ty4 rfl rfl rfl rfl ⟨rfl, rfl⟩⟩) ?_
   refine dp rfl (pop_picko rfl (.inl rfl) (.inr ⟨_, rfl, fun h => by simp_all⟩)) ?_
   refine dp rfl (pop_move rfl) ?_
   refine dg rfl rfl (fun hc => ⟨_, OpenTo.refl _, pop_move rfl⟩) ?_
   refine dg rfl rfl (fun hc => ⟨_, OpenTo.refl _, pop_fieldAddr ty87 rfl ty9 (by decide) rfl⟩) ?_
   refine dg rfl rfl (fun hc => ⟨_, OpenTo.upd (t := 57) rfl (hc) (OpenTo.refl _), pop_load ty9 rfl rfl rfl⟩) ?_
   refine dgl rfl rfl (fun hc => ⟨_, OpenTo.upd (t := 58) rfl (hc) (OpenTo.upd (t := 56) rfl (hc) (OpenTo.refl _)), eop_lookupA (i := 3) (z0 := ([] : Str)) ty165 ty9 ty9 rfl rfl rfl rfl ⟨rfl, rfl⟩⟩) ?_
   refine dg rfl rfl (fun hc => ⟨_, OpenTo.refl _, pop_fieldAddr ty87 rfl ty9 (by decide) rfl⟩) ?_
   refine dg rfl rfl (fun hc => ⟨_, OpenTo.upd (t := 60) rfl (hc) (OpenTo.refl _), pop_load ty9 rfl rfl rfl⟩) ?_
   refine dg rfl rfl (fun hc => ⟨_, OpenTo.upd (t := 61) rfl (hc) (OpenTo.upd (t := 59) rfl (hc) (OpenTo.refl _)), pop_neqs rfl rfl⟩) ?_
   refine dp rfl (pop_picko rfl (.inl rfl) (.inr ⟨_, rfl, fun h => by simp_all⟩)) ?_
   refine dn ?_
   refine hw_cond rfl (fun h3 => ?_) (fun h4 => ?_)
   ·try simp at h3
    refine hw_exit ?_
    refine seqQ_x ?_
    refine blockQ_eq ?_
    refine seqQ_n ?_
    refine hw_reg1 ?_
    refine dp rfl (pop_add64 rfl rfl (by omega) (by omega)) ?_
    refine dp rfl (pop_move rfl) ?_
    refine dn ?_
    exact ⟨k + 1, ⟨by omega, trivial⟩, by dsimp only; omega, ⟨rfl, trivial⟩, (by repeat (first | exact keeps_refl | refine keeps_upd rfl ?_ | refine keeps_loop rfl rfl ?_)), perm_eq (by dsimp only; rw [lnGo_snoc hx, lnStep, if_neg (by rw [inLine_f hO19 h3]; simp)])⟩
   ·try simp at h4
    refine hw_skip ?_
    refine seqQ_n ?_
    refine hw_reg ?_
    refine dp rfl (pop_move rfl) ?_
    refine dp rfl (pop_fieldAddr ty87 rfl ty9 (by decide) rfl) ?_
    refine dp rfl (pop_load ty9 rfl rfl rfl) ?_
    refine de0 (eop_update_set (i := 1) ty161 ty9 rfl rfl rfl rfl ?_)
    refine dn ?_
    have hpx := ok x (List.mem_of_getElem? hx)
    obtain ⟨_, _, _, _, _, hcb, _⟩ := playFault_ok hpx
    have hlk := ln_ok (l := l) (m := l.take k) (trust := trust) (week := week) (n := n) (fun y hy => ok y (List.mem_of_mem_take hy))
    have hvb := hlk.val (x.Player, x.Stat)
    have hlt : ((l.take k).length : Int) ≤ 3000 := by rw [List.length_take]; omega
    refine hw_draw1 (fun M => M = [MObj.map m24 (kk eOf (em (HVal.int .i64) (lnGo l trust week n (l.take k)).c)), MObj.map m23 (sk (mset (sadd x.Player (lnGo l trust week n (l.take k)).S))), MObj.map b22 (kk eNum (em HVal.bool (goneL l n))), MObj.map b19 (sk (em HVal.str O19))] ∨ ∃ j st, kidx (x.Player, x.Stat) (kent (x.Player, x.Stat) (HVal.int .i64 0) (em (HVal.int .i64) (lnGo l trust week n (l.take k)).c)) = some j ∧ M = [MObj.mape m24 (kk eOf (kent (x.Player, x.Stat) (HVal.int .i64 0) (em (HVal.int .i64) (lnGo l trust week n (l.take k)).c))) j st, MObj.map m23 (sk (mset (sadd x.Player (lnGo l trust week n (l.take k)).S))), MObj.map b22 (kk eNum (em HVal.bool (goneL l n))), MObj.map b19 (sk (em HVal.str O19))]) [6] mixed ?_
    refine ahp 0 rfl rfl (by kernel_rfl) (by kernel_rfl) (pop_move rfl) ?_
    refine ahp 1 rfl rfl (by kernel_rfl) (by kernel_rfl) (pop_fieldAddr ty87 rfl ty9 (by decide) rfl) ?_
    refine ahp 2 rfl rfl (by kernel_rfl) (by kernel_rfl) (pop_load ty9 rfl rfl rfl) ?_
    refine ahp 3 rfl rfl (by kernel_rfl) (by kernel_rfl) (pop_fieldAddr ty87 rfl ty9 (by decide) rfl) ?_
    refine ahp 4 rfl rfl (by kernel_rfl) (by kernel_rfl) (pop_load ty9 rfl rfl rfl) ?_
    refine ahp 5 rfl rfl (by kernel_rfl) (by kernel_rfl) (pop_build (cs := [_, _]) ty174 pl174 rfl) ?_
    refine ahl 6 rfl rfl (by kernel_rfl) (by kernel_rfl) (by simp) (.inl rfl) (fun M hM => by
   rcases hM with rfl | ⟨j, st, hj, rfl⟩
   ·exact eop_lookupkA (i := 0) (s := (x.Player, x.Stat)) (z0 := (0 : Int)) ty170 ok174 ty3 rfl rfl rfl rfl ⟨rfl, rfl⟩
   ·exact eop_lookupke (i := 0) (s := (x.Player, x.Stat)) (z0 := (0 : Int)) (f := HVal.int .i64) ty170 ok174 ty3 rfl rfl rfl rfl ⟨rfl, rfl⟩) ?_
    refine ahp 7 rfl rfl (by kernel_rfl) (by kernel_rfl) (pop_fieldAddr ty87 rfl ty3 (by decide) rfl) ?_
    refine ahp 8 rfl rfl (by kernel_rfl) (by kernel_rfl) (pop_load ty3 rfl rfl rfl) ?_
    refine ahp 9 rfl rfl (by kernel_rfl) (by kernel_rfl) (pop_add64 rfl rfl (by omega) (by omega)) ?_
    refine ahe 10 rfl (by kernel_rfl) ?_
    refine hop_e rfl (eop_mapEntryA (i := 0) (s := (x.Player, x.Stat)) (z0 := (0 : Int)) (f := HVal.int .i64) ty170 ok174 ty3 rfl rfl rfl rfl fun j77 st77 hj77 => ?_)
    refine ⟨fun _ => .inl (.inr ⟨j77, st77, hj77, rfl⟩), ?_⟩
    refine ahp 11 rfl rfl (by kernel_rfl) (by kernel_rfl) (pop_extract rfl rfl) ?_
    refine ahe 12 rfl (by kernel_rfl) ?_
    refine hop_e0 (eop_entryStoreA (i := 0) (s := (x.Player, x.Stat)) (f := HVal.int .i64) (z0 := (0 : Int)) (v := (alk (x.Player, x.Stat) (lnGo l trust week n (l.take k)).c).getD 0 + x.Count) rfl rfl rfl rfl hj77 ?_)
    refine ⟨fun _ => .inr (by simp [Before, Region.binds]), ?_⟩
    refine ahz (by kernel_rfl) ?_
    refine blockQ_n ?_
    refine seqQ_n ?_
    refine hw_reg1 ?_
    refine dp rfl (pop_add64 rfl rfl (by omega) (by omega)) ?_
    refine dp rfl (pop_move rfl) ?_
    refine dn ?_
    exact ⟨k + 1, ⟨by omega, trivial⟩, by dsimp only; omega, ⟨rfl, trivial⟩, (by repeat (first | exact keeps_refl | refine keeps_upd rfl ?_ | refine keeps_loop rfl rfl ?_)), perm_eq (by dsimp only; rw [lnGo_snoc hx, lnStep, if_pos (inLine_t hO19 h4)]; rfl)⟩
  ·try simp at h2
   have hnk : l.length ≤ k := by omega
   obtain rfl : k = l.length := by omega
   refine hw_exit ?_
   refine seqQ_x ?_
   refine loopQ_x ?_
   refine blockQ_eq ?_
   refine seqQ_n ?_
   rw [List.take_length]
   have hok := ln_ok (l := l) (m := l) (trust := trust) (week := week) (n := n) ok
   refine hw_reg ?_
   refine dp rfl (pop_move rfl) ?_
   refine dp rfl (pop_move rfl) ?_
   refine dp rfl (pop_move rfl) ?_
   refine de rfl (eop_callf (M1 := [_, _]) (R := [_, _]) ca126 rfl (WeakL.refl _) (List.Perm.refl _) (c_play_counted_lines hT hok.c hok.S hok.k (Nat.le_trans hok.cl (by omega)) (Nat.le_trans hok.Sl (by omega))) ?_)
   rintro _ _ ⟨rfl, rfl⟩
   refine dp rfl (pop_extract rfl rfl) ?_
   refine dp rfl (pop_extract rfl rfl) ?_
   refine dp rfl (pop_assign rfl) ?_
   refine dp rfl (pop_assign rfl) ?_
   refine dn ?_
   refine hw_ret ?_
   exact ret_g Ghost.clear rfl ⟨rfl, rfl⟩

/-- benchwarmer/play.Lines -/
theorem c_play_Lines [Tracks] {l : List Play} {trust : List Str} {week n : Int} (hT : Tracks.on = false) (hl : l.length ≤ 1000000) (ht : trust.length ≤ 1000000) : ConP Tryz.prog 46 [ePlays l, eSs trust, .int .i64 week, .int .i64 n] (.tup [eLines (LinesL l trust week n), .int .i64 (LinesE l trust week n)]) := by
 refine Con.of_body Tryz.func46 rfl Tryz.ntmps46 rfl rfl ?_
 refine hw_reg ?_
 refine dp rfl (pop_assign rfl) ?_
 refine dp rfl (pop_assign rfl) ?_
 refine dn ?_
 refine hw_seq ?_
 refine hw_reg ?_
 refine dp rfl (pop_move rfl) ?_
 refine dp rfl (pop_call ca77 rfl (WeakL.refl _) (c_play_CheckPlays (by assumption))) ?_
 refine dp rfl (pop_move rfl) ?_
 refine dp rfl (pop_call ca78 rfl (WeakL.refl _) (c_play_CheckTrust (by assumption))) ?_
 refine dp rfl (pop_buildSlice (hs := [_, _]) ty160 ty37 rfl rfl (by decide) (by decide) rfl) ?_
 refine dp rfl (pop_call ca76 rfl (WeakL.refl _) (c_base_First (l := [_, _]) (by simp))) ?_
 refine dp rfl (pop_assign rfl) ?_
 refine dn ?_
 refine hw_reg ?_
 refine dp rfl (pop_move rfl) ?_
 refine dp rfl (pop_neq rfl rfl) ?_
 refine dn ?_
 refine hw_cond rfl (fun h1 => ?_) (fun h2 => ?_)
 ·try simp at h1
  refine hw_reg ?_
  refine dp rfl (pop_move rfl) ?_
  refine dp rfl (pop_assign rfl) ?_
  refine dp rfl (pop_assign rfl) ?_
  refine dn ?_
  refine hw_ret ?_
  exact ret_w rfl (weak_tup2 (by rw [LinesL, if_pos (by simpa using h1)]; exact weak_nil 3) (by rw [LinesE, if_pos (by simpa using h1)]; exact Weak.refl _))
 ·try simp at h2
  refine hw_skip ?_
  refine seqQ_n ?_
  refine hw_seq ?_
  refine hw_reg ?_
  refine dp rfl (pop_move rfl) ?_
  refine dp rfl (pop_call ca79 rfl (WeakL.refl _) c_base_Week) ?_
  refine dp rfl (pop_not rfl) ?_
  refine dp rfl (pop_move rfl) ?_
  refine dg rfl rfl (fun hc => ⟨_, OpenTo.refl _, pop_move rfl⟩) ?_
  refine dg rfl rfl (fun hc => ⟨_, OpenTo.upd (t := 24) rfl (hc) (OpenTo.refl _), pop_call ca80 rfl (WeakL.refl _) c_base_Moment⟩) ?_
  refine dg rfl rfl (fun hc => ⟨_, OpenTo.upd (t := 25) rfl (hc) (OpenTo.refl _), pop_not rfl⟩) ?_
  refine dp rfl (pop_picko rfl (.inl rfl) (.inr ⟨_, rfl, fun h => by simp_all⟩)) ?_
  refine dn ?_
  refine hw_cond rfl (fun h3 => ?_) (fun h4 => ?_)
  ·try simp at h3
   refine hw_reg ?_
   refine dp rfl (pop_assign rfl) ?_
   refine dp rfl (pop_assign rfl) ?_
   refine dn ?_
   refine hw_ret ?_
   exact ret_w rfl (weak_tup2 (by rw [LinesL, if_neg (by simpa using h2), if_pos (by simp_all)]; exact weak_nil 3) (by rw [LinesE, if_neg (by simpa using h2), if_pos (by simp_all)]; exact Weak.refl _))
  ·try simp at h4
   refine hw_skip ?_
   refine seqQ_n ?_
   refine hw_reg ?_
   refine dp rfl (pop_move rfl) ?_
   refine dp rfl (pop_move rfl) ?_
   refine dp rfl (pop_move rfl) ?_
   refine dp rfl (pop_move rfl) ?_
   refine dp rfl (pop_call ca81 rfl (WeakL.refl _) (c_play_lines hT (playsE_ok (okPT h2).1).1 ht (plays_fault (okPT h2).1))) ?_
   refine dp rfl (pop_extract rfl rfl) ?_
   refine dp rfl (pop_extract rfl rfl) ?_
   refine dp rfl (pop_assign rfl) ?_
   refine dp rfl (pop_assign rfl) ?_
   refine dn ?_
   refine hw_ret ?_
   (refine ret_p rfl ?_
    rw [LinesL, LinesE, if_neg (by simpa using h2), if_neg (by simp_all), if_neg (by simpa using h2), if_neg (by simp_all)])

end Go.Proofs.YtmgbigiegjlieaaGreatDoor
end
section
namespace Go.Proofs.YtmgbigiegjlieaaGreatDoor
open Go.HL
set_option maxRecDepth 100000
set_option linter.unusedVariables false
set_option linter.unusedSimpArgs false
/-- math/bits.Len64 -/
theorem c_bits_Len64_s [Tracks] {x : Nat} (hx : x < 16) : Con Tryz.prog 163 [.int .u64 (x : Int)] [] (fun y M' => ∃ n : Int, y = .int .i64 n ∧ M' = []) := by
 refine Con.of_body Tryz.func163 rfl Tryz.ntmps163 rfl rfl ?_
 refine hw_reg ?_
 refine dp rfl (pop_assign rfl) ?_
 refine dn ?_
 refine hw_seq ?_
 refine hw_reg ?_
 refine dp rfl (pop_move rfl) ?_
 refine dp rfl (pop_geq rfl rfl) ?_
 refine dn ?_
 refine hw_cond rfl (fun h1 => ?_) (fun h1 => ?_)
 ·exfalso
  try simp at h1
  omega
 ·try simp at h1
  refine hw_skip ?_
  refine seqQ_n ?_
  refine hw_seq ?_
  refine hw_reg ?_
  refine dp rfl (pop_move rfl) ?_
  refine dp rfl (pop_geq rfl rfl) ?_
  refine dn ?_
  refine hw_cond rfl (fun h2 => ?_) (fun h2 => ?_)
  ·exfalso
   try simp at h2
   omega
  ·try simp at h2
   refine hw_skip ?_
   refine seqQ_n ?_
   refine hw_seq ?_
   refine hw_reg ?_
   refine dp rfl (pop_move rfl) ?_
   refine dp rfl (pop_geq rfl rfl) ?_
   refine dn ?_
   refine hw_cond rfl (fun h3 => ?_) (fun h3 => ?_)
   ·exfalso
    try simp at h3
    omega
   ·try simp at h3
    refine hw_skip ?_
    refine seqQ_n ?_
    refine hw_reg ?_
    refine dp rfl (pop_move rfl) ?_
    refine dp rfl (pop_move rfl) ?_
    refine dp rfl (pop_conv ty179 ty5 rfl) ?_
    refine dp rfl (pop_indexs (j := x) ty9 rfl rfl (wrap8 hx) (List.getElem?_eq_getElem (Nat.lt_of_lt_of_le hx (Nat.le_of_ble_eq_true (by kernel_rfl))))) ?_
    refine dp rfl (pop_conv ty5 ty3 rfl) ?_
    refine dp rfl (pop_add rfl rfl) ?_
    refine dp rfl (pop_assign rfl) ?_
    refine dn ?_
    refine hw_ret ?_
    exact ret_q rfl ⟨_, rfl, rfl⟩

/-- math/bits.Len -/
theorem c_bits_Len_s [Tracks] {x : Nat} (hx : x < 16) : Con Tryz.prog 161 [.int .u64 (x : Int)] [] (fun y M' => ∃ n : Int, y = .int .i64 n ∧ M' = []) := by
 refine Con.of_body Tryz.func161 rfl Tryz.ntmps161 rfl rfl ?_
 refine hw_reg ?_
 refine dp rfl (pop_assign rfl) ?_
 refine dn ?_
 refine hw_seq ?_
 refine hw_cond_f rfl ?_
 refine hw_skip ?_
 refine seqQ_n ?_
 refine hw_reg ?_
 refine dp rfl (pop_move rfl) ?_
 refine de rfl (eop_callf (M1 := []) (R := []) ca163 rfl (WeakL.refl _) (List.Perm.refl _) (c_bits_Len64_s hx) ?_)
 rintro _ _ ⟨n7, rfl, rfl⟩
 refine dp rfl (pop_assign rfl) ?_
 refine dn ?_
 refine hw_ret ?_
 exact ret_q rfl ⟨_, rfl, rfl⟩

set_option maxHeartbeats 1000000 in
/-- slices.insertionSortCmpFunc[benchwarmer/api.Asset] -/
theorem c_slices_insertionSortCmpFunc_api_Asset [Tracks] {l : List Asset} {v : Value} {fid : FuncId} {caps : List HVal} {c : Asset → Asset → Int} {n : Int} (hca : Callable Tryz.prog fid) (hp : ∀ x y, ConP Tryz.prog fid ([eAsset x, eAsset y] ++ caps) (.int .i64 (c x y))) (hn : n = l.length) (hl : l.length ≤ 1000000) : Con Tryz.prog 215 [.raw v, .int .i64 0, .int .i64 n, .fn (.func fid) [] caps] [.arr v 3 (l.map eAsset)] (fun x M' => x = .tup [] ∧ M' = [.arr v 3 ((isort c l).map eAsset)]) := by
 subst hn
 refine Con.of_body Tryz.func215 rfl Tryz.ntmps215 rfl rfl ?_
 refine hw_reg ?_
 refine dp rfl (pop_move rfl) ?_
 refine dp rfl (pop_add64 rfl rfl (by omega) (by omega)) ?_
 refine dp rfl (pop_assign rfl) ?_
 refine dn ?_
 refine hw_block ?_
 refine hw_loopw [8, 9, 12, 13, 14, 15, 16, 17, 18, 19, 20, 21, 22, 23, 24, 25, 26, 27, 28, 29, 30, 31, 32, 33, 34, 35, 36, 37, 38, 39, 40, 41, 42, 43, 44, 45, 46, 47, 48, 49, 50, 51, 52] (fun (k : Nat) => [(8, .int .i64 (k : Int))]) (fun (k : Nat) => [.arr v 3 ((isort c (l.take k) ++ l.drop k).map eAsset)]) (fun (k : Nat) => 1 ≤ k) (fun (k : Nat) => l.length - k) (1) ?_ ?_ ?_ ?_
 ·exact Nat.le_refl _
 ·exact ⟨rfl, trivial⟩
 ·exact perm_eq (by rw [isort_take1])
 ·intro k hk
  refine hw_seq ?_
  refine hw_reg ?_
  refine dp rfl (pop_move rfl) ?_
  refine dp rfl (pop_move rfl) ?_
  refine dp rfl (pop_lss rfl rfl) ?_
  refine dn ?_
  refine hw_cond rfl (fun h1 => ?_) (fun h2 => ?_)
  ·try simp at h1
   obtain ⟨x, hx⟩ : ∃ x, l[k]? = some x := ⟨_, List.getElem?_eq_getElem (by omega)⟩
   refine hw_arrc (i := 0) rfl (fun h0 he => ?_) (fun b off cap hv hcap => ?_)
   ·exfalso; have := congrArg List.length he; simp [isort_len] at this; omega
   rw [show ((isort c (l.take k) ++ l.drop k).map eAsset).length = l.length by simp [isort_len]; omega] at hv
   subst hv
   refine hw_skip ?_
   refine seqQ_n ?_
   refine hw_seq ?_
   refine hw_block ?_
   refine hw_reg ?_
   refine dp rfl (pop_move rfl) ?_
   refine dp rfl (pop_assign rfl) ?_
   refine dn ?_
   refine hw_block ?_
   refine hw_loopw2 [9, 18, 19, 20, 21, 22, 23, 24, 25, 26, 27, 28, 29, 30, 31, 32, 33, 34, 35, 36, 37, 38, 39, 40, 41, 42, 43, 44, 45, 46, 47, 48, 49, 50, 51, 52] (fun (A : List Asset) (B : List Asset) => [(9, .int .i64 (A.length : Int))]) (fun (A : List Asset) (B : List Asset) => [.arr (.slice (some ⟨b, off, none⟩) l.length cap) 3 ((A ++ x :: (B ++ l.drop (k + 1))).map eAsset)]) (fun (A : List Asset) (B : List Asset) => A.length + B.length = k ∧ insB c x (isort c (l.take k)) = insB c x A ++ B) (fun (A : List Asset) (B : List Asset) => A.length) (isort c (l.take k)) ([]) ?_ ?_ ?_ ?_
   ·exact ⟨by simp [isort_len]; omega, by simp⟩
   ·exact ⟨some_int (by simp [isort_len]; omega), trivial⟩
   ·exact perm_eq (by rw [drop_cons hx]; rfl)
   ·intro A B hinv
    obtain ⟨hA, hB⟩ := hinv
    have hlA : A.length < l.length := by omega
    have hll : ((A ++ x :: (B ++ l.drop (k + 1)))).length = l.length := by simp; omega
    refine hw_seq ?_
    refine hw_draw (fun M => M = [.arr (.slice (some ⟨b, off, none⟩) l.length cap) 3 ((A ++ x :: (B ++ l.drop (k + 1))).map eAsset)]) [8, 13] mixed ?_
    refine ahp 0 rfl rfl (by kernel_rfl) (by kernel_rfl) (pop_move rfl) ?_
    refine ahp 1 rfl rfl (by kernel_rfl) (by kernel_rfl) (pop_move rfl) ?_
    refine ahp 2 rfl rfl (by kernel_rfl) (by kernel_rfl) (pop_gtr rfl rfl) ?_
    refine ahp 3 rfl rfl (by kernel_rfl) (by kernel_rfl) (pop_move rfl) ?_
    refine ahg 4 rfl rfl (by kernel_rfl) (by kernel_rfl) rfl (fun hc => ⟨_, OpenTo.refl _, pop_move rfl⟩) ?_
    refine ahg 5 rfl rfl (by kernel_rfl) (by kernel_rfl) rfl (fun hc => ⟨_, OpenTo.refl _, pop_move rfl⟩) ?_
    refine ahg 6 rfl rfl (by kernel_rfl) (by kernel_rfl) rfl (fun hc => ⟨_, OpenTo.refl _, pop_move rfl⟩) ?_
    refine ahg 7 rfl rfl (by kernel_rfl) (by kernel_rfl) rfl (fun hc => by
     have hq : 0 < A.length := by simpa using hc
     exact ⟨_, OpenTo.upd (t := 24) rfl (hc) (OpenTo.upd (t := 23) rfl (hc) (OpenTo.refl _)), pop_idxraw (j := A.length) ty93 ty92 rfl rfl (by rfl) (by omega)⟩) ?_
    refine ahgl 8 rfl rfl (by kernel_rfl) (by kernel_rfl) (by simp) rfl rfl (fun hc => ⟨_, OpenTo.upd (t := 25) rfl (hc) (OpenTo.refl _), fun M hM => by
     subst hM; exact eop_load_elw (i := 0) (j := A.length) ty92 rfl rfl rfl get_mid rfl rfl rfl ⟨rfl, rfl⟩
     ⟩) ?_
    refine ahg 9 rfl rfl (by kernel_rfl) (by kernel_rfl) rfl (fun hc => ⟨_, OpenTo.refl _, pop_move rfl⟩) ?_
    refine ahg 10 rfl rfl (by kernel_rfl) (by kernel_rfl) rfl (fun hc => ⟨_, OpenTo.refl _, pop_move rfl⟩) ?_
    refine ahg 11 rfl rfl (by kernel_rfl) (by kernel_rfl) rfl (fun hc => by
     have hq : 0 < A.length := by simpa using hc
     exact ⟨_, OpenTo.upd (t := 28) rfl (hc) (OpenTo.refl _), pop_sub64 rfl rfl (by omega) (by omega)⟩) ?_
    refine ahg 12 rfl rfl (by kernel_rfl) (by kernel_rfl) rfl (fun hc => by
     have hq : 0 < A.length := by simpa using hc
     exact ⟨_, OpenTo.upd (t := 29) rfl (hc) (OpenTo.upd (t := 27) rfl (hc) (OpenTo.refl _)), pop_idxraw (j := A.length - 1) ty93 ty92 rfl rfl (by omega) (by omega)⟩) ?_
    refine ahgl 13 rfl rfl (by kernel_rfl) (by kernel_rfl) (by simp) rfl rfl (fun hc => ⟨_, OpenTo.upd (t := 30) rfl (hc) (OpenTo.refl _), fun M hM => by
     have hq : 0 < A.length := by simpa using hc
     subst hM; exact eop_load_elw (i := 0) (j := A.length - 1) ty92 rfl rfl rfl (get_before hq) rfl rfl rfl ⟨rfl, rfl⟩
     ⟩) ?_
    refine ahg 14 rfl rfl (by kernel_rfl) (by kernel_rfl) rfl (fun hc => ⟨_, OpenTo.upd (t := 31) rfl (hc) (OpenTo.upd (t := 26) rfl (hc) (OpenTo.upd (t := 22) rfl (hc) (OpenTo.refl _))), pop_callv hca rfl rfl (WeakL.refl _) (hp _ _)⟩) ?_
    refine ahg 15 rfl rfl (by kernel_rfl) (by kernel_rfl) rfl (fun hc => ⟨_, OpenTo.upd (t := 32) rfl (hc) (OpenTo.refl _), pop_lss rfl rfl⟩) ?_
    refine ahp 16 rfl rfl (by kernel_rfl) (by kernel_rfl) (pop_picko rfl (.inr ⟨_, rfl, fun h => by simp_all⟩) (.inl rfl)) ?_
    refine ahz (by kernel_rfl) ?_
    refine hw_cond rfl (fun h3 => ?_) (fun h4 => ?_)
    ·try simp at h3
     obtain ⟨hA0, hcx⟩ := h3
     obtain ⟨A1, y, rfl⟩ := snoc_of hA0
     rw [getD_snoc] at hcx
     refine hw_skip ?_
     refine seqQ_n ?_
     refine hw_seq ?_
     refine hw_block ?_
     refine hw_draw1 (fun M => M = [.arr (.slice (some ⟨b, off, none⟩) l.length cap) 3 (((A1 ++ [y]) ++ x :: (B ++ l.drop (k + 1))).map eAsset)]) [9, 13] mixed ?_
     refine ahp 0 rfl rfl (by kernel_rfl) (by kernel_rfl) (pop_move rfl) ?_
     refine ahp 1 rfl rfl (by kernel_rfl) (by kernel_rfl) (pop_move rfl) ?_
     refine ahp 2 rfl rfl (by kernel_rfl) (by kernel_rfl) (pop_move rfl) ?_
     refine ahp 3 rfl rfl (by kernel_rfl) (by kernel_rfl) (pop_move rfl) ?_
     refine ahp 4 rfl rfl (by kernel_rfl) (by kernel_rfl) (pop_sub64 rfl rfl (by omega) (by omega)) ?_
     refine ahp 5 rfl rfl (by kernel_rfl) (by kernel_rfl) (pop_move rfl) ?_
     refine ahp 6 rfl rfl (by kernel_rfl) (by kernel_rfl) (pop_move rfl) ?_
     refine ahp 7 rfl rfl (by kernel_rfl) (by kernel_rfl) (pop_sub64 rfl rfl (by omega) (by omega)) ?_
     refine ahp 8 rfl rfl (by kernel_rfl) (by kernel_rfl) (pop_idxraw (j := (A1 ++ [y]).length - 1) ty93 ty92 rfl rfl (by omega) (by omega)) ?_
     refine ahl 9 rfl rfl (by kernel_rfl) (by kernel_rfl) (by simp) rfl (fun M hM => by subst hM; exact eop_load_elw (i := 0) (j := (A1 ++ [y]).length - 1) ty92 rfl rfl rfl ((get_before hA0).trans (by rw [getD_snoc])) rfl rfl rfl ⟨rfl, rfl⟩) ?_
     refine ahp 10 rfl rfl (by kernel_rfl) (by kernel_rfl) (pop_move rfl) ?_
     refine ahp 11 rfl rfl (by kernel_rfl) (by kernel_rfl) (pop_move rfl) ?_
     refine ahp 12 rfl rfl (by kernel_rfl) (by kernel_rfl) (pop_idxraw (j := (A1 ++ [y]).length) ty93 ty92 rfl rfl rfl (by omega)) ?_
     refine ahl 13 rfl rfl (by kernel_rfl) (by kernel_rfl) (by simp) rfl (fun M hM => by subst hM; exact eop_load_elw (i := 0) (j := (A1 ++ [y]).length) ty92 rfl rfl rfl get_mid rfl rfl rfl ⟨rfl, rfl⟩) ?_
     refine ahp 14 rfl rfl (by kernel_rfl) (by kernel_rfl) (pop_idxraw (j := (A1 ++ [y]).length) ty93 ty92 rfl rfl rfl (by omega)) ?_
     refine ahe 15 rfl (by kernel_rfl) ?_
     refine hop_e0 (eop_store_elw (i := 0) (j := (A1 ++ [y]).length) (y := x) (y' := y) ty92 rfl rfl rfl rfl get_mid rfl rfl rfl ?_)
     refine ⟨fun _ => .inr (by simp [Before, Region.binds]), ?_⟩
     refine ahp 16 rfl rfl (by kernel_rfl) (by kernel_rfl) (pop_idxraw (j := (A1 ++ [y]).length - 1) ty93 ty92 rfl rfl (by omega) (by omega)) ?_
     refine ahe 17 rfl (by kernel_rfl) ?_
     refine hop_e0 (eop_store_elw (i := 0) (j := (A1 ++ [y]).length - 1) (y := y) (y' := x) ty92 rfl rfl rfl rfl (by rw [List.getElem?_set_ne (by simp)]; exact (get_before hA0).trans (by rw [getD_snoc])) rfl rfl rfl ?_)
     refine ⟨fun _ => .inr (by simp [Before, Region.binds]), ?_⟩
     refine ahz (by kernel_rfl) ?_
     refine blockQ_n ?_
     refine seqQ_n ?_
     refine hw_reg1 ?_
     refine dp rfl (pop_move rfl) ?_
     refine dp rfl (pop_sub64 rfl rfl (by omega) (by omega)) ?_
     refine dp rfl (pop_assign rfl) ?_
     refine dn ?_
     exact ⟨A1, y :: B, ⟨by simp at hA ⊢; omega, ins_step hB hcx⟩, by dsimp only; simp, ⟨some_int (by simp), trivial⟩, (by repeat (first | exact keeps_refl | refine keeps_upd rfl ?_ | refine keeps_loop rfl rfl ?_)), perm_eq (by rw [swap_mid]; rfl)⟩
    ·try simp at h4
     have hins := ins_exit (l := l) (k := k) hx hB (by intro h0; have := h4 h0; omega)
     refine hw_exit ?_
     refine seqQ_x ?_
     refine loopQ2_x ?_
     refine blockQ_eq ?_
     refine blockQ_n ?_
     refine seqQ_n ?_
     refine hw_reg1 ?_
     refine dp rfl (pop_move rfl) ?_
     refine dp rfl (pop_add64 rfl rfl (by omega) (by omega)) ?_
     refine dp rfl (pop_assign rfl) ?_
     refine dn ?_
     refine ⟨k + 1, ?_, ?_, ⟨rfl, trivial⟩, (by repeat (first | exact keeps_refl | refine keeps_upd rfl ?_ | refine keeps_loop rfl rfl ?_)), perm_eq (by rw [hins])⟩
     ·omega
     ·dsimp only; omega
  ·try simp at h2
   have hend : isort c (l.take k) ++ l.drop k = isort c l := by rw [List.take_of_length_le (by omega), drop_all (by omega)]; simp
   refine hw_exit ?_
   refine seqQ_x ?_
   refine loopQ_x ?_
   refine blockQ_eq ?_
   exact ⟨_, _, Ghost.sub (Sub.refl _), _, _, rfl, Weak.refl _, rfl, by rw [hend]⟩

/-- slices.pdqsortCmpFunc[benchwarmer/api.Asset] -/
theorem c_slices_pdqsortCmpFunc_api_Asset [Tracks] {l : List Asset} {v : Value} {fid : FuncId} {caps : List HVal} {c : Asset → Asset → Int} {lim : Int} (hca : Callable Tryz.prog fid) (hp : ∀ x y, ConP Tryz.prog fid ([eAsset x, eAsset y] ++ caps) (.int .i64 (c x y))) (hl : l.length ≤ 12) : Con Tryz.prog 187 [.raw v, .int .i64 0, .int .i64 (l.length : Int), .int .i64 lim, .fn (.func fid) [] caps] [.arr v 3 (l.map eAsset)] (fun x M' => x = .tup [] ∧ M' = [.arr v 3 ((isort c l).map eAsset)]) := by
 refine Con.of_body Tryz.func187 rfl Tryz.ntmps187 rfl rfl ?_
 refine hw_reg ?_
 refine dp rfl (pop_assign rfl) ?_
 refine dn ?_
 refine hw_reg ?_
 refine dp rfl (pop_assign rfl) ?_
 refine dn ?_
 refine hw_block ?_
 refine hw_loopw (1 :: 2 :: 3 :: 10 :: 11 :: 12 :: 13 :: 14 :: 15 :: 16 :: 17 :: 18 :: 19 :: 20 :: 21 :: 22 :: 23 :: 24 :: 25 :: 26 :: 27 :: 28 :: 29 :: 30 :: 31 :: 32 :: 33 :: 34 :: 35 :: 36 :: 37 :: 38 :: 39 :: 40 :: 41 :: 42 :: 43 :: 44 :: 45 :: 46 :: 47 :: 48 :: 49 :: 50 :: 51 :: 52 :: 53 :: 54 :: 55 :: 56 :: 57 :: 58 :: 59 :: 60 :: 61 :: 62 :: 63 :: 64 :: 65 :: 66 :: 67 :: 68 :: 69 :: 70 :: 71 :: 72 :: 73 :: 74 :: 75 :: 76 :: 77 :: 78 :: 79 :: 80 :: 81 :: 82 :: 83 :: 84 :: 85 :: 86 :: 87 :: 88 :: 89 :: 90 :: 91 :: 92 :: 93 :: 94 :: 95 :: 96 :: 97 :: 98 :: 99 :: 100 :: 101 :: 102 :: 103 :: 104 :: 105 :: 106 :: 107 :: 108 :: 109 :: 110 :: 111 :: 112 :: 113 :: 114 :: 115 :: 116 :: 117 :: 118 :: 119 :: 120 :: 121 :: 122 :: 123 :: 124 :: 125 :: 126 :: 127 :: 128 :: 129 :: 130 :: 131 :: 132 :: 133 :: 134 :: 135 :: 136 :: 137 :: 138 :: 139 :: 140 :: 141 :: 142 :: 143 :: 144 :: 145 :: 146 :: 147 :: []) (fun (u : Unit) => [(1, .int .i64 0), (2, .int .i64 (l.length : Int))]) (fun (u : Unit) => [.arr v 3 (l.map eAsset)]) (fun (u : Unit) => True) (fun (u : Unit) => 0) (()) ?_ ?_ ?_ ?_
 ·trivial
 ·exact ⟨rfl, rfl, trivial⟩
 ·exact List.Perm.refl _
 ·intro u hu
  refine hw_block ?_
  refine hw_reg ?_
  refine dp rfl (pop_move rfl) ?_
  refine dp rfl (pop_move rfl) ?_
  refine dp rfl (pop_sub64 rfl rfl (by omega) (by omega)) ?_
  refine dp rfl (pop_assign rfl) ?_
  refine dn ?_
  refine hw_seq ?_
  refine hw_reg ?_
  refine dp rfl (pop_move rfl) ?_
  refine dp rfl (pop_leq rfl rfl) ?_
  refine dn ?_
  refine hw_cond rfl (fun h1 => ?_) (fun h1 => ?_)
  ·try simp at h1
   refine hw_reg ?_
   refine dp rfl (pop_move rfl) ?_
   refine dp rfl (pop_move rfl) ?_
   refine dp rfl (pop_move rfl) ?_
   refine dp rfl (pop_move rfl) ?_
   refine de rfl (eop_callx (i := 0) ca215 rfl (WeakL.refl _) rfl (c_slices_insertionSortCmpFunc_api_Asset (l := l) hca hp (by omega) (by omega)) ?_)
   rintro _ _ ⟨rfl, rfl⟩
   refine dn ?_
   refine hw_ret ?_
   exact ret_q rfl ⟨rfl, rfl⟩
  ·exfalso
   try simp at h1
   omega

/-- slices.SortFunc[[]benchwarmer/api.Asset,benchwarmer/api.Asset] -/
theorem c_slices_SortFunc_api_Asset_api_Asset [Tracks] {l : List Asset} {v : Value} {fid : FuncId} {caps : List HVal} {c : Asset → Asset → Int} (hca : Callable Tryz.prog fid) (hp : ∀ x y, ConP Tryz.prog fid ([eAsset x, eAsset y] ++ caps) (.int .i64 (c x y))) (hl : l.length ≤ 12) : Con Tryz.prog 158 [.raw v, .fn (.func fid) [] caps] [.arr v 3 (l.map eAsset)] (fun x M' => x = .tup [] ∧ M' = [.arr v 3 ((isort c l).map eAsset)]) := by
 refine Con.of_body Tryz.func158 rfl Tryz.ntmps158 rfl rfl ?_
 refine hw_reg ?_
 refine dp rfl (pop_move rfl) ?_
 refine de rfl (eop_lenm (i := 0) ty93 rfl rfl ?_)
 refine dp rfl (pop_assign rfl) ?_
 refine dn ?_
 refine hw_reg1 ?_
 refine dp rfl (pop_move rfl) ?_
 refine dp rfl (pop_move rfl) ?_
 refine dp rfl (pop_move rfl) ?_
 refine dp rfl (pop_eq (pop_conv ty3 ty208 rfl) (congrArg _ (wrapu64 (by omega)))) ?_
 refine de rfl (eop_callf (M1 := []) (R := [_]) ca161 rfl (WeakL.refl _) (List.Perm.refl _) (c_bits_Len_s (x := l.length) (by omega)) ?_)
 rintro _ _ ⟨n11, rfl, rfl⟩
 refine dp rfl (pop_move rfl) ?_
 refine de rfl (eop_callx (i := 0) ca187 rfl (WeakL.refl _) rfl (c_slices_pdqsortCmpFunc_api_Asset hca hp hl) ?_)
 rintro _ _ ⟨rfl, rfl⟩
 refine dn ?_
 exact ⟨_, _, Ghost.sub (Sub.refl _), _, _, rfl, Weak.refl _, rfl, rfl⟩
end Go.Proofs.YtmgbigiegjlieaaGreatDoor
end
section
namespace Go.Proofs.YtmgbigiegjlieaaGreatDoor
open Go.HL
set_option maxRecDepth 100000
set_option linter.unusedVariables false
set_option linter.unusedSimpArgs false

end Go.Proofs.YtmgbigiegjlieaaGreatDoor
end
section
namespace Go.Proofs.YtmgbigiegjlieaaGreatDoor
open Go.HL
set_option maxRecDepth 100000
set_option linter.unusedVariables false
set_option linter.unusedSimpArgs false
/-- benchwarmer/value.assetFault -/
theorem c_value_assetFault [Tracks] {x : Asset}  : ConP Tryz.prog 127 [eAsset x] (.int .i64 (assetFault x)) := by
 refine Con.of_body Tryz.func127 rfl Tryz.ntmps127 rfl rfl ?_
 refine hw_reg ?_
 refine dp rfl (pop_box rfl rfl) ?_
 refine dp rfl (pop_assign rfl) ?_
 refine dn ?_
 refine hw_seq ?_
 refine hw_block ?_
 refine hw_reg ?_
 refine dp rfl (pop_fieldAddr ty92 rfl ty9 (by decide) rfl) ?_
 refine dp rfl (pop_load ty9 rfl rfl rfl) ?_
 refine dp rfl (pop_call ca104 rfl (WeakL.refl _) c_base_Key) ?_
 refine dp rfl (pop_not rfl) ?_
 refine dp rfl (pop_move rfl) ?_
 refine dg rfl rfl (fun hc => ⟨_, OpenTo.refl _, pop_fieldAddr ty92 rfl ty9 (by decide) rfl⟩) ?_
 refine dg rfl rfl (fun hc => ⟨_, OpenTo.upd (t := 9) rfl (hc) (OpenTo.refl _), pop_load ty9 rfl rfl rfl⟩) ?_
 refine dg rfl rfl (fun hc => ⟨_, OpenTo.upd (t := 10) rfl (hc) (OpenTo.refl _), pop_call ca104 rfl (WeakL.refl _) c_base_Key⟩) ?_
 refine dg rfl rfl (fun hc => ⟨_, OpenTo.upd (t := 11) rfl (hc) (OpenTo.refl _), pop_not rfl⟩) ?_
 refine dp rfl (pop_picko rfl (.inl rfl) (.inr ⟨_, rfl, fun h => by simp_all⟩)) ?_
 refine dp rfl (pop_assign rfl) ?_
 refine dn ?_
 refine hw_cond rfl (fun h1 => ?_) (fun h2 => ?_)
 ·try simp at h1
  refine hw_reg ?_
  refine dp rfl (pop_assign rfl) ?_
  refine dn ?_
  refine hw_ret ?_
  refine ret_p rfl ?_
  show HVal.int .i64 _ = _
  simp_all [assetFault]
 ·try simp at h2
  refine hw_reg ?_
  refine dp rfl (pop_fieldAddr ty92 rfl ty3 (by decide) rfl) ?_
  refine dp rfl (pop_load ty3 rfl rfl rfl) ?_
  refine dp rfl (pop_call ca68 rfl (WeakL.refl _) c_base_Out) ?_
  refine dp rfl (pop_assign rfl) ?_
  refine dn ?_
  refine hw_cond rfl (fun h3 => ?_) (fun h4 => ?_)
  ·try simp at h3
   refine hw_reg ?_
   refine dp rfl (pop_assign rfl) ?_
   refine dn ?_
   refine hw_ret ?_
   refine ret_p rfl ?_
   show HVal.int .i64 _ = _
   simp_all [assetFault]
  ·try simp at h4
   refine hw_skip ?_
   refine blockQ_n ?_
   refine seqQ_n ?_
   refine hw_reg ?_
   refine dp rfl (pop_assign rfl) ?_
   refine dn ?_
   refine hw_ret ?_
   refine ret_p rfl ?_
   show HVal.int .i64 _ = _
   simp_all [assetFault]

/-- benchwarmer/value.CheckAssets -/
theorem c_value_CheckAssets [Tracks] {l : List Asset} (hl : l.length ≤ 1000000) : ConP Tryz.prog 82 [eAssets l] (.int .i64 (checkAssets l)) := by
 refine Con.of_body Tryz.func82 rfl Tryz.ntmps82 rfl rfl ?_
 refine hw_reg ?_
 refine dp rfl (pop_assign rfl) ?_
 refine dn ?_
 refine hw_seq ?_
 refine hw_reg ?_
 refine dp rfl (pop_move rfl) ?_
 refine dp rfl (pop_lenm ty93 rfl) ?_
 refine dp rfl (pop_gtr rfl rfl) ?_
 refine dn ?_
 refine hw_cond rfl (fun h1 => ?_) (fun h2 => ?_)
 ·try simp at h1
  refine hw_reg ?_
  refine dp rfl (pop_assign rfl) ?_
  refine dn ?_
  refine hw_ret ?_
  refine ret_p rfl ?_
  show HVal.int .i64 _ = _
  (rw [checkAssets, if_pos (by omega)]; done)
 ·try simp at h2
  refine hw_skip ?_
  refine seqQ_n ?_
  refine hw_seq ?_
  refine hw_reg ?_
  refine dp rfl (pop_move rfl) ?_
  refine dp rfl (pop_lenm ty93 rfl) ?_
  refine dp rfl (pop_move rfl) ?_
  refine dn ?_
  refine hw_block ?_
  refine hw_loopw [2, 3, 4, 5, 11, 12, 13, 14, 15, 16, 17, 18, 19, 20, 21, 22, 23, 24, 25, 26, 27, 28, 29, 30, 31, 32, 33, 34] (fun (k : Nat) => [(11, .int .i64 k)]) (fun (k : Nat) => []) (fun (k : Nat) => k ≤ l.length ∧ (checkAssets l = assetsGo l k (l.drop k))) (fun (k : Nat) => l.length - k) (0) ?_ ?_ ?_ ?_
  ·refine ⟨Nat.zero_le _, ?_⟩
   rw [checkAssets, if_neg (by omega)]; rfl
  ·exact ⟨rfl, trivial⟩
  ·exact List.Perm.refl _
  ·intro k hinv
   obtain ⟨hk, hg⟩ := hinv
   refine hw_reg ?_
   refine dp rfl (pop_lss rfl rfl) ?_
   refine dn ?_
   refine hw_seq ?_
   refine hw_cond rfl (fun h3 => ?_) (fun h4 => ?_)
   ·try simp at h3
    obtain ⟨x, hx⟩ : ∃ x, l[k]? = some x := ⟨_, List.getElem?_eq_getElem h3⟩
    have hdx := drop_cons hx
    rw [hdx] at hg
    refine hw_skip ?_
    refine seqQ_n ?_
    refine hw_seq ?_
    refine hw_block ?_
    refine hw_reg ?_
    refine dp rfl (pop_move rfl) ?_
    refine dp rfl (pop_idx ty93 ty92 rfl rfl rfl (by assumption)) ?_
    refine dp rfl (pop_loadw ty92 rfl rfl rfl rfl) ?_
    refine de rfl (eop_alloc ty92 rfl fun b4 => ?_)
    refine dp rfl (pop_assign rfl) ?_
    refine de0 (eop_storew ty92 rfl rfl rfl rfl rfl ?_)
    refine dn ?_
    refine hw_ghost (Ghost.fc0 4 rfl) ?_
    refine hw_seq ?_
    refine hw_reg ?_
    refine dp rfl (pop_loadw ty92 rfl rfl rfl rfl) ?_
    refine dp rfl (pop_call ca127 rfl (WeakL.refl _) c_value_assetFault) ?_
    refine dp rfl (pop_assign rfl) ?_
    refine dn ?_
    refine hw_reg ?_
    refine dp rfl (pop_move rfl) ?_
    refine dp rfl (pop_neq rfl rfl) ?_
    refine dn ?_
    refine hw_cond rfl (fun h5 => ?_) (fun h6 => ?_)
    ·try simp at h5
     refine hw_reg ?_
     refine dp rfl (pop_move rfl) ?_
     refine dp rfl (pop_assign rfl) ?_
     refine dn ?_
     refine hw_ret ?_
     refine ret_p rfl ?_
     show HVal.int .i64 _ = _
     (rw [hg]; simp_all [assetsGo, leS]; done)
    ·try simp at h6
     refine hw_skip ?_
     refine seqQ_n ?_
     refine hw_draw (fun _ => True) [] mixed ?_
     refine ahp 0 rfl rfl (by kernel_rfl) (by kernel_rfl) (pop_move rfl) ?_
     refine ahp 1 rfl rfl (by kernel_rfl) (by kernel_rfl) (pop_gtr rfl rfl) ?_
     refine ahp 2 rfl rfl (by kernel_rfl) (by kernel_rfl) (pop_move rfl) ?_
     refine ahg 3 rfl rfl (by kernel_rfl) (by kernel_rfl) rfl (fun hc => ⟨_, OpenTo.refl _, pop_fieldAddr ty92 rfl ty9 (by decide) rfl⟩) ?_
     refine ahg 4 rfl rfl (by kernel_rfl) (by kernel_rfl) rfl (fun hc => ⟨_, OpenTo.upd (t := 24) rfl (hc) (OpenTo.refl _), pop_load ty9 rfl rfl rfl⟩) ?_
     refine ahg 5 rfl rfl (by kernel_rfl) (by kernel_rfl) rfl (fun hc => ⟨_, OpenTo.refl _, pop_move rfl⟩) ?_
     refine ahg 6 rfl rfl (by kernel_rfl) (by kernel_rfl) rfl (fun hc => ⟨_, OpenTo.refl _, pop_move rfl⟩) ?_
     refine ahg 7 rfl rfl (by kernel_rfl) (by kernel_rfl) rfl (fun hc => by have hq := hc; (try simp at hq); exact ⟨_, OpenTo.upd (t := 27) rfl (hc) (OpenTo.refl _), pop_sub64 rfl rfl (by omega) (by omega)⟩) ?_
     refine ahg 8 rfl rfl (by kernel_rfl) (by kernel_rfl) rfl (fun hc => by have hq := hc; (try simp at hq); exact ⟨_, OpenTo.upd (t := 28) rfl (hc) (OpenTo.upd (t := 26) rfl (hc) (OpenTo.refl _)), pop_idx (j := k - 1) (a := l.getD (k - 1) asset0) ty93 ty92 rfl rfl (by omega) (getD_some (by omega))⟩) ?_
     refine ahg 9 rfl rfl (by kernel_rfl) (by kernel_rfl) rfl (fun hc => ⟨_, OpenTo.upd (t := 29) rfl (hc) (OpenTo.refl _), pop_fieldAddr ty92 rfl ty9 (by decide) rfl⟩) ?_
     refine ahg 10 rfl rfl (by kernel_rfl) (by kernel_rfl) rfl (fun hc => ⟨_, OpenTo.upd (t := 30) rfl (hc) (OpenTo.refl _), pop_load ty9 rfl rfl rfl⟩) ?_
     refine ahg 11 rfl rfl (by kernel_rfl) (by kernel_rfl) rfl (fun hc => ⟨_, OpenTo.upd (t := 31) rfl (hc) (OpenTo.upd (t := 25) rfl (hc) (OpenTo.refl _)), pop_leqs rfl rfl⟩) ?_
     refine ahp 12 rfl rfl (by kernel_rfl) (by kernel_rfl) (pop_picko rfl (.inr ⟨_, rfl, fun h => by simp_all⟩) (.inl rfl)) ?_
     refine ahz (by kernel_rfl) ?_
     refine hw_cond rfl (fun h7 => ?_) (fun h8 => ?_)
     ·try simp at h7
      refine hw_reg ?_
      refine dp rfl (pop_assign rfl) ?_
      refine dn ?_
      refine hw_ret ?_
      refine ret_p rfl ?_
      show HVal.int .i64 _ = _
      (rw [hg]; simp_all [assetsGo, leS]; done)
     ·try simp at h8
      refine hw_skip ?_
      refine blockQ_n ?_
      refine seqQ_n ?_
      refine hw_reg1 ?_
      refine dp rfl (pop_add64 rfl rfl (by omega) (by omega)) ?_
      refine dp rfl (pop_move rfl) ?_
      refine dn ?_
      refine ⟨k + 1, ?_, ?_, ⟨rfl, trivial⟩, (by repeat (first | exact keeps_refl | refine keeps_upd rfl ?_ | refine keeps_loop rfl rfl ?_)), List.Perm.refl _⟩
      ·refine ⟨by omega, ?_⟩
       rw [hg]; simp_all [assetsGo, leS]
      ·dsimp only; omega
   ·try simp at h4
    have hnk : l.length ≤ k := by omega
    obtain rfl : k = l.length := by omega
    rw [drop_all (Nat.le_refl _)] at hg
    refine hw_exit ?_
    refine seqQ_x ?_
    refine loopQ_x ?_
    refine blockQ_eq ?_
    refine seqQ_n ?_
    refine hw_reg ?_
    refine dp rfl (pop_assign rfl) ?_
    refine dn ?_
    refine hw_ret ?_
    refine ret_p rfl ?_
    show HVal.int .i64 _ = _
    (rw [hg]; simp_all [assetsGo, leS]; done)

/-- benchwarmer/value.CheckPlaces -/
theorem c_value_CheckPlaces [Tracks] {l : List HL.Place} (hl : l.length ≤ 1000000) : ConP Tryz.prog 83 [ePlaces l] (.int .i64 (checkPlaces l)) := by
 refine Con.of_body Tryz.func83 rfl Tryz.ntmps83 rfl rfl ?_
 refine hw_reg ?_
 refine dp rfl (pop_assign rfl) ?_
 refine dn ?_
 refine hw_seq ?_
 refine hw_reg ?_
 refine dp rfl (pop_move rfl) ?_
 refine dp rfl (pop_lenm ty96 rfl) ?_
 refine dp rfl (pop_gtr rfl rfl) ?_
 refine dn ?_
 refine hw_cond rfl (fun h1 => ?_) (fun h2 => ?_)
 ·try simp at h1
  refine hw_reg ?_
  refine dp rfl (pop_assign rfl) ?_
  refine dn ?_
  refine hw_ret ?_
  refine ret_p rfl ?_
  show HVal.int .i64 _ = _
  (rw [checkPlaces, if_pos (by omega)]; done)
 ·try simp at h2
  refine hw_skip ?_
  refine seqQ_n ?_
  refine hw_seq ?_
  refine hw_reg ?_
  refine dp rfl (pop_move rfl) ?_
  refine dp rfl (pop_lenm ty96 rfl) ?_
  refine dp rfl (pop_move rfl) ?_
  refine dn ?_
  refine hw_block ?_
  refine hw_loopw [2, 3, 4, 10, 11, 12, 13, 14, 15, 16, 17, 18, 19, 20, 21, 22, 23, 24, 25, 26, 27, 28, 29, 30, 31, 32, 33, 34, 35, 36, 37, 38] (fun (k : Nat) => [(10, .int .i64 k)]) (fun (k : Nat) => []) (fun (k : Nat) => k ≤ l.length ∧ (checkPlaces l = placesGo l k (l.drop k))) (fun (k : Nat) => l.length - k) (0) ?_ ?_ ?_ ?_
  ·refine ⟨Nat.zero_le _, ?_⟩
   rw [checkPlaces, if_neg (by omega)]; rfl
  ·exact ⟨rfl, trivial⟩
  ·exact List.Perm.refl _
  ·intro k hinv
   obtain ⟨hk, hg⟩ := hinv
   refine hw_reg ?_
   refine dp rfl (pop_lss rfl rfl) ?_
   refine dn ?_
   refine hw_seq ?_
   refine hw_cond rfl (fun h3 => ?_) (fun h4 => ?_)
   ·try simp at h3
    obtain ⟨x, hx⟩ : ∃ x, l[k]? = some x := ⟨_, List.getElem?_eq_getElem h3⟩
    have hdx := drop_cons hx
    rw [hdx] at hg
    refine hw_skip ?_
    refine seqQ_n ?_
    refine hw_seq ?_
    refine hw_block ?_
    refine hw_reg ?_
    refine dp rfl (pop_move rfl) ?_
    refine dp rfl (pop_idx ty96 ty95 rfl rfl rfl (by assumption)) ?_
    refine dp rfl (pop_loadw ty95 rfl rfl rfl rfl) ?_
    refine de rfl (eop_alloc ty95 rfl fun b4 => ?_)
    refine dp rfl (pop_assign rfl) ?_
    refine de0 (eop_storew ty95 rfl rfl rfl rfl rfl ?_)
    refine dn ?_
    refine hw_ghost (Ghost.fc0 4 rfl) ?_
    refine hw_block ?_
    refine hw_reg ?_
    refine dp rfl (pop_fieldAddr ty95 rfl ty9 (by decide) rfl) ?_
    refine dp rfl (pop_load ty9 rfl rfl rfl) ?_
    refine dp rfl (pop_call ca104 rfl (WeakL.refl _) c_base_Key) ?_
    refine dp rfl (pop_not rfl) ?_
    refine dp rfl (pop_assign rfl) ?_
    refine dn ?_
    refine hw_cond rfl (fun h5 => ?_) (fun h6 => ?_)
    ·try simp at h5
     refine hw_reg ?_
     refine dp rfl (pop_assign rfl) ?_
     refine dn ?_
     refine hw_ret ?_
     refine ret_p rfl ?_
     show HVal.int .i64 _ = _
     (rw [hg]; simp_all [placesGo, leS]; done)
    ·try simp at h6
     refine hw_reg ?_
     refine dp rfl (pop_fieldAddr ty95 rfl ty3 (by decide) rfl) ?_
     refine dp rfl (pop_load ty3 rfl rfl rfl) ?_
     refine dp rfl (pop_call ca68 rfl (WeakL.refl _) c_base_Out) ?_
     refine dp rfl (pop_assign rfl) ?_
     refine dn ?_
     refine hw_cond rfl (fun h7 => ?_) (fun h8 => ?_)
     ·try simp at h7
      refine hw_reg ?_
      refine dp rfl (pop_assign rfl) ?_
      refine dn ?_
      refine hw_ret ?_
      refine ret_p rfl ?_
      show HVal.int .i64 _ = _
      (rw [hg]; simp_all [placesGo, leS]; done)
     ·try simp at h8
      refine hw_draw (fun _ => True) [] mixed ?_
      refine ahp 0 rfl rfl (by kernel_rfl) (by kernel_rfl) (pop_move rfl) ?_
      refine ahp 1 rfl rfl (by kernel_rfl) (by kernel_rfl) (pop_gtr rfl rfl) ?_
      refine ahp 2 rfl rfl (by kernel_rfl) (by kernel_rfl) (pop_move rfl) ?_
      refine ahg 3 rfl rfl (by kernel_rfl) (by kernel_rfl) rfl (fun hc => ⟨_, OpenTo.refl _, pop_fieldAddr ty95 rfl ty9 (by decide) rfl⟩) ?_
      refine ahg 4 rfl rfl (by kernel_rfl) (by kernel_rfl) rfl (fun hc => ⟨_, OpenTo.upd (t := 28) rfl (hc) (OpenTo.refl _), pop_load ty9 rfl rfl rfl⟩) ?_
      refine ahg 5 rfl rfl (by kernel_rfl) (by kernel_rfl) rfl (fun hc => ⟨_, OpenTo.refl _, pop_move rfl⟩) ?_
      refine ahg 6 rfl rfl (by kernel_rfl) (by kernel_rfl) rfl (fun hc => ⟨_, OpenTo.refl _, pop_move rfl⟩) ?_
      refine ahg 7 rfl rfl (by kernel_rfl) (by kernel_rfl) rfl (fun hc => by have hq := hc; (try simp at hq); exact ⟨_, OpenTo.upd (t := 31) rfl (hc) (OpenTo.refl _), pop_sub64 rfl rfl (by omega) (by omega)⟩) ?_
      refine ahg 8 rfl rfl (by kernel_rfl) (by kernel_rfl) rfl (fun hc => by have hq := hc; (try simp at hq); exact ⟨_, OpenTo.upd (t := 32) rfl (hc) (OpenTo.upd (t := 30) rfl (hc) (OpenTo.refl _)), pop_idx (j := k - 1) (a := l.getD (k - 1) place0) ty96 ty95 rfl rfl (by omega) (getD_some (by omega))⟩) ?_
      refine ahg 9 rfl rfl (by kernel_rfl) (by kernel_rfl) rfl (fun hc => ⟨_, OpenTo.upd (t := 33) rfl (hc) (OpenTo.refl _), pop_fieldAddr ty95 rfl ty9 (by decide) rfl⟩) ?_
      refine ahg 10 rfl rfl (by kernel_rfl) (by kernel_rfl) rfl (fun hc => ⟨_, OpenTo.upd (t := 34) rfl (hc) (OpenTo.refl _), pop_load ty9 rfl rfl rfl⟩) ?_
      refine ahg 11 rfl rfl (by kernel_rfl) (by kernel_rfl) rfl (fun hc => ⟨_, OpenTo.upd (t := 35) rfl (hc) (OpenTo.upd (t := 29) rfl (hc) (OpenTo.refl _)), pop_leqs rfl rfl⟩) ?_
      refine ahp 12 rfl rfl (by kernel_rfl) (by kernel_rfl) (pop_picko rfl (.inr ⟨_, rfl, fun h => by simp_all⟩) (.inl rfl)) ?_
      refine ahp 13 rfl rfl (by kernel_rfl) (by kernel_rfl) (pop_assign rfl) ?_
      refine ahz (by kernel_rfl) ?_
      refine hw_cond rfl (fun h9 => ?_) (fun h10 => ?_)
      ·try simp at h9
       refine hw_reg ?_
       refine dp rfl (pop_assign rfl) ?_
       refine dn ?_
       refine hw_ret ?_
       refine ret_p rfl ?_
       show HVal.int .i64 _ = _
       (rw [hg]; simp_all [placesGo, leS]; done)
      ·try simp at h10
       refine hw_skip ?_
       refine blockQ_n ?_
       refine blockQ_n ?_
       refine seqQ_n ?_
       refine hw_reg1 ?_
       refine dp rfl (pop_add64 rfl rfl (by omega) (by omega)) ?_
       refine dp rfl (pop_move rfl) ?_
       refine dn ?_
       refine ⟨k + 1, ?_, ?_, ⟨rfl, trivial⟩, (by repeat (first | exact keeps_refl | refine keeps_upd rfl ?_ | refine keeps_loop rfl rfl ?_)), List.Perm.refl _⟩
       ·refine ⟨by omega, ?_⟩
        rw [hg]; simp_all [placesGo, leS]
       ·dsimp only; omega
   ·try simp at h4
    have hnk : l.length ≤ k := by omega
    obtain rfl : k = l.length := by omega
    rw [drop_all (Nat.le_refl _)] at hg
    refine hw_exit ?_
    refine seqQ_x ?_
    refine loopQ_x ?_
    refine blockQ_eq ?_
    refine seqQ_n ?_
    refine hw_reg ?_
    refine dp rfl (pop_assign rfl) ?_
    refine dn ?_
    refine hw_ret ?_
    refine ret_p rfl ?_
    show HVal.int .i64 _ = _
    (rw [hg]; simp_all [placesGo, leS]; done)

/-- benchwarmer/value.byValue -/
theorem c_value_byValue [Tracks] {x y : Asset}  : ConP Tryz.prog 159 [eAsset x, eAsset y] (.int .i64 (byValue x y)) := by
 refine Con.of_body Tryz.func159 rfl Tryz.ntmps159 rfl rfl ?_
 refine hw_reg ?_
 refine dp rfl (pop_box rfl rfl) ?_
 refine dp rfl (pop_box rfl rfl) ?_
 refine dp rfl (pop_assign rfl) ?_
 refine dn ?_
 refine hw_draw (fun _ => True) [] mixed ?_
 refine ahp 0 rfl rfl (by kernel_rfl) (by kernel_rfl) (pop_fieldAddr ty92 rfl ty3 (by decide) rfl) ?_
 refine ahp 1 rfl rfl (by kernel_rfl) (by kernel_rfl) (pop_load ty3 rfl rfl rfl) ?_
 refine ahp 2 rfl rfl (by kernel_rfl) (by kernel_rfl) (pop_fieldAddr ty92 rfl ty3 (by decide) rfl) ?_
 refine ahp 3 rfl rfl (by kernel_rfl) (by kernel_rfl) (pop_load ty3 rfl rfl rfl) ?_
 refine ahp 4 rfl rfl (by kernel_rfl) (by kernel_rfl) (pop_call ca117 rfl (WeakL.refl _) c_cmp_Compare_int) ?_
 refine ahp 5 rfl rfl (by kernel_rfl) (by kernel_rfl) (pop_fieldAddr ty92 rfl ty9 (by decide) rfl) ?_
 refine ahp 6 rfl rfl (by kernel_rfl) (by kernel_rfl) (pop_load ty9 rfl rfl rfl) ?_
 refine ahp 7 rfl rfl (by kernel_rfl) (by kernel_rfl) (pop_fieldAddr ty92 rfl ty9 (by decide) rfl) ?_
 refine ahp 8 rfl rfl (by kernel_rfl) (by kernel_rfl) (pop_load ty9 rfl rfl rfl) ?_
 refine ahp 9 rfl rfl (by kernel_rfl) (by kernel_rfl) (pop_call ca118 rfl (WeakL.refl _) c_strings_Compare) ?_
 refine ahp 10 rfl rfl (by kernel_rfl) (by kernel_rfl) (pop_buildSlice (hs := [_, _]) ty22 ty3 rfl rfl (by decide) (by decide) rfl) ?_
 refine ahp 11 rfl rfl (by kernel_rfl) (by kernel_rfl) (pop_call ca116 rfl (WeakL.refl _) (c_cmp_Or_int (l := [_, _]) (by simp))) ?_
 refine ahp 12 rfl rfl (by kernel_rfl) (by kernel_rfl) (pop_assign rfl) ?_
 refine ahz (by kernel_rfl) ?_
 refine hw_ret ?_
 refine ret_p rfl ?_
 rfl

/-- benchwarmer/value.of -/
theorem c_value_of [Tracks] {l : List Asset} {pos : Str} (hl : l.length ≤ 12) : ConP Tryz.prog 128 [eAssets l, .str pos] (eAssets (ofP l pos)) := by
 refine Con.of_body Tryz.func128 rfl Tryz.ntmps128 rfl rfl ?_
 refine hw_reg ?_
 refine dp rfl (pop_assign rfl) ?_
 refine dn ?_
 refine hw_reg ?_
 refine dp rfl (pop_assign rfl) ?_
 refine dn ?_
 refine hw_ghost (Ghost.arr_nil 3) ?_
 refine hw_seq ?_
 refine hw_reg ?_
 refine dp rfl (pop_move rfl) ?_
 refine dp rfl (pop_lenm ty93 rfl) ?_
 refine dp rfl (pop_move rfl) ?_
 refine dn ?_
 refine hw_block ?_
 refine hw_loopw2 [5, 7, 10, 11, 12, 13, 14, 15, 16, 17, 18, 19, 20, 21, 22] (fun (k : Nat) (u : Value) => [(10, .int .i64 k), (5, .raw u)]) (fun (k : Nat) (u : Value) => [.arr u 3 ((atPos (l.take k) pos).map eAsset)]) (fun (k : Nat) (u : Value) => k ≤ l.length ∧ (True)) (fun (k : Nat) (u : Value) => l.length - k) (0) (.slice none 0 0) ?_ ?_ ?_ ?_
 ·exact ⟨Nat.zero_le _, by simp_all⟩
 ·exact ⟨rfl, rfl, trivial⟩
 ·exact perm_eq (by simp [atPos])
 ·intro k u hinv
  obtain ⟨hk, -⟩ := hinv
  refine hw_reg ?_
  refine dp rfl (pop_lss rfl rfl) ?_
  refine dn ?_
  refine hw_seq ?_
  refine hw_cond rfl (fun h1 => ?_) (fun h2 => ?_)
  ·try simp at h1
   obtain ⟨x, hx⟩ : ∃ x, l[k]? = some x := ⟨_, List.getElem?_eq_getElem h1⟩
   have hdx := drop_cons hx
   refine hw_skip ?_
   refine seqQ_n ?_
   refine hw_seq ?_
   refine hw_block ?_
   refine hw_reg ?_
   refine dp rfl (pop_idx ty93 ty92 rfl rfl rfl (by assumption)) ?_
   refine dp rfl (pop_loadw ty92 rfl rfl rfl rfl) ?_
   refine de rfl (eop_alloc ty92 rfl fun b7 => ?_)
   refine de0 (eop_storew ty92 rfl rfl rfl rfl rfl ?_)
   refine dn ?_
   refine hw_ghost (Ghost.fc0 7 rfl) ?_
   refine hw_reg ?_
   refine dp rfl (pop_fieldAddr ty92 rfl ty9 (by decide) rfl) ?_
   refine dp rfl (pop_load ty9 rfl rfl rfl) ?_
   refine dp rfl (pop_move rfl) ?_
   refine dp rfl (pop_eqls rfl rfl) ?_
   refine dn ?_
   refine hw_cond rfl (fun h3 => ?_) (fun h4 => ?_)
   ·try simp at h3
    refine hw_reg1 ?_
    refine dp rfl (pop_move rfl) ?_
    refine dp rfl (pop_loadw ty92 rfl rfl rfl rfl) ?_
    refine dp rfl (pop_buildSlice (hs := [_]) ty93 ty92 rfl rfl (by decide) (by decide) rfl) ?_
    have hal : (atPos (l.take k) pos).length ≤ 12 := Nat.le_trans (atPos_le _ _) (by simp; omega)
    refine de rfl (eop_append (i := 0) ty93 ty92 rfl rfl rfl rfl rfl (by simp [flat, hcells]) (by simp; omega) fun v21 => ?_)
    refine dp rfl (pop_assign rfl) ?_
    refine dn ?_
    refine blockQ_n ?_
    refine seqQ_n ?_
    refine hw_reg1 ?_
    refine dp rfl (pop_add64 rfl rfl (by omega) (by omega)) ?_
    refine dp rfl (pop_move rfl) ?_
    refine dn ?_
    exact ⟨k + 1, _, ⟨by omega, trivial⟩, by dsimp only; omega, ⟨rfl, rfl, trivial⟩, (by repeat (first | exact keeps_refl | refine keeps_upd rfl ?_ | refine keeps_loop rfl rfl ?_)), perm_eq (by dsimp only; rw [atPos_snoc hx, if_pos (by simp_all)]; simp)⟩
   ·try simp at h4
    refine hw_skip ?_
    refine blockQ_n ?_
    refine seqQ_n ?_
    refine hw_reg1 ?_
    refine dp rfl (pop_add64 rfl rfl (by omega) (by omega)) ?_
    refine dp rfl (pop_move rfl) ?_
    refine dn ?_
    exact ⟨k + 1, _, ⟨by omega, trivial⟩, by dsimp only; omega, ⟨rfl, rfl, trivial⟩, (by repeat (first | exact keeps_refl | refine keeps_upd rfl ?_ | refine keeps_loop rfl rfl ?_)), perm_eq (by dsimp only; rw [atPos_snoc hx, if_neg (by simp_all)]; simp)⟩
  ·try simp at h2
   have hnk : l.length ≤ k := by omega
   obtain rfl : k = l.length := by omega
   rw [List.take_length]
   refine hw_exit ?_
   refine seqQ_x ?_
   refine loopQ2_x ?_
   refine blockQ_eq ?_
   refine seqQ_n ?_
   have hal := atPos_le l pos
   refine hw_reg ?_
   refine dp rfl (pop_move rfl) ?_
   refine de rfl (eop_callx (i := 0) ca158 rfl (WeakL.refl _) rfl (c_slices_SortFunc_api_Asset_api_Asset (l := atPos l pos) (c := byValue) (caps := []) ca159 (fun x y => c_value_byValue) (by omega)) ?_)
   rintro _ _ ⟨rfl, rfl⟩
   refine dn ?_
   refine hw_reg ?_
   refine dp rfl (pop_move rfl) ?_
   refine dp rfl (pop_assign rfl) ?_
   refine dn ?_
   refine hw_ret ?_
   exact ret_fa (M := []) 4 rfl rfl rfl

set_option maxHeartbeats 1000000 in
/-- benchwarmer/value.fielded -/
theorem c_value_fielded [Tracks] {l : List Asset} {p : List HL.Place} (hl : l.length ≤ 12) (hp : p.length ≤ 10) (hm : ∀ x ∈ p, 0 ≤ x.Many) (hv : ∀ x ∈ l, -1000000 ≤ x.Value ∧ x.Value ≤ 1000000) : ConP Tryz.prog 84 [eAssets l, ePlaces p] (.tup [.int .i64 (sumV (fieldedL (ofP l) p)), eSs (namesV (fieldedL (ofP l) p))]) := by
 have hon : ∀ s, (ofP l s).length ≤ 12 := fun s => Nat.le_trans (ofP_len l s) hl
 refine Con.of_body Tryz.func84 rfl Tryz.ntmps84 rfl rfl ?_
 refine hw_reg ?_
 refine dp rfl (pop_assign rfl) ?_
 refine dp rfl (pop_assign rfl) ?_
 refine dn ?_
 refine hw_reg ?_
 refine dp rfl (pop_assign rfl) ?_
 refine dn ?_
 refine hw_reg ?_
 refine dp rfl (pop_assign rfl) ?_
 refine dn ?_
 refine hw_ghost (Ghost.arr_nil 1) ?_
 refine hw_seq ?_
 refine hw_reg ?_
 refine dp rfl (pop_move rfl) ?_
 refine dp rfl (pop_lenm ty96 rfl) ?_
 refine dp rfl (pop_move rfl) ?_
 refine dn ?_
 refine hw_block ?_
 refine hw_loopw2 [6, 7, 9, 10, 12, 15, 16, 17, 18, 19, 20, 21, 22, 23, 24, 25, 26, 27, 28, 29, 30, 31, 32, 33, 34, 35, 36, 37, 38, 39, 40, 41, 42, 43, 44, 45, 46, 47, 48] (fun (i : Nat) (u : Value) => [(15, .int .i64 i), (6, .int .i64 (sumV (fieldedL (ofP l) (p.take i)))), (7, .raw u)]) (fun (i : Nat) (u : Value) => [.arr u 1 (((fieldedL (ofP l) (p.take i)).map (·.Player)).map .str)]) (fun (i : Nat) (u : Value) => i ≤ p.length ∧ (True)) (fun (i : Nat) (u : Value) => p.length - i) (0) (.slice none 0 0) ?_ ?_ ?_ ?_
 ·exact ⟨Nat.zero_le _, by simp_all⟩
 ·exact ⟨rfl, some_int (by simp [fieldedL, sumV]), rfl, trivial⟩
 ·exact perm_eq (by simp [fieldedL])
 ·intro i u hinv
  obtain ⟨hi, -⟩ := hinv
  refine hw_reg ?_
  refine dp rfl (pop_lss rfl rfl) ?_
  refine dn ?_
  refine hw_seq ?_
  refine hw_cond rfl (fun h1 => ?_) (fun h2 => ?_)
  ·try simp at h1
   obtain ⟨x, hx⟩ : ∃ x, p[i]? = some x := ⟨_, List.getElem?_eq_getElem h1⟩
   have hdx := drop_cons hx
   refine hw_skip ?_
   refine seqQ_n ?_
   refine hw_seq ?_
   refine hw_block ?_
   refine hw_reg ?_
   refine dp rfl (pop_idx ty96 ty95 rfl rfl rfl (by assumption)) ?_
   refine dp rfl (pop_loadw ty95 rfl rfl rfl rfl) ?_
   refine de rfl (eop_alloc ty95 rfl fun b9 => ?_)
   refine de0 (eop_storew ty95 rfl rfl rfl rfl rfl ?_)
   refine dn ?_
   refine hw_ghost (Ghost.fc0 9 rfl) ?_
   refine hw_reg ?_
   refine dp rfl (pop_move rfl) ?_
   refine dp rfl (pop_fieldAddr ty95 rfl ty9 (by decide) rfl) ?_
   refine dp rfl (pop_load ty9 rfl rfl rfl) ?_
   refine dp rfl (pop_call ca128 rfl (WeakL.refl _) (c_value_of (by assumption))) ?_
   refine dp rfl (pop_assign rfl) ?_
   refine dn ?_
   have hx0 := hm x (List.mem_of_getElem? hx)
   have hon1 := hon x.Position
   obtain ⟨N, hN⟩ : ∃ N : Nat, (if ((ofP l x.Position).length : Int) < x.Many then ((ofP l x.Position).length : Int) else x.Many) = (N : Int) := ⟨_, (Int.toNat_of_nonneg (by split <;> omega)).symm⟩
   have hNle : N ≤ (ofP l x.Position).length := by split at hN <;> omega
   refine hw_reg ?_
   refine dp rfl (pop_move rfl) ?_
   refine dp rfl (pop_fieldAddr ty95 rfl ty3 (by decide) rfl) ?_
   refine dp rfl (pop_load ty3 rfl rfl rfl) ?_
   refine dp rfl (pop_move rfl) ?_
   refine dp rfl (pop_lenm ty93 rfl) ?_
   refine dp rfl (pop_eq (pop_min rfl rfl) (congrArg _ hN)) ?_
   refine dp rfl (pop_slicem (h := N) ty93 ty92 rfl rfl ⟨_, _, rfl, rfl⟩ (by omega) hNle) ?_
   refine dp rfl (pop_lenm ty93 rfl) ?_
   refine dp rfl (pop_move rfl) ?_
   refine dn ?_
   have hCl : ((List.drop 0 (List.take N (ofP l x.Position)))).length ≤ 12 := by simp; omega
   have hCm : ∀ y ∈ (List.drop 0 (List.take N (ofP l x.Position))), y ∈ l := fun y hy => by
    have := List.mem_of_mem_take (List.mem_of_mem_drop hy)
    unfold ofP atPos at this
    exact (List.mem_filter.1 ((isort_mem _).1 this)).1
   generalize hCd : List.drop 0 (List.take N (ofP l x.Position)) = C at *
   refine hw_block ?_
   refine hw_loopw2 [6, 7, 12, 31, 32, 33, 34, 35, 36, 37, 38, 39, 40, 41, 42, 43, 44, 45, 46, 47] (fun (k : Nat) (w : Value) => [(31, .int .i64 k), (6, .int .i64 (sumV ((fieldedL (ofP l) (p.take i)) ++ ((C.take k).filter (fun y => decide (0 < y.Value)))))), (7, .raw w)]) (fun (k : Nat) (w : Value) => [.arr w 1 ((((fieldedL (ofP l) (p.take i)) ++ ((C.take k).filter (fun y => decide (0 < y.Value)))).map (·.Player)).map .str)]) (fun (k : Nat) (w : Value) => k ≤ C.length ∧ (True)) (fun (k : Nat) (w : Value) => C.length - k) (0) (u) ?_ ?_ ?_ ?_
   ·exact ⟨Nat.zero_le _, by simp_all⟩
   ·exact ⟨rfl, some_int (by simp), rfl, trivial⟩
   ·exact perm_eq (by simp)
   ·intro k w hinv
    obtain ⟨hk, -⟩ := hinv
    refine hw_reg ?_
    refine dp rfl (pop_lss rfl rfl) ?_
    refine dn ?_
    refine hw_seq ?_
    refine hw_cond rfl (fun h3 => ?_) (fun h4 => ?_)
    ·try simp at h3
     obtain ⟨y, hy⟩ : ∃ y, C[k]? = some y := ⟨_, List.getElem?_eq_getElem h3⟩
     have hdy := drop_cons hy
     refine hw_skip ?_
     refine seqQ_n ?_
     refine hw_seq ?_
     refine hw_block ?_
     refine hw_reg ?_
     refine dp rfl (pop_idx ty93 ty92 rfl rfl rfl (by assumption)) ?_
     refine dp rfl (pop_loadw ty92 rfl rfl rfl rfl) ?_
     refine de rfl (eop_alloc ty92 rfl fun b12 => ?_)
     refine de0 (eop_storew ty92 rfl rfl rfl rfl rfl ?_)
     refine dn ?_
     refine hw_ghost (Ghost.fc0 12 rfl) ?_
     refine hw_reg ?_
     refine dp rfl (pop_fieldAddr ty92 rfl ty3 (by decide) rfl) ?_
     refine dp rfl (pop_load ty3 rfl rfl rfl) ?_
     refine dp rfl (pop_gtr rfl rfl) ?_
     refine dn ?_
     refine hw_cond rfl (fun h5 => ?_) (fun h6 => ?_)
     ·try simp at h5
      refine hw_reg ?_
      refine dp rfl (pop_move rfl) ?_
      refine dp rfl (pop_fieldAddr ty92 rfl ty3 (by decide) rfl) ?_
      refine dp rfl (pop_load ty3 rfl rfl rfl) ?_
      have hb1 := field_bd (f := ofP l) (p := p) (i := i) (fun s m y => mem_chosen) hon hp hv
      have hb2 := pos_bd (k := k) hCm hCl hv
      have hb3 := hv y (hCm y (List.mem_of_getElem? hy))
      have hb4 := sumV_app (fieldedL (ofP l) (p.take i)) ((C.take k).filter (fun y => decide (0 < y.Value)))
      refine dp rfl (pop_add64 rfl rfl (by omega) (by omega)) ?_
      refine dp rfl (pop_assign rfl) ?_
      refine dn ?_
      refine hw_reg1 ?_
      refine dp rfl (pop_move rfl) ?_
      refine dp rfl (pop_fieldAddr ty92 rfl ty9 (by decide) rfl) ?_
      refine dp rfl (pop_load ty9 rfl rfl rfl) ?_
      refine dp rfl (pop_buildSlice (hs := [_]) ty26 ty9 rfl rfl (by decide) (by decide) rfl) ?_
      refine de rfl (eop_append (i := 0) ty26 ty9 rfl rfl rfl rfl rfl (by simp [flat, hcells]) (by simp only [List.length_map, List.length_append, List.length_cons, List.length_nil]; omega) fun v46 => ?_)
      refine dp rfl (pop_assign rfl) ?_
      refine dn ?_
      refine blockQ_n ?_
      refine seqQ_n ?_
      refine hw_reg1 ?_
      refine dp rfl (pop_add64 rfl rfl (by omega) (by omega)) ?_
      refine dp rfl (pop_move rfl) ?_
      refine dn ?_
      exact ⟨k + 1, _, ⟨by omega, trivial⟩, by dsimp only; omega, ⟨rfl, some_int (by rw [pos_snoc hy, if_pos (by simp_all), ← List.append_assoc, sumV_app _ [y]]; simp [sumV]), rfl, trivial⟩, (by repeat (first | exact keeps_refl | refine keeps_upd rfl ?_ | refine keeps_loop rfl rfl ?_)), perm_eq (by dsimp only; rw [pos_snoc hy, if_pos (by simp_all)]; simp)⟩
     ·try simp at h6
      refine hw_skip ?_
      refine blockQ_n ?_
      refine seqQ_n ?_
      refine hw_reg1 ?_
      refine dp rfl (pop_add64 rfl rfl (by omega) (by omega)) ?_
      refine dp rfl (pop_move rfl) ?_
      refine dn ?_
      exact ⟨k + 1, _, ⟨by omega, trivial⟩, by dsimp only; omega, ⟨rfl, some_int (by rw [pos_snoc hy, if_neg (by omega)]; simp), rfl, trivial⟩, (by repeat (first | exact keeps_refl | refine keeps_upd rfl ?_ | refine keeps_loop rfl rfl ?_)), perm_eq (by dsimp only; rw [pos_snoc hy, if_neg (by omega)]; simp)⟩
    ·try simp at h4
     have hnk : C.length ≤ k := by omega
     obtain rfl : k = C.length := by omega
     refine hw_exit ?_
     refine seqQ_x ?_
     refine loopQ2_x ?_
     refine blockQ_eq ?_
     refine blockQ_n ?_
     refine seqQ_n ?_
     refine hw_reg1 ?_
     refine dp rfl (pop_add64 rfl rfl (by omega) (by omega)) ?_
     refine dp rfl (pop_move rfl) ?_
     refine dn ?_
     exact ⟨i + 1, _, ⟨by omega, trivial⟩, by dsimp only; omega, ⟨rfl, some_int (by rw [fieldedL_snoc _ hx, chosen_eq hN, hCd, List.take_length]), rfl, trivial⟩, (by repeat (first | exact keeps_refl | refine keeps_upd rfl ?_ | refine keeps_loop rfl rfl ?_)), perm_eq (by dsimp only; rw [fieldedL_snoc _ hx, chosen_eq hN, hCd, List.take_length])⟩
  ·try simp at h2
   have hni : p.length ≤ i := by omega
   obtain rfl : i = p.length := by omega
   refine hw_exit ?_
   refine seqQ_x ?_
   refine loopQ2_x ?_
   refine blockQ_eq ?_
   refine seqQ_n ?_
   rw [List.take_length]
   refine hw_reg ?_
   refine dp rfl (pop_move rfl) ?_
   refine de rfl (eop_callx (i := 0) ca129 rfl (WeakL.refl _) rfl (c_slices_Sort (l := (fieldedL (ofP l) p).map (·.Player)) (by have hb1 := field_bd (f := ofP l) (p := p) (i := p.length) (fun s m y => mem_chosen) hon hp hv; rw [List.take_length] at hb1; simp; omega)) ?_)
   rintro _ _ ⟨rfl, rfl⟩
   refine dn ?_
   refine hw_reg ?_
   refine dp rfl (pop_move rfl) ?_
   refine dp rfl (pop_move rfl) ?_
   refine dp rfl (pop_assign rfl) ?_
   refine dp rfl (pop_assign rfl) ?_
   refine dn ?_
   refine hw_ret ?_
   exact ret_fa (M := []) 5 rfl rfl rfl
end Go.Proofs.YtmgbigiegjlieaaGreatDoor
end
section
namespace Go.Proofs.YtmgbigiegjlieaaGreatDoor
open Go.HL
set_option maxRecDepth 100000
set_option linter.unusedVariables false
set_option linter.unusedSimpArgs false
/-- benchwarmer/value.Fielded -/
theorem c_value_Fielded [Tracks] {l : List Asset} {p : List HL.Place} (hl : l.length ≤ 11) (hp : p.length ≤ 1000000) : ConP Tryz.prog 47 [eAssets l, ePlaces p] (.tup [.int .i64 (if okAP l p != 0 then 0 else sumF l p), eSs (if okAP l p != 0 then [] else namesV (fieldedL (ofP l) p)), .int .i64 (okAP l p)]) := by
 refine Con.of_body Tryz.func47 rfl Tryz.ntmps47 rfl rfl ?_
 refine hw_reg ?_
 refine dp rfl (pop_assign rfl) ?_
 refine dp rfl (pop_assign rfl) ?_
 refine dp rfl (pop_assign rfl) ?_
 refine dn ?_
 refine hw_seq ?_
 refine hw_reg ?_
 refine dp rfl (pop_move rfl) ?_
 refine dp rfl (pop_call ca82 rfl (WeakL.refl _) (c_value_CheckAssets (by omega))) ?_
 refine dp rfl (pop_move rfl) ?_
 refine dp rfl (pop_call ca83 rfl (WeakL.refl _) (c_value_CheckPlaces (by assumption))) ?_
 refine dp rfl (pop_buildSlice (hs := [_, _]) ty160 ty37 rfl rfl (by decide) (by decide) rfl) ?_
 refine dp rfl (pop_call ca76 rfl (WeakL.refl _) (c_base_First (l := [_, _]) (by simp))) ?_
 refine dp rfl (pop_assign rfl) ?_
 refine dn ?_
 refine hw_reg ?_
 refine dp rfl (pop_move rfl) ?_
 refine dp rfl (pop_neq rfl rfl) ?_
 refine dn ?_
 refine hw_cond rfl (fun h1 => ?_) (fun h2 => ?_)
 ·try simp at h1
  refine hw_reg ?_
  refine dp rfl (pop_move rfl) ?_
  refine dp rfl (pop_assign rfl) ?_
  refine dp rfl (pop_assign rfl) ?_
  refine dp rfl (pop_assign rfl) ?_
  refine dn ?_
  refine hw_ret ?_
  (refine ret_w rfl (weak_tup3 ?_ ?_ (Weak.refl _))
   ·rw [if_pos (by simpa [okAP] using h1)]; exact Weak.refl _
   ·rw [if_pos (by simpa [okAP] using h1)]; exact weak_nil 1)
 ·try simp at h2
  refine hw_skip ?_
  refine seqQ_n ?_
  obtain ⟨hca0, hcp0⟩ := okAP_ok (l := l) (p := p) (by simpa [okAP] using h2)
  obtain ⟨hsr, haf⟩ := checkAssets_ok hca0
  obtain ⟨hmm, hp10⟩ := checkPlaces_ok hcp0
  have hvv : ∀ x ∈ l, -1000000 ≤ x.Value ∧ x.Value ≤ 1000000 := fun x hx => (assetFault_ok (haf x hx)).2.2
  refine hw_reg ?_
  refine dp rfl (pop_move rfl) ?_
  refine dp rfl (pop_move rfl) ?_
  refine dp rfl (pop_call ca84 rfl (WeakL.refl _) (c_value_fielded (by omega) (by assumption) (by simp_all) (by assumption))) ?_
  refine dp rfl (pop_move rfl) ?_
  refine dp rfl (pop_extract rfl rfl) ?_
  refine dp rfl (pop_extract rfl rfl) ?_
  refine dp rfl (pop_assign rfl) ?_
  refine dp rfl (pop_assign rfl) ?_
  refine dn ?_
  refine hw_reg ?_
  refine dp rfl (pop_move rfl) ?_
  refine dp rfl (pop_move rfl) ?_
  refine dp rfl (pop_assign rfl) ?_
  refine dp rfl (pop_assign rfl) ?_
  refine dp rfl (pop_assign rfl) ?_
  refine dn ?_
  refine hw_ret ?_
  (refine ret_p rfl ?_
   have h0 : okAP l p = 0 := by simpa [okAP] using h2
   simp [h0, sumF, ofVal, ofVal1])

end Go.Proofs.YtmgbigiegjlieaaGreatDoor
end
section
namespace Go.HL
def goalS : Str := [103, 111, 97, 108]
def play1 : Play := ⟨[115], 1, 0, 1, [109], [112], goalS, 2, 0⟩
def line1 : LineS := ⟨[112], 1, [⟨goalS, 2⟩]⟩
theorem ready_ln : lnGo [play1] [[115]] 1 5 [play1] = ⟨[[112]], [(([112], goalS), 2)]⟩ := by kernel_rfl
theorem ready_or : orI [playsE [play1], trustE [[115]]] = 0 := by kernel_rfl
theorem ready_full : fullB [(([112], goalS), 2)] [[112]] = false := by kernel_rfl
theorem ready_stats : statsOf [(([112], goalS), 2)] [112] = [⟨goalS, 2⟩] := by kernel_rfl
theorem ready_E : LinesE [play1] [[115]] 1 5 = 0 := by
 rw [LinesE, ready_or, if_neg (by decide), if_neg (by decide), linesE, ready_ln, clinesE, ready_full]; rfl
theorem ready_L : LinesL [play1] [[115]] 1 5 = [line1] := by
 rw [LinesL, ready_or, if_neg (by decide), if_neg (by decide), linesL, ready_ln, clinesL, ready_full, if_neg (by decide)]
 simp [sortS, ready_stats, line1]
end Go.HL
end
section
namespace Go.Proofs.YtmgbigiegjlieaaGreatDoor
open Go.HL
set_option maxRecDepth 100000
set_option linter.unusedVariables false
set_option linter.unusedSimpArgs false
/-- benchwarmer/benchkeep1.ready -/
theorem c_benchkeep1_ready [Tracks]  (hT : Tracks.on = false) : ConP Tryz.prog 18 [] (.bool true) := by
 refine Con.of_body Tryz.func18 rfl Tryz.ntmps18 rfl rfl ?_
 refine hw_reg ?_
 refine dp rfl (pop_assign rfl) ?_
 refine dn ?_
 refine hw_reg ?_
 refine dp rfl (pop_build (cs := [_, _, _, _, _, _, _, _, _]) ty87 pl87 rfl) ?_
 refine dp rfl (pop_buildSlice (hs := [_]) ty88 ty87 rfl rfl (by decide) (by decide) rfl) ?_
 refine dp rfl (pop_buildSlice (hs := [_]) ty26 ty9 rfl rfl (by decide) (by decide) rfl) ?_
 refine dp rfl (pop_call (hs' := [ePlays [play1], eSs [[115]], .int .i64 1, .int .i64 5]) ca46 rfl (WeakL.refl _) (c_play_Lines hT (by decide) (by decide))) ?_
 refine dp rfl (pop_move rfl) ?_
 refine dp rfl (pop_extract rfl rfl) ?_
 refine dp rfl (pop_extract rfl rfl) ?_
 refine dp rfl (pop_assign rfl) ?_
 refine dp rfl (pop_assign rfl) ?_
 refine dn ?_
 simp only [ready_E, ready_L]
 refine hw_reg ?_
 refine dp rfl (pop_buildSlice (hs := [_, _]) ty26 ty9 rfl rfl (by decide) (by decide) rfl) ?_
 refine dp rfl (pop_buildSlice (hs := [_, _, _, _]) ty26 ty9 rfl rfl (by decide) (by decide) rfl) ?_
 refine dp rfl (pop_build (cs := [_, _, _, _, _, _]) ty28 pl28 rfl) ?_
 refine de rfl (eop_alloc ty28 rfl fun b3 => ?_)
 refine de0 (eop_storew ty28 rfl rfl rfl rfl rfl ?_)
 refine dn ?_
 refine hw_ghost (Ghost.fc0 3 rfl) ?_
 refine hw_reg ?_
 refine dp rfl (pop_loadw ty28 rfl rfl rfl rfl) ?_
 refine dp rfl (pop_call (hs' := [eRoom room1, eSwaps []]) ca44 rfl ⟨Weak.refl _, weak_nil 3, trivial⟩ (c_draft_Turns (r := room1) (s := []) (by decide) (by decide) (by decide))) ?_
 refine dp rfl (pop_move rfl) ?_
 refine dp rfl (pop_extract rfl rfl) ?_
 refine dp rfl (pop_extract rfl rfl) ?_
 refine dp rfl (pop_assign rfl) ?_
 refine dp rfl (pop_assign rfl) ?_
 refine dn ?_
 simp only [room1_turns, room1_ok]
 refine hw_reg ?_
 refine dp rfl (pop_build (cs := [_, _, _]) ty92 pl92 rfl) ?_
 refine dp rfl (pop_buildSlice (hs := [_]) ty93 ty92 rfl rfl (by decide) (by decide) rfl) ?_
 refine dp rfl (pop_build (cs := [_, _]) ty95 pl95 rfl) ?_
 refine dp rfl (pop_buildSlice (hs := [_]) ty96 ty95 rfl rfl (by decide) (by decide) rfl) ?_
 refine dp rfl (pop_call (hs' := [eAssets [asset1], ePlaces [place1]]) ca47 rfl (WeakL.refl _) (c_value_Fielded (l := [asset1]) (p := [place1]) (by decide) (by decide))) ?_
 refine dp rfl (pop_move rfl) ?_
 refine dp rfl (pop_extract rfl rfl) ?_
 refine dp rfl (pop_extract rfl rfl) ?_
 refine dp rfl (pop_extract rfl rfl) ?_
 refine dp rfl (pop_assign rfl) ?_
 refine dp rfl (pop_assign rfl) ?_
 refine dp rfl (pop_assign rfl) ?_
 refine dn ?_
 simp only [one_ok, one_sum, one_names]
 refine hw_reg ?_
 refine dp rfl (pop_move rfl) ?_
 refine dp rfl (pop_eql rfl rfl) ?_
 refine dp rfl (pop_move rfl) ?_
 refine dg rfl rfl (fun hc => ⟨_, OpenTo.refl _, pop_move rfl⟩) ?_
 refine dg rfl rfl (fun hc => ⟨_, OpenTo.upd (t := 36) rfl (hc) (OpenTo.refl _), pop_lenm ty83 rfl⟩) ?_
 refine dg rfl rfl (fun hc => ⟨_, OpenTo.upd (t := 37) rfl (hc) (OpenTo.refl _), pop_eql rfl rfl⟩) ?_
 refine dp rfl (pop_picko rfl (.inr ⟨_, rfl, fun h => by simp_all⟩) (.inl rfl)) ?_
 refine dp rfl (pop_move rfl) ?_
 refine dg rfl rfl (fun hc => ⟨_, OpenTo.refl _, pop_move rfl⟩) ?_
 refine dg rfl rfl (fun hc => ⟨_, OpenTo.upd (t := 41) rfl (hc) (OpenTo.refl _), pop_idx (j := 0) (a := line1) ty83 ty99 rfl rfl rfl rfl⟩) ?_
 refine dg rfl rfl (fun hc => ⟨_, OpenTo.upd (t := 42) rfl (hc) (OpenTo.refl _), pop_fieldAddr ty99 rfl ty97 (by decide) rfl⟩) ?_
 refine dg rfl rfl (fun hc => ⟨_, OpenTo.upd (t := 43) rfl (hc) (OpenTo.refl _), pop_load ty97 rfl rfl rfl⟩) ?_
 refine dg rfl rfl (fun hc => ⟨_, OpenTo.upd (t := 44) rfl (hc) (OpenTo.refl _), pop_lenm ty97 rfl⟩) ?_
 refine dg rfl rfl (fun hc => ⟨_, OpenTo.upd (t := 45) rfl (hc) (OpenTo.refl _), pop_eql rfl rfl⟩) ?_
 refine dp rfl (pop_picko rfl (.inr ⟨_, rfl, fun h => by simp_all⟩) (.inl rfl)) ?_
 refine dp rfl (pop_move rfl) ?_
 refine dg rfl rfl (fun hc => ⟨_, OpenTo.refl _, pop_move rfl⟩) ?_
 refine dg rfl rfl (fun hc => ⟨_, OpenTo.upd (t := 49) rfl (hc) (OpenTo.refl _), pop_eql rfl rfl⟩) ?_
 refine dp rfl (pop_picko rfl (.inr ⟨_, rfl, fun h => by simp_all⟩) (.inl rfl)) ?_
 refine dp rfl (pop_move rfl) ?_
 refine dg rfl rfl (fun hc => ⟨_, OpenTo.refl _, pop_move rfl⟩) ?_
 refine dg rfl rfl (fun hc => ⟨_, OpenTo.refl _, pop_buildSlice (hs := [_, _, _, _]) ty26 ty9 rfl rfl (by decide) (by decide) rfl⟩) ?_
 refine dg rfl rfl (fun hc => ⟨_, OpenTo.upd (t := 54) rfl (hc) (OpenTo.upd (t := 53) rfl (hc) (OpenTo.refl _)), pop_call ca45 rfl (WeakL.refl _) (c_slices_Equal_string_string (l := [[97], [98], [98], [97]]) (m := [[97], [98], [98], [97]]) (by decide))⟩) ?_
 refine dp rfl (pop_picko rfl (.inr ⟨_, rfl, fun h => by simp_all⟩) (.inl rfl)) ?_
 refine dp rfl (pop_move rfl) ?_
 refine dg rfl rfl (fun hc => ⟨_, OpenTo.refl _, pop_move rfl⟩) ?_
 refine dg rfl rfl (fun hc => ⟨_, OpenTo.upd (t := 58) rfl (hc) (OpenTo.refl _), pop_eql rfl rfl⟩) ?_
 refine dp rfl (pop_picko rfl (.inr ⟨_, rfl, fun h => by simp_all⟩) (.inl rfl)) ?_
 refine dp rfl (pop_move rfl) ?_
 refine dg rfl rfl (fun hc => ⟨_, OpenTo.refl _, pop_move rfl⟩) ?_
 refine dg rfl rfl (fun hc => ⟨_, OpenTo.upd (t := 62) rfl (hc) (OpenTo.refl _), pop_eql rfl rfl⟩) ?_
 refine dp rfl (pop_picko rfl (.inr ⟨_, rfl, fun h => by simp_all⟩) (.inl rfl)) ?_
 refine dp rfl (pop_assign rfl) ?_
 refine dn ?_
 refine hw_ret ?_
 refine ret_p rfl ?_
 rfl
end Go.Proofs.YtmgbigiegjlieaaGreatDoor
end
section
namespace Go.HL
theorem digits_dig (u : Nat) : ∀ c ∈ Lib.decDigits u, dig c = true := fun c hc => by
 obtain ⟨d, hd, rfl⟩ := digits_mem u c hc
 exact (digit_ok d hd).2.1
theorem itoa_plain {n : Int} (h0 : 0 ≤ n) : (∀ c ∈ Lib.itoa n, dig c = true) ∧ Lib.itoa n ≠ [] ∧ cutMinus (Lib.itoa n) = Lib.itoa n := by
 obtain ⟨u, rfl⟩ : ∃ u : Nat, n = (u : Int) := ⟨n.toNat, by omega⟩
 rw [Lib.itoa_nonneg]
 exact ⟨digits_dig u, digits_ne u, cut_digits u⟩
theorem num_itoa {n : Int} (h0 : 0 ≤ n) (h : n < 10000000000000) : numB (Lib.itoa n) 15 = true ∧ numR (Lib.itoa n) 15 = n := by
 obtain ⟨h1, h2, h3⟩ := itoa_plain h0
 have hl := itoa_nat_len h0 h
 have hc : intC (Lib.itoa n) 15 = false := intC_f (by rw [h3]; exact h2) (by rw [h3]; omega) (by rw [h3]; exact h1)
 have hb : numB (Lib.itoa n) 15 = true := by
  rw [(num_int _ _).1]; unfold intB; rw [hc, numV_itoa]; simp
 exact ⟨hb, by unfold numR; rw [if_pos hb, numV_itoa]⟩
theorem dig_no {c : UInt8} (h : dig c = true) : c ≠ 32 ∧ c ≠ 10 := by
 constructor <;> · rintro rfl; simp [dig] at h
theorem keyCh_no {c : UInt8} (h : keyCh c = true) : c ≠ 32 ∧ c ≠ 10 := by
 constructor <;> · rintro rfl; simp [keyCh] at h
theorem key_not_nil {s : Str} (h : key s = true) : s ≠ [] := by
 rintro rfl; simp [key, keyHd] at h
theorem pickW_no {p : Pick} (h : pickF p = 0) : ∀ w ∈ pickW p, w ≠ [] ∧ (32 : UInt8) ∉ w ∧ (10 : UInt8) ∉ w := by
 obtain ⟨h1, h2, h3, h4⟩ := pickF_z h
 obtain ⟨a1, a2, _⟩ := itoa_plain h1.1
 obtain ⟨b1, b2, _⟩ := itoa_plain h4.1
 have fd : ∀ s : Str, (∀ c ∈ s, dig c = true) → (32 : UInt8) ∉ s ∧ (10 : UInt8) ∉ s := fun s hs => ⟨fun hm => (dig_no (hs _ hm)).1 rfl, fun hm => (dig_no (hs _ hm)).2 rfl⟩
 have fk : ∀ s : Str, key s = true → (32 : UInt8) ∉ s ∧ (10 : UInt8) ∉ s := fun s hs => ⟨fun hm => (keyCh_no (key_ch hs _ hm)).1 rfl, fun hm => (keyCh_no (key_ch hs _ hm)).2 rfl⟩
 intro w hw
 unfold pickW at hw
 rcases List.mem_append.1 hw with hw | hw
 ·simp only [List.mem_cons, List.not_mem_nil, or_false] at hw
  rcases hw with rfl | rfl | rfl | rfl
  ·exact ⟨a2, fd _ a1⟩
  ·exact ⟨key_not_nil h2, fk _ h2⟩
  ·exact ⟨key_not_nil h3, fk _ h3⟩
  ·exact ⟨b2, fd _ b1⟩
 ·cases hA : p.Auto with
  | false => rw [hA] at hw; simp at hw
  | true => rw [hA] at hw; simp at hw; subst hw; decide
theorem jn_no {c d : UInt8} (hcd : d ≠ c) : ∀ {l : List Str}, (∀ x ∈ l, d ∉ x) → d ∉ jn c l
 | [], _ => by simp [jn]
 | [x], h => h x (by simp)
 | x :: y :: r, h => by
   rw [jn_cons (by simp)]
   simp only [List.mem_append, List.mem_cons, not_or]
   exact ⟨h x (by simp), hcd, jn_no hcd fun z hz => h z (by simp [hz])⟩
/-- A pick's line is read as the pick. -/
theorem rp_ln {p : Pick} (h : pickF p = 0) : rpB (jn 32 (pickW p)) = true ∧ rpP (jn 32 (pickW p)) = p := by
 obtain ⟨h1, h2, h3, h4⟩ := pickF_z h
 have hno := pickW_no h
 have hs : spl 32 (jn 32 (pickW p)) = pickW p := spl_jn (by unfold pickW; simp) fun x hx => (hno x hx).2.1
 have hall : (pickW p).all (fun w => !w.isEmpty) = true := List.all_eq_true.2 fun w hw => by
  have := (hno w hw).1
  cases w with
  | nil => exact absurd rfl this
  | cons _ _ => rfl
 obtain ⟨n1, n2⟩ := num_itoa h1.1 (by omega)
 obtain ⟨m1, m2⟩ := num_itoa h4.1 (by omega)
 obtain ⟨No, Team, Player, At, Auto⟩ := p
 simp only at n1 n2 m1 m2
 unfold rpB rpP rpC
 rw [hs, hall]
 cases Auto with
 | false => simp [pickW, out, n1, n2, m1, m2]
 | true => simp [pickW, out, n1, n2, m1, m2]
theorem spl_text : ∀ {l : List Pick}, (∀ p ∈ l, pickF p = 0) → spl 10 (pickT l) = l.map (fun p => jn 32 (pickW p)) ++ [[]]
 | [], _ => rfl
 | p :: r, h => by
   have ih := spl_text (l := r) fun q hq => h q (by simp [hq])
   have h1 : (10 : UInt8) ∉ jn 32 (pickW p) := jn_no (by decide) fun x hx => (pickW_no (h p (by simp)) x hx).2.2
   have e : pickT (p :: r) = jn 32 (pickW p) ++ 10 :: pickT r := by simp [pickT, pickLn]
   rw [e, spl_app _ h1, ih]; rfl
/-- What is written is read as it was. -/
theorem text_back {l : List Pick} (h : pickLE l = 0) : prE (pickT l) = 0 ∧ prP (pickT l) = l ∧ (pickT l).length ≤ 72000 := by
 obtain ⟨h1, h2⟩ := pickLE_z h
 have h3 := pickFs_z h2
 have hl := pickT_len h3
 have hs := spl_text h3
 have hg : goL rpB 0 (spl 10 (pickT l)) = (0, true) := by
  rw [hs]
  refine goL_all _ 0 fun s hs => ?_
  obtain ⟨p, hp, rfl⟩ := List.mem_map.1 hs
  exact (rp_ln (h3 p hp)).1
 have hL : prL (pickT l) = l := by
  unfold prL lns
  rw [hs, List.dropLast_concat, List.map_map]
  conv => rhs; rw [← List.map_id l]
  exact List.map_congr_left fun p hp => (rp_ln (h3 p hp)).2
 have hE : prE (pickT l) = 0 := by
  unfold prE prB
  rw [if_neg (by omega), hg, if_pos rfl, hL, h]
 exact ⟨hE, by unfold prP; rw [if_pos hE, hL], by omega⟩
/-- A line that is a pick is what the pick is written as. -/
theorem ln_back {line : Str} (h : rpB line = true) : jn 32 (pickW (rpP line)) = line := by
 have h0 := h
 unfold rpB at h
 simp only [Bool.and_eq_true] at h
 obtain ⟨⟨hc, n1, n2⟩, ha⟩ := h
 have hP : rpP line = ⟨numR ((spl 32 line).getD 0 []) 15, (spl 32 line).getD 1 [], (spl 32 line).getD 2 [], numR ((spl 32 line).getD 3 []) 15, ((((spl 32 line).length : Nat) : Int) == 5)⟩ := by unfold rpP; rw [if_pos hc]
 unfold rpC at hc
 rw [Bool.and_eq_true, Bool.not_eq_true'] at hc
 have ho := out_f hc.2
 have e1 : Lib.itoa (numR ((spl 32 line).getD 0 []) 15) = (spl 32 line).getD 0 [] := by
  rw [((num_int _ _).2 n1).2]; exact (numB_canon n1).2.2
 have e2 : Lib.itoa (numR ((spl 32 line).getD 3 []) 15) = (spl 32 line).getD 3 [] := by
  rw [((num_int _ _).2 n2).2]; exact (numB_canon n2).2.2
 have hw : pickW (rpP line) = spl 32 line := by
  rw [hP]
  simp only [pickW, e1, e2]
  match hs : spl 32 line, ho with
  | [w0, w1, w2, w3], _ => simp
  | [w0, w1, w2, w3, w4], _ =>
    rw [hs] at ha
    simp at ha
    simp [ha]
  | [], ho => simp at ho
  | [_], ho => simp at ho
  | [_, _], ho => simp at ho
  | [_, _, _], ho => simp at ho
  | _ :: _ :: _ :: _ :: _ :: _ :: r, ho => simp at ho; omega
 rw [hw, jn_spl]
theorem jn_lines : ∀ (l : List Str), jn 10 (l ++ [[]]) = (l.map (· ++ [10])).flatten
 | [] => rfl
 | x :: r => by
   rw [List.cons_append, jn_cons (by simp), jn_lines r]; simp
/-- What is read is written so. -/
theorem text_again {text : Str} (h : prE text = 0) : prP text = prL text ∧ pickLE (prL text) = 0 ∧ pickT (prL text) = text ∧ (prL text).length ≤ 600 := by
 have hp : prP text = prL text := by unfold prP; rw [if_pos h]
 unfold prE at h
 split at h
 ·cases h
 ·split at h
  ·rename_i hb
   refine ⟨hp, h, ?_, (pickLE_z h).1⟩
   obtain ⟨_, h2, h3⟩ := goL_of (spl 10 text) 0 (spl_ne 10 text) hb
   have hs : spl 10 text = lns text ++ [[]] := by
    unfold lns
    obtain ⟨r, hr⟩ := List.getLast?_eq_some_iff.1 h3
    rw [hr, List.dropLast_concat]
   have h4 : jn 10 (spl 10 text) = text := jn_spl 10 text
   rw [hs, jn_lines] at h4
   unfold pickT prL
   rw [List.map_map]
   conv => rhs; rw [← h4]
   congr 1
   exact List.map_congr_left fun x hx => by
    show pickLn (rpP x) = x ++ [10]
    unfold pickLn; rw [ln_back (h2 x hx)]
  ·cases h
end Go.HL
end
section
namespace Go.Proofs.YtmgbigiegjlieaaGreatDoor
open Go.HL
set_option maxRecDepth 100000
set_option linter.unusedVariables false
set_option linter.unusedSimpArgs false
set_option maxHeartbeats 2000000 in
/-- benchwarmer/benchkeep1.PicksComeBack -/
theorem c_benchkeep1_PicksComeBack [Tracks] {l : List Int} (hT : Tracks.on = false) : ConP Tryz.prog 4 [.slice 1 (l.map (.int .i64))] (.bool true) := by
 refine Con.of_body Tryz.func4 rfl Tryz.ntmps4 rfl rfl ?_
 refine hw_reg ?_
 refine dp rfl (pop_assign rfl) ?_
 refine dn ?_
 refine hw_reg ?_
 refine dp rfl (pop_move rfl) ?_
 refine dp rfl (pop_build (cs := [_, _]) ty25 pl25 rfl) ?_
 refine de rfl (eop_box rfl rfl fun b => ?_)
 refine dghost (M' := [St b l 0]) rfl ?_
 refine dp rfl (pop_assign rfl) ?_
 refine dn ?_
 refine hw_reg ?_
 refine dp rfl (pop_move rfl) ?_
 first
 | refine de rfl (eop_callx (i := 0) ca5 rfl (WeakL.refl _) rfl (c_benchmake_Stream_RoomOf (by first | assumption | omega | (simp; omega) | simp_all)) ?_)
 | refine de rfl (eop_callx (i := 1) ca5 rfl (WeakL.refl _) rfl (c_benchmake_Stream_RoomOf (by first | assumption | omega | (simp; omega) | simp_all)) ?_)
 | refine de rfl (eop_callx (i := 2) ca5 rfl (WeakL.refl _) rfl (c_benchmake_Stream_RoomOf (by first | assumption | omega | (simp; omega) | simp_all)) ?_)
 | refine de rfl (eop_callx (i := 3) ca5 rfl (WeakL.refl _) rfl (c_benchmake_Stream_RoomOf (by first | assumption | omega | (simp; omega) | simp_all)) ?_)
 rintro _ _ ⟨r21, a21, rfl, hr21, ha21, rfl⟩
 refine de rfl (eop_alloc ty28 rfl fun b4 => ?_)
 refine de0 (eop_storew ty28 rfl rfl rfl rfl rfl ?_)
 refine dn ?_
 refine hw_ghost (Ghost.fc0 4 rfl) ?_
 refine hw_reg ?_
 refine dp rfl (pop_move rfl) ?_
 refine dp rfl (pop_loadw ty28 rfl rfl rfl rfl) ?_
 refine de rfl (eop_callx (i := 0) (hs' := [pAt b, eRoom r21, eKeeps [], eSwaps []]) ca6 rfl ⟨Weak.refl _, Weak.refl _, weak_nil _, weak_nil _, trivial⟩ rfl (c_benchmake_Stream_PickList (ks := []) (ss := []) (by omega) hr21 (by simp) (by simp)) ?_)
 rintro _ _ ⟨p, a5, rfl, hp5, ha5, rfl⟩
 have hpl := hp5.len
 refine dp rfl (pop_assign rfl) ?_
 refine dn ?_
 refine hw_join [2, 6, 7, 8, 9, 10, 25, 26, 27, 28, 29, 30, 31, 32, 33, 34, 35, 36, 37, 38, 39, 40, 41, 42, 43, 44, 45, 46, 47, 48, 49, 50] (fun (q : Nat) => []) (fun (q : Nat) => [St b l q]) (fun (q : Nat) => q ≤ 500) ?_ ?_
 ·skip
  refine hw_reg ?_
  refine dp rfl (pop_move rfl) ?_
  refine dp rfl (pop_call ca10 rfl (WeakL.refl _) (c_benchref1_PickListFault (l := p) (by omega))) ?_
  refine dp rfl (pop_eql rfl rfl) ?_
  refine dn ?_
  refine hw_cond rfl (fun h1 => ?_) (fun h2 => ?_)
  ·try simp at h1
   refine hw_reg ?_
   refine dp rfl (pop_move rfl) ?_
   refine dp rfl (pop_call ca11 rfl (WeakL.refl _) (c_draft_Text (l := p) (by omega))) ?_
   refine dp rfl (pop_move rfl) ?_
   refine dp rfl (pop_extract rfl rfl) ?_
   refine dp rfl (pop_extract rfl rfl) ?_
   refine dp rfl (pop_assign rfl) ?_
   refine dp rfl (pop_assign rfl) ?_
   refine dn ?_
   have hz : pickLE p = 0 := by simpa using h1
   obtain ⟨tb1, tb2, tb3⟩ := text_back hz
   have hts : textS p = pickT p := by unfold textS; rw [if_pos hz]
   simp only [hts]
   refine hw_reg ?_
   refine dp rfl (pop_move rfl) ?_
   refine dp rfl (pop_call ca14 rfl (WeakL.refl _) (c_draft_Read (text := pickT p) (by omega))) ?_
   refine dp rfl (pop_move rfl) ?_
   refine dp rfl (pop_extract rfl rfl) ?_
   refine dp rfl (pop_extract rfl rfl) ?_
   refine dp rfl (pop_extract rfl rfl) ?_
   refine dp rfl (pop_assign rfl) ?_
   refine dp rfl (pop_assign rfl) ?_
   refine dp rfl (pop_assign rfl) ?_
   refine dn ?_
   simp only [tb1, tb2]
   refine hw_reg ?_
   refine dp rfl (pop_move rfl) ?_
   refine dp rfl (pop_neq rfl rfl) ?_
   refine dp rfl (pop_move rfl) ?_
   refine dg rfl rfl (fun hc => ⟨_, OpenTo.refl _, pop_move rfl⟩) ?_
   refine dg rfl rfl (fun hc => ⟨_, OpenTo.upd (t := 42) rfl (by first | exact hc | simp_all) (OpenTo.refl _), pop_neq rfl rfl⟩) ?_
   refine dp rfl (pop_picko rfl (.inl rfl) (.inr ⟨_, rfl, fun h => by simp_all⟩)) ?_
   refine dp rfl (pop_move rfl) ?_
   refine dg rfl rfl (fun hc => ⟨_, OpenTo.refl _, pop_move rfl⟩) ?_
   refine dg rfl rfl (fun hc => ⟨_, OpenTo.refl _, pop_move rfl⟩) ?_
   refine dg rfl rfl (fun hc => by have hq := hc; (try simp at hq); exact ⟨_, OpenTo.upd (t := 47) rfl (by first | exact hc | simp_all) (OpenTo.upd (t := 46) rfl (by first | exact hc | simp_all) (OpenTo.refl _)), pop_call ca16 rfl (WeakL.refl _) (c_slices_Equal_api_Pick_api_Pick (by first | assumption | omega | (simp; omega) | simp_all))⟩) ?_
   refine dg rfl rfl (fun hc => ⟨_, OpenTo.upd (t := 48) rfl (by first | exact hc | simp_all) (OpenTo.refl _), pop_not rfl⟩) ?_
   refine dp rfl (pop_picko rfl (.inl rfl) (.inr ⟨_, rfl, fun h => by simp_all⟩)) ?_
   refine dn ?_
   refine hw_cond rfl (fun h3 => ?_) (fun h3 => ?_)
   ·exfalso
    try simp at h3
    simp_all [eqPicks_refl]
   ·try simp at h3
    refine hw_skip ?_
    exact ⟨a5, by omega, trivial, (by repeat (first | exact keeps_refl | refine keeps_upd rfl ?_ | refine keeps_loop rfl rfl ?_)), perm_eq rfl⟩
  ·try simp at h2
   refine hw_skip ?_
   exact ⟨a5, by omega, trivial, (by repeat (first | exact keeps_refl | refine keeps_upd rfl ?_ | refine keeps_loop rfl rfl ?_)), perm_eq rfl⟩
 ·intro q hq
  refine hw_reg ?_
  refine dp rfl (pop_move rfl) ?_
  first
  | refine de rfl (eop_callx (i := 0) ca13 rfl (WeakL.refl _) rfl (c_benchmake_Stream_PickString (by first | assumption | omega | (simp; omega) | simp_all) (by first | assumption | omega | (simp; omega) | simp_all)) ?_)
  | refine de rfl (eop_callx (i := 1) ca13 rfl (WeakL.refl _) rfl (c_benchmake_Stream_PickString (by first | assumption | omega | (simp; omega) | simp_all) (by first | assumption | omega | (simp; omega) | simp_all)) ?_)
  | refine de rfl (eop_callx (i := 2) ca13 rfl (WeakL.refl _) rfl (c_benchmake_Stream_PickString (by first | assumption | omega | (simp; omega) | simp_all) (by first | assumption | omega | (simp; omega) | simp_all)) ?_)
  | refine de rfl (eop_callx (i := 3) ca13 rfl (WeakL.refl _) rfl (c_benchmake_Stream_PickString (by first | assumption | omega | (simp; omega) | simp_all) (by first | assumption | omega | (simp; omega) | simp_all)) ?_)
  rintro _ _ ⟨t52, a52, rfl, ht52, ha52, rfl⟩
  refine dp rfl (pop_assign rfl) ?_
  refine dn ?_
  refine hw_seq ?_
  refine hw_reg ?_
  refine dp rfl (pop_move rfl) ?_
  refine dp rfl (pop_call ca14 rfl (WeakL.refl _) (c_draft_Read (text := t52) (by omega))) ?_
  refine dp rfl (pop_move rfl) ?_
  refine dp rfl (pop_extract rfl rfl) ?_
  refine dp rfl (pop_extract rfl rfl) ?_
  refine dp rfl (pop_extract rfl rfl) ?_
  refine dp rfl (pop_assign rfl) ?_
  refine dp rfl (pop_assign rfl) ?_
  refine dp rfl (pop_assign rfl) ?_
  refine dn ?_
  refine hw_reg ?_
  refine dp rfl (pop_move rfl) ?_
  refine dp rfl (pop_eql rfl rfl) ?_
  refine dn ?_
  refine hw_cond rfl (fun h4 => ?_) (fun h5 => ?_)
  ·try simp at h4
   obtain ⟨q1, q2, q3, q4⟩ := text_again (text := t52) (by simpa using h4)
   simp only [q1]
   refine hw_reg ?_
   refine dp rfl (pop_move rfl) ?_
   refine dp rfl (pop_call ca11 rfl (WeakL.refl _) (c_draft_Text (l := prL t52) (by omega))) ?_
   refine dp rfl (pop_move rfl) ?_
   refine dp rfl (pop_extract rfl rfl) ?_
   refine dp rfl (pop_extract rfl rfl) ?_
   refine dp rfl (pop_assign rfl) ?_
   refine dp rfl (pop_assign rfl) ?_
   refine dn ?_
   have hts : textS (prL t52) = t52 := by unfold textS; rw [if_pos q2, q3]
   simp only [hts, q2]
   refine hw_reg ?_
   refine dp rfl (pop_move rfl) ?_
   refine dp rfl (pop_eql rfl rfl) ?_
   refine dp rfl (pop_move rfl) ?_
   refine dg rfl rfl (fun hc => ⟨_, OpenTo.refl _, pop_move rfl⟩) ?_
   refine dg rfl rfl (fun hc => ⟨_, OpenTo.refl _, pop_move rfl⟩) ?_
   refine dg rfl rfl (fun hc => ⟨_, OpenTo.upd (t := 70) rfl (by first | exact hc | simp_all) (OpenTo.upd (t := 69) rfl (by first | exact hc | simp_all) (OpenTo.refl _)), pop_eqls rfl rfl⟩) ?_
   refine dp rfl (pop_picko rfl (.inr ⟨_, rfl, fun h => by simp_all⟩) (.inl rfl)) ?_
   refine dp rfl (pop_move rfl) ?_
   refine dg rfl rfl (fun hc => ⟨_, OpenTo.refl _, pop_call ca18 rfl (WeakL.refl _) (c_benchkeep1_ready hT)⟩) ?_
   refine dp rfl (pop_picko rfl (.inr ⟨_, rfl, fun h => by simp_all⟩) (.inl rfl)) ?_
   refine dp rfl (pop_assign rfl) ?_
   refine dn ?_
   refine hw_ret ?_
   refine ret_g Ghost.clear rfl ⟨?_, rfl⟩
   show HVal.bool _ = _
   first | rfl | (simp; done) | (simp_all; done)
  ·try simp at h5
   refine hw_skip ?_
   refine seqQ_n ?_
   refine hw_reg ?_
   refine dp rfl (pop_call ca18 rfl (WeakL.refl _) (c_benchkeep1_ready hT)) ?_
   refine dp rfl (pop_assign rfl) ?_
   refine dn ?_
   refine hw_ret ?_
   refine ret_g Ghost.clear rfl ⟨?_, rfl⟩
   show HVal.bool _ = _
   first | rfl | (simp; done) | (simp_all; done)
end Go.Proofs.YtmgbigiegjlieaaGreatDoor
end
section
namespace Go.HL
open Go
theorem handed_shaped {H : Type} {enc : TypeId × Value → H} {a : Assume} {C : Checked} {os : Os} {f : FuncId} {fn : Func} {s : ChangeSpec} {conds : List PathCond} {apart fresh handsOn again : Bool} {X : World → Array Value → Prop}
 (hX : ∀ (w w' : World) (args : Array Value), w.heap = w'.heap → X w args → X w' args)
 (own : ownKnob C.prog.godebug = none) (started : os.Started) (noInit : C.prog.inits.idxOf? f = none) (hfn : C.prog.funcs[f]? = some fn)
 (witness : ∃ (w : World) (tape : Tape) (i : Input), w.os = os ∧ (w.forCall tape i).Shaped C.prog ∧ i.vars = [] ∧ Input.okWide C.prog (w.forCall tape i) .any w.heap.size f i ∧
   ((s.pre enc C.prog fn conds apart (w.forCall tape i).memory i.args ∧ X (w.forCall tape i).memory i.args) ∧ sizedMet enc C.prog fn (OpenSpec.ofChange s) apart (w.forCall tape i).memory i.args) ∧ a.holds C.prog (lone (Frame.enter C.prog f i.args .normal) [] (w.forCall tape i)))
 (contract : ∀ (W : World) (base : Nat) (args : Array Value) (ds gs : List (DataW H)) (before : List MemPlace),
   (∀ (j : Nat) t v, fn.params[j]? = some t → args[j]? = some v → Value.okWide C.prog W .any base t v) → DataW.Whole enc C.prog fn.params.toList s.vars apart W args.toList ds gs before →
   X W args → W.ShapedOpen C.prog → Calls C.prog f args W fun e W' => ∃ v, e = .returned v ∧ s.post enc C.prog fn apart fresh handsOn again W args v W') :
 ReturnsInHanded a C os f .any (fun w args => (s.pre enc C.prog fn conds apart w args ∧ X w args) ∧ sizedMet enc C.prog fn (OpenSpec.ofChange s) apart w args) (s.post enc C.prog fn apart fresh handsOn again) := by
 refine returnsInHanded_of_calls own started noInit witness fun w tape i _ hsh _ hok hpre _ => ?_
 obtain ⟨_, _, _, fn', hfn', _, _, _, _, hval⟩ := hok
 obtain rfl : fn' = fn := Option.some.inj (hfn'.symm.trans hfn)
 obtain ⟨⟨⟨ds, gs, before, hw, _⟩, hx⟩, _⟩ := hpre
 refine (contract (w.forCall tape i) w.heap.size i.args ds gs before hval (DataW.Whole.of_heap (w' := w.forCall tape i) (by rfl) hw) (hX _ _ _ (by rfl) hx) hsh).mono fun e W' ⟨v, he, hp⟩ => ?_
 subst he
 exact ChangeSpec.post_blind hp
end Go.HL
end
section
namespace Go.Proofs
open Go.Shelf
def Tryz.laysm146_ren : Go.Shelf.Ren := ⟨fun | 146 => 41 | 221 => 71 | 268 => 114 | 138 => 67 | 143 => 110 | 195 => 108 | 197 => 140 | 218 => 109 | 219 => 146 | 260 => 169 | 217 => 103 | 225 => 173 | 224 => 174 | 267 => 175 | 266 => 143 | 314 => 202 | n => n, fun | 9 => 9 | 31 => 26 | 3 => 3 | 4 => 4 | 0 => 0 | 105 => 188 | 21 => 21 | 5 => 5 | 46 => 208 | 119 => 231 | 139 => 234 | 138 => 233 | 146 => 236 | 51 => 211 | n => n, fun | 1 => 0 | 3 => 2 | 4 => 3 | n => n⟩
theorem Tryz.laysm146 : Go.Proofs.LaysM.n146 Tryz.prog Tryz.laysm146_ren := {
 mixed := by kernel_rfl
 f138 := Tryz.func67.trans (congrArg some (by kernel_rfl))
 f143 := Tryz.func110.trans (congrArg some (by kernel_rfl))
 f146 := Tryz.func41.trans (congrArg some (by kernel_rfl))
 f195 := Tryz.func108.trans (congrArg some (by kernel_rfl))
 f197 := Tryz.func140.trans (congrArg some (by kernel_rfl))
 f217 := Tryz.func103.trans (congrArg some (by kernel_rfl))
 f218 := Tryz.func109.trans (congrArg some (by kernel_rfl))
 f219 := Tryz.func146.trans (congrArg some (by kernel_rfl))
 f221 := Tryz.func71.trans (congrArg some (by kernel_rfl))
 f224 := Tryz.func174.trans (congrArg some (by kernel_rfl))
 f225 := Tryz.func173.trans (congrArg some (by kernel_rfl))
 f260 := Tryz.func169.trans (congrArg some (by kernel_rfl))
 f266 := Tryz.func143.trans (congrArg some (by kernel_rfl))
 f267 := Tryz.func175.trans (congrArg some (by kernel_rfl))
 f268 := Tryz.func114.trans (congrArg some (by kernel_rfl))
 f314 := Tryz.func202.trans (congrArg some (by kernel_rfl))
 t0 := Tryz.underlying0
 a0 := Tryz.isAgg0
 z0 := Tryz.sizeOf0
 v0 := Tryz.zeroValue0
 t3 := Tryz.underlying3
 a3 := Tryz.isAgg3
 z3 := Tryz.sizeOf3
 v3 := Tryz.zeroValue3
 t4 := Tryz.underlying4
 a4 := Tryz.isAgg4
 z4 := Tryz.sizeOf4
 v4 := Tryz.zeroValue4
 t5 := Tryz.underlying5
 a5 := Tryz.isAgg5
 z5 := Tryz.sizeOf5
 v5 := Tryz.zeroValue5
 t9 := Tryz.underlying9
 a9 := Tryz.isAgg9
 z9 := Tryz.sizeOf9
 v9 := Tryz.zeroValue9
 t21 := Tryz.underlying21
 a21 := Tryz.isAgg21
 z21 := Tryz.sizeOf21
 v21 := Tryz.zeroValue21
 t31 := Tryz.underlying26
 a31 := Tryz.isAgg26
 z31 := Tryz.sizeOf26
 v31 := Tryz.zeroValue26
 t46 := Tryz.underlying208
 a46 := Tryz.isAgg208
 z46 := Tryz.sizeOf208
 v46 := Tryz.zeroValue208
 t51 := Tryz.underlying211
 a51 := Tryz.isAgg211
 z51 := Tryz.sizeOf211
 v51 := Tryz.zeroValue211
 t105 := Tryz.underlying188
 a105 := Tryz.isAgg188
 z105 := Tryz.sizeOf188
 v105 := Tryz.zeroValue188
 t119 := Tryz.underlying231
 a119 := Tryz.isAgg231
 z119 := Tryz.sizeOf231
 t138 := Tryz.underlying233
 a138 := Tryz.isAgg233
 z138 := Tryz.sizeOf233
 v138 := Tryz.zeroValue233
 t139 := Tryz.underlying234
 a139 := Tryz.isAgg234
 z139 := Tryz.sizeOf234
 v139 := Tryz.zeroValue234
 t146 := Tryz.underlying236
 a146 := Tryz.isAgg236
 z146 := Tryz.sizeOf236
 v146 := Tryz.zeroValue236
 g1 := by kernel_rfl
 g3 := by kernel_rfl
 g4 := by kernel_rfl
 i0 := by kernel_rfl
 i3 := by kernel_rfl
 i4 := by kernel_rfl
 i5 := by kernel_rfl
 i9 := by kernel_rfl
 i21 := by kernel_rfl
 i31 := by kernel_rfl
 i46 := by kernel_rfl
 i51 := by kernel_rfl
 i105 := by kernel_rfl
 i138 := by kernel_rfl
 i139 := by kernel_rfl
 i146 := by kernel_rfl
 m1 := by kernel_rfl
 s1_3 := fun w h => Go.Proofs.cell_of_shapedOpen_int (zero := #[.int .i64 0]) (t := 3) h (of_decide_eq_true (by kernel_rfl)) (by kernel_rfl) rfl (by kernel_rfl) (by kernel_rfl) Tryz.underlying3
 m3 := by kernel_rfl
 m4 := by kernel_rfl }
end Go.Proofs
end
section
namespace Go.Proofs.YtmgbigiegjlieaaGreatDoor
open Go.ChangeShapes Go.WideShapes Go.ChangeAt Go.RowKit Go.HL
theorem ownPicksComeBack : ownKnob Tryz.prog.godebug = none := by kernel_rfl
theorem laidOutPicksComeBack : laidOutB Tryz.prog = true := by kernel_rfl
theorem cellsPicksComeBack : Tryz.prog.cellsOf 3 = 1 := by kernel_rfl
theorem tabPicksComeBack {W : World} (h : laidMetH Tryz.prog Rows.picksComeBackRow.laid W) (hsh : W.ShapedOpen Tryz.prog) : TabI Tryz.prog (allI W) := by
 rw [MakeChecks.laidMetH_plain _ _ _ (by kernel_rfl)] at h
 letI : Tracks := ⟨false⟩
 exact tabI_of_laid (i := 2) (g := 1) (t := 210) h (by kernel_rfl) (by kernel_rfl) (by kernel_rfl) Tryz.underlying210 Tryz.underlying179 (by kernel_rfl) (by kernel_rfl) (fun g hg => by
  obtain rfl : Tryz.laysm146_ren.g 1 = g := Option.some.inj (Tryz.laysm146.m1.symm.trans hg)
  exact Tryz.laysm146.s1_3 W hsh)
theorem callsPicksComeBack {W : World} (ht : TabI Tryz.prog (allI W)) {a : Option Addr} {len cap : Nat} {H : Type} {enc : TypeId × Value → H} {d0 : DataW H} {p : List MemPlace} (h : DataW.Trod enc Tryz.prog W 0 (fun _ => true) true 22 (.slice a len cap) d0 p) :
 Calls Tryz.prog 4 #[.slice a len cap] W fun e W' => e = .returned (.bool true) ∧ Below W.heap.size W W' := by
 obtain ⟨fuel, hf⟩ := h
 rcases open_ints Tryz.underlying22 Tryz.underlying3 cellsPicksComeBack hf with ⟨hcs, hx⟩ | ⟨a', len', cap', zs, hcs, _, hl, hm, hz, hx, hcell, hwz⟩
 ·simp [Value.cells] at hcs
  obtain ⟨rfl, rfl, rfl⟩ := hcs
  letI : Tracks := ⟨false⟩
  exact conp_law (l := []) (c_benchkeep1_PicksComeBack rfl) ht (.slice0 _ _ _)
 ·simp [Value.cells] at hcs
  obtain ⟨rfl, rfl, rfl⟩ := hcs
  simp only [if_true] at hz
  letI : Tracks := ⟨false⟩
  exact conp_law (l := zs.take len) (c_benchkeep1_PicksComeBack rfl) ht (v_ints hcell (by omega) hl)
set_option maxRecDepth 100000 in
theorem liftedPicksComeBack (os : Os) (started : os.Started) (H : Type) (enc : TypeId × Value → H) :
 ReturnsInHanded {} Tryz.checked os 4 .any (fun w args => (Rows.picksComeBackSpec.pre enc Tryz.prog Tryz.f4 Rows.picksComeBackRow.domain false w args ∧ laidMetH Tryz.prog Rows.picksComeBackRow.laid w) ∧ sizedMet enc Tryz.prog Tryz.f4 (OpenSpec.ofChange Rows.picksComeBackSpec) false w args)
  (Rows.picksComeBackSpec.post enc Tryz.prog Tryz.f4 false true false false) := by
 refine handed_shaped (C := Tryz.checked) (X := fun w _ => laidMetH Tryz.prog Rows.picksComeBackRow.laid w) (fun _ _ _ hh h => h.of_heap hh) ownPicksComeBack started (by kernel_rfl) Tryz.func4
  (ChangeSpec.witness_shaped (enc := enc) (C := Tryz.checked) (os := os) (X := fun w _ => laidMetH Tryz.prog Rows.picksComeBackRow.laid w) false (World.laidAll Tryz.prog os Rows.picksComeBackRow.laid) #[.slice none 0 0] 8 (World.laidAll_os _ _ _)
    (World.shaped_of_ZipB (by kernel_rfl) (by kernel_rfl)) (by kernel_rfl) (by kernel_rfl) (by kernel_rfl)
    (by rw [MakeChecks.laidMetH_plain _ _ _ (by kernel_rfl)]; exact laidMet_laidAll _ (by kernel_rfl) (by kernel_rfl))) ?_
 intro W base args ds gs before hval0 hW hL hsh
 have hval : ∀ (j : Nat) t v, Tryz.f4.params[j]? = some t → args[j]? = some v → Value.okWide Tryz.prog W .any base t v := hval0
 have hW' := hW
 obtain ⟨p, q, hA0, hV, rfl, _, _⟩ := hW
 have hA : DataW.TrodAll enc Tryz.prog W 0 (fun _ => true) true Tryz.f4.params.toList args.toList ds p := hA0
 rw [Tryz.params4] at hA hval
 obtain ⟨v0, d0, rfl, rfl, h0⟩ := trodAll_one hA
 obtain ⟨rfl, rfl⟩ := trodVars_none hV
 obtain ⟨a0, len, cap, rfl⟩ := okWide_slice Tryz.underlying22 (hval 0 22 v0 rfl rfl)
 simp only [List.append_nil] at hW'
 have hlt : ∀ x ∈ p, x.block < W.heap.size := fun x hx => by simpa using hW'.lt x hx
 refine (callsPicksComeBack (tabPicksComeBack hL hsh) h0).mono fun e W' ⟨he, hb⟩ => ?_
 subst he
 have hargs : DataW.Trod enc Tryz.prog W' 0 (fun b => decide (b < W.heap.size)) true 22 (.slice a0 len cap) d0 p :=
  Below.trod laidOutPicksComeBack (by kernel_rfl) (of_decide_eq_true (by kernel_rfl)) h0 hb hlt
 exact ⟨_, rfl, _, _, _, [], p, [], hW', trodAll_mk1 (shut_bool Tryz.underlying4 _), trodAll_mk1 hargs, rfl, hb.frame _, fun h => by cases h⟩
theorem mapsPicksComeBack : mapsRowed Tryz.prog = true := by kernel_rfl
theorem inplPicksComeBack : (Rows.picksComeBackRow.inPlace == Tryz.prog.inPlace 4) = true := by kernel_rfl
theorem unfoPicksComeBack : (Rows.picksComeBackRow.unfollowed == Tryz.prog.unfollowed 4) = true := by kernel_rfl
theorem recuPicksComeBack : (Rows.picksComeBackRow.recurses == Tryz.prog.recurses 4) = true := by kernel_rfl
theorem varsPicksComeBack : (Rows.picksComeBackRow.named == Tryz.prog.varsNamed 4) = true := by kernel_rfl
theorem joinPicksComeBack : joinedFacts Tryz.prog 4 Tryz.f4 Rows.picksComeBackSpec Rows.picksComeBackRow = true := by
 simp only [joinedFacts, Bool.and_eq_true]
 repeat' apply And.intro
 all_goals first
  | with_reducible exact laidOutPicksComeBack
  | with_reducible exact mapsPicksComeBack
  | with_reducible exact inplPicksComeBack
  | with_reducible exact unfoPicksComeBack
  | with_reducible exact recuPicksComeBack
  | with_reducible exact varsPicksComeBack
  | kernel_rfl
theorem lookPicksComeBack : true = Tryz.prog.looks [] := by kernel_rfl
theorem goesPicksComeBack : false = Rows.picksComeBackRow.goesBy Tryz.prog := by kernel_rfl
theorem wfbtPicksComeBack : Rows.picksComeBackRow.wfByText (OpenSpec.ofChange Rows.picksComeBackSpec) = true := by kernel_rfl
theorem mainPicksComeBack : Tryz.prog.mainIs = some ("84caebd230ff65d55bc244a135fbaf26e87a70ca7922309009c0c1f643d3cf49" |> fun h => (true, h.toList)) := by kernel_rfl
theorem stanPicksComeBack : ([22].all fun u => !Tryz.prog.wantsStandIn u) = true := by kernel_rfl
theorem fnamPicksComeBack : Tryz.prog.funcNamed Rows.picksComeBackRow.func = some 4 := by kernel_rfl
theorem holdsPicksComeBack : Rows.PicksComeBackSaid :=
 OpenClaim.holds_of_wide 4 Tryz.f4 rfl rfl rfl rfl rfl rfl rfl ⟨rfl, rfl, rfl, rfl, rfl⟩ rfl rfl rfl rfl rfl fnamPicksComeBack Tryz.func4 joinPicksComeBack
  (of_decide_eq_true (by kernel_rfl)) (by unfold Func.isWrapper; first | (rw [if_pos (by decide +kernel)]; kernel_rfl) | (rw [if_neg (by decide +kernel)]; exact ⟨rfl, rfl⟩))
  (fun os started H enc _ => liftedPicksComeBack os started H enc)
theorem cardPicksComeBack : Rows.PicksComeBackCardSaid :=
 Claim7.holds_tied_plain_at .later [] [.data, .data, .data, .data, .sentinel, .sentinel, .pinned] true (true, "84caebd230ff65d55bc244a135fbaf26e87a70ca7922309009c0c1f643d3cf49") true holdsPicksComeBack (fun _ h => by cases h) wfbtPicksComeBack (fun _ h => by cases h) picksComeBack_row_tie rfl ⟨rfl, rfl⟩ mainPicksComeBack rfl
  (fun f fn hf hfn => by
    obtain rfl : f = 4 := Option.some.inj (fnamPicksComeBack.symm.trans hf) |>.symm
    obtain rfl : fn = Tryz.f4 := (Option.some.inj (Tryz.func4.symm.trans hfn)).symm
    exact ⟨lookPicksComeBack, fun j t ht => by
     rw [Tryz.params4] at ht
     have hm : t ∈ [22] := by simpa using Array.mem_of_getElem? ht
     have hall := stanPicksComeBack
     exact (show Tryz.prog.wantsStandIn t = false by simpa using List.all_eq_true.1 hall t hm)⟩)
  goesPicksComeBack
end Go.Proofs.YtmgbigiegjlieaaGreatDoor
end
