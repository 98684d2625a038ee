/- The statement is proved: the card of the law, out of its function's contract; no conditions. -/
import Derived.Test.YtoomadfbldcioaaGreatDoorPPicksMade4
import Derived.Ground.Names2Prog
import Derived.Ground.SlsfProg
import Derived.LaidMore
import Derived.Lay
import Derived.OpenShut
import Derived.ProofKit
import Derived.SevenTiedAt
import Derived.Shelf.SlGeneric
import Derived.Shelf.SlSortCmp.NoneTotal
import Derived.Shelf.Slices.CompactS
import Derived.Shelf.Slices.Delete
import Derived.Shelf.Sort.Plain
import Derived.Shelf.Strconv.Atoi
import Derived.Shelf.Strconv.Itoa3
import Derived.Shelf.Strings.Prefix
import Derived.Stop.Joined
import Derived.Test.YtoomadfbldcioaaGreatDoorCards
import Derived.Test.YtoomadfbldcioaaGreatDoorProg
import Derived.Test.YtoomadfbldcioaaGreatDoorTie
set_option linter.unusedVariables false
set_option linter.unusedSimpArgs false
section
namespace Go.HL
variable {P : Program}
open Go.Sort Go.Proofs Go.Shelf Go.RowKit
theorem grown_of_sat {w w' : World} {J : Imm} {M : List MObj} (hl : Le (allI w) J) (hs : Sat P J M w') : ∃ q os, w' = grow (w.drewN q) os := by
  have hb := below_of_sat hl hs
  have hd : w.drawn ≤ w'.drawn := Nat.le_trans hl.low hs.low
  refine ⟨w'.drawn - w.drawn, w'.heap.extract w.heap.size w'.heap.size, ?_⟩
  have hh : w'.heap = w.heap ++ w'.heap.extract w.heap.size w'.heap.size := by
    apply Array.ext_getElem?
    intro i
    by_cases hi : i < w.heap.size
    · rw [Array.getElem?_append_left hi]; exact hb.block i hi
    · rw [Array.getElem?_append_right (by omega), Array.getElem?_extract]
      have := hb.size
      split
      · congr 1; omega
      · rw [Array.getElem?_eq_none (by omega)]
  have h1 := hb.os
  have h2 := hb.tape
  have h3 := hb.output
  obtain ⟨a1, a2, a3, a4, a5⟩ := w'
  obtain ⟨b1, b2, b3, b4, b5⟩ := w
  simp only at h1 h2 h3 hd hh
  subst h1 h2 h3
  simp only [grow, World.drewN, World.mk.injEq]
  exact ⟨hh, trivial, by omega, trivial, trivial⟩
theorem ConP.calls {f : FuncId} {hargs : List HVal} {h : HVal} (hc : ConP P f hargs h) {w : World} (ht : TabI P (allI w)) {args : List Value} (ha : VL (allI w) hargs args) :
    Calls P f args.toArray w fun e w' => ∃ v, e = .returned v ∧ V (allI w') h v ∧ ∃ q os, w' = grow (w.drewN q) os := by
  refine (hc (allI w) [] w args ha (sat_now ht)).mono ?_
  rintro e w' ⟨v, x, M', J, rfl, hle, ⟨rfl, rfl⟩, hV, hs⟩
  exact ⟨v, rfl, hV.mono hs.le_all, grown_of_sat hle hs⟩
/-- A row of cells that reads as an element. -/
abbrev RowT {A : Type} (I : Imm) (e : A → HVal) (k : Nat) : Type := { p : A × List Value // p.2.length = k ∧ (∀ v ∈ p.2, v.oneCell' = true) ∧ VL I (hcells (e p.1)) p.2 }
theorem rows_ex {A : Type} {I : Imm} {e : A → HVal} {k : Nat} (hk : ∀ x, (hcells (e x)).length = k) (hf : ∀ x, flat (hcells (e x)) = true) {rc : Array Value} : ∀ (l : List A) (off : Nat), off + l.length * k ≤ rc.size →
    (∀ (i j : Nat) (x : A) (c : HVal) (v : Value), l[i]? = some x → (hcells (e x))[j]? = some c → rc[off + i * k + j]? = some v → V I c v) →
    ∃ d : List (RowT I e k), d.map (·.1.1) = l ∧ ∀ (i j : Nat) (p : RowT I e k), d[i]? = some p → j < k → rc[off + i * k + j]? = p.1.2[j]?
  | [], off, _, _ => ⟨[], rfl, fun i j p h => by simp at h⟩
  | x :: l, off, hb, hV => by
    have hb' : off + k + l.length * k ≤ rc.size := by simp [Nat.add_mul] at hb; omega
    obtain ⟨d, h1, h2⟩ := rows_ex hk hf l (off + k) hb' fun i j y c v a1 a2 a3 => hV (i + 1) j y c v (by simpa using a1) a2 (by rw [Nat.add_mul, Nat.one_mul]; rw [show off + (i * k + k) + j = off + k + i * k + j by omega]; exact a3)
    have hlen : (rc.extract off (off + k)).toList.length = k := by simp; omega
    have hg : ∀ j, j < k → (rc.extract off (off + k)).toList[j]? = rc[off + j]? := fun j hj => by
      rw [Array.getElem?_toList, Array.getElem?_extract, if_pos (by omega)]
    have hvl : VL I (hcells (e x)) (rc.extract off (off + k)).toList := ⟨by rw [hlen, hk], fun j c v a1 a2 => by
      have hj : j < k := by have := lt_of_get a1; rw [hk] at this; exact this
      rw [hg j hj] at a2
      exact hV 0 j x c v rfl a1 (by simpa using a2)⟩
    refine ⟨⟨(x, (rc.extract off (off + k)).toList), hlen, flat_one hvl (hf x), hvl⟩ :: d, by simp [h1], fun i j p hp hj => ?_⟩
    cases i with
    | zero =>
      simp only [List.getElem?_cons_zero, Option.some.injEq] at hp
      subst hp
      simp only [Nat.zero_mul, Nat.add_zero]
      exact (hg j hj).symm
    | succ i =>
      simp only [List.getElem?_cons_succ] at hp
      rw [← h2 i j p hp hj, Nat.add_mul, Nat.one_mul]
      congr 1; omega
section
variable {A : Type} {e : A → HVal} {k : Nat}
theorem sortW_get {α : Type} [Inhabited α] {enc : α → List Value} {w : World} {b off m : Nat} {dk : Array α} {os : Array Obj} {c : Nat} (hc : c < w.heap.size) (hb : c ≠ b) : (sortWorldK enc k w b off m dk os).heap[c]? = w.heap[c]? := by
  simp only [sortWorldK, grow, putRowK, putRow, mapBlock, Sort.ahead]
  rw [Array.getElem?_append_left (by simpa using hc), Array.getElem?_modify, if_neg (Ne.symm hb)]
theorem sortW_blk {α : Type} [Inhabited α] {enc : α → List Value} {w : World} {b off m : Nat} {dk : Array α} {os : Array Obj} {rc : Array Value} {el : TypeId} {fr : Nat × Nat} (hb : w.heap[b]? = some (.cells rc el fr)) :
    (sortWorldK enc k w b off m dk os).heap[b]? = some (.cells (putCells id off (flatK enc k dk) rc) el fr) := by
  have hlt : b < w.heap.size := lt_of_get' hb
  simp only [sortWorldK, grow, putRowK, putRow, mapBlock, Sort.ahead]
  rw [Array.getElem?_append_left (by simpa using hlt), Array.getElem?_modify, if_pos rfl, hb]
  rfl
where
  lt_of_get' {α : Type} {a : Array α} {i : Nat} {x : α} (h : a[i]? = some x) : i < a.size := by
    rcases Nat.lt_or_ge i a.size with h' | h'
    · exact h'
    · simp [Array.getElem?_eq_none h'] at h
theorem flatK_get {α : Type} [Inhabited α] {enc : α → List Value} (hk : ∀ x, (enc x).length = k) {dk : Array α} {i j : Nat} {x : α} (hx : dk[i]? = some x) (hj : j < k) : some ((flatK enc k dk)[i * k + j]!) = (enc x)[j]? := by
  have hi : i < dk.size := by
    rcases Nat.lt_or_ge i dk.size with h' | h'
    · exact h'
    · simp [Array.getElem?_eq_none h'] at hx
  have hle : (i + 1) * k ≤ dk.size * k := Nat.mul_le_mul_right _ hi
  rw [Nat.add_mul, Nat.one_mul] at hle
  rw [get_flatK enc k dk _ (by omega)]
  have e1 : (i * k + j) / k = i := by rw [Nat.mul_comm, Nat.mul_add_div (by omega), Nat.div_eq_of_lt hj]; rfl
  have e2 : (i * k + j) % k = j := by rw [Nat.mul_comm, Nat.mul_add_mod, Nat.mod_eq_of_lt hj]
  rw [e1, e2]
  have e3 : dk[i]! = x := by rw [getElem!_pos dk i hi]; rw [Array.getElem?_eq_getElem hi] at hx; exact Option.some.inj hx
  rw [e3]
  have hjl : j < (enc x).length := by rw [hk]; exact hj
  rw [List.getElem?_eq_getElem hjl, getElem!_pos (enc x) j hjl]
set_option maxHeartbeats 1000000 in
/-- slices.SortFunc: a permutation that is sorted. -/
theorem con_sortf {ρ : Ren} (L : SlLaysF0.n6 P ρ) (aE : ∀ w, (isAgg (ρ.t 24)).run P w = .ok true w) (zE : ∀ w, (Go.sizeOf (ρ.t 24)).run P w = .ok k w) (hk : ∀ x, (hcells (e x)).length = k) (ha : ∀ x, e x = .agg (hcells (e x))) (hf : ∀ x, flat (hcells (e x)) = true)
    {c : A → A → Int} (hO : SWO (ltOf c)) {g : FuncId} (hg : Callable P g) {cap : List HVal} (hc : ∀ x y, ConP P g (e x :: e y :: cap) (.int .i64 (c x y))) {l : List A} (hl : l.length ≤ 1000000) {v : Value} :
    Con P (ρ.f 6) [.raw v, .fn (.func g) [] cap] [.arr v k (l.map e)] fun x M' => ∃ l' : List A, x = .tup [] ∧ l'.Perm l ∧ l'.Pairwise (fun a b => ¬ c b a < 0) ∧ M' = [.arr v k (l'.map e)] := by
  intro I F w args hargs hs
  obtain ⟨n1, n2⟩ := hargs
  match args, n1, n2 with
  | [u, fv], _, n2 =>
    obtain rfl : u = v := (n2 0 _ _ rfl rfl).raw_inv
    obtain ⟨f1, cb, rfl, f2, f3⟩ := (n2 1 _ _ rfl rfl).fn_inv
    have hf1 : f1 = #[] := by have := f2.1; simp at this; exact this
    subst hf1
    by_cases h0 : l = []
    · subst h0
      have hu : ∃ p cp, u = .slice p 0 cp := by
        rcases hs.obj (.arr u k (([] : List A).map e)) (by simp) with ⟨rfl, _⟩ | ⟨b, off, cp, rc, el, fr, rfl, _⟩
        · exact ⟨_, _, rfl⟩
        · exact ⟨_, _, rfl⟩
      obtain ⟨p, cp, rfl⟩ := hu
      refine (AnyF.slices_SortFunc_none L p cp _ w).mono ?_
      rintro _ _ ⟨rfl, rfl⟩
      exact ⟨_, .tup [], _, I, rfl, .refl I, ⟨[], rfl, .refl _, .nil, rfl⟩, .tup (by simp) (fun j c v h _ => by simp at h), hs⟩
    · rcases hs.obj (.arr u k (l.map e)) (by simp) with ⟨_, hn⟩ | ⟨b, off, cp, rc, el, fr, rfl, _⟩
      · simp at hn; exact absurd hn h0
      · rw [List.length_map] at hs ⊢
        obtain ⟨_, rc, el, fr, h2, h3, h4, h5, h6, h7⟩ := arr_some hs
        rw [List.length_map] at h5
        have hblt : b < w.heap.size := sortW_blk.lt_of_get' h2
        have hsz : off + l.length * k ≤ rc.size := by
          have : l.length * k ≤ cp * k := Nat.mul_le_mul_right _ h5.1
          omega
        obtain ⟨d, d1, d2⟩ := rows_ex (I := I) (e := e) hk hf (rc := rc) l off hsz fun i j x c v a1 a2 a3 => h7 i j (e x) c v (by simp [a1]) a2 a3
        have dl : d.length = l.length := by rw [← d1]; simp
        obtain ⟨p0, hp0⟩ : ∃ p, d[0]? = some p := ⟨_, List.getElem?_eq_getElem (by have := List.length_pos_iff.2 h0; omega)⟩
        haveI : Inhabited (RowT I e k) := ⟨p0⟩
        have hkr : ∀ x : RowT I e k, (x.1.2).length = k := fun x => x.2.1
        have hH : HoldsK (fun x : RowT I e k => x.1.2) k w b off d.toArray := fun j hj => by
          simp only [size_flatK, List.size_toArray, dl] at hj
          have hk0 : 0 < k := by rcases Nat.eq_zero_or_pos k with h | h; (subst h; simp at hj); exact h
          have hi : j / k < d.length := by rw [dl]; exact Nat.div_lt_of_lt_mul (by rw [Nat.mul_comm]; exact hj)
          have hjk := Nat.mod_lt j hk0
          have hdj : j / k * k + j % k = j := by rw [Nat.mul_comm]; exact Nat.div_add_mod j k
          have hg1 := d2 (j / k) (j % k) d[j / k] (List.getElem?_eq_getElem hi) hjk
          have hg2 := flatK_get (enc := fun x : RowT I e k => x.1.2) (k := k) hkr (dk := d.toArray) (i := j / k) (j := j % k) (x := d[j / k]) (by simp [hi]) hjk
          rw [hdj] at hg2
          constructor
          · rw [cell_of h2]
            rw [show off + j = off + j / k * k + j % k by omega, hg1, ← hg2]; rfl
          · simp only [World.frozen?, h2]
            have := h3 (off + j) (by omega)
            simpa using this
        have hle : ∀ (m : Nat) (dk : Array (RowT I e k)) (os : Array Obj), Le I (allI (sortWorldK (fun x : RowT I e k => x.1.2) k w b off m dk os)) := fun m dk os =>
          ⟨fun c o ho => by
            have hcb : c ≠ b := fun hh => by
              subst hh
              have := hs.apart c (by simp [blocks, MObj.blocks])
              rw [this] at ho; cases ho
            have h9 := hs.imm c o ho
            show (sortWorldK _ k w b off m dk os).heap[c]? = some o
            rw [sortW_get (sortW_blk.lt_of_get' h9) hcb]; exact h9, hs.os, hs.output, hs.tape, Nat.le_trans hs.low (Nat.le_add_right _ _)⟩
        have hcmp : CmpLays P g cb (fun x : RowT I e k => x.1.2) k (fun x y => c x.1.1 y.1.1) b off d.toArray.size w := fun m os dk _ x y => by
          have hI := hle m dk os
          have hxa : ∀ z : RowT I e k, V (allI (sortWorldK (fun x : RowT I e k => x.1.2) k w b off m dk os)) (e z.1.1) (.agg z.1.2.toArray) := fun z => by
            rw [ha]; exact V.mk_agg (by simpa using z.2.2.2.mono hI)
          have e9 : (#[Value.agg x.1.2.toArray, .agg y.1.2.toArray] ++ cb) = (Value.agg x.1.2.toArray :: .agg y.1.2.toArray :: cb.toList).toArray := by simp
          rw [e9]
          refine ((hc x.1.1 y.1.1).calls (hs.tab.mono hI) (VL.cons (hxa x) (VL.cons (hxa y) (f3.mono hI)))).mono ?_
          rintro _ w' ⟨u, rfl, hu, q, os', rfl⟩
          exact ⟨by rw [hu.int_inv], q, os', rfl⟩
        have hO' : SWO (ltOf fun x y : RowT I e k => c x.1.1 y.1.1) := ⟨fun x => hO.irrefl x.1.1, fun x y z => hO.trans x.1.1 y.1.1 z.1.1, fun x y z => hO.ntrans x.1.1 y.1.1 z.1.1⟩
        have hrun := AnyQ.slices_SortFunc L k aE zE (fun x : RowT I e k => x.1.2) hkr (fun x => x.2.2.1) (fun x y => c x.1.1 y.1.1) hO' g cb b off cp d.toArray w (run_callFunc hg) hcmp hH hblt (by simp; omega)
        rw [List.size_toArray, dl] at hrun
        refine hrun.mono ?_
        rintro _ w' ⟨rfl, d', m, os, ⟨q1, _, q3⟩, q4, rfl⟩
        simp only [List.size_toArray, dl] at q1
        have q3' : d'.toList.Perm d := by
          have e1 : (d'.extract 0 l.length) = d' := by rw [← q1]; exact Array.extract_size
          have e2 : (d.toArray.extract 0 l.length) = d.toArray := by have := Array.extract_size (xs := d.toArray); rw [List.size_toArray, dl] at this; exact this
          rw [e1, e2] at q3; simpa using q3
        refine ⟨_, .tup [], [.arr (.slice (some ⟨b, off, none⟩) l.length cp) k ((d'.toList.map (·.1.1)).map e)], I, rfl, .refl I, ⟨d'.toList.map (·.1.1), rfl, by rw [← d1]; exact q3'.map _, ?_, rfl⟩, .tup (by simp) (fun j c v h _ => by simp at h), ?_⟩
        · refine List.pairwise_iff_getElem.2 fun i j hi hj hij => ?_
          simp only [List.length_map, Array.length_toList] at hi hj
          have := q4 i j (Nat.zero_le _) hij (by omega)
          rw [getElem!_pos d' i hi, getElem!_pos d' j hj] at this
          simp only [ltOf, decide_eq_false_iff_not] at this
          simpa using this
        · have hchg : ∀ x, x < w.heap.size → x ∉ (MObj.arr (.slice (some ⟨b, off, none⟩) l.length cp) k (l.map e)).blocks → (sortWorldK (fun x : RowT I e k => x.1.2) k w b off m d' os).heap[x]? = w.heap[x]? := fun x hx hnx => sortW_get hx fun hh => hnx (by rw [hh]; simp [MObj.blocks])
          refine hs.change (m' := .arr (.slice (some ⟨b, off, none⟩) l.length cp) k ((d'.toList.map (·.1.1)).map e)) hchg (fun x hx => .inl hx) (by simp [MObj.blocks]) ?_ rfl rfl rfl (Nat.le_add_right _ _)
          refine .inr ⟨b, off, cp, putCells id off (flatK (fun x : RowT I e k => x.1.2) k d') rc, el, fr, by simp [q1], sortW_blk h2, by simpa [putCells] using h3, ?_, by simp [q1]; exact h5, by simpa [putCells] using h6, ?_⟩
          · intro y hy; obtain ⟨z, _, rfl⟩ := List.mem_map.1 hy; exact hk z
          · intro i j y z v a1 a2 a3
            rw [List.map_map, List.getElem?_map] at a1
            cases hq : d'.toList[i]? with
            | none => rw [hq] at a1; simp at a1
            | some r =>
              rw [hq] at a1
              simp only [Option.map_some, Function.comp_apply, Option.some.injEq] at a1
              subst a1
              have hj : j < k := by have := lt_of_get a2; rw [hk] at this; exact this
              have hi : i < l.length := by have := lt_of_get hq; simp at this; omega
              have hle : (i + 1) * k ≤ l.length * k := Nat.mul_le_mul_right _ hi
              rw [Nat.add_mul, Nat.one_mul] at hle
              have hr : off + i * k + j < rc.size := by omega
              rw [putCells, Array.getElem?_mapIdx, Array.getElem?_eq_getElem hr, Option.map_some, if_pos ⟨by omega, by rw [size_flatK, q1]; omega⟩] at a3
              rw [show off + i * k + j - off = i * k + j by omega] at a3
              have hg2 := flatK_get (enc := fun x : RowT I e k => x.1.2) (k := k) hkr (dk := d') (i := i) (j := j) (x := r) (by simpa using hq) hj
              rw [show (id (flatK (fun x : RowT I e k => x.1.2) k d')[i * k + j]!) = (flatK (fun x : RowT I e k => x.1.2) k d')[i * k + j]! from rfl, hg2] at a3
              exact r.2.2.2.2 j z v a2 a3
end
end Go.HL
end
section
namespace Go.HL
open Go.Sort Go.Proofs
theorem cmpI_lt {a b : Int} : cmpI a b < 0 ↔ a < b := by
  unfold cmpI; split
  · simp_all
  · split <;> omega
theorem swo_key {α : Type} (f : α → Int) : SWO (ltOf fun a b => cmpI (f a) (f b)) := by
  have h : ∀ a b, ltOf (fun a b => cmpI (f a) (f b)) a b = decide (f a < f b) := fun a b => by unfold ltOf; rw [decide_eq_decide]; exact cmpI_lt
  refine ⟨fun x => by rw [h]; simp, fun x y z => ?_, fun x y z => ?_⟩
  · rw [h, h, h]; simp; omega
  · rw [h, h, h]; simp; omega
theorem cmp_no {a b : Pick} (h : ¬ cmpI b.No a.No < 0) : ¬ b.No < a.No := fun q => h (cmpI_lt.2 q)
end Go.HL
end
section
namespace Go.Proofs
open Go.Shelf
def Tryz.g85_ren : Go.Shelf.Ren := ⟨fun | 6 => 85 | 15 => 91 | 14 => 114 | 28 => 126 | 29 => 127 | 20 => 145 | 21 => 146 | 22 => 147 | 23 => 148 | 24 => 149 | 25 => 150 | 26 => 151 | 27 => 152 | 46 => 174 | 47 => 158 | 48 => 159 | 49 => 175 | 50 => 176 | 57 => 189 | n => n, fun | 22 => 36 | 24 => 55 | 25 => 135 | 3 => 3 | 39 => 138 | 0 => 0 | 53 => 169 | 55 => 171 | 4 => 4 | 46 => 162 | 45 => 161 | 50 => 110 | 5 => 5 | 9 => 9 | 66 => 190 | 70 => 194 | 76 => 210 | 77 => 211 | n => n, fun | n => n⟩
theorem Tryz.g85 : Go.Proofs.SlLaysF0.n6 Tryz.prog Tryz.g85_ren := {
  mixed := by kernel_rfl
  f6 := ⟨Tryz.f85.name, by decide, Tryz.func85.trans (congrArg some (by kernel_rfl))⟩
  f14 := ⟨Tryz.f114.name, by decide, Tryz.func114.trans (congrArg some (by kernel_rfl))⟩
  f15 := Tryz.func91.trans (congrArg some (by kernel_rfl))
  f20 := ⟨Tryz.f145.name, by decide, Tryz.func145.trans (congrArg some (by kernel_rfl))⟩
  f21 := ⟨Tryz.f146.name, by decide, Tryz.func146.trans (congrArg some (by kernel_rfl))⟩
  f22 := ⟨Tryz.f147.name, by decide, Tryz.func147.trans (congrArg some (by kernel_rfl))⟩
  f23 := ⟨Tryz.f148.name, by decide, Tryz.func148.trans (congrArg some (by kernel_rfl))⟩
  f24 := ⟨Tryz.f149.name, by decide, Tryz.func149.trans (congrArg some (by kernel_rfl))⟩
  f25 := ⟨Tryz.f150.name, by decide, Tryz.func150.trans (congrArg some (by kernel_rfl))⟩
  f26 := ⟨Tryz.f151.name, by decide, Tryz.func151.trans (congrArg some (by kernel_rfl))⟩
  f27 := ⟨Tryz.f152.name, by decide, Tryz.func152.trans (congrArg some (by kernel_rfl))⟩
  f28 := Tryz.func126.trans (congrArg some (by kernel_rfl))
  f29 := Tryz.func127.trans (congrArg some (by kernel_rfl))
  f46 := ⟨Tryz.f174.name, by decide, Tryz.func174.trans (congrArg some (by kernel_rfl))⟩
  f47 := Tryz.func158.trans (congrArg some (by kernel_rfl))
  f48 := Tryz.func159.trans (congrArg some (by kernel_rfl))
  f49 := ⟨Tryz.f175.name, by decide, Tryz.func175.trans (congrArg some (by kernel_rfl))⟩
  f50 := ⟨Tryz.f176.name, by decide, Tryz.func176.trans (congrArg some (by kernel_rfl))⟩
  f57 := ⟨Tryz.f189.name, by decide, Tryz.func189.trans (congrArg some (by kernel_rfl))⟩
  t0 := Tryz.underlying0
  a0 := Tryz.isAgg0
  z0 := Tryz.sizeOf0
  v0 := Tryz.zeroValue0
  t3 := Tryz.underlying3
  a3 := Tryz.isAgg3
  z3 := Tryz.sizeOf3
  v3 := Tryz.zeroValue3
  t4 := Tryz.underlying4
  a4 := Tryz.isAgg4
  z4 := Tryz.sizeOf4
  v4 := Tryz.zeroValue4
  t5 := Tryz.underlying5
  a5 := Tryz.isAgg5
  z5 := Tryz.sizeOf5
  v5 := Tryz.zeroValue5
  t9 := Tryz.underlying9
  a9 := Tryz.isAgg9
  z9 := Tryz.sizeOf9
  v9 := Tryz.zeroValue9
  t22 := Tryz.underlying36
  a22 := Tryz.isAgg36
  z22 := Tryz.sizeOf36
  v22 := Tryz.zeroValue36
  t25 := Tryz.underlying135
  a25 := Tryz.isAgg135
  z25 := Tryz.sizeOf135
  v25 := Tryz.zeroValue135
  t39 := Tryz.underlying138
  a39 := Tryz.isAgg138
  z39 := Tryz.sizeOf138
  v39 := Tryz.zeroValue138
  t45 := Tryz.underlying161
  a45 := Tryz.isAgg161
  z45 := Tryz.sizeOf161
  v45 := Tryz.zeroValue161
  t46 := Tryz.underlying162
  a46 := Tryz.isAgg162
  z46 := Tryz.sizeOf162
  v46 := Tryz.zeroValue162
  t50 := Tryz.underlying110
  a50 := Tryz.isAgg110
  z50 := Tryz.sizeOf110
  v50 := Tryz.zeroValue110
  t53 := Tryz.underlying169
  a53 := Tryz.isAgg169
  z53 := Tryz.sizeOf169
  v53 := Tryz.zeroValue169
  t55 := Tryz.underlying171
  a55 := Tryz.isAgg171
  z55 := Tryz.sizeOf171
  v55 := Tryz.zeroValue171
  t66 := Tryz.underlying190
  a66 := Tryz.isAgg190
  z66 := Tryz.sizeOf190
  v66 := Tryz.zeroValue190
  t70 := Tryz.underlying194
  a70 := Tryz.isAgg194
  z70 := Tryz.sizeOf194
  v70 := Tryz.zeroValue194
  t76 := Tryz.underlying210
  a76 := Tryz.isAgg210
  z76 := Tryz.sizeOf210
  v76 := Tryz.zeroValue210
  t77 := Tryz.underlying211
  a77 := Tryz.isAgg211
  z77 := Tryz.sizeOf211
  v77 := Tryz.zeroValue211 }
end Go.Proofs
end
section
namespace Go.Proofs.YtoomadfbldcioaaGreatDoor
open Go.HL
set_option maxRecDepth 100000
set_option linter.unusedVariables false
set_option linter.unusedSimpArgs false
/-- slices.Grow[[]benchwarmer/api.Pick,benchwarmer/api.Pick] -/
theorem c_grow_Pick {n : Nat} (hn : n ≤ 1000000) : Con Tryz.prog 111 [.raw (.slice none 0 0), .int .i64 (n : Int)] [] (fun x M' => ∃ u, x = .raw u ∧ M' = [.arr u 5 []]) := by
  refine Con.of_body Tryz.func111 rfl Tryz.ntmps111 rfl rfl ?_
  refine hw_reg ?_
  refine dp rfl (pop_assign rfl) ?_
  refine dn ?_
  refine hw_seq ?_
  refine hw_reg ?_
  refine dp rfl (pop_move rfl) ?_
  refine dp rfl (pop_lss rfl rfl) ?_
  refine dn ?_
  refine hw_cond rfl (fun h1 => ?_) (fun h1 => ?_)
  · exfalso
    try simp at h1
    omega
  · try simp at h1
    refine hw_skip ?_
    refine seqQ_n ?_
    refine hw_seq ?_
    refine hw_reg ?_
    refine dp rfl (pop_move rfl) ?_
    refine dp rfl (pop_move rfl) ?_
    refine dp rfl (pop_capraw ty36 rfl) ?_
    refine dp rfl (pop_move rfl) ?_
    refine dp rfl (pop_len_raw ty36 rfl) ?_
    refine dp rfl (pop_sub64 rfl rfl (by omega) (by omega)) ?_
    refine dp rfl (pop_sub64 rfl rfl (by omega) (by omega)) ?_
    refine dp rfl (pop_assign rfl) ?_
    refine dn ?_
    refine hw_reg ?_
    refine dp rfl (pop_move rfl) ?_
    refine dp rfl (pop_gtr rfl rfl) ?_
    refine dn ?_
    refine hw_cond rfl (fun h2 => ?_) (fun h3 => ?_)
    · try simp at h2
      refine hw_reg1 ?_
      refine dp rfl (pop_move rfl) ?_
      refine dp rfl (pop_move rfl) ?_
      refine dp rfl (pop_capraw ty36 rfl) ?_
      refine dp rfl (pop_slnil ty36 ty55 rfl rfl) ?_
      refine dp rfl (pop_move rfl) ?_
      refine de rfl (eop_appendmk (n := n) ty36 ty55 ty3 rfl rfl rfl rfl (by omega) (by omega) (by omega) fun b nc cells hnc hnm hcs => ?_)
      refine dp rfl (pop_move rfl) ?_
      refine dp rfl (pop_len_raw ty36 rfl) ?_
      refine dp rfl (pop_slraw0 (h := 0) ty36 ty55 rfl ⟨_, _, rfl, rfl⟩ (by omega)) ?_
      refine dp rfl (pop_assign rfl) ?_
      refine dn ?_
      refine seqQ_n ?_
      refine hw_reg ?_
      refine dp rfl (pop_move rfl) ?_
      refine dp rfl (pop_assign rfl) ?_
      refine dn ?_
      refine hw_ret ?_
      first
      | exact ret_g (Ghost.objarr hcs hnm) rfl ⟨_, rfl, rfl⟩
      | exact ret_g (Ghost.arr_nil 5) rfl ⟨_, rfl, rfl⟩
    · try simp at h3
      refine hw_skip ?_
      refine seqQ_n ?_
      refine hw_reg ?_
      refine dp rfl (pop_move rfl) ?_
      refine dp rfl (pop_assign rfl) ?_
      refine dn ?_
      refine hw_ret ?_
      first
      | exact ret_g (Ghost.objarr hcs hnm) rfl ⟨_, rfl, rfl⟩
      | exact ret_g (Ghost.arr_nil 5) rfl ⟨_, rfl, rfl⟩

/-- slices.Concat[[]benchwarmer/api.Pick,benchwarmer/api.Pick] -/
theorem c_concat_Pick {LL : List (List Pick)} (hl : LL.length ≤ 1000) (hs : LL.flatten.length ≤ 100000) : ConA Tryz.prog 81 [.slice 1 (LL.map fun l => HVal.slice 5 (l.map ePick))] 5 (LL.flatten.map ePick) := by
  refine Con.of_body Tryz.func81 rfl Tryz.ntmps81 rfl rfl ?_
  refine hw_reg ?_
  refine dp rfl (pop_assign rfl) ?_
  refine dn ?_
  refine hw_reg ?_
  refine dp rfl (pop_assign rfl) ?_
  refine dn ?_
  refine hw_seq ?_
  refine hw_reg ?_
  refine dp rfl (pop_move rfl) ?_
  refine dp rfl (pop_lenm (f := fun l : List Pick => HVal.slice 5 (l.map ePick)) (l := LL) ty154 rfl) ?_
  refine dp rfl (pop_move rfl) ?_
  refine dn ?_
  refine hw_block ?_
  refine hw_loopw [3, 5, 11, 12, 13, 14, 15, 16, 17, 18, 19, 20, 21, 22] (fun (i : Nat) => [(11, .int .i64 i), (3, .int .i64 ((LL.take i).flatten.length : Int))]) (fun (i : Nat) => []) (fun (i : Nat) => i ≤ LL.length ∧ (True)) (fun (i : Nat) => LL.length - i) (0) ?_ ?_ ?_ ?_
  · exact ⟨Nat.zero_le _, trivial⟩
  · exact ⟨rfl, rfl, trivial⟩
  · exact List.Perm.refl _
  · intro i hinv
    obtain ⟨hi, -⟩ := hinv
    refine hw_reg ?_
    refine dp rfl (pop_lss rfl rfl) ?_
    refine dn ?_
    refine hw_seq ?_
    refine hw_cond rfl (fun h1 => ?_) (fun h2 => ?_)
    · try simp at h1
      obtain ⟨x, hx⟩ : ∃ x, LL[i]? = some x := ⟨_, List.getElem?_eq_getElem h1⟩
      have hdx := drop_cons hx
      refine hw_skip ?_
      refine seqQ_n ?_
      refine hw_seq ?_
      refine hw_block ?_
      refine hw_reg ?_
      refine dp rfl (pop_idx (f := fun l : List Pick => HVal.slice 5 (l.map ePick)) (l := LL) (j := i) (a := x) ty154 ty36 rfl rfl rfl hx) ?_
      refine dp rfl (pop_load ty36 rfl rfl rfl) ?_
      refine dp rfl (pop_assign rfl) ?_
      refine dn ?_
      refine hw_reg ?_
      refine dp rfl (pop_move rfl) ?_
      refine dp rfl (pop_move rfl) ?_
      refine dp rfl (pop_lenm ty36 rfl) ?_
      have hfl := flat_take_le LL (i + 1)
      have hfs := flat_take_snoc hx
      refine dp rfl (pop_add64 rfl rfl (by omega) (by omega)) ?_
      refine dp rfl (pop_assign rfl) ?_
      refine dn ?_
      refine hw_reg ?_
      refine dp rfl (pop_move rfl) ?_
      refine dp rfl (pop_lss rfl rfl) ?_
      refine dn ?_
      refine hw_cond rfl (fun h3 => ?_) (fun h3 => ?_)
      · exfalso
        try simp at h3
        omega
      · try simp at h3
        refine hw_skip ?_
        refine blockQ_n ?_
        refine seqQ_n ?_
        refine hw_reg1 ?_
        refine dp rfl (pop_add64 rfl rfl (by omega) (by omega)) ?_
        refine dp rfl (pop_move rfl) ?_
        refine dn ?_
        exact ⟨i + 1, ⟨by omega, trivial⟩, by dsimp only; omega, ⟨rfl, some_int (by rw [flat_take_snoc hx]; simp), trivial⟩, (by repeat (first | exact keeps_refl | refine keeps_upd rfl ?_ | refine keeps_loop rfl rfl ?_)), List.Perm.refl _⟩
    · try simp at h2
      have hni : LL.length ≤ i := by omega
      obtain rfl : i = LL.length := by omega
      refine hw_exit ?_
      refine seqQ_x ?_
      refine loopQ_x ?_
      refine blockQ_eq ?_
      refine seqQ_n ?_
      rw [List.take_length]
      refine hw_reg ?_
      refine dp rfl (pop_move rfl) ?_
      refine de rfl (eop_callf (M1 := []) (R := []) ca111 rfl (WeakL.refl _) (List.Perm.refl _) (c_grow_Pick (n := LL.flatten.length) (by omega)) ?_)
      rintro _ _ ⟨u24, rfl, rfl⟩
      refine dp rfl (pop_assign rfl) ?_
      refine dn ?_
      refine hw_seq ?_
      refine hw_reg ?_
      refine dp rfl (pop_move rfl) ?_
      refine dp rfl (pop_lenm (f := fun l : List Pick => HVal.slice 5 (l.map ePick)) (l := LL) ty154 rfl) ?_
      refine dp rfl (pop_move rfl) ?_
      refine dn ?_
      refine hw_block ?_
      refine hw_loopw2 [6, 8, 27, 28, 29, 30, 31, 32, 33, 34] (fun (j : Nat) (u : Value) => [(27, .int .i64 j), (6, .raw u)]) (fun (j : Nat) (u : Value) => [.arr u 5 ((LL.take j).flatten.map ePick)]) (fun (j : Nat) (u : Value) => j ≤ LL.length ∧ (True)) (fun (j : Nat) (u : Value) => LL.length - j) (0) (u24) ?_ ?_ ?_ ?_
      · exact ⟨Nat.zero_le _, trivial⟩
      · exact ⟨rfl, rfl, trivial⟩
      · exact List.Perm.refl _
      · intro j u hinv
        obtain ⟨hj, -⟩ := hinv
        refine hw_reg ?_
        refine dp rfl (pop_lss rfl rfl) ?_
        refine dn ?_
        refine hw_seq ?_
        refine hw_cond rfl (fun h4 => ?_) (fun h5 => ?_)
        · try simp at h4
          obtain ⟨y, hy⟩ : ∃ y, LL[j]? = some y := ⟨_, List.getElem?_eq_getElem h4⟩
          have hdy := drop_cons hy
          refine hw_skip ?_
          refine seqQ_n ?_
          refine hw_seq ?_
          refine hw_block ?_
          refine hw_reg ?_
          refine dp rfl (pop_idx (f := fun l : List Pick => HVal.slice 5 (l.map ePick)) (l := LL) (j := j) (a := y) ty154 ty36 rfl rfl rfl hy) ?_
          refine dp rfl (pop_load ty36 rfl rfl rfl) ?_
          refine dp rfl (pop_assign rfl) ?_
          refine dn ?_
          refine hw_reg1 ?_
          refine dp rfl (pop_move rfl) ?_
          refine dp rfl (pop_move rfl) ?_
          refine de rfl (eop_append (i := 0) ty36 ty55 rfl rfl rfl rfl rfl (by simp [flat, hcells]) (by have h1 := flat_take_le LL (j + 1); have h2 := flat_take_snoc hy; simp only [List.length_map]; omega) fun v33 => ?_)
          refine dp rfl (pop_assign rfl) ?_
          refine dn ?_
          refine blockQ_n ?_
          refine seqQ_n ?_
          refine hw_reg1 ?_
          refine dp rfl (pop_add64 rfl rfl (by omega) (by omega)) ?_
          refine dp rfl (pop_move rfl) ?_
          refine dn ?_
          exact ⟨j + 1, v33, ⟨by omega, trivial⟩, by dsimp only; omega, ⟨rfl, rfl, trivial⟩, (by repeat (first | exact keeps_refl | refine keeps_upd rfl ?_ | refine keeps_loop rfl rfl ?_)), perm_eq (by dsimp only; rw [flat_take_app hy, List.map_append]; rfl)⟩
        · try simp at h5
          have hnj : LL.length ≤ j := by omega
          obtain rfl : j = LL.length := by omega
          refine hw_exit ?_
          refine seqQ_x ?_
          refine loopQ2_x ?_
          refine blockQ_eq ?_
          refine seqQ_n ?_
          refine hw_reg ?_
          refine dp rfl (pop_move rfl) ?_
          refine dp rfl (pop_assign rfl) ?_
          refine dn ?_
          refine hw_ret ?_
          refine ret_a rfl ?_
          rw [List.take_length]

/-- slices.SortFunc -/
theorem c_sort_Pick {c : Pick → Pick → Int} (hO : Go.Sort.SWO (Go.Proofs.ltOf c)) {g : FuncId} (hg : Callable Tryz.prog g) {cap : List HVal} (hc : ∀ x y, ConP Tryz.prog g (ePick x :: ePick y :: cap) (.int .i64 (c x y))) {l : List Pick} (hl : l.length ≤ 1000000) {v : Value} :
    Con Tryz.prog 85 [.raw v, .fn (.func g) [] cap] [.arr v 5 (l.map ePick)] fun x M' => ∃ l' : List Pick, x = .tup [] ∧ l'.Perm l ∧ l'.Pairwise (fun a b => ¬ c b a < 0) ∧ M' = [.arr v 5 (l'.map ePick)] :=
  con_sortf (e := ePick) Tryz.g85 (Tryz.isAgg55) (Tryz.sizeOf55) (fun _ => rfl) (fun _ => rfl) (fun _ => rfl) hO hg hc hl

/-- benchwarmer/benchref1.TeamsOf$1 -/
theorem c_benchref1_TeamsOf_1 {p : Pick}  : ConP Tryz.prog 84 [ePick p] (.bool (p.Player == [])) := by
  refine Con.of_body Tryz.func84 rfl Tryz.ntmps84 rfl rfl ?_
  refine hw_reg ?_
  refine dp rfl (pop_box rfl rfl) ?_
  refine dp rfl (pop_assign rfl) ?_
  refine dn ?_
  refine hw_reg ?_
  refine dp rfl (pop_fieldAddr ty55 rfl ty9 (by decide) rfl) ?_
  refine dp rfl (pop_load ty9 rfl rfl rfl) ?_
  refine dp rfl (pop_eqls rfl rfl) ?_
  refine dp rfl (pop_assign rfl) ?_
  refine dn ?_
  refine hw_ret ?_
  refine ret_p rfl ?_
  rfl

/-- benchwarmer/benchref1.TeamsOf$2 -/
theorem c_benchref1_TeamsOf_2 {a b : Pick}  : ConP Tryz.prog 86 [ePick a, ePick b] (.int .i64 (cmpI a.No b.No)) := by
  refine Con.of_body Tryz.func86 rfl Tryz.ntmps86 rfl rfl ?_
  refine hw_reg ?_
  refine dp rfl (pop_box rfl rfl) ?_
  refine dp rfl (pop_box rfl rfl) ?_
  refine dp rfl (pop_assign rfl) ?_
  refine dn ?_
  refine hw_reg ?_
  refine dp rfl (pop_fieldAddr ty55 rfl ty3 (by decide) rfl) ?_
  refine dp rfl (pop_load ty3 rfl rfl rfl) ?_
  refine dp rfl (pop_fieldAddr ty55 rfl ty3 (by decide) rfl) ?_
  refine dp rfl (pop_load ty3 rfl rfl rfl) ?_
  refine dp rfl (pop_call ca87 rfl (WeakL.refl _) c_cmp_Compare_int) ?_
  refine dp rfl (pop_assign rfl) ?_
  refine dn ?_
  refine hw_ret ?_
  refine ret_p rfl ?_
  rfl

set_option maxHeartbeats 1000000 in
/-- benchwarmer/benchref1.TeamsOf -/
theorem c_benchref1_TeamsOf {r : Room} {k : List Keep} {s : List Swap} {l : List Pick}  (hz : picksE r k s l = 0) (hk0 : k.length ≤ 1000000) (hl : s.length ≤ 1000000) (hll : l.length ≤ 1000) : ConP Tryz.prog 37 [eRoom r, eKeeps k, eSwaps s, ePicks l] (eWishes (teA r k s l)) := by
  have h := (picksE_ok hz).1
  have hro := room_ok (openFault_ok h).1
  have ht0 := hro.t0
  have ht := hro.t20
  have hr0 := hro.r1
  have hr := hro.r30
  have hlen := turns_len (r := r) (s := s) (openFault_ok h).1
  have hol : (open1 r k s).length ≤ 600 := by unfold open1; rw [openFrom_len]; exact hlen
  have hfl : (freeP r k s).length ≤ 600 := Nat.le_trans (List.length_filter_le _ _) hol
  refine Con.of_body Tryz.func37 rfl Tryz.ntmps37 rfl rfl ?_
  refine hw_reg ?_
  refine dp rfl (pop_box rfl rfl) ?_
  refine dp rfl (pop_assign rfl) ?_
  refine dn ?_
  refine hw_reg ?_
  refine dp rfl (pop_loadw ty28 rfl rfl rfl rfl) ?_
  refine dp rfl (pop_move rfl) ?_
  refine dp rfl (pop_move rfl) ?_
  refine de rfl (eop_calla ca83 rfl (WeakL.refl _) (c_benchref1_OpenOf_a (by first | assumption | omega | (simp; omega) | simp_all) (by first | assumption | omega | (simp; omega) | simp_all) (by first | assumption | omega | (simp; omega) | simp_all) (by first | assumption | omega | (simp; omega) | simp_all) (by first | assumption | omega | (simp; omega) | simp_all) (by first | assumption | omega | (simp; omega) | simp_all) (by first | assumption | omega | (simp; omega) | simp_all)) fun v19 => ?_)
  refine de rfl (EOp.fzi (N := []) (sz := 5) (es := ((open1 r k s).filter isP).map ePick) 0 (eop_callx (i := 0) ca82 rfl (WeakL.refl _) rfl (c_slices_DeleteFunc_api_Pick_api_Pick (l := open1 r k s) (p := fun x => x.Player == []) ca84 (fun _ => c_benchref1_TeamsOf_1) (by omega)) (by rintro _ _ ⟨u, rfl, rfl⟩; exact ⟨u, rfl, rfl, rfl⟩)) ?_)
  refine dp rfl (pop_move rfl) ?_
  refine dp rfl (pop_buildSlice (hs := [_, _]) ty154 ty36 rfl rfl (by decide) (by decide) rfl) ?_
  have hkl : ((open1 r k s).filter isP).length ≤ 600 := Nat.le_trans (List.length_filter_le _ _) hol
  refine de rfl (eop_calla ca81 rfl (WeakL.refl _) (c_concat_Pick (LL := [((open1 r k s).filter isP), l]) (by simp) (by simp; omega)) fun v23 => ?_)
  refine dp rfl (pop_assign rfl) ?_
  refine dn ?_
  refine hw_reg ?_
  refine dp rfl (pop_move rfl) ?_
  refine de rfl (eop_callx (i := 0) ca85 rfl (WeakL.refl _) rfl (c_sort_Pick (c := fun a b => cmpI a.No b.No) (swo_key _) ca86 (fun _ _ => c_benchref1_TeamsOf_2) (l := [((open1 r k s).filter isP), l].flatten) (by simp; omega)) ?_)
  rintro _ _ ⟨Y, rfl, hYp, hYs, rfl⟩
  refine dn ?_
  have hYl : Y.length ≤ 2000 := by have := hYp.length_eq; simp at this; omega
  refine hw_ghost (Ghost.fa 9 (i := 0) rfl rfl) ?_
  refine hw_reg ?_
  refine dp rfl (pop_assign rfl) ?_
  refine dn ?_
  refine hw_ghost (Ghost.arr_nil 2) ?_
  refine hw_seq ?_
  refine hw_reg ?_
  refine dp rfl ((by first | exact pop_fieldAddr ty28 rfl ty26 (by decide) rfl | exact pop_fieldAddr_raw ty28 rfl ty26 (by decide) rfl)) ?_
  refine dp rfl (pop_load ty26 rfl rfl rfl) ?_
  refine dp rfl (pop_lenm ty26 rfl) ?_
  refine dp rfl (pop_move rfl) ?_
  refine dn ?_
  refine hw_block ?_
  refine hw_loopw2 [10, 12, 13, 15, 29, 30, 31, 32, 33, 34, 35, 36, 37, 38, 39, 40, 41, 42, 43, 44, 45, 46, 47, 48, 49, 50, 51, 52, 53, 54, 55, 56, 57] (fun (j : Nat) (u : Value) => [(29, .int .i64 j), (10, .raw u)]) (fun (j : Nat) (u : Value) => [.arr u 2 (((r.Teams.take j).map fun t => (⟨t, (Y.filter fun p => p.Team == t).map (·.Player)⟩ : Wish)).map eWish)]) (fun (j : Nat) (u : Value) => j ≤ r.Teams.length ∧ (True)) (fun (j : Nat) (u : Value) => r.Teams.length - j) (0) (.slice none 0 0) ?_ ?_ ?_ ?_
  · exact ⟨Nat.zero_le _, by simp_all⟩
  · exact ⟨rfl, rfl, trivial⟩
  · exact perm_eq (by simp)
  · intro j u hinv
    obtain ⟨hj, -⟩ := hinv
    refine hw_reg ?_
    refine dp rfl (pop_lss rfl rfl) ?_
    refine dn ?_
    refine hw_seq ?_
    refine hw_cond rfl (fun h1 => ?_) (fun h2 => ?_)
    · try simp at h1
      obtain ⟨x, hx⟩ : ∃ x, r.Teams[j]? = some x := ⟨_, List.getElem?_eq_getElem h1⟩
      have hdx := drop_cons hx
      refine hw_skip ?_
      refine seqQ_n ?_
      refine hw_seq ?_
      refine hw_block ?_
      refine hw_reg ?_
      refine dp rfl (pop_idx ty26 ty9 rfl rfl rfl (by first | assumption | simp_all)) ?_
      refine dp rfl (pop_load ty9 rfl rfl rfl) ?_
      refine dp rfl (pop_assign rfl) ?_
      refine dn ?_
      refine hw_reg ?_
      refine dp rfl (pop_move rfl) ?_
      refine dp rfl (pop_build (cs := [_, _]) ty78 pl78 rfl) ?_
      refine de rfl (eop_alloc ty78 rfl fun b13 => ?_)
      first
      | refine de0 (eop_store (i := 0) ty78 rfl rfl rfl rfl rfl (Nat.le_of_ble_eq_true rfl) ?_)
      | refine de0 (eop_store (i := 1) ty78 rfl rfl rfl rfl rfl (Nat.le_of_ble_eq_true rfl) ?_)
      | refine de0 (eop_store (i := 2) ty78 rfl rfl rfl rfl rfl (Nat.le_of_ble_eq_true rfl) ?_)
      | refine de0 (eop_store (i := 3) ty78 rfl rfl rfl rfl rfl (Nat.le_of_ble_eq_true rfl) ?_)
      refine dn ?_
      refine hw_ghost (Ghost.arr_nil 1) ?_
      refine hw_seq ?_
      refine hw_reg ?_
      refine dp rfl (pop_move rfl) ?_
      refine dp rfl (pop_lenm ty36 rfl) ?_
      refine dp rfl (pop_move rfl) ?_
      refine dn ?_
      refine hw_block ?_
      refine hw_loopw2 [15, 37, 38, 39, 40, 41, 42, 43, 44, 45, 46, 47, 48, 49, 50, 51, 52] (fun (n : Nat) (v : Value) => [(37, .int .i64 n)]) (fun (n : Nat) (v : Value) => [.arr v 1 ((((Y.take n).filter fun p => p.Team == x).map (·.Player)).map .str), .cells b13 [.str x, .raw v], .arr u 2 (((r.Teams.take j).map fun t => (⟨t, (Y.filter fun p => p.Team == t).map (·.Player)⟩ : Wish)).map eWish)]) (fun (n : Nat) (v : Value) => n ≤ Y.length ∧ (True)) (fun (n : Nat) (v : Value) => Y.length - n) (0) (.slice none 0 0) ?_ ?_ ?_ ?_
      · exact ⟨Nat.zero_le _, trivial⟩
      · exact ⟨rfl, trivial⟩
      · exact perm_eq (by first | (simp; done) | (simp; rfl))
      · intro n v hinv
        obtain ⟨hn, -⟩ := hinv
        refine hw_reg ?_
        refine dp rfl (pop_lss rfl rfl) ?_
        refine dn ?_
        refine hw_seq ?_
        refine hw_cond rfl (fun h3 => ?_) (fun h4 => ?_)
        · try simp at h3
          obtain ⟨y, hy⟩ : ∃ y, Y[n]? = some y := ⟨_, List.getElem?_eq_getElem h3⟩
          have hdy := drop_cons hy
          refine hw_skip ?_
          refine seqQ_n ?_
          refine hw_seq ?_
          refine hw_block ?_
          refine hw_reg ?_
          refine dp rfl (pop_idx ty36 ty55 rfl rfl rfl (by first | assumption | simp_all)) ?_
          refine dp rfl (pop_loadw ty55 rfl rfl rfl rfl) ?_
          refine de rfl (eop_alloc ty55 rfl fun b15 => ?_)
          refine de0 (eop_storew ty55 rfl rfl rfl rfl rfl ?_)
          refine dn ?_
          refine hw_ghost (Ghost.fc0 15 rfl) ?_
          refine hw_reg ?_
          refine dp rfl ((by first | exact pop_fieldAddr ty55 rfl ty9 (by decide) rfl | exact pop_fieldAddr_raw ty55 rfl ty9 (by decide) rfl)) ?_
          refine dp rfl (pop_load ty9 rfl rfl rfl) ?_
          refine dp rfl (pop_move rfl) ?_
          refine dp rfl (pop_eqls rfl rfl) ?_
          refine dn ?_
          refine hw_cond rfl (fun h5 => ?_) (fun h6 => ?_)
          · try simp at h5
            refine hw_reg1 ?_
            refine dp rfl (pop_fieldAddr_raw ty78 rfl ty26 (by decide) rfl) ?_
            first
            | refine de rfl (eop_load (i := 0) ty26 rfl rfl (.inl ⟨rfl, rfl⟩) ?_)
            | refine de rfl (eop_load (i := 1) ty26 rfl rfl (.inl ⟨rfl, rfl⟩) ?_)
            | refine de rfl (eop_load (i := 2) ty26 rfl rfl (.inl ⟨rfl, rfl⟩) ?_)
            | refine de rfl (eop_load (i := 3) ty26 rfl rfl (.inl ⟨rfl, rfl⟩) ?_)
            refine dp rfl ((by first | exact pop_fieldAddr ty55 rfl ty9 (by decide) rfl | exact pop_fieldAddr_raw ty55 rfl ty9 (by decide) rfl)) ?_
            refine dp rfl (pop_load ty9 rfl rfl rfl) ?_
            refine dp rfl (pop_buildSlice (hs := [_]) ty26 ty9 rfl rfl (by decide) (by decide) rfl) ?_
            refine de rfl (eop_append (i := 0) ty26 ty9 rfl rfl rfl rfl rfl (by simp [flat, hcells]) (by have h1 := List.length_filter_le (fun p : Pick => p.Team == x) (Y.take n); have h2 : (Y.take n).length ≤ Y.length := (by rw [List.length_take]; omega); simp only [List.length_map, List.length_cons, List.length_nil]; omega) fun v50 => ?_)
            refine dp rfl (pop_fieldAddr_raw ty78 rfl ty26 (by decide) rfl) ?_
            first
            | refine de0 (eop_store (i := 0) ty26 rfl rfl rfl rfl rfl (Nat.le_of_ble_eq_true rfl) ?_)
            | refine de0 (eop_store (i := 1) ty26 rfl rfl rfl rfl rfl (Nat.le_of_ble_eq_true rfl) ?_)
            | refine de0 (eop_store (i := 2) ty26 rfl rfl rfl rfl rfl (Nat.le_of_ble_eq_true rfl) ?_)
            | refine de0 (eop_store (i := 3) ty26 rfl rfl rfl rfl rfl (Nat.le_of_ble_eq_true rfl) ?_)
            refine dn ?_
            refine blockQ_n ?_
            refine seqQ_n ?_
            refine hw_reg1 ?_
            refine dp rfl (pop_add64 rfl rfl (by omega) (by omega)) ?_
            refine dp rfl (pop_move rfl) ?_
            refine dn ?_
            exact ⟨n + 1, v50, ⟨by omega, trivial⟩, by dsimp only; omega, ⟨rfl, trivial⟩, (by repeat (first | exact keeps_refl | refine keeps_upd rfl ?_ | refine keeps_loop rfl rfl ?_)), perm_eq (by dsimp only; rw [filter_snoc1 _ hy, if_pos (by simpa using h5)]; simp [setL, hcells])⟩
          · try simp at h6
            refine hw_skip ?_
            refine blockQ_n ?_
            refine seqQ_n ?_
            refine hw_reg1 ?_
            refine dp rfl (pop_add64 rfl rfl (by omega) (by omega)) ?_
            refine dp rfl (pop_move rfl) ?_
            refine dn ?_
            exact ⟨n + 1, v, ⟨by omega, trivial⟩, by dsimp only; omega, ⟨rfl, trivial⟩, (by repeat (first | exact keeps_refl | refine keeps_upd rfl ?_ | refine keeps_loop rfl rfl ?_)), perm_eq (by dsimp only; rw [filter_snoc1 _ hy, if_neg (by simpa using h6)]; simp)⟩
        · try simp at h4
          have hnn : Y.length ≤ n := by omega
          obtain rfl : n = Y.length := by omega
          refine hw_exit ?_
          refine seqQ_x ?_
          refine loopQ2_x ?_
          refine blockQ_eq ?_
          refine seqQ_n ?_
          refine hw_ghost (Ghost.fcell (i := 0) (k := 0) (j := 1) rfl rfl rfl) ?_
          refine hw_ghost (Ghost.of_eq (M' := [.cells b13 (hcells (eWish ⟨x, ((Y.take Y.length).filter fun p => p.Team == x).map (·.Player)⟩)), .arr u 2 (((r.Teams.take j).map fun t => (⟨t, (Y.filter fun p => p.Team == t).map (·.Player)⟩ : Wish)).map eWish)]) rfl) ?_
          refine hw_ghost (Ghost.fc 13 (i := 0) rfl rfl) ?_
          refine hw_reg1 ?_
          refine dp rfl (pop_move rfl) ?_
          refine dp rfl (pop_loadw ty78 rfl rfl rfl rfl) ?_
          refine dp rfl (pop_buildSlice (hs := [_]) ty34 ty78 rfl rfl (by decide) (by decide) rfl) ?_
          refine de rfl (eop_append (i := 0) ty34 ty78 rfl rfl rfl rfl rfl (by simp [flat, hcells]) (by simp; omega) fun v56 => ?_)
          refine dp rfl (pop_assign rfl) ?_
          refine dn ?_
          refine blockQ_n ?_
          refine seqQ_n ?_
          refine hw_reg1 ?_
          refine dp rfl (pop_add64 rfl rfl (by omega) (by omega)) ?_
          refine dp rfl (pop_move rfl) ?_
          refine dn ?_
          exact ⟨j + 1, v56, ⟨by omega, trivial⟩, by dsimp only; omega, ⟨rfl, rfl, trivial⟩, (by repeat (first | exact keeps_refl | refine keeps_upd rfl ?_ | refine keeps_loop rfl rfl ?_)), perm_eq (by simp [List.take_add_one, hx])⟩
    · try simp at h2
      have hnj : r.Teams.length ≤ j := by omega
      obtain rfl : j = r.Teams.length := by omega
      refine hw_exit ?_
      refine seqQ_x ?_
      refine loopQ2_x ?_
      refine blockQ_eq ?_
      refine seqQ_n ?_
      refine hw_reg ?_
      refine dp rfl (pop_move rfl) ?_
      refine dp rfl (pop_assign rfl) ?_
      refine dn ?_
      refine hw_ret ?_
      refine ret_fa (M := []) 8 rfl rfl ?_
      rw [← teams_ref hz (by simpa using hYp) (hYs.imp fun {a b} q => cmp_no q), List.take_length]; rfl

/-- benchwarmer/benchref1.SameWishes -/
theorem c_benchref1_SameWishes {a b : Wish} (hp : a.Players.length ≤ 1000000) : ConP Tryz.prog 38 [eWish a, eWish b] (.bool (sameW a b)) := by
  refine Con.of_body Tryz.func38 rfl Tryz.ntmps38 rfl rfl ?_
  refine hw_reg ?_
  refine dp rfl (pop_box rfl rfl) ?_
  refine dp rfl (pop_box rfl rfl) ?_
  refine dp rfl (pop_assign rfl) ?_
  refine dn ?_
  refine hw_reg ?_
  refine dp rfl (pop_fieldAddr ty78 rfl ty9 (by decide) rfl) ?_
  refine dp rfl (pop_load ty9 rfl rfl rfl) ?_
  refine dp rfl (pop_fieldAddr ty78 rfl ty9 (by decide) rfl) ?_
  refine dp rfl (pop_load ty9 rfl rfl rfl) ?_
  refine dp rfl (pop_eqls rfl rfl) ?_
  refine dp rfl (pop_move rfl) ?_
  refine dg rfl rfl (fun hc => ⟨_, OpenTo.refl _, pop_fieldAddr ty78 rfl ty26 (by decide) rfl⟩) ?_
  refine dg rfl rfl (fun hc => ⟨_, OpenTo.upd (t := 11) rfl (by first | exact hc | simp_all) (OpenTo.refl _), pop_load ty26 rfl rfl rfl⟩) ?_
  refine dg rfl rfl (fun hc => ⟨_, OpenTo.refl _, pop_fieldAddr ty78 rfl ty26 (by decide) rfl⟩) ?_
  refine dg rfl rfl (fun hc => ⟨_, OpenTo.upd (t := 13) rfl (by first | exact hc | simp_all) (OpenTo.refl _), pop_load ty26 rfl rfl rfl⟩) ?_
  refine dg rfl rfl (fun hc => by have hq := hc; (try simp at hq); exact ⟨_, OpenTo.upd (t := 14) rfl (by first | exact hc | simp_all) (OpenTo.upd (t := 12) rfl (by first | exact hc | simp_all) (OpenTo.refl _)), pop_call ca34 rfl (WeakL.refl _) (c_slices_Equal_string_string (by first | assumption | omega | (simp; omega) | simp_all))⟩) ?_
  refine dp rfl (pop_picko rfl (.inr ⟨_, rfl, fun h => by simp_all⟩) (.inl rfl)) ?_
  refine dp rfl (pop_assign rfl) ?_
  refine dn ?_
  refine hw_ret ?_
  refine ret_p rfl ?_
  show HVal.bool _ = _
  unfold sameW
  cases a.Team == b.Team <;> rfl

/-- slices.EqualFunc[[]benchwarmer/api.Wishes,[]benchwarmer/api.Wishes,benchwarmer/api.Wishes,benchwarmer/api.Wishes] -/
theorem c_EqualFunc_Wishes {l m : List Wish} (hl : l.length ≤ 1000000) (hp : ∀ y ∈ l, y.Players.length ≤ 1000000) : ConP Tryz.prog 36 [eWishes l, eWishes m, .fn (.func 38) [] []] (.bool (sameWs l m)) := by
  refine Con.of_body Tryz.func36 rfl Tryz.ntmps36 rfl rfl ?_
  refine hw_reg ?_
  refine dp rfl (pop_assign rfl) ?_
  refine dn ?_
  refine hw_seq ?_
  refine hw_reg ?_
  refine dp rfl (pop_move rfl) ?_
  refine dp rfl (pop_lenm ty34 rfl) ?_
  refine dp rfl (pop_move rfl) ?_
  refine dp rfl (pop_lenm ty34 rfl) ?_
  refine dp rfl (pop_neq rfl rfl) ?_
  refine dn ?_
  refine hw_cond rfl (fun h1 => ?_) (fun h2 => ?_)
  · try simp at h1
    refine hw_reg ?_
    refine dp rfl (pop_assign rfl) ?_
    refine dn ?_
    refine hw_ret ?_
    refine ret_p rfl ?_
    show HVal.bool _ = _
    first | (congr 1; symm; exact sameWs_len (by omega)) | (rw [hg.2, sameWs, show sameW x y = false by simpa using h5]; rfl) | (rw [hg.2, drop_all (Nat.le_of_eq hg.1.symm)]; rfl)
  · try simp at h2
    refine hw_skip ?_
    refine seqQ_n ?_
    refine hw_seq ?_
    refine hw_reg ?_
    refine dp rfl (pop_move rfl) ?_
    refine dp rfl (pop_lenm ty34 rfl) ?_
    refine dp rfl (pop_move rfl) ?_
    refine dn ?_
    refine hw_block ?_
    refine hw_loopw [6, 7, 8, 9, 17, 18, 19, 20, 21, 22, 23, 24, 25, 26, 27, 28, 29, 30, 31] (fun (k : Nat) => [(17, .int .i64 k)]) (fun (k : Nat) => []) (fun (k : Nat) => k ≤ l.length ∧ (l.length = m.length ∧ sameWs l m = sameWs (l.drop k) (m.drop k))) (fun (k : Nat) => l.length - k) (0) ?_ ?_ ?_ ?_
    · refine ⟨Nat.zero_le _, ?_, rfl⟩
      omega
    · exact ⟨rfl, trivial⟩
    · exact List.Perm.refl _
    · intro k hinv
      obtain ⟨hk, hg⟩ := hinv
      refine hw_reg ?_
      refine dp rfl (pop_lss rfl rfl) ?_
      refine dn ?_
      refine hw_seq ?_
      refine hw_cond rfl (fun h3 => ?_) (fun h4 => ?_)
      · try simp at h3
        obtain ⟨x, hx⟩ : ∃ x, l[k]? = some x := ⟨_, List.getElem?_eq_getElem h3⟩
        have hdx := drop_cons hx
        obtain ⟨y, hy⟩ : ∃ y, m[k]? = some y := ⟨_, List.getElem?_eq_getElem (by omega)⟩
        rw [hdx, drop_cons hy] at hg
        refine hw_skip ?_
        refine seqQ_n ?_
        refine hw_seq ?_
        refine hw_block ?_
        refine hw_reg ?_
        refine dp rfl (pop_move rfl) ?_
        refine dp rfl (pop_idx ty34 ty78 rfl rfl rfl (by first | assumption | simp_all)) ?_
        refine dp rfl (pop_loadw ty78 rfl rfl rfl rfl) ?_
        refine de rfl (eop_alloc ty78 rfl fun b8 => ?_)
        refine dp rfl (pop_assign rfl) ?_
        refine de0 (eop_storew ty78 rfl rfl rfl rfl rfl ?_)
        refine dn ?_
        refine hw_ghost (Ghost.fc0 8 rfl) ?_
        refine hw_reg ?_
        refine dp rfl (pop_move rfl) ?_
        refine dp rfl (pop_move rfl) ?_
        refine dp rfl (pop_idx (j := k) (a := y) ty34 ty78 rfl rfl rfl hy) ?_
        refine dp rfl (pop_loadw ty78 rfl rfl rfl rfl) ?_
        refine de rfl (eop_alloc ty78 rfl fun b9 => ?_)
        refine de0 (eop_storew ty78 rfl rfl rfl rfl rfl ?_)
        refine dn ?_
        refine hw_ghost (Ghost.fc0 9 rfl) ?_
        refine hw_reg ?_
        refine dp rfl (pop_move rfl) ?_
        refine dp rfl (pop_loadw ty78 rfl rfl rfl rfl) ?_
        refine dp rfl (pop_loadw ty78 rfl rfl rfl rfl) ?_
        refine dp rfl (pop_callv ca38 rfl rfl (WeakL.refl _) (c_benchref1_SameWishes (hp x (List.mem_of_getElem? hx)))) ?_
        refine dp rfl (pop_not rfl) ?_
        refine dn ?_
        refine hw_cond rfl (fun h5 => ?_) (fun h6 => ?_)
        · try simp at h5
          refine hw_reg ?_
          refine dp rfl (pop_assign rfl) ?_
          refine dn ?_
          refine hw_ret ?_
          refine ret_p rfl ?_
          show HVal.bool _ = _
          first | (congr 1; symm; exact sameWs_len (by omega)) | (rw [hg.2, sameWs, show sameW x y = false by simpa using h5]; rfl) | (rw [hg.2, drop_all (Nat.le_of_eq hg.1.symm)]; rfl)
        · try simp at h6
          refine hw_skip ?_
          refine blockQ_n ?_
          refine seqQ_n ?_
          refine hw_reg1 ?_
          refine dp rfl (pop_add64 rfl rfl (by omega) (by omega)) ?_
          refine dp rfl (pop_move rfl) ?_
          refine dn ?_
          refine ⟨k + 1, ?_, ?_, ⟨rfl, trivial⟩, (by repeat (first | exact keeps_refl | refine keeps_upd rfl ?_ | refine keeps_loop rfl rfl ?_)), List.Perm.refl _⟩
          · refine ⟨by omega, hg.1, ?_⟩
            rw [hg.2, sameWs, show sameW x y = true by simpa using h6]; rfl
          · dsimp only; omega
      · try simp at h4
        have hnk : l.length ≤ k := by omega
        obtain rfl : k = l.length := by omega
        rw [drop_all (Nat.le_refl _)] at hg
        refine hw_exit ?_
        refine seqQ_x ?_
        refine loopQ_x ?_
        refine blockQ_eq ?_
        refine seqQ_n ?_
        refine hw_reg ?_
        refine dp rfl (pop_assign rfl) ?_
        refine dn ?_
        refine hw_ret ?_
        refine ret_p rfl ?_
        show HVal.bool _ = _
        first | (congr 1; symm; exact sameWs_len (by omega)) | (rw [hg.2, sameWs, show sameW x y = false by simpa using h5]; rfl) | (rw [hg.2, drop_all (Nat.le_of_eq hg.1.symm)]; rfl)
end Go.Proofs.YtoomadfbldcioaaGreatDoor
end
section
namespace Go.Proofs.YtoomadfbldcioaaGreatDoor
open Go.HL
set_option maxRecDepth 100000
set_option linter.unusedVariables false
set_option linter.unusedSimpArgs false
/-- benchwarmer/benchlaw1.drafted -/
theorem c_benchlaw1_drafted   : ConP Tryz.prog 23 [] (.bool true) := by
  refine Con.of_body Tryz.func23 rfl Tryz.ntmps23 rfl rfl ?_
  refine hw_reg ?_
  refine dp rfl (pop_assign rfl) ?_
  refine dn ?_
  refine hw_reg ?_
  refine dp rfl (pop_buildSlice (hs := [_, _]) ty26 ty9 rfl rfl (by decide) (by decide) rfl) ?_
  refine dp rfl (pop_buildSlice (hs := [_, _, _, _]) ty26 ty9 rfl rfl (by decide) (by decide) rfl) ?_
  refine dp rfl (pop_build (cs := [_, _, _, _, _, _]) ty28 pl28 rfl) ?_
  refine de rfl (eop_alloc ty28 rfl fun b1 => ?_)
  refine de0 (eop_storew ty28 rfl rfl rfl rfl rfl ?_)
  refine dn ?_
  refine hw_ghost (Ghost.fc0 1 rfl) ?_
  refine hw_reg ?_
  refine dp rfl (pop_loadw ty28 rfl rfl rfl rfl) ?_
  refine dp rfl (pop_call (hs' := [eRoom room1, eSwaps []]) ca71 rfl ⟨Weak.refl _, weak_nil 3, trivial⟩ (c_draft_Turns (r := room1) (s := []) (by decide) (by decide) (by decide))) ?_
  refine dp rfl (pop_move rfl) ?_
  refine dp rfl (pop_extract rfl rfl) ?_
  refine dp rfl (pop_extract rfl rfl) ?_
  refine dp rfl (pop_assign rfl) ?_
  refine dp rfl (pop_assign rfl) ?_
  refine dn ?_
  refine hw_reg ?_
  refine dp rfl (pop_move rfl) ?_
  refine dp rfl (pop_eql rfl rfl) ?_
  refine dp rfl (pop_move rfl) ?_
  refine dg rfl rfl (fun hc => ⟨_, OpenTo.refl _, pop_move rfl⟩) ?_
  refine dg rfl rfl (fun hc => ⟨_, OpenTo.refl _, pop_buildSlice (hs := [_, _, _, _]) ty26 ty9 rfl rfl (by decide) (by decide) rfl⟩) ?_
  refine dg rfl rfl (fun hc => ⟨_, OpenTo.upd (t := 16) rfl (by first | exact hc | simp_all) (OpenTo.upd (t := 15) rfl (by first | exact hc | simp_all) (OpenTo.refl _)), pop_call ca34 rfl (WeakL.refl _) (c_slices_Equal_string_string (l := turnTeams room1 []) (m := [[97], [98], [98], [97]]) (by rw [room1_turns]; decide))⟩) ?_
  refine dp rfl (pop_picko rfl (.inr ⟨_, rfl, fun h => by simp_all⟩) (.inl rfl)) ?_
  refine dp rfl (pop_assign rfl) ?_
  refine dn ?_
  refine hw_ret ?_
  refine ret_p rfl ?_
  rw [room1_turns, room1_ok]
  rfl

theorem w_NextOf {r : Room} {k : List Keep} {s : List Swap} {l : List Pick}  (ht : r.Teams.length ≤ 1000000) (hp : r.Players.length ≤ 1000000) (hk0 : k.length ≤ 1000000) (hl : s.length ≤ 1000000) (hll : l.length ≤ 1000) (e : picksE r k s l = 0) : ConP Tryz.prog 32 [eRoom r, eKeeps k, eSwaps s, ePicks l] (.tup [ePick (nxA r k s l), .bool (nxB r k s l)]) := by
  obtain ⟨e3, e4, _⟩ := picksE_ok e
  rw [(nx_ref e).1, (nx_ref e).2]
  exact c_benchref1_NextOf e3 hk0 hl e4
theorem w_DueOf {r : Room} {k : List Keep} {s : List Swap} {l : List Pick}  (ht : r.Teams.length ≤ 1000000) (hp : r.Players.length ≤ 1000000) (hk0 : k.length ≤ 1000000) (hl : s.length ≤ 1000000) (hll : l.length ≤ 1000) (e : picksE r k s l = 0) : ConP Tryz.prog 33 [eRoom r, eKeeps k, eSwaps s, ePicks l] (.int .i64 (dueN r k s l)) := by
  obtain ⟨e3, e4, _⟩ := picksE_ok e
  exact c_benchref1_DueOf e3 hk0 hl e4 (last_moment e)
theorem w_LeftOf {r : Room} {k : List Keep} {s : List Swap} {l : List Pick}  (ht : r.Teams.length ≤ 1000000) (hp : r.Players.length ≤ 1000000) (hk0 : k.length ≤ 1000000) (hl : s.length ≤ 1000000) (hll : l.length ≤ 1000) (e : picksE r k s l = 0) : ConP Tryz.prog 35 [eRoom r, eKeeps k, ePicks l] (eSs (leA r k s l)) := by
  rw [le_ref e]; exact c_benchref1_LeftOf hp hk0 (by omega)
theorem w_TeamsOf {r : Room} {k : List Keep} {s : List Swap} {l : List Pick}  (ht : r.Teams.length ≤ 1000000) (hp : r.Players.length ≤ 1000000) (hk0 : k.length ≤ 1000000) (hl : s.length ≤ 1000000) (hll : l.length ≤ 1000) (e : picksE r k s l = 0) : ConP Tryz.prog 37 [eRoom r, eKeeps k, eSwaps s, ePicks l] (eWishes (teA r k s l)) := c_benchref1_TeamsOf e hk0 hl hll


set_option maxHeartbeats 2000000 in
/-- benchwarmer/benchlaw1.PicksMade -/
theorem c_benchlaw1_PicksMade {l : List Int}  : ConP Tryz.prog 4 [.slice 1 (l.map (.int .i64))] (.bool true) := by
  refine Con.of_body Tryz.func4 rfl Tryz.ntmps4 rfl rfl ?_
  refine hw_reg ?_
  refine dp rfl (pop_assign rfl) ?_
  refine dn ?_
  refine hw_reg ?_
  refine dp rfl (pop_move rfl) ?_
  refine dp rfl (pop_build (cs := [_, _]) ty25 pl25 rfl) ?_
  refine de rfl (eop_box rfl rfl fun b => ?_)
  refine dghost (M' := [St b l 0]) rfl ?_
  refine dp rfl (pop_assign rfl) ?_
  refine dn ?_
  refine hw_reg ?_
  refine dp rfl (pop_move rfl) ?_
  first
  | refine de rfl (eop_callx (i := 0) ca5 rfl (WeakL.refl _) rfl (c_benchmake_Stream_RoomOf (by first | assumption | omega | (simp; omega) | simp_all)) ?_)
  | refine de rfl (eop_callx (i := 1) ca5 rfl (WeakL.refl _) rfl (c_benchmake_Stream_RoomOf (by first | assumption | omega | (simp; omega) | simp_all)) ?_)
  | refine de rfl (eop_callx (i := 2) ca5 rfl (WeakL.refl _) rfl (c_benchmake_Stream_RoomOf (by first | assumption | omega | (simp; omega) | simp_all)) ?_)
  | refine de rfl (eop_callx (i := 3) ca5 rfl (WeakL.refl _) rfl (c_benchmake_Stream_RoomOf (by first | assumption | omega | (simp; omega) | simp_all)) ?_)
  rintro _ _ ⟨r26, a26, rfl, hr26, ha26, rfl⟩
  refine de rfl (eop_alloc ty28 rfl fun b4 => ?_)
  refine de0 (eop_storew ty28 rfl rfl rfl rfl rfl ?_)
  refine dn ?_
  refine hw_ghost (Ghost.fc0 4 rfl) ?_
  refine hw_draw (fun _ => True) [] mixed ?_
  refine ahp 0 rfl rfl (by kernel_rfl) (by kernel_rfl) (pop_move rfl) ?_
  refine ahp 1 rfl rfl (by kernel_rfl) (by kernel_rfl) (pop_loadw ty28 rfl rfl rfl rfl) ?_
  refine ahp 3 rfl rfl (by kernel_rfl) (by kernel_rfl) (pop_move rfl) ?_
  refine ahp 4 rfl rfl (by kernel_rfl) (by kernel_rfl) (pop_loadw ty28 rfl rfl rfl rfl) ?_
  refine ahe 2 rfl (by kernel_rfl) ?_
  first
  | refine hop_e rfl (eop_callx (i := 0) ca6 rfl (WeakL.refl _) rfl (c_benchmake_Stream_KeepList (by first | assumption | omega | (simp; omega) | simp_all) (by first | assumption | omega | (simp; omega) | simp_all)) ?_)
  | refine hop_e rfl (eop_callx (i := 1) ca6 rfl (WeakL.refl _) rfl (c_benchmake_Stream_KeepList (by first | assumption | omega | (simp; omega) | simp_all) (by first | assumption | omega | (simp; omega) | simp_all)) ?_)
  | refine hop_e rfl (eop_callx (i := 2) ca6 rfl (WeakL.refl _) rfl (c_benchmake_Stream_KeepList (by first | assumption | omega | (simp; omega) | simp_all) (by first | assumption | omega | (simp; omega) | simp_all)) ?_)
  | refine hop_e rfl (eop_callx (i := 3) ca6 rfl (WeakL.refl _) rfl (c_benchmake_Stream_KeepList (by first | assumption | omega | (simp; omega) | simp_all) (by first | assumption | omega | (simp; omega) | simp_all)) ?_)
  rintro _ _ ⟨k29, a29, rfl, hk29, ha29, rfl⟩
  refine ⟨fun _ => .inl trivial, ?_⟩
  refine ahe 5 rfl (by kernel_rfl) ?_
  first
  | refine hop_e rfl (eop_callx (i := 0) ca7 rfl (WeakL.refl _) rfl (c_benchmake_Stream_SwapList (by first | assumption | omega | (simp; omega) | simp_all) (by first | assumption | omega | (simp; omega) | simp_all)) ?_)
  | refine hop_e rfl (eop_callx (i := 1) ca7 rfl (WeakL.refl _) rfl (c_benchmake_Stream_SwapList (by first | assumption | omega | (simp; omega) | simp_all) (by first | assumption | omega | (simp; omega) | simp_all)) ?_)
  | refine hop_e rfl (eop_callx (i := 2) ca7 rfl (WeakL.refl _) rfl (c_benchmake_Stream_SwapList (by first | assumption | omega | (simp; omega) | simp_all) (by first | assumption | omega | (simp; omega) | simp_all)) ?_)
  | refine hop_e rfl (eop_callx (i := 3) ca7 rfl (WeakL.refl _) rfl (c_benchmake_Stream_SwapList (by first | assumption | omega | (simp; omega) | simp_all) (by first | assumption | omega | (simp; omega) | simp_all)) ?_)
  rintro _ _ ⟨k32, a32, rfl, hk32, ha32, rfl⟩
  refine ⟨fun _ => .inl trivial, ?_⟩
  refine ahp 6 rfl rfl (by kernel_rfl) (by kernel_rfl) (pop_assign rfl) ?_
  refine ahp 7 rfl rfl (by kernel_rfl) (by kernel_rfl) (pop_assign rfl) ?_
  refine ahz (by kernel_rfl) ?_
  have ht1 : r26.Teams.length ≤ 1000000 := Nat.le_trans hr26.t4 (by omega)
  have hp1 : r26.Players.length ≤ 1000000 := Nat.le_trans hr26.p20 (by omega)
  have hk1 : k29.length ≤ 1000000 := Nat.le_trans hk29.len (by omega)
  have hk2 : k32.length ≤ 1000000 := Nat.le_trans hk32.len (by omega)
  refine hw_reg ?_
  refine dp rfl (pop_move rfl) ?_
  refine dp rfl (pop_loadw ty28 rfl rfl rfl rfl) ?_
  refine dp rfl (pop_move rfl) ?_
  refine dp rfl (pop_move rfl) ?_
  first
  | refine de rfl (eop_callx (i := 0) ca9 rfl (WeakL.refl _) rfl (c_benchmake_Stream_PickList (by first | assumption | omega | (simp; omega) | simp_all) (by first | assumption | omega | (simp; omega) | simp_all) (by first | assumption | omega | (simp; omega) | simp_all) (by first | assumption | omega | (simp; omega) | simp_all)) ?_)
  | refine de rfl (eop_callx (i := 1) ca9 rfl (WeakL.refl _) rfl (c_benchmake_Stream_PickList (by first | assumption | omega | (simp; omega) | simp_all) (by first | assumption | omega | (simp; omega) | simp_all) (by first | assumption | omega | (simp; omega) | simp_all) (by first | assumption | omega | (simp; omega) | simp_all)) ?_)
  | refine de rfl (eop_callx (i := 2) ca9 rfl (WeakL.refl _) rfl (c_benchmake_Stream_PickList (by first | assumption | omega | (simp; omega) | simp_all) (by first | assumption | omega | (simp; omega) | simp_all) (by first | assumption | omega | (simp; omega) | simp_all) (by first | assumption | omega | (simp; omega) | simp_all)) ?_)
  | refine de rfl (eop_callx (i := 3) ca9 rfl (WeakL.refl _) rfl (c_benchmake_Stream_PickList (by first | assumption | omega | (simp; omega) | simp_all) (by first | assumption | omega | (simp; omega) | simp_all) (by first | assumption | omega | (simp; omega) | simp_all) (by first | assumption | omega | (simp; omega) | simp_all)) ?_)
  rintro _ _ ⟨p37, a37, rfl, hp37, ha37, rfl⟩
  refine dp rfl (pop_assign rfl) ?_
  refine dn ?_
  have hl1 : p37.length ≤ 1000 := Nat.le_trans hp37.len (by omega)
  refine hw_reg ?_
  refine dp rfl (pop_loadw ty28 rfl rfl rfl rfl) ?_
  refine dp rfl (pop_move rfl) ?_
  refine dp rfl (pop_move rfl) ?_
  refine dp rfl (pop_move rfl) ?_
  refine dp rfl (pop_call ca15 rfl (WeakL.refl _) (c_benchref1_PicksFault ht1 hp1 hk1 hk2 hr26.ts hr26.ps hl1)) ?_
  refine dp rfl (pop_assign rfl) ?_
  refine dn ?_
  refine hw_seq ?_
  refine hw_reg ?_
  refine dp rfl (pop_loadw ty28 rfl rfl rfl rfl) ?_
  refine dp rfl (pop_move rfl) ?_
  refine dp rfl (pop_move rfl) ?_
  refine dp rfl (pop_move rfl) ?_
  refine dp rfl (pop_call ca27 rfl (WeakL.refl _) (c_draft_CheckPicks ht1 hp1 hk1 hk2 hl1)) ?_
  refine dp rfl (pop_move rfl) ?_
  refine dp rfl (pop_neq rfl rfl) ?_
  refine dn ?_
  refine hw_cond rfl (fun h1 => ?_) (fun h1 => ?_)
  · exfalso
    try simp at h1
    done
  · try simp at h1
    refine hw_skip ?_
    refine seqQ_n ?_
    refine hw_reg ?_
    refine dp rfl (pop_loadw ty28 rfl rfl rfl rfl) ?_
    refine dp rfl (pop_move rfl) ?_
    refine dp rfl (pop_move rfl) ?_
    refine dp rfl (pop_move rfl) ?_
    refine dp rfl (pop_call ca28 rfl (WeakL.refl _) (c_draft_Next ht1 hp1 hk1 hk2 hl1)) ?_
    refine dp rfl (pop_move rfl) ?_
    refine dp rfl (pop_extract rfl rfl) ?_
    refine dp rfl (pop_extract rfl rfl) ?_
    refine dp rfl (pop_extract rfl rfl) ?_
    refine de rfl (eop_alloc ty55 rfl fun b9 => ?_)
    refine de0 (eop_storew ty55 rfl rfl rfl rfl rfl ?_)
    refine dp rfl (pop_assign rfl) ?_
    refine dp rfl (pop_assign rfl) ?_
    refine dn ?_
    refine hw_ghost (Ghost.fc0 9 rfl) ?_
    refine hw_reg ?_
    refine dp rfl (pop_loadw ty28 rfl rfl rfl rfl) ?_
    refine dp rfl (pop_move rfl) ?_
    refine dp rfl (pop_move rfl) ?_
    refine dp rfl (pop_move rfl) ?_
    refine dp rfl (pop_call ca29 rfl (WeakL.refl _) (c_draft_Due ht1 hp1 hk1 hk2 hl1)) ?_
    refine dp rfl (pop_move rfl) ?_
    refine dp rfl (pop_extract rfl rfl) ?_
    refine dp rfl (pop_extract rfl rfl) ?_
    refine dp rfl (pop_extract rfl rfl) ?_
    refine dp rfl (pop_assign rfl) ?_
    refine dp rfl (pop_assign rfl) ?_
    refine dp rfl (pop_assign rfl) ?_
    refine dn ?_
    refine hw_reg ?_
    refine dp rfl (pop_loadw ty28 rfl rfl rfl rfl) ?_
    refine dp rfl (pop_move rfl) ?_
    refine dp rfl (pop_move rfl) ?_
    refine dp rfl (pop_move rfl) ?_
    refine dp rfl (pop_call ca30 rfl (WeakL.refl _) (c_draft_Left ht1 hp1 hk1 hk2 hl1)) ?_
    refine dp rfl (pop_move rfl) ?_
    refine dp rfl (pop_extract rfl rfl) ?_
    refine dp rfl (pop_extract rfl rfl) ?_
    refine dp rfl (pop_assign rfl) ?_
    refine dp rfl (pop_assign rfl) ?_
    refine dn ?_
    refine hw_reg ?_
    refine dp rfl (pop_loadw ty28 rfl rfl rfl rfl) ?_
    refine dp rfl (pop_move rfl) ?_
    refine dp rfl (pop_move rfl) ?_
    refine dp rfl (pop_move rfl) ?_
    refine dp rfl (pop_call ca31 rfl (WeakL.refl _) (c_draft_Teams ht1 hp1 hk1 hk2 hl1)) ?_
    refine dp rfl (pop_move rfl) ?_
    refine dp rfl (pop_extract rfl rfl) ?_
    refine dp rfl (pop_extract rfl rfl) ?_
    refine dp rfl (pop_assign rfl) ?_
    refine dp rfl (pop_assign rfl) ?_
    refine dn ?_
    refine hw_seq ?_
    refine hw_reg ?_
    refine dp rfl (pop_move rfl) ?_
    refine dp rfl (pop_neq rfl rfl) ?_
    refine dn ?_
    refine hw_cond rfl (fun h2 => ?_) (fun h3 => ?_)
    · try simp at h2
      have hz : ¬ picksE r26 k29 k32 p37 = 0 := by assumption
      obtain ⟨q1, q2, q3, q4, q5, q6⟩ := teA_n hz
      have e1 : (leA r26 k29 k32 p37).length = 0 := by rw [q2]; rfl
      have e2 : (teA r26 k29 k32 p37).length = 0 := by rw [q1]; rfl
      refine hw_reg ?_
      refine dp rfl (pop_move rfl) ?_
      refine dp rfl (pop_move rfl) ?_
      refine dp rfl (pop_eql rfl rfl) ?_
      refine dp rfl (pop_move rfl) ?_
      refine dg rfl rfl (fun hc => ⟨_, OpenTo.refl _, pop_move rfl⟩) ?_
      refine dg rfl rfl (fun hc => ⟨_, OpenTo.refl _, pop_move rfl⟩) ?_
      refine dg rfl rfl (fun hc => ⟨_, OpenTo.upd (t := 91) rfl (by first | exact hc | simp_all) (OpenTo.upd (t := 90) rfl (by first | exact hc | simp_all) (OpenTo.refl _)), pop_eql rfl rfl⟩) ?_
      refine dp rfl (pop_picko rfl (.inr ⟨_, rfl, fun h => by simp_all⟩) (.inl rfl)) ?_
      refine dp rfl (pop_move rfl) ?_
      refine dg rfl rfl (fun hc => ⟨_, OpenTo.refl _, pop_move rfl⟩) ?_
      refine dg rfl rfl (fun hc => ⟨_, OpenTo.refl _, pop_move rfl⟩) ?_
      refine dg rfl rfl (fun hc => ⟨_, OpenTo.upd (t := 96) rfl (by first | exact hc | simp_all) (OpenTo.upd (t := 95) rfl (by first | exact hc | simp_all) (OpenTo.refl _)), pop_eql rfl rfl⟩) ?_
      refine dp rfl (pop_picko rfl (.inr ⟨_, rfl, fun h => by simp_all⟩) (.inl rfl)) ?_
      refine dp rfl (pop_move rfl) ?_
      refine dg rfl rfl (fun hc => ⟨_, OpenTo.refl _, pop_move rfl⟩) ?_
      refine dg rfl rfl (fun hc => ⟨_, OpenTo.refl _, pop_move rfl⟩) ?_
      refine dg rfl rfl (fun hc => ⟨_, OpenTo.upd (t := 101) rfl (by first | exact hc | simp_all) (OpenTo.upd (t := 100) rfl (by first | exact hc | simp_all) (OpenTo.refl _)), pop_eql rfl rfl⟩) ?_
      refine dp rfl (pop_picko rfl (.inr ⟨_, rfl, fun h => by simp_all⟩) (.inl rfl)) ?_
      refine dp rfl (pop_move rfl) ?_
      refine dg rfl rfl (fun hc => ⟨_, OpenTo.refl _, pop_move rfl⟩) ?_
      refine dg rfl rfl (fun hc => ⟨_, OpenTo.upd (t := 105) rfl (by first | exact hc | simp_all) (OpenTo.refl _), pop_not rfl⟩) ?_
      refine dp rfl (pop_picko rfl (.inr ⟨_, rfl, fun h => by simp_all⟩) (.inl rfl)) ?_
      refine dp rfl (pop_move rfl) ?_
      refine dg rfl rfl (fun hc => ⟨_, OpenTo.refl _, pop_move rfl⟩) ?_
      refine dg rfl rfl (fun hc => ⟨_, OpenTo.upd (t := 109) rfl (by first | exact hc | simp_all) (OpenTo.refl _), pop_not rfl⟩) ?_
      refine dp rfl (pop_picko rfl (.inr ⟨_, rfl, fun h => by simp_all⟩) (.inl rfl)) ?_
      refine dp rfl (pop_move rfl) ?_
      refine dg rfl rfl (fun hc => ⟨_, OpenTo.refl _, pop_loadw ty55 rfl rfl rfl rfl⟩) ?_
      refine dg rfl rfl (fun hc => ⟨_, OpenTo.refl _, pop_build (cs := [_, _, _, _, _]) ty55 pl55 rfl⟩) ?_
      refine dg rfl rfl (fun hc => ⟨_, OpenTo.upd (t := 114) rfl (by first | exact hc | simp_all) (OpenTo.upd (t := 113) rfl (by first | exact hc | simp_all) (OpenTo.refl _)), pop_eqst ty55 eq55 rfl rfl ⟨rfl, ⟨_, _, _, _, ty3, rfl⟩, ⟨rfl, ⟨_, _, _, _, ty9, rfl⟩, ⟨rfl, ⟨_, _, _, _, ty9, rfl⟩, ⟨rfl, ⟨_, _, _, _, ty3, rfl⟩, ⟨rfl, ⟨_, _, _, _, ty4, rfl⟩, trivial⟩⟩⟩⟩⟩⟩) ?_
      refine dp rfl (pop_picko rfl (.inr ⟨_, rfl, fun h => by simp_all⟩) (.inl rfl)) ?_
      refine dp rfl (pop_move rfl) ?_
      refine dg rfl rfl (fun hc => ⟨_, OpenTo.refl _, pop_move rfl⟩) ?_
      refine dg rfl rfl (fun hc => ⟨_, OpenTo.upd (t := 118) rfl (by first | exact hc | simp_all) (OpenTo.refl _), pop_eql rfl rfl⟩) ?_
      refine dp rfl (pop_picko rfl (.inr ⟨_, rfl, fun h => by simp_all⟩) (.inl rfl)) ?_
      refine dp rfl (pop_move rfl) ?_
      refine dg rfl rfl (fun hc => ⟨_, OpenTo.refl _, pop_move rfl⟩) ?_
      refine dg rfl rfl (fun hc => ⟨_, OpenTo.upd (t := 122) rfl (by first | exact hc | simp_all) (OpenTo.refl _), pop_lenm ty26 rfl⟩) ?_
      refine dg rfl rfl (fun hc => ⟨_, OpenTo.refl _, pop_move rfl⟩) ?_
      refine dg rfl rfl (fun hc => ⟨_, OpenTo.upd (t := 124) rfl (by first | exact hc | simp_all) (OpenTo.refl _), pop_lenm ty34 rfl⟩) ?_
      refine dg rfl rfl (fun hc => by have hq := hc; (try simp at hq); exact ⟨_, OpenTo.upd (t := 125) rfl (by first | exact hc | simp_all) (OpenTo.upd (t := 123) rfl (by first | exact hc | simp_all) (OpenTo.refl _)), pop_add64 rfl rfl (by omega) (by omega)⟩) ?_
      refine dg rfl rfl (fun hc => ⟨_, OpenTo.upd (t := 126) rfl (by first | exact hc | simp_all) (OpenTo.refl _), pop_eql rfl rfl⟩) ?_
      refine dp rfl (pop_picko rfl (.inr ⟨_, rfl, fun h => by simp_all⟩) (.inl rfl)) ?_
      refine dp rfl (pop_move rfl) ?_
      refine dg rfl rfl (fun hc => ⟨_, OpenTo.refl _, pop_call ca23 rfl (WeakL.refl _) c_benchlaw1_drafted⟩) ?_
      refine dp rfl (pop_picko rfl (.inr ⟨_, rfl, fun h => by simp_all⟩) (.inl rfl)) ?_
      refine dp rfl (pop_assign rfl) ?_
      refine dn ?_
      refine hw_ret ?_
      refine ret_g Ghost.drop rfl ⟨?_, rfl⟩
      show HVal.bool _ = _
      first | (simp [q3, q4, q5, q6, e1, e2, hcells, eqHL, eqH, ofVal, ofVal1]; done) | (simp [sameWs_refl, hz, d1, d2, hcells, eqHL, eqH]; done)
    · try simp at h3
      refine hw_skip ?_
      refine seqQ_n ?_
      have hz : picksE r26 k29 k32 p37 = 0 := by assumption
      obtain ⟨d1, d2⟩ := du_ref hz
      refine hw_reg ?_
      refine dp rfl (pop_loadw ty28 rfl rfl rfl rfl) ?_
      refine dp rfl (pop_move rfl) ?_
      refine dp rfl (pop_move rfl) ?_
      refine dp rfl (pop_move rfl) ?_
      refine dp rfl (pop_call ca32 rfl (WeakL.refl _) (w_NextOf ht1 hp1 hk1 hk2 hl1 hz)) ?_
      refine dp rfl (pop_move rfl) ?_
      refine dp rfl (pop_extract rfl rfl) ?_
      refine dp rfl (pop_extract rfl rfl) ?_
      refine de rfl (eop_alloc ty55 rfl fun b19 => ?_)
      refine de0 (eop_storew ty55 rfl rfl rfl rfl rfl ?_)
      refine dp rfl (pop_assign rfl) ?_
      refine dn ?_
      refine hw_ghost (Ghost.fc0 19 rfl) ?_
      refine hw_reg ?_
      refine dp rfl (pop_loadw ty28 rfl rfl rfl rfl) ?_
      refine dp rfl (pop_move rfl) ?_
      refine dp rfl (pop_move rfl) ?_
      refine dp rfl (pop_move rfl) ?_
      refine dp rfl (pop_call ca33 rfl (WeakL.refl _) (w_DueOf ht1 hp1 hk1 hk2 hl1 hz)) ?_
      refine dp rfl (pop_assign rfl) ?_
      refine dn ?_
      refine hw_reg ?_
      refine dp rfl (pop_move rfl) ?_
      refine dp rfl (pop_eql rfl rfl) ?_
      refine dp rfl (pop_move rfl) ?_
      refine dg rfl rfl (fun hc => ⟨_, OpenTo.refl _, pop_loadw ty55 rfl rfl rfl rfl⟩) ?_
      refine dg rfl rfl (fun hc => ⟨_, OpenTo.refl _, pop_loadw ty55 rfl rfl rfl rfl⟩) ?_
      refine dg rfl rfl (fun hc => ⟨_, OpenTo.upd (t := 149) rfl (by first | exact hc | simp_all) (OpenTo.upd (t := 148) rfl (by first | exact hc | simp_all) (OpenTo.refl _)), pop_eqst ty55 eq55 rfl rfl ⟨rfl, ⟨_, _, _, _, ty3, rfl⟩, ⟨rfl, ⟨_, _, _, _, ty9, rfl⟩, ⟨rfl, ⟨_, _, _, _, ty9, rfl⟩, ⟨rfl, ⟨_, _, _, _, ty3, rfl⟩, ⟨rfl, ⟨_, _, _, _, ty4, rfl⟩, trivial⟩⟩⟩⟩⟩⟩) ?_
      refine dp rfl (pop_picko rfl (.inr ⟨_, rfl, fun h => by simp_all⟩) (.inl rfl)) ?_
      refine dp rfl (pop_move rfl) ?_
      refine dg rfl rfl (fun hc => ⟨_, OpenTo.refl _, pop_move rfl⟩) ?_
      refine dg rfl rfl (fun hc => ⟨_, OpenTo.refl _, pop_move rfl⟩) ?_
      refine dg rfl rfl (fun hc => ⟨_, OpenTo.upd (t := 154) rfl (by first | exact hc | simp_all) (OpenTo.upd (t := 153) rfl (by first | exact hc | simp_all) (OpenTo.refl _)), pop_eqlb ty4 rfl rfl⟩) ?_
      refine dp rfl (pop_picko rfl (.inr ⟨_, rfl, fun h => by simp_all⟩) (.inl rfl)) ?_
      refine dp rfl (pop_move rfl) ?_
      refine dg rfl rfl (fun hc => ⟨_, OpenTo.refl _, pop_move rfl⟩) ?_
      refine dg rfl rfl (fun hc => ⟨_, OpenTo.upd (t := 158) rfl (by first | exact hc | simp_all) (OpenTo.refl _), pop_eql rfl rfl⟩) ?_
      refine dp rfl (pop_picko rfl (.inr ⟨_, rfl, fun h => by simp_all⟩) (.inl rfl)) ?_
      refine dp rfl (pop_move rfl) ?_
      refine dg rfl rfl (fun hc => ⟨_, OpenTo.refl _, pop_move rfl⟩) ?_
      refine dg rfl rfl (fun hc => ⟨_, OpenTo.refl _, pop_move rfl⟩) ?_
      refine dg rfl rfl (fun hc => ⟨_, OpenTo.upd (t := 163) rfl (by first | exact hc | simp_all) (OpenTo.refl _), pop_geq rfl rfl⟩) ?_
      refine dg rfl rfl (fun hc => ⟨_, OpenTo.upd (t := 164) rfl (by first | exact hc | simp_all) (OpenTo.upd (t := 162) rfl (by first | exact hc | simp_all) (OpenTo.refl _)), pop_eqlb ty4 rfl rfl⟩) ?_
      refine dp rfl (pop_picko rfl (.inr ⟨_, rfl, fun h => by simp_all⟩) (.inl rfl)) ?_
      refine dp rfl (pop_move rfl) ?_
      refine dg rfl rfl (fun hc => ⟨_, OpenTo.refl _, pop_move rfl⟩) ?_
      refine dg rfl rfl (fun hc => ⟨_, OpenTo.refl _, pop_move rfl⟩) ?_
      refine dg rfl rfl (fun hc => ⟨_, OpenTo.upd (t := 169) rfl (by first | exact hc | simp_all) (OpenTo.refl _), pop_max rfl rfl⟩) ?_
      refine dg rfl rfl (fun hc => ⟨_, OpenTo.upd (t := 170) rfl (by first | exact hc | simp_all) (OpenTo.upd (t := 168) rfl (by first | exact hc | simp_all) (OpenTo.refl _)), pop_eql rfl rfl⟩) ?_
      refine dp rfl (pop_picko rfl (.inr ⟨_, rfl, fun h => by simp_all⟩) (.inl rfl)) ?_
      refine dp rfl (pop_move rfl) ?_
      refine dg rfl rfl (fun hc => ⟨_, OpenTo.refl _, pop_move rfl⟩) ?_
      refine dg rfl rfl (fun hc => ⟨_, OpenTo.upd (t := 174) rfl (by first | exact hc | simp_all) (OpenTo.refl _), pop_eql rfl rfl⟩) ?_
      refine dp rfl (pop_picko rfl (.inr ⟨_, rfl, fun h => by simp_all⟩) (.inl rfl)) ?_
      refine dp rfl (pop_move rfl) ?_
      refine dg rfl rfl (fun hc => ⟨_, OpenTo.refl _, pop_move rfl⟩) ?_
      refine dg rfl rfl (fun hc => ⟨_, OpenTo.refl _, pop_loadw ty28 rfl rfl rfl rfl⟩) ?_
      refine dg rfl rfl (fun hc => ⟨_, OpenTo.refl _, pop_move rfl⟩) ?_
      refine dg rfl rfl (fun hc => ⟨_, OpenTo.refl _, pop_move rfl⟩) ?_
      refine dg rfl rfl (fun hc => ⟨_, OpenTo.upd (t := 181) rfl (by first | exact hc | simp_all) (OpenTo.upd (t := 180) rfl (by first | exact hc | simp_all) (OpenTo.upd (t := 179) rfl (by first | exact hc | simp_all) (OpenTo.refl _))), pop_call ca35 rfl (WeakL.refl _) (w_LeftOf ht1 hp1 hk1 hk2 hl1 hz)⟩) ?_
      refine dg rfl rfl (fun hc => ⟨_, OpenTo.upd (t := 182) rfl (by first | exact hc | simp_all) (OpenTo.upd (t := 178) rfl (by first | exact hc | simp_all) (OpenTo.refl _)), pop_call ca34 rfl (WeakL.refl _) (c_slices_Equal_string_string (Nat.le_trans leA_len hp1))⟩) ?_
      refine dp rfl (pop_picko rfl (.inr ⟨_, rfl, fun h => by simp_all⟩) (.inl rfl)) ?_
      refine dp rfl (pop_move rfl) ?_
      refine dg rfl rfl (fun hc => ⟨_, OpenTo.refl _, pop_move rfl⟩) ?_
      refine dg rfl rfl (fun hc => ⟨_, OpenTo.upd (t := 186) rfl (by first | exact hc | simp_all) (OpenTo.refl _), pop_eql rfl rfl⟩) ?_
      refine dp rfl (pop_picko rfl (.inr ⟨_, rfl, fun h => by simp_all⟩) (.inl rfl)) ?_
      refine dp rfl (pop_move rfl) ?_
      refine dg rfl rfl (fun hc => ⟨_, OpenTo.refl _, pop_move rfl⟩) ?_
      refine dg rfl rfl (fun hc => ⟨_, OpenTo.refl _, pop_loadw ty28 rfl rfl rfl rfl⟩) ?_
      refine dg rfl rfl (fun hc => ⟨_, OpenTo.refl _, pop_move rfl⟩) ?_
      refine dg rfl rfl (fun hc => ⟨_, OpenTo.refl _, pop_move rfl⟩) ?_
      refine dg rfl rfl (fun hc => ⟨_, OpenTo.refl _, pop_move rfl⟩) ?_
      refine dg rfl rfl (fun hc => ⟨_, OpenTo.upd (t := 194) rfl (by first | exact hc | simp_all) (OpenTo.upd (t := 193) rfl (by first | exact hc | simp_all) (OpenTo.upd (t := 192) rfl (by first | exact hc | simp_all) (OpenTo.upd (t := 191) rfl (by first | exact hc | simp_all) (OpenTo.refl _)))), pop_call ca37 rfl (WeakL.refl _) (w_TeamsOf ht1 hp1 hk1 hk2 hl1 hz)⟩) ?_
      refine dg rfl rfl (fun hc => by have hq := hc; (try simp at hq); exact ⟨_, OpenTo.upd (t := 195) rfl (by first | exact hc | simp_all) (OpenTo.upd (t := 190) rfl (by first | exact hc | simp_all) (OpenTo.refl _)), pop_call ca36 rfl (WeakL.refl _) (c_EqualFunc_Wishes (Nat.le_trans teA_len ht1) (fun y hy => Nat.le_trans (teA_all hz y hy) (by omega)))⟩) ?_
      refine dp rfl (pop_picko rfl (.inr ⟨_, rfl, fun h => by simp_all⟩) (.inl rfl)) ?_
      refine dp rfl (pop_move rfl) ?_
      refine dg rfl rfl (fun hc => ⟨_, OpenTo.refl _, pop_call ca23 rfl (WeakL.refl _) c_benchlaw1_drafted⟩) ?_
      refine dp rfl (pop_picko rfl (.inr ⟨_, rfl, fun h => by simp_all⟩) (.inl rfl)) ?_
      refine dp rfl (pop_assign rfl) ?_
      refine dn ?_
      refine hw_ret ?_
      refine ret_g Ghost.drop rfl ⟨?_, rfl⟩
      show HVal.bool _ = _
      first | (simp [q3, q4, q5, q6, e1, e2, hcells, eqHL, eqH, ofVal, ofVal1]; done) | (simp [sameWs_refl, hz, d1, d2, hcells, eqHL, eqH]; done)
end Go.Proofs.YtoomadfbldcioaaGreatDoor
end
section
namespace Go.Proofs.YtoomadfbldcioaaGreatDoor
open Go.ChangeShapes Go.WideShapes Go.ChangeAt Go.RowKit Go.HL
theorem ownPicksMade : ownKnob Tryz.prog.godebug = none := by kernel_rfl
theorem laidOutPicksMade : laidOutB Tryz.prog = true := by kernel_rfl
theorem cellsPicksMade : Tryz.prog.cellsOf 3 = 1 := by kernel_rfl
theorem tabPicksMade {W : World} (h : laidMetH Tryz.prog Rows.picksMadeRow.laid W) : TabI Tryz.prog (allI W) := by
  rw [MakeChecks.laidMetH_plain _ _ _ (by kernel_rfl)] at h
  exact tabI_of_laid (i := 2) (g := 0) (t := 208) h (by kernel_rfl) (by kernel_rfl) (by kernel_rfl) Tryz.underlying208 Tryz.underlying171 (by kernel_rfl) (by kernel_rfl)
theorem callsPicksMade {W : World} (ht : TabI Tryz.prog (allI W)) {a : Option Addr} {len cap : Nat} {H : Type} {enc : TypeId × Value → H} {d0 : DataW H} {p : List MemPlace} (h : DataW.Trod enc Tryz.prog W 0 (fun _ => true) true 22 (.slice a len cap) d0 p) :
    Calls Tryz.prog 4 #[.slice a len cap] W fun e W' => e = .returned (.bool true) ∧ Below W.heap.size W W' := by
  obtain ⟨fuel, hf⟩ := h
  rcases open_ints Tryz.underlying22 Tryz.underlying3 cellsPicksMade hf with ⟨hcs, hx⟩ | ⟨a', len', cap', zs, hcs, _, hl, hm, hz, hx, hcell, hwz⟩
  · simp [Value.cells] at hcs
    obtain ⟨rfl, rfl, rfl⟩ := hcs
    exact conp_law (l := []) c_benchlaw1_PicksMade ht (.slice0 _ _ _)
  · simp [Value.cells] at hcs
    obtain ⟨rfl, rfl, rfl⟩ := hcs
    simp only [if_true] at hz
    exact conp_law (l := zs.take len) c_benchlaw1_PicksMade ht (v_ints hcell (by omega) hl)
set_option maxRecDepth 100000 in
theorem liftedPicksMade (os : Os) (started : os.Started) (H : Type) (enc : TypeId × Value → H) :
    ReturnsInHanded {} Tryz.checked os 4 .any (fun w args => (Rows.picksMadeSpec.pre enc Tryz.prog Tryz.f4 Rows.picksMadeRow.domain false w args ∧ laidMetH Tryz.prog Rows.picksMadeRow.laid w) ∧ sizedMet enc Tryz.prog Tryz.f4 (OpenSpec.ofChange Rows.picksMadeSpec) false w args)
      (Rows.picksMadeSpec.post enc Tryz.prog Tryz.f4 false true false false) := by
  refine returnsInHanded_of_change_and (C := Tryz.checked) (X := fun w _ => laidMetH Tryz.prog Rows.picksMadeRow.laid w) (fun _ _ _ hh h => h.of_heap hh) ownPicksMade started (by kernel_rfl) Tryz.func4
    (ChangeSpec.witness_shaped (enc := enc) (C := Tryz.checked) (os := os) (X := fun w _ => laidMetH Tryz.prog Rows.picksMadeRow.laid w) false (World.laidAll Tryz.prog os Rows.picksMadeRow.laid) #[.slice none 0 0] 8 (World.laidAll_os _ _ _)
      (World.shaped_of_ZipB (by kernel_rfl) (by kernel_rfl)) (by kernel_rfl) (by kernel_rfl) (by kernel_rfl)
      (by rw [MakeChecks.laidMetH_plain _ _ _ (by kernel_rfl)]; exact laidMet_laidAll _ (by kernel_rfl) (by kernel_rfl))) ?_
  intro W base args ds gs before hval0 hW _ _ hL _
  have hval : ∀ (j : Nat) t v, Tryz.f4.params[j]? = some t → args[j]? = some v → Value.okWide Tryz.prog W .any base t v := hval0
  have hW' := hW
  obtain ⟨p, q, hA0, hV, rfl, _, _⟩ := hW
  have hA : DataW.TrodAll enc Tryz.prog W 0 (fun _ => true) true Tryz.f4.params.toList args.toList ds p := hA0
  rw [Tryz.params4] at hA hval
  obtain ⟨v0, d0, rfl, rfl, h0⟩ := trodAll_one hA
  obtain ⟨rfl, rfl⟩ := trodVars_none hV
  obtain ⟨a0, len, cap, rfl⟩ := okWide_slice Tryz.underlying22 (hval 0 22 v0 rfl rfl)
  simp only [List.append_nil] at hW'
  have hlt : ∀ x ∈ p, x.block < W.heap.size := fun x hx => by simpa using hW'.lt x hx
  refine (callsPicksMade (tabPicksMade hL) h0).mono fun e W' ⟨he, hb⟩ => ?_
  subst he
  have hargs : DataW.Trod enc Tryz.prog W' 0 (fun b => decide (b < W.heap.size)) true 22 (.slice a0 len cap) d0 p :=
    Below.trod laidOutPicksMade (by kernel_rfl) (of_decide_eq_true (by kernel_rfl)) h0 hb hlt
  exact ⟨_, rfl, _, _, _, [], p, [], hW', trodAll_mk1 (shut_bool Tryz.underlying4 _), trodAll_mk1 hargs, rfl, hb.frame _, fun h => by cases h⟩
theorem holdsPicksMade : Rows.PicksMadeSaid :=
  OpenClaim.holds_of_wide 4 Tryz.f4 rfl rfl rfl rfl rfl rfl rfl ⟨rfl, rfl, rfl, rfl, rfl⟩ rfl rfl rfl rfl rfl (by kernel_rfl) Tryz.func4 (by kernel_rfl)
    (of_decide_eq_true (by kernel_rfl)) (by unfold Func.isWrapper; first | (rw [if_pos (by decide +kernel)]; kernel_rfl) | (rw [if_neg (by decide +kernel)]; exact ⟨rfl, rfl⟩))
    (fun os started H enc _ => liftedPicksMade os started H enc)
theorem cardPicksMade : Rows.PicksMadeCardSaid :=
  Claim7.holds_tied_plain_at .later [] [.data, .data, .data, .data, .pinned] true (true, "58f378b719dac75ebdd77a0162814fc31a53fe8b6c9ac1217d7396d1107ab67d") false holdsPicksMade (fun _ h => by cases h) (by kernel_rfl) (fun _ h => by cases h) picksMade_row_tie rfl ⟨rfl, rfl⟩ (by kernel_rfl) rfl
    (fun f fn hf hfn => by
      obtain rfl : f = 4 := Option.some.inj ((show Tryz.prog.funcNamed Rows.picksMadeRow.func = some 4 by kernel_rfl).symm.trans hf) |>.symm
      obtain rfl : fn = Tryz.f4 := (Option.some.inj (Tryz.func4.symm.trans hfn)).symm
      exact ⟨by kernel_rfl, fun j t ht => by
        rw [Tryz.params4] at ht
        have hm : t ∈ [22] := by simpa using Array.mem_of_getElem? ht
        have hall : ([22].all fun u => !Tryz.prog.wantsStandIn u) = true := by kernel_rfl
        exact (show Tryz.prog.wantsStandIn t = false by simpa using List.all_eq_true.1 hall t hm)⟩)
    (by kernel_rfl)
end Go.Proofs.YtoomadfbldcioaaGreatDoor
end
