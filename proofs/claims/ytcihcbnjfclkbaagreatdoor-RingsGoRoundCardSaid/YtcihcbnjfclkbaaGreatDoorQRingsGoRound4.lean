/- Part 4 of the proof: a program logic, contracts of functions and plain facts; no conditions. -/
import Derived.Test.YtcihcbnjfclkbaaGreatDoorQRingsGoRound3
import Derived.Shelf.Slices.CompactI
import Derived.Shelf.Slices.In.SortNone
import Derived.Shelf.Sort.Plain
set_option linter.unusedVariables false
set_option linter.unusedSimpArgs false
namespace Go.HL
section
open Go
section
variable {P : Program} {e : Env} {dst : Option Tmp} {ty : TypeId} {pos : String} {af : Array Edge} {g : Option (Nat × Bool)} {M : List MObj} {K : HVal → List MObj → Prop}
/-- Single cells are stored into a part of an owned slice. -/
theorem zqA [Tracks] {I : Imm} {F : List MObj} {w : World} {k b off n cap d : Nat} {es ys : List HVal} {vs : List Value} (hs : Sat P I (M ++ F) w) (hm : M[k]? = some (.arr (.slice (some ⟨b, off, none⟩) n cap) 1 es))
 (hn : n = es.length) (hv : VL I ys vs) (hone : ∀ v ∈ vs, v.oneCell' = true) (hc : ∀ y ∈ ys, zm y = [y]) (hd : d + ys.length ≤ es.length) :
 ∃ w', (storeCells ⟨b, off + d, none⟩ vs).run P w = .ok () w' ∧ Sat P I (M.set k (.arr (.slice (some ⟨b, off, none⟩) n cap) 1 (es.take d ++ ys ++ es.drop (d + ys.length))) ++ F) w' := by
 have hp := hs.pull hm
 subst hn
 obtain ⟨_, rc, el', fr, h2, h3, h4, h5, h6, h7⟩ := zeC hp
 obtain ⟨w', rc', g1, g2, g3, g4, g5, g6, g7, g8, g9⟩ := zcs (P := P) b el' fr (off + d) vs 0 w rc h2 h3 hone (by rw [hv.1]; omega)
 refine ⟨w', g1, Sat.unpull hm (hp.change (m' := .arr (.slice (some ⟨b, off, none⟩) es.length cap) 1 (es.take d ++ ys ++ es.drop (d + ys.length))) (fun k hk hnk => g5 k (by simpa [MObj.blocks] using hnk)) (fun k hk => .inl hk) (by simp [MObj.blocks]) ?_ g7 g8 g9.1 (fun _ => Nat.le_of_eq g9.2.symm))⟩
 have hl : (es.take d ++ ys ++ es.drop (d + ys.length)).length = es.length := by simp; omega
 refine .inr ⟨b, off, cap, rc', el', fr, by rw [hl], g2, by rw [g3]; exact h3, fun e he => ?_, by rw [hl]; exact h5, by rw [g3]; exact h6, fun p q y c v a1 a2 a3 => ?_⟩
 ·rcases List.mem_append.1 he with h | h
  ·rcases List.mem_append.1 h with h | h
   ·exact h4 e (List.mem_of_mem_take h)
   ·rw [hc e h]; rfl
  ·exact h4 e (List.mem_of_mem_drop h)
 ·have hq : q = 0 := by
   have h1 := zC a2
   have h8 : (zm y).length = 1 := by
    have hm := List.mem_of_getElem? a1
    rcases List.mem_append.1 hm with h | h
    ·rcases List.mem_append.1 h with h | h
     ·exact h4 y (List.mem_of_mem_take h)
     ·rw [hc y h]; rfl
    ·exact h4 y (List.mem_of_mem_drop h)
   omega
  subst hq
  rw [g4, hv.1] at a3
  have htd : (es.take d).length = d := by simp; omega
  by_cases hpd : p < d
  ·rw [List.getElem?_append_left (by simp; omega), List.getElem?_append_left (by omega), List.getElem?_take_of_lt hpd] at a1
   rw [if_neg (by omega)] at a3
   exact h7 p 0 y c v a1 a2 a3
  ·by_cases hpm : p < d + ys.length
   ·rw [List.getElem?_append_left (by simp; omega), List.getElem?_append_right (by omega), htd] at a1
    rw [if_pos (by omega)] at a3
    rw [hc y (List.mem_of_getElem? a1)] at a2
    simp at a2
    subst a2
    refine hv.2 (p - d) y v a1 ?_
    rw [show off + p * 1 + 0 - (off + d) - 0 = p - d by omega] at a3
    exact a3
   ·rw [List.getElem?_append_right (by simp; omega)] at a1
    rw [if_neg (by omega)] at a3
    rw [List.getElem?_drop] at a1
    have e1 : d + ys.length + (p - (es.take d ++ ys).length) = p := by simp; omega
    rw [e1] at a1
    exact h7 p 0 y c v a1 a2 a3
theorem zsh {at' : Array TypeId} {xs : Array Operand} {ρ : Operand → Value} (w : World) :
 (execOp ρ ⟨dst, .call ⟨.builtin .copy, xs, at'⟩, ty, pos, af, g⟩).run P w = ((Builtin.copy_ at' ty (xs.map ρ)).run P w).andThen (fun v w => .ok (.value v) w) := by
 simp [execOp, resolve, invoke, builtin]
/-- copy(dst, src): src is immutable, or a part of dst's own row. -/
theorem zmD [Tracks] {x y : Operand} {t t' el : TypeId} {size bytes b2 : Nat} {zero z2 : Value} {td : TD} {k b off n cap d n1 c1 sl : Nat} {es ys : List HVal}
 (hf : Fits P t (.slice el) size bytes zero) (hel : Fits P el td 1 b2 z2) (hx : zu e x = some (.raw (.slice (some ⟨b, off + d, none⟩) n1 c1))) (hm : M[k]? = some (.arr (.slice (some ⟨b, off, none⟩) n cap) 1 es)) (hn : n = es.length)
 (hy : ∀ I F a w, Opds I e a ⟨dst, .call ⟨.builtin .copy, #[x, y], #[t, t']⟩, ty, pos, af, g⟩ → Sat P I (M ++ F) w → ∃ vs : List Value, VL I ys vs ∧ (∀ v ∈ vs, v.oneCell' = true) ∧ (Builtin.lenOf (a.eval y)).run P w = .ok sl w ∧ (Builtin.firstCells 1 ys.length (a.eval y)).run P w = .ok vs.toArray w)
 (hm' : ys.length = Nat.min sl n1) (hc : ∀ y ∈ ys, zm y = [y]) (hd : d + ys.length ≤ es.length)
 (hk : K (.int .i64 (ys.length : Int)) (M.set k (.arr (.slice (some ⟨b, off, none⟩) n cap) 1 (es.take d ++ ys ++ es.drop (d + ys.length))))) :
 EOp P e M ⟨dst, .call ⟨.builtin .copy, #[x, y], #[t, t']⟩, ty, pos, af, g⟩ K :=
 EOp.of_run fun I F a w ho hs => by
  have h1 := (ho.one (x := x) (by simp [Op.operands, Call.operands]) hx).raw_inv
  obtain ⟨vs, v1, v2, v3, v4⟩ := hy I F a w ho hs
  obtain ⟨w', s1, s2⟩ := zqA hs hm hn v1 v2 hc hd
  refine ⟨.int .i64 (ys.length : Int), _, _, w', I, ?_, .refl I, hk, .int _ _, s2⟩
  rw [zsh]
  simp only [List.map_toArray, List.map_cons, List.map_nil, h1, Builtin.copy_, List.getElem?_toArray, List.getElem?_cons_zero, List.getElem?_cons_succ, Sem.run_bind, run_underlying hf.slice, Result.andThen_ok, hel.run_sizeOf, Sem.run_pure, v3, ← hm', v4, s1]
  rfl
theorem zqD [Tracks] {x y : Operand} {t t' el : TypeId} {size bytes b2 : Nat} {zero z2 : Value} {td : TD} {k b off n cap : Nat} {es ys : List HVal}
 (hf : Fits P t (.slice el) size bytes zero) (hel : Fits P el td 1 b2 z2) (hx : zu e x = some (.raw (.slice (some ⟨b, off, none⟩) n cap))) (hy : zu e y = some (.slice 1 ys)) (hm : M[k]? = some (.arr (.slice (some ⟨b, off, none⟩) n cap) 1 es)) (hn : n = es.length)
 (hc : ∀ y ∈ ys, zm y = [y]) (hfl : zaD ys = true)
 (hk : K (.int .i64 ((Nat.min ys.length es.length : Nat) : Int)) (M.set k (.arr (.slice (some ⟨b, off, none⟩) n cap) 1 (ys.take (Nat.min ys.length es.length) ++ es.drop (Nat.min ys.length es.length))))) :
 EOp P e M ⟨dst, .call ⟨.builtin .copy, #[x, y], #[t, t']⟩, ty, pos, af, g⟩ K := by
 have hmn : Nat.min ys.length es.length ≤ ys.length := Nat.min_le_left _ _
 have hme : Nat.min ys.length es.length ≤ es.length := Nat.min_le_right _ _
 have hml : (ys.take (Nat.min ys.length es.length)).length = Nat.min ys.length es.length := by rw [List.length_take]; exact Nat.min_eq_left hmn
 refine zmD (d := 0) (sl := ys.length) (ys := ys.take (Nat.min ys.length es.length)) hf hel hx hm hn (fun I F a w ho hs => ?_) (by rw [hml, hn]) (fun z hz => hc z (List.mem_of_mem_take hz)) (by rw [hml]; omega) (by rw [hml]; simpa using hk)
 rw [hml]
 generalize Nat.min ys.length es.length = m at hmn hme hml
 have hyv := ho.one (x := y) (by simp [Op.operands, Call.operands]) hy
 rcases hyv.slice_inv with ⟨rfl, a', cap', h2⟩ | ⟨b, off, cap', rc, el', fr, h2, h3, h4, h5, h6, h7⟩
 ·have : m = 0 := by simpa using hmn
  subst this
  refine ⟨[], by simpa using VL.nil, by simp, by rw [h2]; simp [Builtin.lenOf], ?_⟩
  rw [h2]
  cases a' with
  | none => simp [Builtin.firstCells]
  | some a' => simp [Builtin.firstCells, loadCells, loadCellsFrom]
 ·have hl : ((rc.toList.drop off).take m).length = m := by
   rw [List.length_take, List.length_drop, Array.length_toList]
   exact Nat.min_eq_left (by omega)
  have hV : VL I (ys.take m) ((rc.toList.drop off).take m) := ⟨by rw [hl, hml], fun j c u a1 a2 => by
   have hj := zC a1
   rw [hml] at hj
   rw [List.getElem?_take_of_lt hj] at a1 a2
   rw [List.getElem?_drop] at a2
   exact h7 j 0 c c u a1 (by rw [hc c (List.mem_of_getElem? a1)]; rfl) (by simpa using a2)⟩
  have h1v : ∀ v ∈ (rc.toList.drop off).take m, v.oneCell' = true := fun v hv => by
   obtain ⟨j, hj⟩ := List.getElem?_of_mem hv
   have hjl := zC hj
   rw [hl] at hjl
   have hz := List.getElem?_eq_getElem (l := ys) (i := j) (by omega)
   refine zfh (VL.cons (hV.2 j _ v (by rw [List.getElem?_take_of_lt hjl]; exact hz) hj) VL.nil) (zko hfl hz) v (by simp)
  refine ⟨_, hV, h1v, by rw [h2]; simp [Builtin.lenOf], ?_⟩
  have h3' : w.heap[b]? = some (.cells rc el' fr) := hs.imm _ _ h3
  have := run_loadCells_list (P := P) w ⟨b, off, none⟩ ((rc.toList.drop off).take m) fun j u hj => by
   rw [zb6, zd7 h3']
   have hlt := zC hj
   rw [hl] at hlt
   rw [List.getElem?_take_of_lt hlt, List.getElem?_drop] at hj
   simpa using hj
  rw [hl] at this
  rw [h2]
  simp only [Builtin.firstCells, Nat.mul_one]
  exact this
theorem zpf [Tracks] {x y : Operand} {t t' el : TypeId} {size bytes b2 : Nat} {zero z2 : Value} {td : TD} {k b off n cap d n1 c1 s c2 o1 : Nat} {es : List HVal}
 (hf : Fits P t (.slice el) size bytes zero) (hel : Fits P el td 1 b2 z2) (hx : zu e x = some (.raw (.slice (some ⟨b, o1, none⟩) n1 c1))) (ho1 : o1 = off + d) (hy : zu e y = some (.raw (.slice (some ⟨b, off, none⟩) s c2))) (hm : M[k]? = some (.arr (.slice (some ⟨b, off, none⟩) n cap) 1 es)) (hn : n = es.length)
 (hc : ∀ y ∈ es, zm y = [y]) (hfl : zaD es = true) (hs0 : s ≤ es.length) (hd : d + Nat.min s n1 ≤ es.length)
 (hk : K (.int .i64 ((Nat.min s n1 : Nat) : Int)) (M.set k (.arr (.slice (some ⟨b, off, none⟩) n cap) 1 (es.take d ++ es.take (Nat.min s n1) ++ es.drop (d + Nat.min s n1))))) :
 EOp P e M ⟨dst, .call ⟨.builtin .copy, #[x, y], #[t, t']⟩, ty, pos, af, g⟩ K := by
 subst ho1
 have hml : (es.take (Nat.min s n1)).length = Nat.min s n1 := by
  rw [List.length_take]; have : Nat.min s n1 ≤ s := Nat.min_le_left _ _; omega
 refine zmD (d := d) (sl := s) (ys := es.take (Nat.min s n1)) hf hel hx hm hn (fun I F a w ho hs => ?_) hml (fun z hz => hc z (List.mem_of_mem_take hz)) (by rw [hml]; exact hd) (by rw [hml]; exact hk)
 have h1y := (ho.one (x := y) (by simp [Op.operands, Call.operands]) hy).raw_inv
 have hp := hs.pull hm
 subst hn
 obtain ⟨_, rc, el', fr, h2, h3, h4, h5, h6, h7⟩ := zeC hp
 have hmn : Nat.min s n1 ≤ s := Nat.min_le_left _ _
 have hl : ((rc.toList.drop off).take (Nat.min s n1)).length = Nat.min s n1 := by
  rw [List.length_take, List.length_drop, Array.length_toList]
  exact Nat.min_eq_left (by omega)
 have hV : VL I (es.take (Nat.min s n1)) ((rc.toList.drop off).take (Nat.min s n1)) := ⟨by rw [hl, hml], fun j c u a1 a2 => by
  have hj := zC a1
  rw [hml] at hj
  rw [List.getElem?_take_of_lt hj] at a1 a2
  rw [List.getElem?_drop] at a2
  exact h7 j 0 c c u a1 (by rw [hc c (List.mem_of_getElem? a1)]; rfl) (by simpa using a2)⟩
 have h1v : ∀ v ∈ (rc.toList.drop off).take (Nat.min s n1), v.oneCell' = true := fun v hv => by
  obtain ⟨j, hj⟩ := List.getElem?_of_mem hv
  have hjl := zC hj
  rw [hl] at hjl
  have hz := List.getElem?_eq_getElem (l := es) (i := j) (by omega)
  refine zfh (VL.cons (hV.2 j _ v (by rw [List.getElem?_take_of_lt hjl]; exact hz) hj) VL.nil) (zko hfl hz) v (by simp)
 refine ⟨_, hV, h1v, by rw [h1y]; simp [Builtin.lenOf], ?_⟩
 have := run_loadCells_list (P := P) w ⟨b, off, none⟩ ((rc.toList.drop off).take (Nat.min s n1)) fun j u hj => by
  rw [zb6, zd7 h2]
  have hlt := zC hj
  rw [hl] at hlt
  rw [List.getElem?_take_of_lt hlt, List.getElem?_drop] at hj
  simpa using hj
 rw [hl] at this
 rw [h1y, hml]
 simp only [Builtin.firstCells, Nat.mul_one]
 exact this
end
/-! a row that fills up -/
theorem zmY : ∀ l : List Int, zaD (l.map (HVal.int .i64)) = true
 | [] => rfl
 | _ :: r => by rw [List.map_cons]; exact zmY r
def zbw (v : Int) (n j : Nat) : List Int := List.replicate j v ++ List.replicate (n - j) 0
theorem zgq {v : Int} {n j : Nat} (h : j ≤ n) : (zbw v n j).length = n := by unfold zbw; simp; omega
theorem zeB {v : Int} {n j p : Nat} (h : j ≤ n) : (zbw v n j)[p]? = if p < j then some v else if p < n then some 0 else none := by
 unfold zbw
 by_cases h1 : p < j
 ·rw [List.getElem?_append_left (by simpa using h1), if_pos h1, List.getElem?_replicate, if_pos h1]
 ·rw [List.getElem?_append_right (by simpa using Nat.le_of_not_lt h1), if_neg h1, List.length_replicate, List.getElem?_replicate]
  by_cases h2 : p < n
  ·rw [if_pos (by omega), if_pos h2]
  ·rw [if_neg (by omega), if_neg h2]
theorem zrW {v : Int} {n j m : Nat} (h : m ≤ j) (h2 : j + m ≤ n) : (zbw v n j).take j ++ (zbw v n j).take m ++ (zbw v n j).drop (j + m) = zbw v n (j + m) := by
 have hl := zgq (v := v) (n := n) (j := j) (by omega)
 refine List.ext_getElem? fun p => ?_
 rw [zeB (by omega)]
 have l1 : ((zbw v n j).take j).length = j := by rw [List.length_take]; omega
 have l2 : ((zbw v n j).take m).length = m := by rw [List.length_take]; omega
 by_cases h1 : p < j
 ·rw [List.getElem?_append_left (by rw [List.length_append]; omega), List.getElem?_append_left (by omega), List.getElem?_take_of_lt h1, zeB (by omega), if_pos h1, if_pos (by omega)]
 ·by_cases h3 : p < j + m
  ·rw [List.getElem?_append_left (by rw [List.length_append]; omega), List.getElem?_append_right (by omega), l1, List.getElem?_take_of_lt (by omega), zeB (by omega), if_pos (by omega), if_pos h3]
  ·rw [List.getElem?_append_right (by rw [List.length_append]; omega), List.length_append, l1, l2, List.getElem?_drop, zeB (by omega), if_neg (by omega), if_neg h3]
   rw [show j + m + (p - (j + m)) = p by omega]
theorem zp7 {v : Int} {n : Nat} : [v].take (Nat.min 1 n) ++ (List.replicate n 0).drop (Nat.min 1 n) = zbw v n (Nat.min 1 n) := by
 cases n with
 | zero => rfl
 | succ n =>
   have : Nat.min 1 (n + 1) = 1 := Nat.min_eq_left (by omega)
   rw [this]; unfold zbw; simp
theorem znS {v : Int} {n : Nat} : zbw v n n = List.replicate n v := by unfold zbw; simp
theorem zrR {v : Int} {n : Nat} : zbw v n 0 = List.replicate n 0 := by unfold zbw; simp
theorem zsi {v : Int} {n q : Nat} (h : q < n) : (zbw v n q).set q v = zbw v n (q + 1) := by
 refine List.ext_getElem? fun p => ?_
 rw [List.getElem?_set, zgq (by omega), zeB (by omega), zeB (by omega)]
 by_cases e : q = p
 ·subst e; rw [if_pos rfl, if_pos h, if_pos (by omega)]
 ·rw [if_neg e]
  by_cases h1 : p < q
  ·rw [if_pos h1, if_pos (by omega)]
  ·rw [if_neg h1, if_neg (show ¬ p < q + 1 by omega)]
end
section
open Go
section
variable {P : Program}
theorem Ghost.rm [Tracks] {e : Env} {M : List MObj} {m : MObj} (i : Nat) (hm : M[i]? = some m) : Ghost e M e (M.eraseIdx i) := (Ghost.perm (zeV hm)).trans Ghost.drop
end
abbrev eNs (l : List Nat) : HVal := .slice 1 (l.map fun k => HVal.int .i64 ((k : Nat) : Int))
abbrev zkf (l : List (List Nat)) : HVal := .slice 1 (l.map eNs)
theorem zqs {n : Nat} (h : n ≤ 14) : 1 ≤ 2 ^ n ∧ 2 ^ n ≤ 16384 := ⟨Nat.one_le_two_pow, Nat.le_trans (Nat.pow_le_pow_right (by omega) h) (by decide)⟩
theorem zsg {x y : Int} : (if y > x then y else x) = max x y := by split <;> omega
theorem ztn {s k : Nat} : HVal.bool (decide (((s / 2 ^ k % 2 : Nat) : Int) = 0)) = HVal.bool (!s.testBit k) := congrArg HVal.bool zuu
end
end Go.HL
namespace Go.Proofs.YtcihcbnjfclkbaaGreatDoor
set_option maxRecDepth 100000
set_option linter.unusedVariables false
set_option linter.unusedSimpArgs false
section
open Go.HL
set_option maxHeartbeats 4000000 in
/-- (*benchwarmer/benchmake.Stream).WantList -/
theorem zbI [Tracks] {b : Nat} {l : List Int} {a : Nat} {o : List OwnerS} (ha : a ≤ 700000) (ho : GoodOw o) : Con Tryz.prog 7 [pAt b, zb4 o] [St b l a] (fun x M' => ∃ k a', x = zc8 k ∧ GoodWs k ∧ a' ≤ a + 400 ∧ M' = [St b l a']) := by
 have hol := ho.len
 refine Con.of_body Tryz.func7 rfl Tryz.ntmps7 rfl rfl ?_
 refine zb ?_
 refine das rfl ?_
 refine dn ?_
 refine zb ?_
 refine das rfl ?_
 refine dn ?_
 refine zh ?_
 refine zb ?_
 refine dmv rfl ?_
 refine dq (zF zaV rfl) ?_
 refine dmv rfl ?_
 refine dn ?_
 refine zI (Ghost.perm (M' := [St b l a]) (List.Perm.refl _)) ?_
 refine zI (Ghost.arr_nil 2) ?_
 refine zl ?_
 refine zaS (5 :: 7 :: 8 :: 10 :: 14 :: 15 :: 16 :: 17 :: 18 :: 19 :: 20 :: 21 :: 22 :: 23 :: 24 :: 25 :: 26 :: 27 :: 28 :: 29 :: 30 :: 31 :: 32 :: 33 :: 34 :: 35 :: 36 :: 37 :: 38 :: 39 :: 40 :: 41 :: 42 :: 43 :: 44 :: 45 :: 46 :: 47 :: 48 :: 49 :: 50 :: 51 :: 52 :: 53 :: 54 :: 55 :: 56 :: 57 :: 58 :: 59 :: 60 :: 61 :: 62 :: 63 :: 64 :: 65 :: 66 :: 67 :: 68 :: 69 :: 70 :: 71 :: []) (fun (k : Nat) (q : GL WantS) => [(14, .int .i64 k), (5, .raw q.u)]) (fun (k : Nat) (q : GL WantS) => [St b l q.a, .arr q.u 2 (q.out.map zbY)]) (fun (k : Nat) (q : GL WantS) => k ≤ o.length ∧ (q.out.length ≤ 5 ∧ GLok GoodW0 k (a + 27 * k) q)) (fun (k : Nat) (q : GL WantS) => o.length - k) (0) (⟨.slice none 0 0, [], a⟩) ?_ ?_ ?_ ?_
 ·exact ⟨Nat.zero_le _, Nat.zero_le _, by simp, by simp, by dsimp only; omega⟩
 ·exact ⟨rfl, rfl, trivial⟩
 ·repeat (first | exact List.Perm.nil | refine zS 0 rfl ?_ | refine zS 1 rfl ?_ | refine zS 2 rfl ?_ | refine zS 3 rfl ?_ | (refine zM 0 rfl ?hq ?_; (case hq => simp [z8, zm]; done)) | (refine zM 1 rfl ?hq ?_; (case hq => simp [z8, zm]; done)) | (refine zM 2 rfl ?hq ?_; (case hq => simp [z8, zm]; done)) | (refine zM 3 rfl ?hq ?_; (case hq => simp [z8, zm]; done)) | fail)
 ·intro k q hinv
  obtain ⟨hk, ho5, hq⟩ := hinv
  obtain ⟨u, out, a2⟩ := q
  obtain ⟨g1, g2, g3⟩ := id hq
  dsimp only at g1 g2 g3 ho5
  refine zb ?_
  refine dq (zO rfl rfl) ?_
  refine dn ?_
  refine zh ?_
  refine zj rfl (fun h1 => ?_) (fun h2 => ?_)
  ·try simp at h1
   obtain ⟨x, hx⟩ : ∃ x, o[k]? = some x := ⟨_, List.getElem?_eq_getElem h1⟩
   have hdx := zQ hx
   have hox := ho.all x (List.mem_of_getElem? hx)
   refine zk ?_
   refine zf ?_
   refine zh ?_
   refine zl ?_
   refine zb ?_
   refine dq (zJ zaV zae rfl rfl rfl (by first | assumption | simp_all)) ?_
   refine dq (zV zae rfl rfl rfl rfl) ?_
   refine de rfl (zX zae rfl fun b7 => ?_)
   refine de0 (zag zae rfl rfl rfl rfl rfl ?_)
   refine dn ?_
   refine zI (Ghost.fc0 7 rfl) ?_
   refine zh ?_
   refine zb ?_
   refine dmv rfl ?_
   refine de rfl (zaP (i := 1) (es := out) zbj rfl rfl ?_)
   refine dq (zaA rfl rfl) ?_
   refine dmv rfl ?_
   refine dg rfl rfl (fun hc => ⟨_, OpenTo.refl _, zg rfl⟩) ?_
   refine dgx (fun x M' => ∃ (y : Bool) (a3 : Nat), x = .bool y ∧ a3 ≤ a2 + 1 ∧ M' = [St b l a3, .arr u 2 (out.map zbY)]) rfl rfl (fun hc => ⟨_, false, a2, rfl, by omega, rfl⟩) (fun hc => ⟨_, OpenTo.upd (t := 22) rfl (by first | exact hc | simp_all) (OpenTo.refl _), zi (i := 0) zhu rfl (WeakL.refl _) rfl (zaI (a := a2) (by omega) (by omega)) (fun h M' hh => by
    obtain ⟨y, h1, h2⟩ := hh
    exact ⟨y, a2 + 1, h1, by omega, by rw [h2]; rfl⟩)⟩) ?_
   rintro _ _ ⟨y, a3, rfl, ha3, rfl⟩
   refine dq (zB rfl (.inl rfl) (.inr ⟨_, rfl, fun h => by simp_all⟩)) ?_
   refine dn ?_
   refine zj rfl (fun h3 => ?_) (fun h4 => ?_)
   ·try simp at h3
    refine zN ?_
    refine zT ?_
    refine zD ?_
    refine zf ?_
    try refine zI (Ghost.rm 1 (m := .cells b8 [.str x.Player, .slice 1 (F.map .str)]) rfl) ?_
    refine zy ?_
    refine dq (zv rfl rfl (by omega) (by omega)) ?_
    refine dmv rfl ?_
    refine dn ?_
    exact ⟨k + 1, ⟨u, out, a3⟩, ⟨by omega, ho5, hq.same (by omega)⟩, by dsimp only; omega, ⟨rfl, rfl, trivial⟩, (by repeat (first | exact zo | refine zt rfl ?_ | refine zp rfl rfl ?_)), by repeat (first | exact List.Perm.nil | refine zS 0 rfl ?_ | refine zS 1 rfl ?_ | refine zS 2 rfl ?_ | refine zS 3 rfl ?_ | (refine zM 0 rfl ?hq ?_; (case hq => simp [z8, zm]; done)) | (refine zM 1 rfl ?hq ?_; (case hq => simp [z8, zm]; done)) | (refine zM 2 rfl ?hq ?_; (case hq => simp [z8, zm]; done)) | (refine zM 3 rfl ?hq ?_; (case hq => simp [z8, zm]; done)) | fail)⟩
   ·try simp at h4
    refine zk ?_
    refine zf ?_
    refine zb ?_
    refine dq ((by first | exact zc zae rfl ty9 (by decide) rfl | exact zw zae rfl ty9 (by decide) rfl)) ?_
    refine dq (ze ty9 rfl rfl rfl) ?_
    refine dq (zaG (cs := [_, _]) zaj pl57 rfl) ?_
    refine de rfl (zX zaj rfl fun b8 => ?_)
    first
    | refine de0 (zx (i := 0) zaj rfl rfl rfl rfl rfl (Nat.le_of_ble_eq_true rfl) ?_)
    | refine de0 (zx (i := 1) zaj rfl rfl rfl rfl rfl (Nat.le_of_ble_eq_true rfl) ?_)
    | refine de0 (zx (i := 2) zaj rfl rfl rfl rfl rfl (Nat.le_of_ble_eq_true rfl) ?_)
    | refine de0 (zx (i := 3) zaj rfl rfl rfl rfl rfl (Nat.le_of_ble_eq_true rfl) ?_)
    refine dn ?_
    refine zI (Ghost.arr_nil 1) ?_
    refine zh ?_
    refine zb ?_
    refine dmv rfl ?_
    refine dmv rfl ?_
    refine dq (zF zaV rfl) ?_
    refine de rfl (zi (i := 2) ca40 rfl (WeakL.refl _) rfl (zf8 (a := a3) (n := o.length) (by omega) (by omega) (by omega)) ?_)
    rintro _ _ ⟨L31, a31, rfl, hL31, ha31, rfl⟩
    refine dq (zF (f := HVal.int .i64) (l := L31) zU rfl) ?_
    refine dmv rfl ?_
    refine dn ?_
    refine zl ?_
    refine ziA [10, 33, 34, 35, 36, 37, 38, 39, 40, 41, 42, 43, 44, 45, 46, 47, 48, 49, 50, 51, 52, 53, 54, 55, 56, 57, 58, 59, 60, 61, 62, 63, 64, 65, 66] (fun (j : Nat) (v : Value) (F : List Str) (a4 : Nat) => [(33, .int .i64 j)]) (fun (j : Nat) (v : Value) (F : List Str) (a4 : Nat) => [St b l a4, .arr v 1 (F.map .str), .cells b8 [.str x.Player, .raw v], .arr u 2 (out.map zbY)]) (fun (j : Nat) (v : Value) (F : List Str) (a4 : Nat) => j ≤ L31.length ∧ (F.length ≤ 3 ∧ (∀ s ∈ F, Sh s) ∧ a4 ≤ a31 + j)) (fun (j : Nat) (v : Value) (F : List Str) (a4 : Nat) => L31.length - j) (0) (.slice none 0 0) ([]) (a31) ?_ ?_ ?_ ?_
    ·exact ⟨Nat.zero_le _, Nat.zero_le _, by simp, Nat.le_refl _⟩
    ·exact ⟨rfl, trivial⟩
    ·exact zL rfl
    ·intro j v F a4 hinv
     obtain ⟨hj, hF3, hFs, ha4⟩ := hinv
     refine zb ?_
     refine dq (zO rfl rfl) ?_
     refine dn ?_
     refine zh ?_
     refine zj rfl (fun h5 => ?_) (fun h6 => ?_)
     ·try simp at h5
      obtain ⟨z, hz⟩ : ∃ z, L31[j]? = some z := ⟨_, List.getElem?_eq_getElem h5⟩
      have hdz := zQ hz
      have hzb := hL31.2 z (List.mem_of_getElem? hz)
      obtain ⟨ow, how⟩ : ∃ x, o[z.toNat]? = some x := ⟨_, List.getElem?_eq_getElem (by omega)⟩
      have hL9 := hL31.1
      refine zk ?_
      refine zf ?_
      refine zh ?_
      refine zl ?_
      refine zb ?_
      refine dq (zJ zU ty3 rfl rfl rfl (by first | assumption | simp_all)) ?_
      refine dq (ze ty3 rfl rfl rfl) ?_
      refine das rfl ?_
      refine dn ?_
      refine za9 (fun M => (∃ i : Nat, M[i]? = some (.cells b8 [.str x.Player, .raw v])) ∧ ∃ i : Nat, M[i]? = some (.arr v 1 (F.map .str))) [10, 11] mixed ?_
      refine ahp 0 rfl rfl (by kernel_rfl) (by kernel_rfl) (zg rfl) ?_
      refine ahp 1 rfl rfl (by kernel_rfl) (by kernel_rfl) (zg rfl) ?_
      refine ahp 2 rfl rfl (by kernel_rfl) (by kernel_rfl) (zJ (j := z.toNat) (a := ow) zaV zae rfl rfl (by omega) how) ?_
      refine ahp 3 rfl rfl (by kernel_rfl) (by kernel_rfl) ((by first | exact zc zae rfl ty9 (by decide) rfl | exact zw zae rfl ty9 (by decide) rfl)) ?_
      refine ahp 4 rfl rfl (by kernel_rfl) (by kernel_rfl) (ze ty9 rfl rfl rfl) ?_
      refine ahp 5 rfl rfl (by kernel_rfl) (by kernel_rfl) ((by first | exact zc zae rfl ty9 (by decide) rfl | exact zw zae rfl ty9 (by decide) rfl)) ?_
      refine ahp 6 rfl rfl (by kernel_rfl) (by kernel_rfl) (ze ty9 rfl rfl rfl) ?_
      refine ahp 7 rfl rfl (by kernel_rfl) (by kernel_rfl) (zgg rfl rfl) ?_
      refine ahp 8 rfl rfl (by kernel_rfl) (by kernel_rfl) (zg rfl) ?_
      refine ahg 9 rfl rfl (by kernel_rfl) (by kernel_rfl) rfl (fun hc => ⟨_, OpenTo.refl _, zw zaj rfl zG (by decide) rfl⟩) ?_
      refine zl7 10 rfl rfl (by kernel_rfl) (by kernel_rfl) (by simp) ⟨⟨2, rfl⟩, ⟨1, rfl⟩⟩ rfl (fun hc => ⟨_, OpenTo.upd (t := 46) rfl (by first | exact hc | simp_all) (OpenTo.refl _), fun M hM => by
       obtain ⟨⟨i, hi⟩, _⟩ := hM; exact zP (i := i) zG rfl hi (.inl ⟨rfl, rfl⟩) ⟨rfl, rfl⟩
       ⟩) ?_
      refine zl7 11 rfl rfl (by kernel_rfl) (by kernel_rfl) (by simp) ⟨⟨2, rfl⟩, ⟨1, rfl⟩⟩ rfl (fun hc => ⟨_, OpenTo.upd (t := 47) rfl (by first | exact hc | simp_all) (OpenTo.refl _), fun M hM => by
       obtain ⟨_, ⟨i, hi⟩⟩ := hM; exact zaP (i := i) (es := F) zG rfl hi ⟨rfl, rfl⟩
       ⟩) ?_
      refine ahg 12 rfl rfl (by kernel_rfl) (by kernel_rfl) rfl (fun hc => ⟨_, OpenTo.upd (t := 48) rfl (by first | exact hc | simp_all) (OpenTo.refl _), zO rfl rfl⟩) ?_
      refine ahp 13 rfl rfl (by kernel_rfl) (by kernel_rfl) (zB rfl (.inr ⟨_, rfl, fun h => by simp_all⟩) (.inl rfl)) ?_
      refine ahp 14 rfl rfl (by kernel_rfl) (by kernel_rfl) (zg rfl) ?_
      refine ahg 15 rfl rfl (by kernel_rfl) (by kernel_rfl) rfl (fun hc => ⟨_, OpenTo.refl _, zg rfl⟩) ?_
      refine ahe 16 rfl (by kernel_rfl) ?_
      refine zuA (fun q M' => ∃ (y : Bool) (a5 : Nat), q = .bool y ∧ a5 ≤ a4 + 1 ∧ M' = [St b l a5, .arr v 1 (F.map .str), .cells b8 [.str x.Player, .raw v], .arr u 2 (out.map zbY)]) rfl rfl (fun hc => ⟨_, false, a4, rfl, by omega, rfl⟩) (fun hc => ⟨_, OpenTo.upd (t := 52) rfl (by first | exact hc | simp_all) (OpenTo.refl _), zi (i := 0) zhu rfl (WeakL.refl _) rfl (zaI (a := a4) (by omega) (by omega)) (fun h M' hh => by
       obtain ⟨y, h1, h2⟩ := hh
       exact ⟨y, a4 + 1, h1, by omega, by rw [h2]; rfl⟩)⟩) ?_
      rintro _ _ ⟨y53, a5, rfl, ha5, rfl⟩
      refine ⟨fun _ => .inl ⟨⟨2, rfl⟩, ⟨1, rfl⟩⟩, ?_⟩
      refine ahg 17 rfl rfl (by kernel_rfl) (by kernel_rfl) rfl (fun hc => ⟨_, OpenTo.upd (t := 53) rfl (by first | exact hc | simp_all) (OpenTo.refl _), zao rfl⟩) ?_
      refine ahp 18 rfl rfl (by kernel_rfl) (by kernel_rfl) (zB rfl (.inr ⟨_, rfl, fun h => by simp_all⟩) (.inl rfl)) ?_
      refine ahz (by kernel_rfl) ?_
      refine zj rfl (fun h7 => ?_) (fun h8 => ?_)
      ·try simp at h7
       refine zbV (fun _ => True) [] mixed ?_
       refine ahp 0 rfl rfl (by kernel_rfl) (by kernel_rfl) (zw zaj rfl zG (by decide) rfl) ?_
       refine ahp 2 rfl rfl (by kernel_rfl) (by kernel_rfl) (zg rfl) ?_
       refine ahp 3 rfl rfl (by kernel_rfl) (by kernel_rfl) (zg rfl) ?_
       refine ahp 4 rfl rfl (by kernel_rfl) (by kernel_rfl) (zJ (j := z.toNat) (a := ow) zaV zae rfl rfl (by omega) how) ?_
       refine ahp 5 rfl rfl (by kernel_rfl) (by kernel_rfl) ((by first | exact zc zae rfl ty9 (by decide) rfl | exact zw zae rfl ty9 (by decide) rfl)) ?_
       refine ahp 6 rfl rfl (by kernel_rfl) (by kernel_rfl) (ze ty9 rfl rfl rfl) ?_
       refine ahp 7 rfl rfl (by kernel_rfl) (by kernel_rfl) (zK (hs := [_]) zG ty9 rfl rfl (by decide) (by decide) rfl) ?_
       refine ahe 1 rfl (by kernel_rfl) ?_
       first
       | refine zH rfl (zP (i := 0) zG rfl rfl (.inl ⟨rfl, rfl⟩) ?_)
       | refine zH rfl (zP (i := 1) zG rfl rfl (.inl ⟨rfl, rfl⟩) ?_)
       | refine zH rfl (zP (i := 2) zG rfl rfl (.inl ⟨rfl, rfl⟩) ?_)
       | refine zH rfl (zP (i := 3) zG rfl rfl (.inl ⟨rfl, rfl⟩) ?_)
       refine ⟨fun _ => .inl trivial, ?_⟩
       refine ahe 8 rfl (by kernel_rfl) ?_
       refine zH rfl (zam (i := 1) (v := v) (es := F.map .str) zG ty9 rfl rfl rfl rfl rfl (by simp [zaD, zm]) (by simp; omega) fun v64 => ?_)
       refine ⟨fun _ => .inl trivial, ?_⟩
       refine ahp 9 rfl rfl (by kernel_rfl) (by kernel_rfl) (zw zaj rfl zG (by decide) rfl) ?_
       refine ahe 10 rfl (by kernel_rfl) ?_
       first
       | refine zau (zx (i := 0) zG rfl rfl rfl rfl rfl (Nat.le_of_ble_eq_true rfl) ?_)
       | refine zau (zx (i := 1) zG rfl rfl rfl rfl rfl (Nat.le_of_ble_eq_true rfl) ?_)
       | refine zau (zx (i := 2) zG rfl rfl rfl rfl rfl (Nat.le_of_ble_eq_true rfl) ?_)
       | refine zau (zx (i := 3) zG rfl rfl rfl rfl rfl (Nat.le_of_ble_eq_true rfl) ?_)
       refine ⟨fun _ => .inl trivial, ?_⟩
       refine ahz (by kernel_rfl) ?_
       refine zz ?_
       refine zf ?_
       refine zy ?_
       refine dq (zv rfl rfl (by omega) (by omega)) ?_
       refine dmv rfl ?_
       refine dn ?_
       exact ⟨j + 1, v64, F ++ [ow.Player], a5, ⟨by omega, by rw [List.length_append, List.length_singleton]; first | omega | (simp_all; omega), zpu hFs (ho.all ow (List.mem_of_getElem? how)).1, by omega⟩, by dsimp only; omega, ⟨rfl, trivial⟩, (by repeat (first | exact zo | refine zt rfl ?_ | refine zp rfl rfl ?_)), zL (by dsimp only; rw [List.map_append]; rfl)⟩
      ·try simp at h8
       refine zk ?_
       refine zz ?_
       refine zf ?_
       refine zy ?_
       refine dq (zv rfl rfl (by omega) (by omega)) ?_
       refine dmv rfl ?_
       refine dn ?_
       exact ⟨j + 1, v, F, a5, ⟨by omega, hF3, hFs, by omega⟩, by dsimp only; omega, ⟨rfl, trivial⟩, (by repeat (first | exact zo | refine zt rfl ?_ | refine zp rfl rfl ?_)), zL rfl⟩
     ·try simp at h6
      have hnj : L31.length ≤ j := by omega
      obtain rfl : j = L31.length := by omega
      refine zN ?_
      refine zT ?_
      refine zkw ?_
      refine zD ?_
      refine zf ?_
      refine zI (Ghost.fcell (i := 1) (k := 1) (j := 1) rfl rfl rfl) ?_
      refine zy ?_
      refine dmv rfl ?_
      refine de rfl (zeG (i := 1) (h := zbY ⟨x.Player, F⟩) zaj rfl rfl rfl rfl rfl ?_)
      refine dq (zK (hs := [_]) zbj zaj rfl rfl (by decide) (by decide) rfl) ?_
      refine de rfl (zam (i := 2) (v := u) (es := out.map zbY) zbj zaj rfl rfl rfl rfl rfl (by simp [zaD, zm]) (by simp; omega) fun v70 => ?_)
      refine das rfl ?_
      refine dn ?_
      refine zz ?_
      refine zf ?_
      try refine zI (Ghost.rm 1 (m := .cells b8 [.str x.Player, .slice 1 (F.map .str)]) rfl) ?_
      refine zy ?_
      refine dq (zv rfl rfl (by omega) (by omega)) ?_
      refine dmv rfl ?_
      refine dn ?_
      exact ⟨k + 1, ⟨v70, out ++ [⟨x.Player, F⟩], a4⟩, ⟨by omega, by simp; omega, hq.add (x := (⟨x.Player, F⟩ : WantS)) ⟨hox.1, by dsimp only; omega, hFs⟩ (by omega)⟩, by dsimp only; omega, ⟨rfl, rfl, trivial⟩, (by repeat (first | exact zo | refine zt rfl ?_ | refine zp rfl rfl ?_)), by repeat (first | exact List.Perm.nil | refine zS 0 rfl ?_ | refine zS 1 rfl ?_ | refine zS 2 rfl ?_ | refine zS 3 rfl ?_ | (refine zM 0 rfl ?hq ?_; (case hq => simp [z8, zm]; done)) | (refine zM 1 rfl ?hq ?_; (case hq => simp [z8, zm]; done)) | (refine zM 2 rfl ?hq ?_; (case hq => simp [z8, zm]; done)) | (refine zM 3 rfl ?hq ?_; (case hq => simp [z8, zm]; done)) | fail)⟩
  ·try simp at h2
   have hnk : o.length ≤ k := by omega
   obtain rfl : k = o.length := by omega
   refine zN ?_
   refine zT ?_
   refine za3 ?_
   refine zD ?_
   refine zf ?_
   refine zf3 [11, 72, 73, 74, 75, 76, 77, 78, 79, 80, 81, 82, 83, 84, 85, 86, 87, 88, 89, 90, 91, 92, 93, 94, 95, 96, 97, 98, 99, 100, 101, 102, 103, 104, 105, 106, 107, 108, 109, 110, 111, 112, 113, 114, 115] (fun (q : List WantS × Nat) => []) (fun (q : List WantS × Nat) => [St b l q.2, .arr u 2 (q.1.map zbY)]) (fun (q : List WantS × Nat) => q.1.length ≤ 5 ∧ (∀ x ∈ q.1, zk9 x) ∧ q.2 ≤ a + 400) ?_ ?_
   ·skip
    refine zb ?_
    refine dmv rfl ?_
    refine de rfl (zaP (i := 1) (es := out) zbj rfl rfl ?_)
    refine dq (zai rfl rfl) ?_
    refine dmv rfl ?_
    refine dg rfl rfl (fun hc => ⟨_, OpenTo.refl _, zg rfl⟩) ?_
    refine dgx (fun x M' => ∃ (y : Bool) (a3 : Nat), x = .bool y ∧ a3 ≤ a2 + 1 ∧ M' = [St b l a3, .arr u 2 (out.map zbY)]) rfl rfl (fun hc => ⟨_, false, a2, rfl, by omega, rfl⟩) (fun hc => ⟨_, OpenTo.upd (t := 76) rfl (by first | exact hc | simp_all) (OpenTo.refl _), zi (i := 0) zhu rfl (WeakL.refl _) rfl (zaI (a := a2) (by omega) (by omega)) (fun h M' hh => by
     obtain ⟨y, h1, h2⟩ := hh
     exact ⟨y, a2 + 1, h1, by omega, by rw [h2]; rfl⟩)⟩) ?_
    rintro _ _ ⟨y, a3, rfl, ha3, rfl⟩
    refine dq (zB rfl (.inr ⟨_, rfl, fun h => by simp_all⟩) (.inl rfl)) ?_
    refine dn ?_
    refine zj rfl (fun h9 => ?_) (fun h10 => ?_)
    ·try simp at h9
     have ho0 : 0 < out.length := by simp_all
     refine zdb (i := 1) rfl (fun h0 he => ?_) (fun ob off cap hv hcap => ?_)
     ·exfalso; have := congrArg List.length he; simp at this; subst this; simp at ho0
     subst hv
     refine zb ?_
     refine dmv rfl ?_
     refine dmv rfl ?_
     refine dmv rfl ?_
     refine de rfl (zaP (i := 1) (es := out) zbj rfl rfl ?_)
     first
     | refine de rfl (zi (i := 0) zfj rfl (WeakL.refl _) rfl (zap (by first | assumption | omega | (simp; omega) | simp_all) (by first | assumption | omega | (simp; omega) | simp_all)) ?_)
     | refine de rfl (zi (i := 1) zfj rfl (WeakL.refl _) rfl (zap (by first | assumption | omega | (simp; omega) | simp_all) (by first | assumption | omega | (simp; omega) | simp_all)) ?_)
     | refine de rfl (zi (i := 2) zfj rfl (WeakL.refl _) rfl (zap (by first | assumption | omega | (simp; omega) | simp_all) (by first | assumption | omega | (simp; omega) | simp_all)) ?_)
     | refine de rfl (zi (i := 3) zfj rfl (WeakL.refl _) rfl (zap (by first | assumption | omega | (simp; omega) | simp_all) (by first | assumption | omega | (simp; omega) | simp_all)) ?_)
     rintro _ _ ⟨y83, rfl, hy83, rfl⟩
     refine dq (zab (j := y83) zbj zaj rfl rfl rfl (by simp; omega)) ?_
     refine das rfl ?_
     refine dn ?_
     obtain ⟨x, hx⟩ : ∃ x, out[y83]? = some x := ⟨_, List.getElem?_eq_getElem (by omega)⟩
     obtain ⟨x0, hx0⟩ : ∃ x, out[0]? = some x := ⟨_, List.getElem?_eq_getElem (by omega)⟩
     refine zbV (fun M => ∃ i : Nat, M[i]? = some (.arr (.slice (some ⟨ob, off, none⟩) (out.map zbY).length cap) 2 (out.map zbY))) [6, 10, 16, 22] mixed ?_
     refine ahp 0 rfl rfl (by kernel_rfl) (by kernel_rfl) (zg rfl) ?_
     refine ahp 1 rfl rfl (by kernel_rfl) (by kernel_rfl) (zg rfl) ?_
     refine ahp 2 rfl rfl (by kernel_rfl) (by kernel_rfl) (zg rfl) ?_
     refine ahp 3 rfl rfl (by kernel_rfl) (by kernel_rfl) (zg rfl) ?_
     refine ahp 4 rfl rfl (by kernel_rfl) (by kernel_rfl) ((by first | exact zaq rfl | exact zW rfl)) ?_
     refine ahp 5 rfl rfl (by kernel_rfl) (by kernel_rfl) ((by first | exact zc zaj rfl ty9 (by decide) rfl | exact zw zaj rfl ty9 (by decide) rfl)) ?_
     refine ahl 6 rfl rfl (by kernel_rfl) (by kernel_rfl) (by simp) ⟨1, rfl⟩ (fun M hM => by obtain ⟨i, hi⟩ := hM; exact zbg (i := i) (j := y83) 0 ty9 rfl (by omega) hi hx rfl rfl ⟨rfl, rfl⟩) ?_
     refine ahp 7 rfl rfl (by kernel_rfl) (by kernel_rfl) (zg rfl) ?_
     refine ahp 8 rfl rfl (by kernel_rfl) (by kernel_rfl) (zab (j := 0) zbj zaj rfl rfl rfl (by simp; omega)) ?_
     refine ahp 9 rfl rfl (by kernel_rfl) (by kernel_rfl) ((by first | exact zc zaj rfl ty9 (by decide) rfl | exact zw zaj rfl ty9 (by decide) rfl)) ?_
     refine ahl 10 rfl rfl (by kernel_rfl) (by kernel_rfl) (by simp) ⟨1, rfl⟩ (fun M hM => by obtain ⟨i, hi⟩ := hM; exact zbg (i := i) (j := 0) 0 ty9 rfl (by omega) hi hx0 rfl rfl ⟨rfl, rfl⟩) ?_
     refine ahp 11 rfl rfl (by kernel_rfl) (by kernel_rfl) (zK (hs := [_, _, _]) zG ty9 rfl rfl (by decide) (by decide) rfl) ?_
     refine ahp 13 rfl rfl (by kernel_rfl) (by kernel_rfl) (zg rfl) ?_
     refine ahp 14 rfl rfl (by kernel_rfl) (by kernel_rfl) ((by first | exact zaq rfl | exact zW rfl)) ?_
     refine ahp 15 rfl rfl (by kernel_rfl) (by kernel_rfl) ((by first | exact zc zaj rfl zG (by decide) rfl | exact zw zaj rfl zG (by decide) rfl)) ?_
     refine ahl 16 rfl rfl (by kernel_rfl) (by kernel_rfl) (by simp) ⟨1, rfl⟩ (fun M hM => by obtain ⟨i, hi⟩ := hM; exact zbg (i := i) (j := y83) 1 zG rfl (by omega) hi hx rfl rfl ⟨rfl, rfl⟩) ?_
     refine ahp 18 rfl rfl (by kernel_rfl) (by kernel_rfl) (zg rfl) ?_
     refine ahp 19 rfl rfl (by kernel_rfl) (by kernel_rfl) (zg rfl) ?_
     refine ahp 20 rfl rfl (by kernel_rfl) (by kernel_rfl) ((by first | exact zaq rfl | exact zW rfl)) ?_
     refine ahp 21 rfl rfl (by kernel_rfl) (by kernel_rfl) ((by first | exact zc zaj rfl ty9 (by decide) rfl | exact zw zaj rfl ty9 (by decide) rfl)) ?_
     refine ahl 22 rfl rfl (by kernel_rfl) (by kernel_rfl) (by simp) ⟨1, rfl⟩ (fun M hM => by obtain ⟨i, hi⟩ := hM; exact zbg (i := i) (j := y83) 0 ty9 rfl (by omega) hi hx rfl rfl ⟨rfl, rfl⟩) ?_
     refine ahp 23 rfl rfl (by kernel_rfl) (by kernel_rfl) (zK (hs := [_, _, _]) zG ty9 rfl rfl (by decide) (by decide) rfl) ?_
     refine ahe 12 rfl (by kernel_rfl) ?_
     first
     | refine zH rfl (zi (i := 0) zcl rfl (WeakL.refl _) rfl (zR (L := [_, _, _]) (by first | assumption | omega | (simp; omega) | simp_all) (by first | assumption | omega | (simp; omega) | simp_all) (by first | assumption | omega | (simp; omega) | simp_all)) ?_)
     | refine zH rfl (zi (i := 1) zcl rfl (WeakL.refl _) rfl (zR (L := [_, _, _]) (by first | assumption | omega | (simp; omega) | simp_all) (by first | assumption | omega | (simp; omega) | simp_all) (by first | assumption | omega | (simp; omega) | simp_all)) ?_)
     | refine zH rfl (zi (i := 2) zcl rfl (WeakL.refl _) rfl (zR (L := [_, _, _]) (by first | assumption | omega | (simp; omega) | simp_all) (by first | assumption | omega | (simp; omega) | simp_all) (by first | assumption | omega | (simp; omega) | simp_all)) ?_)
     | refine zH rfl (zi (i := 3) zcl rfl (WeakL.refl _) rfl (zR (L := [_, _, _]) (by first | assumption | omega | (simp; omega) | simp_all) (by first | assumption | omega | (simp; omega) | simp_all) (by first | assumption | omega | (simp; omega) | simp_all)) ?_)
     rintro _ _ ⟨y97, rfl, hy97, rfl⟩
     refine ⟨fun _ => by first | exact .inl ⟨0, rfl⟩ | exact .inl ⟨1, rfl⟩ | exact .inl ⟨2, rfl⟩ | exact .inr (by simp [zbC, Region.binds]), ?_⟩
     refine ahe 17 rfl (by kernel_rfl) ?_
     refine zH rfl (zeK zqv rfl (WeakL.refl _) (zbA (l := x.For) (by have := (g2 x (List.mem_of_getElem? hx)).2.1; omega)) fun v102 => ?_)
     refine ⟨fun _ => .inl ⟨2, rfl⟩, ?_⟩
     refine ahe 24 rfl (by kernel_rfl) ?_
     first
     | refine zH rfl (zi (i := 0) zcl rfl (WeakL.refl _) rfl (zR (L := [_, _, _]) (by first | assumption | omega | (simp; omega) | simp_all) (by first | assumption | omega | (simp; omega) | simp_all) (by first | assumption | omega | (simp; omega) | simp_all)) ?_)
     | refine zH rfl (zi (i := 1) zcl rfl (WeakL.refl _) rfl (zR (L := [_, _, _]) (by first | assumption | omega | (simp; omega) | simp_all) (by first | assumption | omega | (simp; omega) | simp_all) (by first | assumption | omega | (simp; omega) | simp_all)) ?_)
     | refine zH rfl (zi (i := 2) zcl rfl (WeakL.refl _) rfl (zR (L := [_, _, _]) (by first | assumption | omega | (simp; omega) | simp_all) (by first | assumption | omega | (simp; omega) | simp_all) (by first | assumption | omega | (simp; omega) | simp_all)) ?_)
     | refine zH rfl (zi (i := 3) zcl rfl (WeakL.refl _) rfl (zR (L := [_, _, _]) (by first | assumption | omega | (simp; omega) | simp_all) (by first | assumption | omega | (simp; omega) | simp_all) (by first | assumption | omega | (simp; omega) | simp_all)) ?_)
     rintro _ _ ⟨y109, rfl, hy109, rfl⟩
     refine ⟨fun _ => by first | exact .inl ⟨0, rfl⟩ | exact .inl ⟨1, rfl⟩ | exact .inl ⟨2, rfl⟩ | exact .inr (by simp [zbC, Region.binds]), ?_⟩
     refine ahp 25 rfl rfl (by kernel_rfl) (by kernel_rfl) (zK (hs := [_]) zG ty9 rfl rfl (by decide) (by decide) rfl) ?_
     refine ahe 26 rfl (by kernel_rfl) ?_
     refine zH rfl (EOp.fzi (N := [St b l (a3 + 1 + 1 + 1), .arr (.slice (some ⟨ob, off, none⟩) (out.map zbY).length cap) 2 (out.map zbY)]) (sz := 1) (es := (x.For ++ [y109]).map .str) 1 (zam (i := 1) (es := x.For.map .str) (ys := [.str y109]) zG ty9 rfl rfl rfl rfl rfl (by simp [zaD, zm]) (by have := (g2 x (List.mem_of_getElem? hx)).2.1; simp; omega) fun v111 => ⟨v111, rfl, by simp, rfl⟩) ?_)
     refine ⟨fun _ => .inl ⟨1, rfl⟩, ?_⟩
     refine ahp 27 rfl rfl (by kernel_rfl) (by kernel_rfl) ((by first | exact zaq rfl | exact zW rfl)) ?_
     refine ahp 28 rfl rfl (by kernel_rfl) (by kernel_rfl) ((by first | exact zc zaj rfl ty9 (by decide) rfl | exact zw zaj rfl ty9 (by decide) rfl)) ?_
     refine ahe 29 rfl (by kernel_rfl) ?_
     refine zau (zaR (i := 1) (j := y83) (f := 0) (y := zbY x) (y' := zbY ⟨y97, x.For⟩) ty9 rfl (by omega) rfl rfl (zcJ hx) rfl rfl (by simp [zm]) rfl ?_)
     refine ⟨fun _ => .inr (by simp [zbC, Region.binds]), ?_⟩
     refine ahp 30 rfl rfl (by kernel_rfl) (by kernel_rfl) ((by first | exact zaq rfl | exact zW rfl)) ?_
     refine ahp 31 rfl rfl (by kernel_rfl) (by kernel_rfl) ((by first | exact zc zaj rfl zG (by decide) rfl | exact zw zaj rfl zG (by decide) rfl)) ?_
     refine ahe 32 rfl (by kernel_rfl) ?_
     refine zau (zaR (i := 1) (j := y83) (f := 1) (y := zbY ⟨y97, x.For⟩) (y' := zbY ⟨y97, x.For ++ [y109]⟩) zG rfl (by omega) rfl rfl (zop (zcJ hx)) rfl rfl (by simp [zm]) rfl ?_)
     refine ⟨fun _ => .inr (by simp [zbC, Region.binds]), ?_⟩
     refine ahz (by kernel_rfl) ?_
     exact ⟨(out.set y83 ⟨y97, x.For ++ [y109]⟩, a3 + 3), ⟨by simp; omega, zg4 (P := zk9) (fun z hz => (g2 z hz).up) ⟨by simp at hy97; rcases hy97 with rfl | rfl | rfl; exact (g2 x (List.mem_of_getElem? hx)).1; (unfold Sh; simp); exact (g2 x0 (List.mem_of_getElem? hx0)).1, by have := (g2 x (List.mem_of_getElem? hx)).2.1; simp; omega, zpu (g2 x (List.mem_of_getElem? hx)).2.2 (by simp at hy109; rcases hy109 with rfl | rfl | rfl; (unfold Sh; simp); (unfold Sh; simp); exact (g2 x (List.mem_of_getElem? hx)).1)⟩, by dsimp only; omega⟩, trivial, (by repeat (first | exact zo | refine zt rfl ?_ | refine zp rfl rfl ?_)), by repeat (first | exact List.Perm.nil | refine zS 0 rfl ?_ | refine zS 1 rfl ?_ | refine zS 2 rfl ?_ | refine zS 3 rfl ?_ | (refine zM 0 rfl ?hq ?_; (case hq => simp [z8, zm]; done)) | (refine zM 1 rfl ?hq ?_; (case hq => simp [z8, zm]; done)) | (refine zM 2 rfl ?hq ?_; (case hq => simp [z8, zm]; done)) | (refine zM 3 rfl ?hq ?_; (case hq => simp [z8, zm]; done)) | fail)⟩
    ·try simp at h10
     refine zk ?_
     exact ⟨(out, a3), ⟨by dsimp only; omega, fun z hz => (g2 z hz).up, by dsimp only; omega⟩, trivial, (by repeat (first | exact zo | refine zt rfl ?_ | refine zp rfl rfl ?_)), by repeat (first | exact List.Perm.nil | refine zS 0 rfl ?_ | refine zS 1 rfl ?_ | refine zS 2 rfl ?_ | refine zS 3 rfl ?_ | (refine zM 0 rfl ?hq ?_; (case hq => simp [z8, zm]; done)) | (refine zM 1 rfl ?hq ?_; (case hq => simp [z8, zm]; done)) | (refine zM 2 rfl ?hq ?_; (case hq => simp [z8, zm]; done)) | (refine zM 3 rfl ?hq ?_; (case hq => simp [z8, zm]; done)) | fail)⟩
   ·intro q hq3
    obtain ⟨k1, a4⟩ := q
    dsimp only at hq3
    obtain ⟨q1, q2, q3⟩ := hq3
    refine zb ?_
    refine dmv rfl ?_
    refine das rfl ?_
    refine dn ?_
    refine zn ?_
    refine zbW (Ghost.fa 4 (i := 1) rfl rfl) rfl ⟨k1, a4, rfl, ⟨q1, q2⟩, by omega, rfl⟩
end
section
open Go.HL
/-- benchwarmer/trade.team -/
theorem zdh [Tracks] {o : List OwnerS} {s : Str} (ho : o.length ≤ 1000000) : ConP Tryz.prog 47 [zb4 o, .str s] (.str (zaE o s)) := by
 refine Con.of_body Tryz.func47 rfl Tryz.ntmps47 rfl rfl ?_
 refine zb ?_
 refine das rfl ?_
 refine dn ?_
 refine zh ?_
 refine zb ?_
 refine dmv rfl ?_
 refine dq (zF zaV rfl) ?_
 refine dmv rfl ?_
 refine dn ?_
 refine zl ?_
 refine zZ [4, 6, 9, 10, 11, 12, 13, 14, 15, 16, 17, 18, 19] (fun (k : Nat) => [(9, .int .i64 k)]) (fun (k : Nat) => []) (fun (k : Nat) => k ≤ o.length ∧ (zaE o s = zaE (o.drop k) s)) (fun (k : Nat) => o.length - k) (0) ?_ ?_ ?_ ?_
 ·exact ⟨Nat.zero_le _, rfl⟩
 ·exact ⟨rfl, trivial⟩
 ·exact List.Perm.refl _
 ·intro k hinv
  obtain ⟨hk, hg⟩ := hinv
  refine zb ?_
  refine dq (zO rfl rfl) ?_
  refine dn ?_
  refine zh ?_
  refine zj rfl (fun h1 => ?_) (fun h2 => ?_)
  ·try simp at h1
   obtain ⟨x, hx⟩ : ∃ x, o[k]? = some x := ⟨_, List.getElem?_eq_getElem h1⟩
   have hdx := zQ hx
   rw [hdx] at hg
   refine zk ?_
   refine zf ?_
   refine zh ?_
   refine zl ?_
   refine zb ?_
   refine dq (zJ zaV zae rfl rfl rfl (by first | assumption | simp_all)) ?_
   refine dq (zV zae rfl rfl rfl rfl) ?_
   refine de rfl (zX zae rfl fun b6 => ?_)
   refine de0 (zag zae rfl rfl rfl rfl rfl ?_)
   refine dn ?_
   refine zI (Ghost.fc0 6 rfl) ?_
   refine zb ?_
   refine dq (zc zae rfl ty9 (by decide) rfl) ?_
   refine dq (ze ty9 rfl rfl rfl) ?_
   refine dmv rfl ?_
   refine dq (zaX rfl rfl) ?_
   refine dn ?_
   refine zj rfl (fun h3 => ?_) (fun h4 => ?_)
   ·try simp at h3
    refine zb ?_
    refine dq (zc zae rfl ty9 (by decide) rfl) ?_
    refine dq (ze ty9 rfl rfl rfl) ?_
    refine das rfl ?_
    refine dn ?_
    refine zn ?_
    refine zA rfl ?_
    first | (rw [hg, zaE, if_pos (by simpa using h3)]; done) | (rw [hg, zad (Nat.le_refl _)]; rfl)
   ·try simp at h4
    refine zk ?_
    refine zz ?_
    refine zf ?_
    refine zy ?_
    refine dq (zv rfl rfl (by omega) (by omega)) ?_
    refine dmv rfl ?_
    refine dn ?_
    refine ⟨k + 1, ?_, ?_, ⟨rfl, trivial⟩, (by repeat (first | exact zo | refine zt rfl ?_ | refine zp rfl rfl ?_)), List.Perm.refl _⟩
    ·refine ⟨by omega, ?_⟩
     rw [hg, zaE, if_neg (by simpa using h4)]
    ·dsimp only; omega
  ·try simp at h2
   have hnk : o.length ≤ k := by omega
   obtain rfl : k = o.length := by omega
   refine zN ?_
   refine zT ?_
   refine zah ?_
   refine zD ?_
   refine zf ?_
   refine zb ?_
   refine das rfl ?_
   refine dn ?_
   refine zn ?_
   refine zA rfl ?_
   first | (rw [hg, zaE, if_pos (by simpa using h3)]; done) | (rw [hg, zad (Nat.le_refl _)]; rfl)

/-- benchwarmer/benchref1.teamOf -/
theorem zcY [Tracks] {o : List OwnerS} {s : Str} (ho : o.length ≤ 1000000) : ConP Tryz.prog 45 [zb4 o, .str s] (.str (zaE o s)) := by
 refine Con.of_body Tryz.func45 rfl Tryz.ntmps45 rfl rfl ?_
 refine zb ?_
 refine das rfl ?_
 refine dn ?_
 refine zh ?_
 refine zb ?_
 refine dmv rfl ?_
 refine dq (zF zaV rfl) ?_
 refine dmv rfl ?_
 refine dn ?_
 refine zl ?_
 refine zZ [4, 6, 9, 10, 11, 12, 13, 14, 15, 16, 17, 18, 19] (fun (k : Nat) => [(9, .int .i64 k)]) (fun (k : Nat) => []) (fun (k : Nat) => k ≤ o.length ∧ (zaE o s = zaE (o.drop k) s)) (fun (k : Nat) => o.length - k) (0) ?_ ?_ ?_ ?_
 ·exact ⟨Nat.zero_le _, rfl⟩
 ·exact ⟨rfl, trivial⟩
 ·exact List.Perm.refl _
 ·intro k hinv
  obtain ⟨hk, hg⟩ := hinv
  refine zb ?_
  refine dq (zO rfl rfl) ?_
  refine dn ?_
  refine zh ?_
  refine zj rfl (fun h1 => ?_) (fun h2 => ?_)
  ·try simp at h1
   obtain ⟨x, hx⟩ : ∃ x, o[k]? = some x := ⟨_, List.getElem?_eq_getElem h1⟩
   have hdx := zQ hx
   rw [hdx] at hg
   refine zk ?_
   refine zf ?_
   refine zh ?_
   refine zl ?_
   refine zb ?_
   refine dq (zJ zaV zae rfl rfl rfl (by first | assumption | simp_all)) ?_
   refine dq (zV zae rfl rfl rfl rfl) ?_
   refine de rfl (zX zae rfl fun b6 => ?_)
   refine de0 (zag zae rfl rfl rfl rfl rfl ?_)
   refine dn ?_
   refine zI (Ghost.fc0 6 rfl) ?_
   refine zb ?_
   refine dq (zc zae rfl ty9 (by decide) rfl) ?_
   refine dq (ze ty9 rfl rfl rfl) ?_
   refine dmv rfl ?_
   refine dq (zaX rfl rfl) ?_
   refine dn ?_
   refine zj rfl (fun h3 => ?_) (fun h4 => ?_)
   ·try simp at h3
    refine zb ?_
    refine dq (zc zae rfl ty9 (by decide) rfl) ?_
    refine dq (ze ty9 rfl rfl rfl) ?_
    refine das rfl ?_
    refine dn ?_
    refine zn ?_
    refine zA rfl ?_
    first | (rw [hg, zaE, if_pos (by simpa using h3)]; done) | (rw [hg, zad (Nat.le_refl _)]; rfl)
   ·try simp at h4
    refine zk ?_
    refine zz ?_
    refine zf ?_
    refine zy ?_
    refine dq (zv rfl rfl (by omega) (by omega)) ?_
    refine dmv rfl ?_
    refine dn ?_
    refine ⟨k + 1, ?_, ?_, ⟨rfl, trivial⟩, (by repeat (first | exact zo | refine zt rfl ?_ | refine zp rfl rfl ?_)), List.Perm.refl _⟩
    ·refine ⟨by omega, ?_⟩
     rw [hg, zaE, if_neg (by simpa using h4)]
    ·dsimp only; omega
  ·try simp at h2
   have hnk : o.length ≤ k := by omega
   obtain rfl : k = o.length := by omega
   refine zN ?_
   refine zT ?_
   refine zah ?_
   refine zD ?_
   refine zf ?_
   refine zb ?_
   refine das rfl ?_
   refine dn ?_
   refine zn ?_
   refine zA rfl ?_
   first | (rw [hg, zaE, if_pos (by simpa using h3)]; done) | (rw [hg, zad (Nat.le_refl _)]; rfl)

/-- benchwarmer/trade.forFault -/
theorem zkk [Tracks] {o : List OwnerS} {x : WantS} (ho : o.length ≤ 1000000) (hf : x.For.length ≤ 1000000) : ConP Tryz.prog 48 [zb4 o, zbY x] (.int .i64 (zaL o x)) := by
 refine Con.of_body Tryz.func48 rfl Tryz.ntmps48 rfl rfl ?_
 refine zb ?_
 refine dq (zaC rfl rfl) ?_
 refine das rfl ?_
 refine dn ?_
 refine zh ?_
 refine zb ?_
 refine dq (zc zaj rfl zG (by decide) rfl) ?_
 refine dq (ze zG rfl rfl rfl) ?_
 refine dq (zF zG rfl) ?_
 refine dq (zai rfl rfl) ?_
 refine dn ?_
 refine zj rfl (fun h1 => ?_) (fun h2 => ?_)
 ·try simp at h1
  refine zb ?_
  refine das rfl ?_
  refine dn ?_
  refine zn ?_
  refine zA rfl ?_
  show HVal.int .i64 _ = _
  first
  | (rw [zaL, if_pos (by omega)]; done)
  | (rw [zaL, if_neg (by omega), hg, zad (Nat.le_refl _)]; rfl)
  | (rw [zaL, if_neg (by omega), hg, za2, if_pos (by simp_all)]; done)
  | (rw [zaL, if_neg (by omega), hg, za2, if_neg (by simp_all), if_pos (by simp_all)]; done)
  | (rw [zaL, if_neg (by omega), hg, za2, if_neg (by simp_all), if_neg (by simp_all), if_pos (by simp_all)]; done)
 ·try simp at h2
  refine zk ?_
  refine zf ?_
  refine zh ?_
  refine zb ?_
  refine dq (zc zaj rfl zG (by decide) rfl) ?_
  refine dq (ze zG rfl rfl rfl) ?_
  refine dq (zF zG rfl) ?_
  refine dmv rfl ?_
  refine dn ?_
  refine zl ?_
  refine zZ [4, 5, 6, 14, 15, 16, 17, 18, 19, 20, 21, 22, 23, 24, 25, 26, 27, 28, 29, 30, 31, 32, 33, 34, 35, 36, 37, 38, 39, 40] (fun (k : Nat) => [(14, .int .i64 k)]) (fun (k : Nat) => []) (fun (k : Nat) => k ≤ x.For.length ∧ (za2 o x 0 x.For = za2 o x k (x.For.drop k))) (fun (k : Nat) => x.For.length - k) (0) ?_ ?_ ?_ ?_
  ·exact ⟨Nat.zero_le _, rfl⟩
  ·exact ⟨rfl, trivial⟩
  ·exact List.Perm.refl _
  ·intro k hinv
   obtain ⟨hk, hg⟩ := hinv
   refine zb ?_
   refine dq (zO rfl rfl) ?_
   refine dn ?_
   refine zh ?_
   refine zj rfl (fun h3 => ?_) (fun h4 => ?_)
   ·try simp at h3
    obtain ⟨y, hy⟩ : ∃ y, x.For[k]? = some y := ⟨_, List.getElem?_eq_getElem h3⟩
    have hdy := zQ hy
    rw [hdy] at hg
    refine zk ?_
    refine zf ?_
    refine zh ?_
    refine zl ?_
    refine zb ?_
    refine dmv rfl ?_
    refine dq (zJ zG ty9 rfl rfl rfl (by first | assumption | simp_all)) ?_
    refine dq (ze ty9 rfl rfl rfl) ?_
    refine das rfl ?_
    refine das rfl ?_
    refine dn ?_
    refine zl ?_
    refine zb ?_
    refine dmv rfl ?_
    refine dmv rfl ?_
    refine dq (zq zl0 rfl (WeakL.refl _) (zdh ho)) ?_
    refine dq (zaX rfl rfl) ?_
    refine das rfl ?_
    refine dn ?_
    refine zj rfl (fun h5 => ?_) (fun h6 => ?_)
    ·try simp at h5
     refine zb ?_
     refine das rfl ?_
     refine dn ?_
     refine zn ?_
     refine zA rfl ?_
     show HVal.int .i64 _ = _
     first
     | (rw [zaL, if_pos (by omega)]; done)
     | (rw [zaL, if_neg (by omega), hg, zad (Nat.le_refl _)]; rfl)
     | (rw [zaL, if_neg (by omega), hg, za2, if_pos (by simp_all)]; done)
     | (rw [zaL, if_neg (by omega), hg, za2, if_neg (by simp_all), if_pos (by simp_all)]; done)
     | (rw [zaL, if_neg (by omega), hg, za2, if_neg (by simp_all), if_neg (by simp_all), if_pos (by simp_all)]; done)
    ·try simp at h6
     refine zb ?_
     refine dq (zc zaj rfl zG (by decide) rfl) ?_
     refine dq (ze zG rfl rfl rfl) ?_
     refine dmv rfl ?_
     refine dq (zdx zG ty9 rfl rfl ⟨_, _, rfl, rfl⟩ (by omega) (by omega)) ?_
     refine dmv rfl ?_
     refine dq (zq zi8 rfl (WeakL.refl _) (zay (l := x.For.take k) (s := y) (by rw [List.length_take]; omega))) ?_
     refine das rfl ?_
     refine dn ?_
     refine zj rfl (fun h7 => ?_) (fun h8 => ?_)
     ·try simp at h7
      refine zb ?_
      refine das rfl ?_
      refine dn ?_
      refine zn ?_
      refine zA rfl ?_
      show HVal.int .i64 _ = _
      first
      | (rw [zaL, if_pos (by omega)]; done)
      | (rw [zaL, if_neg (by omega), hg, zad (Nat.le_refl _)]; rfl)
      | (rw [zaL, if_neg (by omega), hg, za2, if_pos (by simp_all)]; done)
      | (rw [zaL, if_neg (by omega), hg, za2, if_neg (by simp_all), if_pos (by simp_all)]; done)
      | (rw [zaL, if_neg (by omega), hg, za2, if_neg (by simp_all), if_neg (by simp_all), if_pos (by simp_all)]; done)
     ·try simp at h8
      refine za9 (fun _ => True) [] mixed ?_
      refine ahp 0 rfl rfl (by kernel_rfl) (by kernel_rfl) (zg rfl) ?_
      refine ahp 1 rfl rfl (by kernel_rfl) (by kernel_rfl) (zg rfl) ?_
      refine ahp 2 rfl rfl (by kernel_rfl) (by kernel_rfl) (zq zl0 rfl (WeakL.refl _) (zdh ho)) ?_
      refine ahp 3 rfl rfl (by kernel_rfl) (by kernel_rfl) (zg rfl) ?_
      refine ahp 4 rfl rfl (by kernel_rfl) (by kernel_rfl) (zc zaj rfl ty9 (by decide) rfl) ?_
      refine ahp 5 rfl rfl (by kernel_rfl) (by kernel_rfl) (ze ty9 rfl rfl rfl) ?_
      refine ahp 6 rfl rfl (by kernel_rfl) (by kernel_rfl) (zq zl0 rfl (WeakL.refl _) (zdh ho)) ?_
      refine ahp 7 rfl rfl (by kernel_rfl) (by kernel_rfl) (zaX rfl rfl) ?_
      refine ahp 8 rfl rfl (by kernel_rfl) (by kernel_rfl) (zaW rfl) ?_
      refine ahz (by kernel_rfl) ?_
      refine zj rfl (fun h9 => ?_) (fun h10 => ?_)
      ·try simp at h9
       refine zb ?_
       refine das rfl ?_
       refine dn ?_
       refine zn ?_
       refine zA rfl ?_
       show HVal.int .i64 _ = _
       first
       | (rw [zaL, if_pos (by omega)]; done)
       | (rw [zaL, if_neg (by omega), hg, zad (Nat.le_refl _)]; rfl)
       | (rw [zaL, if_neg (by omega), hg, za2, if_pos (by simp_all)]; done)
       | (rw [zaL, if_neg (by omega), hg, za2, if_neg (by simp_all), if_pos (by simp_all)]; done)
       | (rw [zaL, if_neg (by omega), hg, za2, if_neg (by simp_all), if_neg (by simp_all), if_pos (by simp_all)]; done)
      ·try simp at h10
       refine zk ?_
       refine zz ?_
       refine zz ?_
       refine zf ?_
       refine zy ?_
       refine dq (zv rfl rfl (by omega) (by omega)) ?_
       refine dmv rfl ?_
       refine dn ?_
       refine ⟨k + 1, ?_, ?_, ⟨rfl, trivial⟩, (by repeat (first | exact zo | refine zt rfl ?_ | refine zp rfl rfl ?_)), List.Perm.refl _⟩
       ·refine ⟨by omega, ?_⟩
        rw [hg, zlf (by simp_all) (by simp_all) (by simp_all)]
       ·dsimp only; omega
   ·try simp at h4
    have hnk : x.For.length ≤ k := by omega
    obtain rfl : k = x.For.length := by omega
    refine zN ?_
    refine zT ?_
    refine zah ?_
    refine zD ?_
    refine zf ?_
    refine zb ?_
    refine das rfl ?_
    refine dn ?_
    refine zn ?_
    refine zA rfl ?_
    show HVal.int .i64 _ = _
    first
    | (rw [zaL, if_pos (by omega)]; done)
    | (rw [zaL, if_neg (by omega), hg, zad (Nat.le_refl _)]; rfl)
    | (rw [zaL, if_neg (by omega), hg, za2, if_pos (by simp_all)]; done)
    | (rw [zaL, if_neg (by omega), hg, za2, if_neg (by simp_all), if_pos (by simp_all)]; done)
    | (rw [zaL, if_neg (by omega), hg, za2, if_neg (by simp_all), if_neg (by simp_all), if_pos (by simp_all)]; done)

/-- benchwarmer/trade.CheckWants -/
theorem zfy [Tracks] {m : MarketS} {o : List OwnerS} {w : List WantS} (ht : m.Teams.length ≤ 1000000) (ho : o.length ≤ 1000000) (hw : w.length ≤ 1000000) (hf : ∀ x ∈ w, x.For.length ≤ 1000000) : ConP Tryz.prog 12 [zbr m, zb4 o, zc8 w] (.int .i64 (zar m o w)) := by
 refine Con.of_body Tryz.func12 rfl Tryz.ntmps12 rfl rfl ?_
 refine zb ?_
 refine dq (zaC rfl rfl) ?_
 refine das rfl ?_
 refine dn ?_
 refine zh ?_
 refine zb ?_
 refine dq (zV z7 rfl rfl rfl rfl) ?_
 refine dmv rfl ?_
 refine dq (zq ca46 rfl (WeakL.refl _) (zib ht ho)) ?_
 refine das rfl ?_
 refine dn ?_
 refine zb ?_
 refine dmv rfl ?_
 refine dq (zaM rfl rfl) ?_
 refine dn ?_
 refine zj rfl (fun h1 => ?_) (fun h2 => ?_)
 ·try simp at h1
  refine zb ?_
  refine dmv rfl ?_
  refine das rfl ?_
  refine dn ?_
  refine zn ?_
  refine zA rfl ?_
  show HVal.int .i64 _ = _
  first
  | (rw [zar, if_pos (by simpa using h1)]; done)
  | (rw [zar, if_neg (by simpa using h2), zY, if_pos (by omega)]; done)
  | (rw [zar, if_neg (by simpa using h2), zY, if_neg (by omega), hg, zad (Nat.le_refl _)]; rfl)
  | (rw [zar, if_neg (by simpa using h2), zY, if_neg (by omega), hg, zaf, if_pos (by simp_all)]; done)
  | (rw [zar, if_neg (by simpa using h2), zY, if_neg (by omega), hg, zaf, if_neg (by simp_all), if_pos (by simp_all)]; done)
  | (rw [zar, if_neg (by simpa using h2), zY, if_neg (by omega), hg, zaf, if_neg (by simp_all), if_neg (by simp_all), if_pos (by simp_all)]; done)
 ·try simp at h2
  refine zk ?_
  refine zf ?_
  refine zh ?_
  refine zb ?_
  refine dmv rfl ?_
  refine dq (zF zbj rfl) ?_
  refine dq (zai rfl rfl) ?_
  refine dn ?_
  refine zj rfl (fun h3 => ?_) (fun h4 => ?_)
  ·try simp at h3
   refine zb ?_
   refine das rfl ?_
   refine dn ?_
   refine zn ?_
   refine zA rfl ?_
   show HVal.int .i64 _ = _
   first
   | (rw [zar, if_pos (by simpa using h1)]; done)
   | (rw [zar, if_neg (by simpa using h2), zY, if_pos (by omega)]; done)
   | (rw [zar, if_neg (by simpa using h2), zY, if_neg (by omega), hg, zad (Nat.le_refl _)]; rfl)
   | (rw [zar, if_neg (by simpa using h2), zY, if_neg (by omega), hg, zaf, if_pos (by simp_all)]; done)
   | (rw [zar, if_neg (by simpa using h2), zY, if_neg (by omega), hg, zaf, if_neg (by simp_all), if_pos (by simp_all)]; done)
   | (rw [zar, if_neg (by simpa using h2), zY, if_neg (by omega), hg, zaf, if_neg (by simp_all), if_neg (by simp_all), if_pos (by simp_all)]; done)
  ·try simp at h4
   refine zk ?_
   refine zf ?_
   refine zh ?_
   refine zb ?_
   refine dmv rfl ?_
   refine dq (zF zbj rfl) ?_
   refine dmv rfl ?_
   refine dn ?_
   refine zl ?_
   refine zZ [6, 8, 9, 10, 22, 23, 24, 25, 26, 27, 28, 29, 30, 31, 32, 33, 34, 35, 36, 37, 38, 39, 40, 41, 42, 43, 44, 45, 46, 47, 48, 49, 50, 51, 52, 53] (fun (k : Nat) => [(22, .int .i64 k)]) (fun (k : Nat) => []) (fun (k : Nat) => k ≤ w.length ∧ (zaf o w 0 w = zaf o w k (w.drop k))) (fun (k : Nat) => w.length - k) (0) ?_ ?_ ?_ ?_
   ·exact ⟨Nat.zero_le _, rfl⟩
   ·exact ⟨rfl, trivial⟩
   ·exact List.Perm.refl _
   ·intro k hinv
    obtain ⟨hk, hg⟩ := hinv
    refine zb ?_
    refine dq (zO rfl rfl) ?_
    refine dn ?_
    refine zh ?_
    refine zj rfl (fun h5 => ?_) (fun h6 => ?_)
    ·try simp at h5
     obtain ⟨x, hx⟩ : ∃ x, w[k]? = some x := ⟨_, List.getElem?_eq_getElem h5⟩
     have hdx := zQ hx
     rw [hdx] at hg
     refine zk ?_
     refine zf ?_
     refine zh ?_
     refine zl ?_
     refine zb ?_
     refine dmv rfl ?_
     refine dq (zJ zbj zaj rfl rfl rfl (by first | assumption | simp_all)) ?_
     refine dq (zV zaj rfl rfl rfl rfl) ?_
     refine de rfl (zX zaj rfl fun b9 => ?_)
     refine das rfl ?_
     refine de0 (zag zaj rfl rfl rfl rfl rfl ?_)
     refine dn ?_
     refine zI (Ghost.fc0 9 rfl) ?_
     refine zh ?_
     refine zl ?_
     refine zb ?_
     refine dmv rfl ?_
     refine dq (zc zaj rfl ty9 (by decide) rfl) ?_
     refine dq (ze ty9 rfl rfl rfl) ?_
     refine dq (zq zl0 rfl (WeakL.refl _) (zdh ho)) ?_
     refine dq (zaX rfl rfl) ?_
     refine das rfl ?_
     refine dn ?_
     refine zj rfl (fun h7 => ?_) (fun h8 => ?_)
     ·try simp at h7
      refine zb ?_
      refine das rfl ?_
      refine dn ?_
      refine zn ?_
      refine zA rfl ?_
      show HVal.int .i64 _ = _
      first
      | (rw [zar, if_pos (by simpa using h1)]; done)
      | (rw [zar, if_neg (by simpa using h2), zY, if_pos (by omega)]; done)
      | (rw [zar, if_neg (by simpa using h2), zY, if_neg (by omega), hg, zad (Nat.le_refl _)]; rfl)
      | (rw [zar, if_neg (by simpa using h2), zY, if_neg (by omega), hg, zaf, if_pos (by simp_all)]; done)
      | (rw [zar, if_neg (by simpa using h2), zY, if_neg (by omega), hg, zaf, if_neg (by simp_all), if_pos (by simp_all)]; done)
      | (rw [zar, if_neg (by simpa using h2), zY, if_neg (by omega), hg, zaf, if_neg (by simp_all), if_neg (by simp_all), if_pos (by simp_all)]; done)
     ·try simp at h8
      refine za9 (fun _ => True) [] mixed ?_
      refine ahp 0 rfl rfl (by kernel_rfl) (by kernel_rfl) (zg rfl) ?_
      refine ahp 1 rfl rfl (by kernel_rfl) (by kernel_rfl) (zai rfl rfl) ?_
      refine ahp 2 rfl rfl (by kernel_rfl) (by kernel_rfl) (zg rfl) ?_
      refine ahg 3 rfl rfl (by kernel_rfl) (by kernel_rfl) rfl (fun hc => ⟨_, OpenTo.refl _, zc zaj rfl ty9 (by decide) rfl⟩) ?_
      refine ahg 4 rfl rfl (by kernel_rfl) (by kernel_rfl) rfl (fun hc => ⟨_, OpenTo.upd (t := 37) rfl (by first | exact hc | simp_all) (OpenTo.refl _), ze ty9 rfl rfl rfl⟩) ?_
      refine ahg 5 rfl rfl (by kernel_rfl) (by kernel_rfl) rfl (fun hc => ⟨_, OpenTo.refl _, zg rfl⟩) ?_
      refine ahg 6 rfl rfl (by kernel_rfl) (by kernel_rfl) rfl (fun hc => ⟨_, OpenTo.refl _, zg rfl⟩) ?_
      refine ahg 7 rfl rfl (by kernel_rfl) (by kernel_rfl) rfl (fun hc => by have hq := hc; (try simp at hq); exact ⟨_, OpenTo.upd (t := 40) rfl (by first | exact hc | simp_all) (OpenTo.refl _), zal rfl rfl (by omega) (by omega)⟩) ?_
      refine ahg 8 rfl rfl (by kernel_rfl) (by kernel_rfl) rfl (fun hc => by have hq := hc; (try simp at hq); exact ⟨_, OpenTo.upd (t := 41) rfl (by first | exact hc | simp_all) (OpenTo.upd (t := 39) rfl (by first | exact hc | simp_all) (OpenTo.refl _)), zJ (j := k - 1) (a := w.getD (k - 1) zcm) zbj zaj rfl rfl (by omega) (getD_some (by omega))⟩) ?_
      refine ahg 9 rfl rfl (by kernel_rfl) (by kernel_rfl) rfl (fun hc => ⟨_, OpenTo.upd (t := 42) rfl (by first | exact hc | simp_all) (OpenTo.refl _), zc zaj rfl ty9 (by decide) rfl⟩) ?_
      refine ahg 10 rfl rfl (by kernel_rfl) (by kernel_rfl) rfl (fun hc => ⟨_, OpenTo.upd (t := 43) rfl (by first | exact hc | simp_all) (OpenTo.refl _), ze ty9 rfl rfl rfl⟩) ?_
      refine ahg 11 rfl rfl (by kernel_rfl) (by kernel_rfl) rfl (fun hc => ⟨_, OpenTo.upd (t := 44) rfl (by first | exact hc | simp_all) (OpenTo.upd (t := 38) rfl (by first | exact hc | simp_all) (OpenTo.refl _)), zdv rfl rfl⟩) ?_
      refine ahp 12 rfl rfl (by kernel_rfl) (by kernel_rfl) (zB rfl (.inr ⟨_, rfl, fun h => by simp_all⟩) (.inl rfl)) ?_
      refine ahp 13 rfl rfl (by kernel_rfl) (by kernel_rfl) (zaW rfl) ?_
      refine ahz (by kernel_rfl) ?_
      refine zj rfl (fun h9 => ?_) (fun h10 => ?_)
      ·try simp at h9
       refine zb ?_
       refine das rfl ?_
       refine dn ?_
       refine zn ?_
       refine zA rfl ?_
       show HVal.int .i64 _ = _
       first
       | (rw [zar, if_pos (by simpa using h1)]; done)
       | (rw [zar, if_neg (by simpa using h2), zY, if_pos (by omega)]; done)
       | (rw [zar, if_neg (by simpa using h2), zY, if_neg (by omega), hg, zad (Nat.le_refl _)]; rfl)
       | (rw [zar, if_neg (by simpa using h2), zY, if_neg (by omega), hg, zaf, if_pos (by simp_all)]; done)
       | (rw [zar, if_neg (by simpa using h2), zY, if_neg (by omega), hg, zaf, if_neg (by simp_all), if_pos (by simp_all)]; done)
       | (rw [zar, if_neg (by simpa using h2), zY, if_neg (by omega), hg, zaf, if_neg (by simp_all), if_neg (by simp_all), if_pos (by simp_all)]; done)
      ·try simp at h10
       refine zk ?_
       refine zz ?_
       refine zf ?_
       refine zb ?_
       refine dmv rfl ?_
       refine dq (zV zaj rfl rfl rfl rfl) ?_
       refine dq (zq ca48 rfl (WeakL.refl _) (zkk ho (hf x (List.mem_of_getElem? hx)))) ?_
       refine das rfl ?_
       refine dn ?_
       refine zb ?_
       refine dmv rfl ?_
       refine dq (zaM rfl rfl) ?_
       refine dn ?_
       refine zj rfl (fun h11 => ?_) (fun h12 => ?_)
       ·try simp at h11
        refine zb ?_
        refine dmv rfl ?_
        refine das rfl ?_
        refine dn ?_
        refine zn ?_
        refine zA rfl ?_
        show HVal.int .i64 _ = _
        first
        | (rw [zar, if_pos (by simpa using h1)]; done)
        | (rw [zar, if_neg (by simpa using h2), zY, if_pos (by omega)]; done)
        | (rw [zar, if_neg (by simpa using h2), zY, if_neg (by omega), hg, zad (Nat.le_refl _)]; rfl)
        | (rw [zar, if_neg (by simpa using h2), zY, if_neg (by omega), hg, zaf, if_pos (by simp_all)]; done)
        | (rw [zar, if_neg (by simpa using h2), zY, if_neg (by omega), hg, zaf, if_neg (by simp_all), if_pos (by simp_all)]; done)
        | (rw [zar, if_neg (by simpa using h2), zY, if_neg (by omega), hg, zaf, if_neg (by simp_all), if_neg (by simp_all), if_pos (by simp_all)]; done)
       ·try simp at h12
        refine zk ?_
        refine zz ?_
        refine zf ?_
        refine zy ?_
        refine dq (zv rfl rfl (by omega) (by omega)) ?_
        refine dmv rfl ?_
        refine dn ?_
        refine ⟨k + 1, ?_, ?_, ⟨rfl, trivial⟩, (by repeat (first | exact zo | refine zt rfl ?_ | refine zp rfl rfl ?_)), List.Perm.refl _⟩
        ·refine ⟨by omega, ?_⟩
         rw [hg, zaf, if_neg (by simp_all), if_neg (by simp_all), if_neg (by simp_all)]
        ·dsimp only; omega
    ·try simp at h6
     have hnk : w.length ≤ k := by omega
     obtain rfl : k = w.length := by omega
     refine zN ?_
     refine zT ?_
     refine zah ?_
     refine zD ?_
     refine zf ?_
     refine zb ?_
     refine das rfl ?_
     refine dn ?_
     refine zn ?_
     refine zA rfl ?_
     show HVal.int .i64 _ = _
     first
     | (rw [zar, if_pos (by simpa using h1)]; done)
     | (rw [zar, if_neg (by simpa using h2), zY, if_pos (by omega)]; done)
     | (rw [zar, if_neg (by simpa using h2), zY, if_neg (by omega), hg, zad (Nat.le_refl _)]; rfl)
     | (rw [zar, if_neg (by simpa using h2), zY, if_neg (by omega), hg, zaf, if_pos (by simp_all)]; done)
     | (rw [zar, if_neg (by simpa using h2), zY, if_neg (by omega), hg, zaf, if_neg (by simp_all), if_pos (by simp_all)]; done)
     | (rw [zar, if_neg (by simpa using h2), zY, if_neg (by omega), hg, zaf, if_neg (by simp_all), if_neg (by simp_all), if_pos (by simp_all)]; done)

set_option maxHeartbeats 1000000 in
/-- benchwarmer/benchref1.WantsFault -/
theorem zgR [Tracks] {o : List OwnerS} {w : List WantS} (ho : o.length ≤ 1000000) (hw : w.length ≤ 1000000) (hf : ∀ x ∈ w, x.For.length ≤ 1000000) : ConP Tryz.prog 11 [zb4 o, zc8 w] (.int .i64 (zY o w)) := by
 refine Con.of_body Tryz.func11 rfl Tryz.ntmps11 rfl rfl ?_
 refine zb ?_
 refine das rfl ?_
 refine dn ?_
 refine zh ?_
 refine zb ?_
 refine dmv rfl ?_
 refine dq (zF zbj rfl) ?_
 refine dq (zai rfl rfl) ?_
 refine dn ?_
 refine zj rfl (fun h1 => ?_) (fun h2 => ?_)
 ·try simp at h1
  refine zb ?_
  refine das rfl ?_
  refine dn ?_
  refine zn ?_
  refine zA rfl ?_
  show HVal.int .i64 _ = _
  first
  | (refine congrArg _ (zbn (e := 8) ?_ hg ?_ ?_ (zii ?_ hj2 ?_) ?_).symm <;> first | omega | assumption | decide | (simp_all; done))
  | (refine congrArg _ (zbn (e := 6) ?_ hg ?_ ?_ (ziJ ?_ hj2 ?_ ?_) ?_).symm <;> first | omega | assumption | decide | (simp_all; done))
  | (refine congrArg _ (zbn (e := 16) ?_ hg ?_ ?_ (zgL ?_ hj2 ?_ ?_ ?_) ?_).symm <;> first | omega | assumption | decide | (simp_all; done))
  | (rw [zY, if_pos (by omega)]; done)
  | (rw [zY, if_neg (by omega), hg, zad (Nat.le_refl _)]; rfl)
  | (rw [zY, if_neg (by omega), hg, zaf, if_pos (by simp_all)]; done)
  | (rw [zY, if_neg (by omega), hg, zaf, if_neg (by simp_all), if_pos (by simp_all)]; done)
  | (rw [zY, if_neg (by omega), hg, zaf, if_neg (by simp_all), if_neg (by simp_all), if_pos (by rw [zaL, if_pos (by omega)]; decide), zaL, if_pos (by omega)]; done)
 ·try simp at h2
  refine zk ?_
  refine zf ?_
  refine zh ?_
  refine zb ?_
  refine dmv rfl ?_
  refine dq (zF zbj rfl) ?_
  refine dmv rfl ?_
  refine dn ?_
  refine zl ?_
  refine zZ (4 :: 5 :: 6 :: 7 :: 8 :: 14 :: 15 :: 16 :: 17 :: 18 :: 19 :: 20 :: 21 :: 22 :: 23 :: 24 :: 25 :: 26 :: 27 :: 28 :: 29 :: 30 :: 31 :: 32 :: 33 :: 34 :: 35 :: 36 :: 37 :: 38 :: 39 :: 40 :: 41 :: 42 :: 43 :: 44 :: 45 :: 46 :: 47 :: 48 :: 49 :: 50 :: 51 :: 52 :: 53 :: 54 :: 55 :: 56 :: 57 :: 58 :: 59 :: 60 :: 61 :: 62 :: 63 :: 64 :: 65 :: 66 :: 67 :: 68 :: 69 :: 70 :: 71 :: 72 :: 73 :: 74 :: []) (fun (k : Nat) => [(14, .int .i64 k)]) (fun (k : Nat) => []) (fun (k : Nat) => k ≤ w.length ∧ (zaf o w 0 w = zaf o w k (w.drop k))) (fun (k : Nat) => w.length - k) (0) ?_ ?_ ?_ ?_
  ·exact ⟨Nat.zero_le _, rfl⟩
  ·exact ⟨rfl, trivial⟩
  ·exact List.Perm.refl _
  ·intro k hinv
   obtain ⟨hk, hg⟩ := hinv
   refine zb ?_
   refine dq (zO rfl rfl) ?_
   refine dn ?_
   refine zh ?_
   refine zj rfl (fun h3 => ?_) (fun h4 => ?_)
   ·try simp at h3
    obtain ⟨x, hx⟩ : ∃ x, w[k]? = some x := ⟨_, List.getElem?_eq_getElem h3⟩
    have hdx := zQ hx
    rw [hdx] at hg
    have hfx := hf x (List.mem_of_getElem? hx)
    refine zk ?_
    refine zf ?_
    refine zh ?_
    refine zl ?_
    refine zb ?_
    refine dmv rfl ?_
    refine dq (zJ zbj zaj rfl rfl rfl (by first | assumption | simp_all)) ?_
    refine dq (zV zaj rfl rfl rfl rfl) ?_
    refine de rfl (zX zaj rfl fun b6 => ?_)
    refine das rfl ?_
    refine de0 (zag zaj rfl rfl rfl rfl rfl ?_)
    refine dn ?_
    refine zI (Ghost.fc0 6 rfl) ?_
    refine zh ?_
    refine zl ?_
    refine zb ?_
    refine dmv rfl ?_
    refine dq (zc zaj rfl ty9 (by decide) rfl) ?_
    refine dq (ze ty9 rfl rfl rfl) ?_
    refine dq (zq zqf rfl (WeakL.refl _) (zcY ho)) ?_
    refine dq (zaX rfl rfl) ?_
    refine das rfl ?_
    refine dn ?_
    refine zj rfl (fun h5 => ?_) (fun h6 => ?_)
    ·try simp at h5
     refine zb ?_
     refine das rfl ?_
     refine dn ?_
     refine zn ?_
     refine zA rfl ?_
     show HVal.int .i64 _ = _
     first
     | (refine congrArg _ (zbn (e := 8) ?_ hg ?_ ?_ (zii ?_ hj2 ?_) ?_).symm <;> first | omega | assumption | decide | (simp_all; done))
     | (refine congrArg _ (zbn (e := 6) ?_ hg ?_ ?_ (ziJ ?_ hj2 ?_ ?_) ?_).symm <;> first | omega | assumption | decide | (simp_all; done))
     | (refine congrArg _ (zbn (e := 16) ?_ hg ?_ ?_ (zgL ?_ hj2 ?_ ?_ ?_) ?_).symm <;> first | omega | assumption | decide | (simp_all; done))
     | (rw [zY, if_pos (by omega)]; done)
     | (rw [zY, if_neg (by omega), hg, zad (Nat.le_refl _)]; rfl)
     | (rw [zY, if_neg (by omega), hg, zaf, if_pos (by simp_all)]; done)
     | (rw [zY, if_neg (by omega), hg, zaf, if_neg (by simp_all), if_pos (by simp_all)]; done)
     | (rw [zY, if_neg (by omega), hg, zaf, if_neg (by simp_all), if_neg (by simp_all), if_pos (by rw [zaL, if_pos (by omega)]; decide), zaL, if_pos (by omega)]; done)
    ·try simp at h6
     refine za9 (fun _ => True) [] mixed ?_
     refine ahp 0 rfl rfl (by kernel_rfl) (by kernel_rfl) (zg rfl) ?_
     refine ahp 1 rfl rfl (by kernel_rfl) (by kernel_rfl) (zai rfl rfl) ?_
     refine ahp 2 rfl rfl (by kernel_rfl) (by kernel_rfl) (zg rfl) ?_
     refine ahg 3 rfl rfl (by kernel_rfl) (by kernel_rfl) rfl (fun hc => ⟨_, OpenTo.refl _, zc zaj rfl ty9 (by decide) rfl⟩) ?_
     refine ahg 4 rfl rfl (by kernel_rfl) (by kernel_rfl) rfl (fun hc => ⟨_, OpenTo.upd (t := 29) rfl (by first | exact hc | simp_all) (OpenTo.refl _), ze ty9 rfl rfl rfl⟩) ?_
     refine ahg 5 rfl rfl (by kernel_rfl) (by kernel_rfl) rfl (fun hc => ⟨_, OpenTo.refl _, zg rfl⟩) ?_
     refine ahg 6 rfl rfl (by kernel_rfl) (by kernel_rfl) rfl (fun hc => ⟨_, OpenTo.refl _, zg rfl⟩) ?_
     refine ahg 7 rfl rfl (by kernel_rfl) (by kernel_rfl) rfl (fun hc => by have hq := hc; (try simp at hq); exact ⟨_, OpenTo.upd (t := 32) rfl (by first | exact hc | simp_all) (OpenTo.refl _), zal rfl rfl (by omega) (by omega)⟩) ?_
     refine ahg 8 rfl rfl (by kernel_rfl) (by kernel_rfl) rfl (fun hc => by have hq := hc; (try simp at hq); exact ⟨_, OpenTo.upd (t := 33) rfl (by first | exact hc | simp_all) (OpenTo.upd (t := 31) rfl (by first | exact hc | simp_all) (OpenTo.refl _)), zJ (j := k - 1) (a := w.getD (k - 1) zcm) zbj zaj rfl rfl (by omega) (getD_some (by omega))⟩) ?_
     refine ahg 9 rfl rfl (by kernel_rfl) (by kernel_rfl) rfl (fun hc => ⟨_, OpenTo.upd (t := 34) rfl (by first | exact hc | simp_all) (OpenTo.refl _), zc zaj rfl ty9 (by decide) rfl⟩) ?_
     refine ahg 10 rfl rfl (by kernel_rfl) (by kernel_rfl) rfl (fun hc => ⟨_, OpenTo.upd (t := 35) rfl (by first | exact hc | simp_all) (OpenTo.refl _), ze ty9 rfl rfl rfl⟩) ?_
     refine ahg 11 rfl rfl (by kernel_rfl) (by kernel_rfl) rfl (fun hc => ⟨_, OpenTo.upd (t := 36) rfl (by first | exact hc | simp_all) (OpenTo.upd (t := 30) rfl (by first | exact hc | simp_all) (OpenTo.refl _)), zdv rfl rfl⟩) ?_
     refine ahp 12 rfl rfl (by kernel_rfl) (by kernel_rfl) (zB rfl (.inr ⟨_, rfl, fun h => by simp_all⟩) (.inl rfl)) ?_
     refine ahp 13 rfl rfl (by kernel_rfl) (by kernel_rfl) (zaW rfl) ?_
     refine ahz (by kernel_rfl) ?_
     refine zj rfl (fun h7 => ?_) (fun h8 => ?_)
     ·try simp at h7
      refine zb ?_
      refine das rfl ?_
      refine dn ?_
      refine zn ?_
      refine zA rfl ?_
      show HVal.int .i64 _ = _
      first
      | (refine congrArg _ (zbn (e := 8) ?_ hg ?_ ?_ (zii ?_ hj2 ?_) ?_).symm <;> first | omega | assumption | decide | (simp_all; done))
      | (refine congrArg _ (zbn (e := 6) ?_ hg ?_ ?_ (ziJ ?_ hj2 ?_ ?_) ?_).symm <;> first | omega | assumption | decide | (simp_all; done))
      | (refine congrArg _ (zbn (e := 16) ?_ hg ?_ ?_ (zgL ?_ hj2 ?_ ?_ ?_) ?_).symm <;> first | omega | assumption | decide | (simp_all; done))
      | (rw [zY, if_pos (by omega)]; done)
      | (rw [zY, if_neg (by omega), hg, zad (Nat.le_refl _)]; rfl)
      | (rw [zY, if_neg (by omega), hg, zaf, if_pos (by simp_all)]; done)
      | (rw [zY, if_neg (by omega), hg, zaf, if_neg (by simp_all), if_pos (by simp_all)]; done)
      | (rw [zY, if_neg (by omega), hg, zaf, if_neg (by simp_all), if_neg (by simp_all), if_pos (by rw [zaL, if_pos (by omega)]; decide), zaL, if_pos (by omega)]; done)
     ·try simp at h8
      refine zb ?_
      refine dq (zc zaj rfl zG (by decide) rfl) ?_
      refine dq (ze zG rfl rfl rfl) ?_
      refine dq (zF zG rfl) ?_
      refine dq (zai rfl rfl) ?_
      refine das rfl ?_
      refine dn ?_
      refine zj rfl (fun h9 => ?_) (fun h10 => ?_)
      ·try simp at h9
       refine zb ?_
       refine das rfl ?_
       refine dn ?_
       refine zn ?_
       refine zA rfl ?_
       show HVal.int .i64 _ = _
       first
       | (refine congrArg _ (zbn (e := 8) ?_ hg ?_ ?_ (zii ?_ hj2 ?_) ?_).symm <;> first | omega | assumption | decide | (simp_all; done))
       | (refine congrArg _ (zbn (e := 6) ?_ hg ?_ ?_ (ziJ ?_ hj2 ?_ ?_) ?_).symm <;> first | omega | assumption | decide | (simp_all; done))
       | (refine congrArg _ (zbn (e := 16) ?_ hg ?_ ?_ (zgL ?_ hj2 ?_ ?_ ?_) ?_).symm <;> first | omega | assumption | decide | (simp_all; done))
       | (rw [zY, if_pos (by omega)]; done)
       | (rw [zY, if_neg (by omega), hg, zad (Nat.le_refl _)]; rfl)
       | (rw [zY, if_neg (by omega), hg, zaf, if_pos (by simp_all)]; done)
       | (rw [zY, if_neg (by omega), hg, zaf, if_neg (by simp_all), if_pos (by simp_all)]; done)
       | (rw [zY, if_neg (by omega), hg, zaf, if_neg (by simp_all), if_neg (by simp_all), if_pos (by rw [zaL, if_pos (by omega)]; decide), zaL, if_pos (by omega)]; done)
      ·try simp at h10
       refine zk ?_
       refine zz ?_
       refine zf ?_
       refine zb ?_
       refine dq (zc zaj rfl zG (by decide) rfl) ?_
       refine dq (ze zG rfl rfl rfl) ?_
       refine dq (zF zG rfl) ?_
       refine dmv rfl ?_
       refine dn ?_
       refine zl ?_
       refine zZ [4, 7, 8, 47, 48, 49, 50, 51, 52, 53, 54, 55, 56, 57, 58, 59, 60, 61, 62, 63, 64, 65, 66, 67, 68, 69, 70, 71, 72, 73] (fun (j : Nat) => [(47, .int .i64 j)]) (fun (j : Nat) => []) (fun (j : Nat) => j ≤ x.For.length ∧ (za2 o x 0 x.For = za2 o x j (x.For.drop j))) (fun (j : Nat) => x.For.length - j) (0) ?_ ?_ ?_ ?_
       ·exact ⟨Nat.zero_le _, rfl⟩
       ·exact ⟨rfl, trivial⟩
       ·exact List.Perm.refl _
       ·intro j hinv
        obtain ⟨hj, hj2⟩ := hinv
        refine zb ?_
        refine dq (zO rfl rfl) ?_
        refine dn ?_
        refine zh ?_
        refine zj rfl (fun h11 => ?_) (fun h12 => ?_)
        ·try simp at h11
         obtain ⟨y, hy⟩ : ∃ y, x.For[j]? = some y := ⟨_, List.getElem?_eq_getElem h11⟩
         have hdy := zQ hy
         rw [hdy] at hj2
         refine zk ?_
         refine zf ?_
         refine zh ?_
         refine zl ?_
         refine zb ?_
         refine dmv rfl ?_
         refine dq (zJ zG ty9 rfl rfl rfl (by first | assumption | simp_all)) ?_
         refine dq (ze ty9 rfl rfl rfl) ?_
         refine das rfl ?_
         refine das rfl ?_
         refine dn ?_
         refine zl ?_
         refine zb ?_
         refine dmv rfl ?_
         refine dmv rfl ?_
         refine dq (zq zqf rfl (WeakL.refl _) (zcY ho)) ?_
         refine dq (zaX rfl rfl) ?_
         refine das rfl ?_
         refine dn ?_
         refine zj rfl (fun h13 => ?_) (fun h14 => ?_)
         ·try simp at h13
          refine zb ?_
          refine das rfl ?_
          refine dn ?_
          refine zn ?_
          refine zA rfl ?_
          show HVal.int .i64 _ = _
          first
          | (refine congrArg _ (zbn (e := 8) ?_ hg ?_ ?_ (zii ?_ hj2 ?_) ?_).symm <;> first | omega | assumption | decide | (simp_all; done))
          | (refine congrArg _ (zbn (e := 6) ?_ hg ?_ ?_ (ziJ ?_ hj2 ?_ ?_) ?_).symm <;> first | omega | assumption | decide | (simp_all; done))
          | (refine congrArg _ (zbn (e := 16) ?_ hg ?_ ?_ (zgL ?_ hj2 ?_ ?_ ?_) ?_).symm <;> first | omega | assumption | decide | (simp_all; done))
          | (rw [zY, if_pos (by omega)]; done)
          | (rw [zY, if_neg (by omega), hg, zad (Nat.le_refl _)]; rfl)
          | (rw [zY, if_neg (by omega), hg, zaf, if_pos (by simp_all)]; done)
          | (rw [zY, if_neg (by omega), hg, zaf, if_neg (by simp_all), if_pos (by simp_all)]; done)
          | (rw [zY, if_neg (by omega), hg, zaf, if_neg (by simp_all), if_neg (by simp_all), if_pos (by rw [zaL, if_pos (by omega)]; decide), zaL, if_pos (by omega)]; done)
         ·try simp at h14
          refine zb ?_
          refine dq (zc zaj rfl zG (by decide) rfl) ?_
          refine dq (ze zG rfl rfl rfl) ?_
          refine dmv rfl ?_
          refine dq (zdx zG ty9 rfl rfl ⟨_, _, rfl, rfl⟩ (by omega) (by omega)) ?_
          refine dmv rfl ?_
          refine dq (zq zi8 rfl (WeakL.refl _) (zay (l := x.For.take j) (s := y) (by rw [List.length_take]; omega))) ?_
          refine das rfl ?_
          refine dn ?_
          refine zj rfl (fun h15 => ?_) (fun h16 => ?_)
          ·try simp at h15
           refine zb ?_
           refine das rfl ?_
           refine dn ?_
           refine zn ?_
           refine zA rfl ?_
           show HVal.int .i64 _ = _
           first
           | (refine congrArg _ (zbn (e := 8) ?_ hg ?_ ?_ (zii ?_ hj2 ?_) ?_).symm <;> first | omega | assumption | decide | (simp_all; done))
           | (refine congrArg _ (zbn (e := 6) ?_ hg ?_ ?_ (ziJ ?_ hj2 ?_ ?_) ?_).symm <;> first | omega | assumption | decide | (simp_all; done))
           | (refine congrArg _ (zbn (e := 16) ?_ hg ?_ ?_ (zgL ?_ hj2 ?_ ?_ ?_) ?_).symm <;> first | omega | assumption | decide | (simp_all; done))
           | (rw [zY, if_pos (by omega)]; done)
           | (rw [zY, if_neg (by omega), hg, zad (Nat.le_refl _)]; rfl)
           | (rw [zY, if_neg (by omega), hg, zaf, if_pos (by simp_all)]; done)
           | (rw [zY, if_neg (by omega), hg, zaf, if_neg (by simp_all), if_pos (by simp_all)]; done)
           | (rw [zY, if_neg (by omega), hg, zaf, if_neg (by simp_all), if_neg (by simp_all), if_pos (by rw [zaL, if_pos (by omega)]; decide), zaL, if_pos (by omega)]; done)
          ·try simp at h16
           refine za9 (fun _ => True) [] mixed ?_
           refine ahp 0 rfl rfl (by kernel_rfl) (by kernel_rfl) (zg rfl) ?_
           refine ahp 1 rfl rfl (by kernel_rfl) (by kernel_rfl) (zg rfl) ?_
           refine ahp 2 rfl rfl (by kernel_rfl) (by kernel_rfl) (zq zqf rfl (WeakL.refl _) (zcY ho)) ?_
           refine ahp 3 rfl rfl (by kernel_rfl) (by kernel_rfl) (zg rfl) ?_
           refine ahp 4 rfl rfl (by kernel_rfl) (by kernel_rfl) (zc zaj rfl ty9 (by decide) rfl) ?_
           refine ahp 5 rfl rfl (by kernel_rfl) (by kernel_rfl) (ze ty9 rfl rfl rfl) ?_
           refine ahp 6 rfl rfl (by kernel_rfl) (by kernel_rfl) (zq zqf rfl (WeakL.refl _) (zcY ho)) ?_
           refine ahp 7 rfl rfl (by kernel_rfl) (by kernel_rfl) (zaX rfl rfl) ?_
           refine ahp 8 rfl rfl (by kernel_rfl) (by kernel_rfl) (zaW rfl) ?_
           refine ahz (by kernel_rfl) ?_
           refine zj rfl (fun h17 => ?_) (fun h18 => ?_)
           ·try simp at h17
            refine zb ?_
            refine das rfl ?_
            refine dn ?_
            refine zn ?_
            refine zA rfl ?_
            show HVal.int .i64 _ = _
            first
            | (refine congrArg _ (zbn (e := 8) ?_ hg ?_ ?_ (zii ?_ hj2 ?_) ?_).symm <;> first | omega | assumption | decide | (simp_all; done))
            | (refine congrArg _ (zbn (e := 6) ?_ hg ?_ ?_ (ziJ ?_ hj2 ?_ ?_) ?_).symm <;> first | omega | assumption | decide | (simp_all; done))
            | (refine congrArg _ (zbn (e := 16) ?_ hg ?_ ?_ (zgL ?_ hj2 ?_ ?_ ?_) ?_).symm <;> first | omega | assumption | decide | (simp_all; done))
            | (rw [zY, if_pos (by omega)]; done)
            | (rw [zY, if_neg (by omega), hg, zad (Nat.le_refl _)]; rfl)
            | (rw [zY, if_neg (by omega), hg, zaf, if_pos (by simp_all)]; done)
            | (rw [zY, if_neg (by omega), hg, zaf, if_neg (by simp_all), if_pos (by simp_all)]; done)
            | (rw [zY, if_neg (by omega), hg, zaf, if_neg (by simp_all), if_neg (by simp_all), if_pos (by rw [zaL, if_pos (by omega)]; decide), zaL, if_pos (by omega)]; done)
           ·try simp at h18
            refine zk ?_
            refine zz ?_
            refine zz ?_
            refine zf ?_
            refine zy ?_
            refine dq (zv rfl rfl (by omega) (by omega)) ?_
            refine dmv rfl ?_
            refine dn ?_
            refine ⟨j + 1, ?_, ?_, ⟨rfl, trivial⟩, (by repeat (first | exact zo | refine zt rfl ?_ | refine zp rfl rfl ?_)), List.Perm.refl _⟩
            ·refine ⟨by omega, ?_⟩
             rw [hj2, zlf (by simp_all) (by simp_all) (by simp_all)]
            ·dsimp only; omega
        ·try simp at h12
         have hnj : x.For.length ≤ j := by omega
         obtain rfl : j = x.For.length := by omega
         refine zN ?_
         refine zT ?_
         refine zah ?_
         refine zD ?_
         refine zz ?_
         refine zf ?_
         refine zy ?_
         refine dq (zv rfl rfl (by omega) (by omega)) ?_
         refine dmv rfl ?_
         refine dn ?_
         refine ⟨k + 1, ?_, ?_, ⟨rfl, trivial⟩, (by repeat (first | exact zo | refine zt rfl ?_ | refine zp rfl rfl ?_)), List.Perm.refl _⟩
         ·refine ⟨by omega, ?_⟩
          rw [hg, zaf, if_neg (by simp_all), if_neg (by simp_all), if_neg (by rw [zaL, if_neg (by omega), hj2, zad (Nat.le_refl _)]; simp [za2])]
         ·dsimp only; omega
   ·try simp at h4
    have hnk : w.length ≤ k := by omega
    obtain rfl : k = w.length := by omega
    refine zN ?_
    refine zT ?_
    refine zah ?_
    refine zD ?_
    refine zf ?_
    refine zb ?_
    refine das rfl ?_
    refine dn ?_
    refine zn ?_
    refine zA rfl ?_
    show HVal.int .i64 _ = _
    first
    | (refine congrArg _ (zbn (e := 8) ?_ hg ?_ ?_ (zii ?_ hj2 ?_) ?_).symm <;> first | omega | assumption | decide | (simp_all; done))
    | (refine congrArg _ (zbn (e := 6) ?_ hg ?_ ?_ (ziJ ?_ hj2 ?_ ?_) ?_).symm <;> first | omega | assumption | decide | (simp_all; done))
    | (refine congrArg _ (zbn (e := 16) ?_ hg ?_ ?_ (zgL ?_ hj2 ?_ ?_ ?_) ?_).symm <;> first | omega | assumption | decide | (simp_all; done))
    | (rw [zY, if_pos (by omega)]; done)
    | (rw [zY, if_neg (by omega), hg, zad (Nat.le_refl _)]; rfl)
    | (rw [zY, if_neg (by omega), hg, zaf, if_pos (by simp_all)]; done)
    | (rw [zY, if_neg (by omega), hg, zaf, if_neg (by simp_all), if_pos (by simp_all)]; done)
    | (rw [zY, if_neg (by omega), hg, zaf, if_neg (by simp_all), if_neg (by simp_all), if_pos (by rw [zaL, if_pos (by omega)]; decide), zaL, if_pos (by omega)]; done)

/-- slices.BinarySearchFunc[[]benchwarmer/api.Wants,benchwarmer/api.Wants,string] -/
theorem zeN [Tracks] {l : List WantS} {s : Str} {fid : FuncId} (hca : Callable Tryz.prog fid) (hp : ∀ x : WantS, ConP Tryz.prog fid [zbY x, .str s] (.int .i64 (za4 x.Player s))) (hl : l.length ≤ 1000000) (hs : SortedS (l.map (·.Player))) : ConP Tryz.prog 82 [zc8 l, .str s, .fn (.func fid) [] []] (.tup [.int .i64 (zgP (l.map (·.Player)) s), .bool ((l.map (·.Player)).contains s)]) := by
 have hLl : (l.map (·.Player)).length = l.length := List.length_map _
 refine Con.of_body Tryz.func82 rfl Tryz.ntmps82 rfl rfl ?_
 refine zb ?_
 refine das rfl ?_
 refine das rfl ?_
 refine dn ?_
 refine zb ?_
 refine dmv rfl ?_
 refine dq (zF zbj rfl) ?_
 refine das rfl ?_
 refine dn ?_
 refine zb ?_
 refine dmv rfl ?_
 refine das rfl ?_
 refine das rfl ?_
 refine dn ?_
 refine zh ?_
 refine zl ?_
 refine zaS [9, 10, 11, 15, 16, 17, 18, 19, 20, 21, 22, 23, 24, 25, 26, 27, 28, 29, 30, 31, 32, 33, 34] (fun (i : Nat) (j : Nat) => [(9, .int .i64 i), (10, .int .i64 j)]) (fun (i : Nat) (j : Nat) => []) (fun (i : Nat) (j : Nat) => i ≤ j ∧ j ≤ (l.map (·.Player)).length ∧ (∀ (k : Nat) (x : Str), k < i → (l.map (·.Player))[k]? = some x → Op.bytesLess x s = true) ∧ (∀ (k : Nat) (x : Str), j ≤ k → (l.map (·.Player))[k]? = some x → Op.bytesLess x s = false)) (fun (i : Nat) (j : Nat) => j - i) (0) (l.length) ?_ ?_ ?_ ?_
 ·exact ⟨Nat.zero_le _, by rw [hLl]; exact Nat.le_refl _, fun k x h => by omega, fun k x h1 h2 => by have := zC h2; omega⟩
 ·exact ⟨rfl, rfl, trivial⟩
 ·exact List.Perm.refl _
 ·intro i j hinv
  obtain ⟨hij, hjl, ha, hb⟩ := hinv
  rw [hLl] at hjl
  refine zh ?_
  refine zb ?_
  refine dmv rfl ?_
  refine dmv rfl ?_
  refine dq (zO rfl rfl) ?_
  refine dn ?_
  refine zj rfl (fun h1 => ?_) (fun h2 => ?_)
  ·try simp at h1
   obtain ⟨x, hx⟩ : ∃ x, l[(i + j) / 2]? = some x := ⟨_, List.getElem?_eq_getElem (by omega)⟩
   have hxL : (l.map (·.Player))[(i + j) / 2]? = some x.Player := by rw [List.getElem?_map, hx]; rfl
   have hm : (i + j) / 2 < j ∧ i ≤ (i + j) / 2 := by omega
   refine zk ?_
   refine zf ?_
   refine zl ?_
   refine zb ?_
   refine dmv rfl ?_
   refine dmv rfl ?_
   refine dq (zv rfl rfl (by omega) (by omega)) ?_
   refine dq (zbX ty3 zfs rfl) ?_
   refine dq (zjn rfl rfl (by omega)) ?_
   refine dq (zcy (zbX zfs ty3 rfl) (zrG (i := i) (j := j) (by omega))) ?_
   refine das rfl ?_
   refine dn ?_
   refine zb ?_
   refine dmv rfl ?_
   refine dmv rfl ?_
   refine dmv rfl ?_
   refine dq (zJ (j := (i + j) / 2) (a := x) zbj zaj rfl rfl rfl hx) ?_
   refine dq (zV zaj rfl rfl rfl rfl) ?_
   refine dmv rfl ?_
   refine dq (zdj hca rfl rfl (WeakL.refl _) (hp _)) ?_
   refine dq (zO rfl rfl) ?_
   refine dn ?_
   refine zj rfl (fun h3 => ?_) (fun h4 => ?_)
   ·try simp at h3
    refine zy ?_
    refine dmv rfl ?_
    refine dq (zv rfl rfl (by omega) (by omega)) ?_
    refine das rfl ?_
    refine dn ?_
    refine zz ?_
    exact ⟨(i + j) / 2 + 1, j, ⟨by omega, by rw [hLl]; exact hjl, zsW hs hxL (zhc.1 h3), hb⟩, by dsimp only; omega, ⟨rfl, rfl, trivial⟩, (by repeat (first | exact zo | refine zt rfl ?_ | refine zp rfl rfl ?_)), List.Perm.refl _⟩
   ·try simp at h4
    refine zy ?_
    refine dmv rfl ?_
    refine das rfl ?_
    refine dn ?_
    refine zz ?_
    exact ⟨i, (i + j) / 2, ⟨by omega, by omega, ha, ztj hs hxL (by have q := fun e => (show ¬ za4 x.Player s < 0 by omega) (zhc.2 e); simpa using q)⟩, by dsimp only; omega, ⟨rfl, rfl, trivial⟩, (by repeat (first | exact zo | refine zt rfl ?_ | refine zp rfl rfl ?_)), List.Perm.refl _⟩
  ·try simp at h2
   obtain rfl : i = j := by omega
   have hjl2 : i ≤ (l.map (·.Player)).length := by rw [hLl]; exact hjl
   refine zN ?_
   refine zT ?_
   refine za3 ?_
   refine zD ?_
   refine zf ?_
   refine zb ?_
   refine dmv rfl ?_
   refine dmv rfl ?_
   refine dmv rfl ?_
   refine dq (zO rfl rfl) ?_
   refine dmv rfl ?_
   refine dg rfl rfl (fun hc => ⟨_, OpenTo.refl _, zg rfl⟩) ?_
   refine dg rfl rfl (fun hc => ⟨_, OpenTo.refl _, zg rfl⟩) ?_
   refine dg rfl rfl (fun hc => ⟨_, OpenTo.refl _, zg rfl⟩) ?_
   refine dg rfl rfl (fun hc => by have hq := hc; (try simp at hq); exact ⟨_, OpenTo.upd (t := 42) rfl (by first | exact hc | simp_all) (OpenTo.upd (t := 41) rfl (by first | exact hc | simp_all) (OpenTo.refl _)), zJ (j := i) (a := l.getD i zcm) zbj zaj rfl rfl rfl (getD_some (by omega))⟩) ?_
   refine dg rfl rfl (fun hc => ⟨_, OpenTo.upd (t := 43) rfl (by first | exact hc | simp_all) (OpenTo.refl _), zV zaj rfl rfl rfl rfl⟩) ?_
   refine dg rfl rfl (fun hc => ⟨_, OpenTo.refl _, zg rfl⟩) ?_
   refine dg rfl rfl (fun hc => ⟨_, OpenTo.upd (t := 45) rfl (by first | exact hc | simp_all) (OpenTo.upd (t := 44) rfl (by first | exact hc | simp_all) (OpenTo.upd (t := 40) rfl (by first | exact hc | simp_all) (OpenTo.refl _))), zdj hca rfl rfl (WeakL.refl _) (hp _)⟩) ?_
   refine dg rfl rfl (fun hc => ⟨_, OpenTo.upd (t := 46) rfl (by first | exact hc | simp_all) (OpenTo.refl _), zaA rfl rfl⟩) ?_
   refine dq (zB rfl (.inr ⟨_, rfl, fun h => by simp_all⟩) (.inl rfl)) ?_
   refine das rfl ?_
   refine das rfl ?_
   refine dn ?_
   refine zn ?_
   refine zA rfl ?_
   rw [zmt hjl2 ha hb, ← zoB hs hjl2 ha hb, ← zre]

/-- benchwarmer/trade.find$1 -/
theorem zlN [Tracks] {x : WantS} {s : Str}  : ConP Tryz.prog 83 [zbY x, .str s] (.int .i64 (za4 x.Player s)) := by
 refine Con.of_body Tryz.func83 rfl Tryz.ntmps83 rfl rfl ?_
 refine zb ?_
 refine dq (zaC rfl rfl) ?_
 refine das rfl ?_
 refine dn ?_
 refine zb ?_
 refine dq (zc zaj rfl ty9 (by decide) rfl) ?_
 refine dq (ze ty9 rfl rfl rfl) ?_
 refine dmv rfl ?_
 refine dq (zq zms rfl (WeakL.refl _) zb0) ?_
 refine das rfl ?_
 refine dn ?_
 refine zn ?_
 refine zA rfl ?_
 rfl

/-- benchwarmer/trade.find -/
theorem zi1 [Tracks] {w : List WantS} {s : Str} (hw : w.length ≤ 1000000) (hs : SortedS (w.map (·.Player))) : ConP Tryz.prog 51 [zc8 w, .str s] (.int .i64 (zba w s)) := by
 refine Con.of_body Tryz.func51 rfl Tryz.ntmps51 rfl rfl ?_
 refine zb ?_
 refine das rfl ?_
 refine dn ?_
 refine zb ?_
 refine dmv rfl ?_
 refine dmv rfl ?_
 refine dq (zq ca82 rfl (WeakL.refl _) (zeN (l := w) ca83 (fun _ => zlN) hw hs)) ?_
 refine dmv rfl ?_
 refine dq (z6 rfl rfl) ?_
 refine dq (z6 rfl rfl) ?_
 refine das rfl ?_
 refine das rfl ?_
 refine dn ?_
 refine zh ?_
 refine zb ?_
 refine dmv rfl ?_
 refine dq (zao rfl) ?_
 refine dn ?_
 refine zj rfl (fun h1 => ?_) (fun h2 => ?_)
 ·try simp at h1
  refine zb ?_
  refine das rfl ?_
  refine dn ?_
  refine zn ?_
  refine zA rfl ?_
  show HVal.int .i64 _ = _
  rw [zba]
  first | (rw [if_pos (by simpa using h2)]; done) | (rw [if_neg (by simpa using h1)]; done)
 ·try simp at h2
  refine zk ?_
  refine zf ?_
  refine zb ?_
  refine dmv rfl ?_
  refine das rfl ?_
  refine dn ?_
  refine zn ?_
  refine zA rfl ?_
  show HVal.int .i64 _ = _
  rw [zba]
  first | (rw [if_pos (by simpa using h2)]; done) | (rw [if_neg (by simpa using h1)]; done)
end
end Go.Proofs.YtcihcbnjfclkbaaGreatDoor
namespace Go.HL
section
/-! sets of numbers as bits -/
def za1 : List Nat → Nat
 | [] => 0
 | k :: p => za1 p ||| 2 ^ k
theorem zfn (k : Nat) : ∀ p : List Nat, (za1 p).testBit k = decide (k ∈ p)
 | [] => by simp [za1]
 | j :: p => by
   rw [za1, Nat.testBit_or, zfn k p, Nat.testBit_two_pow]
   by_cases h : j = k <;> by_cases h2 : k ∈ p <;> simp [h, h2, eq_comm]
   exact fun e => h e.symm
theorem zlA {n : Nat} : ∀ {p : List Nat}, (∀ k ∈ p, k < n) → za1 p < 2 ^ n
 | [], _ => by simp [za1]; exact Nat.two_pow_pos n
 | k :: p, h => by
   rw [za1]
   exact Nat.or_lt_two_pow (zlA fun j hj => h j (List.mem_cons_of_mem _ hj)) (Nat.pow_lt_pow_right (by omega) (h k (by simp)))
theorem zur {p q : List Nat} (h : ∀ k, k ∈ p ↔ k ∈ q) : za1 p = za1 q := by
 refine Nat.eq_of_testBit_eq fun i => ?_
 rw [zfn, zfn, decide_eq_decide]; exact h i
theorem zgG (p : List Nat) (k : Nat) : za1 (p ++ [k]) = za1 p ||| 2 ^ k := by
 rw [show za1 p ||| 2 ^ k = za1 (k :: p) from rfl]
 exact zur fun j => by simp [or_comm]
theorem zr9 {n : Nat} {p : List Nat} (h : ∀ k, k ∈ p ↔ k < n) : za1 p = 2 ^ n - 1 := by
 refine Nat.eq_of_testBit_eq fun i => ?_
 rw [zfn, Nat.testBit_two_pow_sub_one, decide_eq_decide]; exact h i
/-! the table -/
abbrev zbb : Int := -1000
def zbi (best : List Int) (ok : Bool) (s k : Nat) (more : Int) (nx : List Int) : List Int :=
 if s.testBit k = false ∧ ok = true then nx.set (s ||| 2 ^ k) (max (nx.getD (s ||| 2 ^ k) 0) (best.getD s 0 + more)) else nx
def zcd (al : Nat → Nat → Bool) (cs : List Nat) (i : Nat) (best : List Int) (nx : List Int) (s : Nat) : List Int :=
 if best.getD s 0 = zbb then nx else cs.foldl (fun nx k => zbi best (al i k) s k 1 nx) (zbi best (al i i) s i 0 nx)
def zhI (al : Nat → Nat → Bool) (cs : List Nat) (i : Nat) (best : List Int) : List Int :=
 (List.range best.length).foldl (zcd al cs i best) (List.replicate best.length zbb)
def za7 (al : Nat → Nat → Bool) (can : List (List Nat)) (fr : Nat) (best : List Int) : Nat → List Int
 | 0 => best
 | m + 1 => zhI al (can.getD (fr + m) []) (fr + m) (za7 al can fr best m)
def zaU (n got : Nat) : List Int := (List.replicate (2 ^ n) zbb).set got 0
def zbM (al : Nat → Nat → Bool) (can : List (List Nat)) (fr got : Nat) : Int := (za7 al can fr (zaU can.length got) (can.length - fr)).getD (2 ^ can.length - 1) 0
/-! lengths -/
theorem zd0 {best nx : List Int} {ok : Bool} {s k : Nat} {m : Int} : (zbi best ok s k m nx).length = nx.length := by
 unfold zbi; split <;> simp
theorem zfW {al : Nat → Nat → Bool} {i s : Nat} {best : List Int} : ∀ {cs : List Nat} {nx : List Int}, (cs.foldl (fun nx k => zbi best (al i k) s k 1 nx) nx).length = nx.length
 | [], _ => rfl
 | k :: t, nx => by rw [List.foldl_cons, zfW, zd0]
theorem znV {al : Nat → Nat → Bool} {cs : List Nat} {i s : Nat} {best nx : List Int} : (zcd al cs i best nx s).length = nx.length := by
 unfold zcd; split
 ·rfl
 ·rw [zfW, zd0]
theorem zgB {al : Nat → Nat → Bool} {cs : List Nat} {i : Nat} {best : List Int} : ∀ {ss : List Nat} {nx : List Int}, (ss.foldl (zcd al cs i best) nx).length = nx.length
 | [], _ => rfl
 | k :: t, nx => by rw [List.foldl_cons, zgB, znV]
theorem zmV {al : Nat → Nat → Bool} {cs : List Nat} {i : Nat} {best : List Int} : (zhI al cs i best).length = best.length := by
 unfold zhI; rw [zgB, List.length_replicate]
theorem zks {al : Nat → Nat → Bool} {can : List (List Nat)} {fr : Nat} {best : List Int} : ∀ m, (za7 al can fr best m).length = best.length
 | 0 => rfl
 | m + 1 => by rw [za7, zmV, zks]
/-! ways to go on -/
inductive WayB (al : Nat → Nat → Bool) (can : List (List Nat)) (fr : Nat) (g : List Nat) : List Nat → Int → Prop
 | nil : WayB al can fr g [] 0
 | snoc {q : List Nat} {c : Int} {k : Nat} (h : WayB al can fr g q c) (hk : k ∈ (fr + q.length) :: can.getD (fr + q.length) []) (ha : al (fr + q.length) k = true) (hn : k ∉ g ++ q) :
    WayB al can fr g (q ++ [k]) (c + if k = fr + q.length then 0 else 1)
theorem WayB.bd {al : Nat → Nat → Bool} {can : List (List Nat)} {fr : Nat} {g q : List Nat} {c : Int} (h : WayB al can fr g q c) : 0 ≤ c ∧ c ≤ q.length := by
 induction h with
 | nil => simp
 | snoc h hk ha hn ih => rw [List.length_append, List.length_singleton]; split <;> omega
/-- All numbers of whom one could get are less than n, and nobody could get themselves. -/
structure CanOk (can : List (List Nat)) : Prop where
 lt : ∀ i, ∀ k ∈ can.getD i [], k < can.length
 ne : ∀ i, i ∉ can.getD i []
 len : can.length ≤ 14
section
variable {al : Nat → Nat → Bool} {can : List (List Nat)} {fr : Nat} {g : List Nat}
theorem zew {l : List Int} {i j : Nat} {a : Int} : (l.set i a).getD j 0 = if i = j ∧ i < l.length then a else l.getD j 0 := by
 rw [List.getD_eq_getElem?_getD, List.getD_eq_getElem?_getD, List.getElem?_set]
 by_cases h : i = j
 ·subst h
  by_cases h2 : i < l.length
  ·simp [h2]
  ·simp [h2, List.getElem?_eq_none (Nat.le_of_not_lt h2)]
 ·simp [h]
theorem zpI {best nx : List Int} {ok : Bool} {s k : Nat} {m : Int} (t : Nat) : nx.getD t 0 ≤ (zbi best ok s k m nx).getD t 0 := by
 unfold zbi; split
 ·rw [zew]; split
  ·rename_i h; rw [← h.1]; exact Int.le_max_left _ _
  ·exact Int.le_refl _
 ·exact Int.le_refl _
theorem zhx {i s : Nat} {best : List Int} (t : Nat) : ∀ {cs : List Nat} {nx : List Int}, nx.getD t 0 ≤ (cs.foldl (fun nx k => zbi best (al i k) s k 1 nx) nx).getD t 0
 | [], _ => Int.le_refl _
 | k :: r, nx => by rw [List.foldl_cons]; exact Int.le_trans (zpI t) (zhx t)
theorem zun {cs : List Nat} {i s : Nat} {best nx : List Int} (t : Nat) : nx.getD t 0 ≤ (zcd al cs i best nx s).getD t 0 := by
 unfold zcd; split
 ·exact Int.le_refl _
 ·exact Int.le_trans (zpI t) (zhx t)
theorem zps {cs : List Nat} {i : Nat} {best : List Int} (t : Nat) : ∀ {ss : List Nat} {nx : List Int}, nx.getD t 0 ≤ (ss.foldl (zcd al cs i best) nx).getD t 0
 | [], _ => Int.le_refl _
 | k :: r, nx => by rw [List.foldl_cons]; exact Int.le_trans (zun t) (zps t)
theorem znX {best nx : List Int} {s k : Nat} {m : Int} (h1 : s.testBit k = false) (h2 : s ||| 2 ^ k < nx.length) : best.getD s 0 + m ≤ (zbi best true s k m nx).getD (s ||| 2 ^ k) 0 := by
 unfold zbi; rw [if_pos ⟨h1, rfl⟩, zew, if_pos ⟨rfl, h2⟩]; exact Int.le_max_right _ _
theorem zm3 {i s k : Nat} {best : List Int} (h1 : s.testBit k = false) (ha : al i k = true) : ∀ {cs : List Nat} {nx : List Int}, s ||| 2 ^ k < nx.length → k ∈ cs → best.getD s 0 + 1 ≤ (cs.foldl (fun nx k => zbi best (al i k) s k 1 nx) nx).getD (s ||| 2 ^ k) 0
 | j :: r, nx, h2, hm => by
   rw [List.foldl_cons]
   rcases List.mem_cons.1 hm with rfl | hm
   ·refine Int.le_trans ?_ (zhx _)
    rw [ha]; exact znX h1 h2
   ·exact zm3 h1 ha (by rw [zd0]; exact h2) hm
theorem zt1 {cs : List Nat} {i s k : Nat} {best nx : List Int} (hb : best.getD s 0 ≠ zbb) (h1 : s.testBit k = false) (ha : al i k = true) (h2 : s ||| 2 ^ k < nx.length) (hk : k ∈ i :: cs) :
 best.getD s 0 + (if k = i then 0 else 1) ≤ (zcd al cs i best nx s).getD (s ||| 2 ^ k) 0 := by
 unfold zcd; rw [if_neg hb]
 split
 ·rename_i e
  subst e
  refine Int.le_trans ?_ (zhx _)
  rw [ha]; exact znX h1 h2
 ·rename_i e
  rcases List.mem_cons.1 hk with h | h
  ·exact absurd h e
  ·exact zm3 h1 ha (by rw [zd0]; exact h2) h
theorem znE {cs : List Nat} {i s k : Nat} {best : List Int} (hb : best.getD s 0 ≠ zbb) (h1 : s.testBit k = false) (ha : al i k = true) (hk : k ∈ i :: cs) : ∀ {ss : List Nat} {nx : List Int}, s ||| 2 ^ k < nx.length → s ∈ ss →
 best.getD s 0 + (if k = i then 0 else 1) ≤ (ss.foldl (zcd al cs i best) nx).getD (s ||| 2 ^ k) 0
 | j :: r, nx, h2, hm => by
   rw [List.foldl_cons]
   rcases List.mem_cons.1 hm with rfl | hm
   ·exact Int.le_trans (zt1 hb h1 ha h2 hk) (zps _)
   ·exact znE hb h1 ha hk (by rw [znV]; exact h2) hm
/-- Whatever a table says comes of something. -/
def zfO (S : Nat → Int → Prop) (nx : List Int) : Prop := ∀ t, nx.getD t 0 ≠ zbb → t < nx.length → S t (nx.getD t 0)
theorem znc {S : Nat → Int → Prop} {best nx : List Int} {ok : Bool} {s k : Nat} {m : Int} (h : zfO S nx) (hs : s.testBit k = false → ok = true → S (s ||| 2 ^ k) (best.getD s 0 + m)) : zfO S (zbi best ok s k m nx) := by
 intro t ht hl
 rw [zd0] at hl
 unfold zbi at ht ⊢
 split at ht
 ·rename_i hc
  rw [if_pos hc]
  rw [zew] at ht ⊢
  split at ht
  ·rename_i e
   rw [if_pos e]
   obtain ⟨e, hl2⟩ := e
   subst e
   rcases Int.le_total (nx.getD (s ||| 2 ^ k) 0) (best.getD s 0 + m) with q | q
   ·rw [Int.max_eq_right q]; exact hs hc.1 hc.2
   ·rw [Int.max_eq_left q] at ht ⊢; exact h _ ht hl
  ·rename_i e
   rw [if_neg e]; exact h t ht hl
 ·rename_i hc
  rw [if_neg hc]; exact h t ht hl
theorem zlx {S : Nat → Int → Prop} {i s : Nat} {best : List Int} : ∀ {cs : List Nat} {nx : List Int}, zfO S nx → (∀ k ∈ cs, s.testBit k = false → al i k = true → S (s ||| 2 ^ k) (best.getD s 0 + 1)) →
 zfO S (cs.foldl (fun nx k => zbi best (al i k) s k 1 nx) nx)
 | [], _, h, _ => h
 | k :: r, nx, h, hs => by
   rw [List.foldl_cons]
   exact zlx (znc h (hs k (by simp))) fun j hj => hs j (List.mem_cons_of_mem _ hj)
theorem zsa {S : Nat → Int → Prop} {cs : List Nat} {i s : Nat} {best nx : List Int} (h : zfO S nx) (hi : i ∉ cs) (hs : best.getD s 0 ≠ zbb → ∀ k ∈ i :: cs, s.testBit k = false → al i k = true → S (s ||| 2 ^ k) (best.getD s 0 + (if k = i then 0 else 1))) : zfO S (zcd al cs i best nx s) := by
 unfold zcd; split
 ·exact h
 ·rename_i hb
  refine zlx (znc h fun h1 h2 => ?_) fun k hk h1 h2 => ?_
  ·have := hs hb i (by simp) h1 h2
   rwa [if_pos rfl] at this
  ·have := hs hb k (List.mem_cons_of_mem _ hk) h1 h2
   rwa [if_neg (fun e : k = i => hi (e ▸ hk))] at this
theorem zmK {S : Nat → Int → Prop} {cs : List Nat} {i : Nat} {best : List Int} (hi : i ∉ cs) : ∀ {ss : List Nat} {nx : List Int}, zfO S nx → (∀ s ∈ ss, best.getD s 0 ≠ zbb → ∀ k ∈ i :: cs, s.testBit k = false → al i k = true → S (s ||| 2 ^ k) (best.getD s 0 + (if k = i then 0 else 1))) →
 zfO S (ss.foldl (zcd al cs i best) nx)
 | [], _, h, _ => h
 | s :: r, nx, h, hs => by
   rw [List.foldl_cons]
   exact zmK hi (zsa h hi (hs s (by simp))) fun j hj => hs j (List.mem_cons_of_mem _ hj)
theorem WayB.lt {q : List Nat} {c : Int} (hc : CanOk can) (h : WayB al can fr g q c) (hl : fr + q.length ≤ can.length) : ∀ k ∈ q, k < can.length := by
 induction h with
 | nil => simp
 | snoc h hk ha hn ih =>
   rw [List.length_append, List.length_singleton] at hl
   intro k hm
   rcases List.mem_append.1 hm with hm | hm
   ·exact ih (by omega) k hm
   ·rw [List.mem_singleton.1 hm]
    rcases List.mem_cons.1 hk with e | e
    ·omega
    ·exact hc.lt _ _ e
/-- What the table says after m steps. -/
structure TabB (al : Nat → Nat → Bool) (can : List (List Nat)) (fr : Nat) (g : List Nat) (m : Nat) (best : List Int) : Prop where
 len : best.length = 2 ^ can.length
 frm : zfO (fun s c => ∃ q, WayB al can fr g q c ∧ q.length = m ∧ za1 (g ++ q) = s) best
 all : ∀ q c, WayB al can fr g q c → q.length = m → c ≤ best.getD (za1 (g ++ q)) 0
theorem zpx (hc : CanOk can) (hg : ∀ k ∈ g, k < can.length) : ∀ m, fr + m ≤ can.length → TabB al can fr g m (za7 al can fr (zaU can.length (za1 g)) m)
 | 0, _ => by
   have hl := zlA hg
   refine ⟨by rw [za7]; unfold zaU; simp, fun t ht h2 => ?_, fun q c h hq => ?_⟩
   ·rw [za7] at ht ⊢
    unfold zaU at ht h2 ⊢
    rw [zew, List.length_replicate] at *
    split at ht
    ·rename_i e
     rw [if_pos e]
     exact ⟨[], .nil, rfl, by rw [List.append_nil]; exact e.1⟩
    ·exfalso; apply ht
     rw [za7, List.length_set, List.length_replicate] at h2
     simp [h2]
   ·cases h with
    | nil => rw [za7, List.append_nil]; unfold zaU; rw [zew, if_pos ⟨rfl, by simpa using hl⟩]; exact Int.le_refl _
    | snoc => simp at hq
 | m + 1, hm => by
   have ih := zpx hc hg m (by omega)
   rw [za7]
   refine ⟨by rw [zmV]; exact ih.len, ?_, fun q c h hq => ?_⟩
   ·unfold zhI
    refine zmK (hc.ne _) (fun t ht h2 => ?_) fun s hs hb k hk h1 ha => ?_
    ·exfalso; apply ht
     rw [List.length_replicate] at h2
     simp [h2]
    ·obtain ⟨q, w1, w2, w3⟩ := ih.frm s hb (List.mem_range.1 hs)
     subst w2 w3
     refine ⟨q ++ [k], .snoc w1 hk ha fun hm2 => ?_, by simp, by rw [← List.append_assoc, zgG]⟩
     rw [zfn] at h1
     simp at h1 hm2
     rcases hm2 with e | e
     ·exact h1.1 e
     ·exact h1.2 e
   ·cases h with
    | nil => simp at hq
    | snoc h hk ha hn =>
      rename_i q c k
      rw [List.length_append, List.length_singleton] at hq
      have hq2 : q.length = m := by omega
      subst hq2
      have h1 := ih.all q c h rfl
      have h0 := h.bd
      have hql := h.lt hc (by omega)
      have hkl : k < can.length := by
       rcases List.mem_cons.1 hk with e | e
       ·omega
       ·exact hc.lt _ _ e
      have hsl : za1 (g ++ q) < 2 ^ can.length := zlA fun j hj => (List.mem_append.1 hj).elim (hg j) (hql j)
      have hsl2 : za1 (g ++ q) ||| 2 ^ k < 2 ^ can.length := Nat.or_lt_two_pow hsl (Nat.pow_lt_pow_right (by omega) hkl)
      rw [← List.append_assoc, zgG]
      unfold zhI
      refine Int.le_trans ?_ (znE (k := k) (s := za1 (g ++ q)) (by have : zbb = -1000 := rfl; omega) (by rw [zfn]; simpa using hn) ha hk (by rw [List.length_replicate, ih.len]; exact hsl2) (List.mem_range.2 (by rw [ih.len]; exact hsl)))
      omega
/-! all together -/
theorem WayB.nodup {q : List Nat} {c : Int} (hg : g.Nodup) (h : WayB al can fr g q c) : (g ++ q).Nodup := by
 induction h with
 | nil => simpa using hg
 | snoc h hk ha hn ih =>
   rw [← List.append_assoc]
   refine List.nodup_append.2 ⟨ih, by simp, fun a ha b hb => ?_⟩
   rw [List.mem_singleton.1 hb]
   exact fun e => hn (e ▸ ha)
theorem ztS {n : Nat} : ∀ {p : List Nat}, p.Nodup → (∀ k ∈ p, k < n) → p.length = n → ∀ k, k ∈ p ↔ k < n := fun {p} hn hl he k => by
 refine ⟨hl k, fun hk => ?_⟩
 refine Classical.byContradiction fun hm => ?_
 have h1 : (k :: p).Nodup := List.nodup_cons.2 ⟨hm, hn⟩
 have h2 : (k :: p).length ≤ (List.range n).length := zeU h1 fun j hj => by
  rcases List.mem_cons.1 hj with rfl | hj
  ·exact List.mem_range.2 hk
  ·exact List.mem_range.2 (hl j hj)
 simp at h2; omega
/-- The number of the best way: it is reached, or there is no way; no way is better. -/
theorem zoo (hc : CanOk can) (hg : ∀ k ∈ g, k < can.length) (hn : g.Nodup) (hl : g.length = fr) (hf : fr ≤ can.length) :
 (zbM al can fr (za1 g) ≠ zbb → ∃ q, WayB al can fr g q (zbM al can fr (za1 g)) ∧ fr + q.length = can.length) ∧ ∀ q c, WayB al can fr g q c → fr + q.length = can.length → c ≤ zbM al can fr (za1 g) := by
 have h := zpx (al := al) (fr := fr) hc hg (can.length - fr) (by omega)
 have hp := Nat.two_pow_pos can.length
 refine ⟨fun hb => ?_, fun q c hw hq => ?_⟩
 ·obtain ⟨q, w1, w2, _⟩ := h.frm _ hb (by rw [h.len]; omega)
  exact ⟨q, w1, by omega⟩
 ·have h1 := h.all q c hw (by omega)
  have hfu : za1 (g ++ q) = 2 ^ can.length - 1 := zr9 (ztS (hw.nodup hn) (fun k hk => (List.mem_append.1 hk).elim (hg k) (hw.lt hc (by omega) k)) (by rw [List.length_append]; omega))
  rw [hfu] at h1; exact h1
end
end
section
/-- To whom one points who is not gone; -1: to nobody. -/
def zdw (w : List WantS) (g : List Bool) : List Str → Int
 | [] => -1
 | s :: t => if 0 ≤ zba w s ∧ g.getD (zba w s).toNat false = false then zba w s else zdw w g t
def zbL (w : List WantS) (g : List Bool) (i : Nat) : Int := if g.getD i false = true then -1 else zdw w g ((w.getD i zcm).For)
def za6 (w : List WantS) (g : List Bool) : List Int := (List.range w.length).map (zbL w g)
theorem zbk {w : List WantS} {g : List Bool} : (za6 w g).length = w.length := by unfold za6; simp
theorem zf4 {w : List WantS} {g : List Bool} {i : Nat} (h : i < w.length) : (za6 w g)[i]? = some (zbL w g i) := by
 unfold za6; rw [List.getElem?_map, List.getElem?_range h]; rfl
theorem zpC {w : List WantS} {g : List Bool} (hs : SortedS (w.map (·.Player))) : ∀ {t : List Str}, zdw w g t = -1 ∨ ∃ k : Nat, zdw w g t = (k : Int) ∧ k < w.length ∧ g.getD k false = false
 | [] => .inl rfl
 | s :: t => by
   rw [zdw]
   split
   ·rename_i h
    right
    have := (znJ hs (s := s)).2
    exact ⟨(zba w s).toNat, by omega, by omega, h.2⟩
   ·exact zpC hs
/-- All who are not gone point to somebody who is not gone. -/
def zff (w : List WantS) (g : List Bool) : Prop := ∀ i, i < w.length → g.getD i false = false → 0 ≤ zbL w g i
def SubG (g h : List Bool) : Prop := ∀ i, g.getD i false = true → h.getD i false = true
theorem SubG.refl (g : List Bool) : SubG g g := fun _ h => h
theorem SubG.trans {a b c : List Bool} (h1 : SubG a b) (h2 : SubG b c) : SubG a c := fun i h => h2 i (h1 i h)
theorem zna {w : List WantS} {g h : List Bool} (hs : SubG g h) : ∀ {t : List Str}, 0 ≤ zdw w h t → 0 ≤ zdw w g t
 | [], hp => hp
 | s :: t, hp => by
   rw [zdw] at hp ⊢
   split at hp
   ·rename_i hc
    have hb : g.getD (zba w s).toNat false = false := by
     cases hb : g.getD (zba w s).toNat false with
     | false => rfl
     | true => have := hs _ hb; rw [hc.2] at this; cases this
    rw [if_pos ⟨hc.1, hb⟩]
    exact hc.1
   ·split
    ·rename_i h; exact h.1
    ·exact zna hs hp
/-- The least set of those who go, so that all others point to somebody. -/
structure CoreG (w : List WantS) (g G : List Bool) : Prop where
 sub : SubG g G
 len : G.length = w.length
 cl : zff w G
 least : ∀ H, SubG g H → zff w H → SubG G H
theorem zoO {a b : List Bool} (hl : a.length = b.length) (h : ∀ i, a.getD i false = b.getD i false) : a = b := by
 refine List.ext_getElem? fun i => ?_
 have := h i
 rw [List.getD_eq_getElem?_getD, List.getD_eq_getElem?_getD] at this
 rcases Nat.lt_or_ge i a.length with q | q
 ·rw [List.getElem?_eq_getElem q, List.getElem?_eq_getElem (by omega)] at this ⊢
  simpa using this
 ·rw [List.getElem?_eq_none q, List.getElem?_eq_none (by omega)]
theorem zen {w : List WantS} {g G H : List Bool} (h1 : CoreG w g G) (h2 : CoreG w g H) : G = H := by
 refine zoO (h1.len.trans h2.len.symm) fun i => ?_
 have a := h1.least H h2.sub h2.cl i
 have b := h2.least G h1.sub h1.cl i
 cases hg : G.getD i false <;> cases hh : H.getD i false <;> simp_all
theorem zgZ {w : List WantS} {g : List Bool} (hl : g.length = w.length) (hc : zff w g) : CoreG w g g := ⟨SubG.refl _, hl, hc, fun _ h _ => h⟩
/-- Who points to nobody may go. -/
theorem ziO {w : List WantS} {g h G : List Bool} (hs : SubG g h) (hd : ∀ i, g.getD i false = false → h.getD i false = true → ∀ H, SubG g H → zff w H → H.getD i false = true) : CoreG w g G ↔ CoreG w h G := by
 have key : ∀ H, SubG g H → zff w H → SubG h H := fun H h1 h2 i hi => by
  cases hg : g.getD i false with
  | true => exact h1 i hg
  | false => exact hd i hg hi H h1 h2
 constructor
 ·intro c
  exact ⟨key G c.sub c.cl, c.len, c.cl, fun H h1 h2 => c.least H (hs.trans h1) h2⟩
 ·intro c
  exact ⟨hs.trans c.sub, c.len, c.cl, fun H h1 h2 => c.least H (key H h1 h2) h2⟩
theorem zmm {w : List WantS} {g : List Bool} {i : Nat} (hi : i < w.length) (hg : g.getD i false = false) (hp : zbL w g i < 0) : ∀ H, SubG g H → zff w H → H.getD i false = true := fun H h1 h2 => by
 refine Classical.byContradiction fun hn => ?_
 have hh : H.getD i false = false := by simpa using hn
 have := h2 i hi hh
 unfold zbL at this hp
 rw [if_neg (by rw [hh]; simp)] at this
 rw [if_neg (by rw [hg]; simp)] at hp
 have := zna h1 this
 omega
/-! the walk along a ring -/
def zd5 (to : List Int) : Nat → List Int → Int → List Int
 | 0, l, _ => l
 | m + 1, l, k => if l.contains k = true then l else zd5 to m (l ++ [k]) (to.getD k.toNat 0)
def zbS (to : List Int) (n i : Nat) : List Int := zd5 to n [(i : Int)] (to.getD i 0)
def zdS (to : List Int) (n i : Nat) : Bool := to.getD ((zbS to n i).getLastD 0).toNat 0 == (i : Int)
/-- The ring with the least one who is in a ring; none: []. -/
def zgz (to : List Int) (g : List Bool) (n : Nat) : Nat → Nat → List Int
 | _, 0 => []
 | i, m + 1 => if g.getD i false = false ∧ zdS to n i = true then zbS to n i else zgz to g n (i + 1) m
def zaz (to : List Int) (g : List Bool) (n : Nat) : List Int := zgz to g n 0 n
def zbT (g : List Bool) : List Int → List Bool
 | [] => g
 | k :: t => zbT (g.set k.toNat true) t
def zdB (w : List WantS) (l : List Int) : List Str := l.map fun k => (w.getD k.toNat zcm).Player
inductive RingsR (w : List WantS) : List Bool → List (List Str) → Prop
 | done {g G : List Bool} (h : CoreG w g G) (h2 : zaz (za6 w G) G w.length = []) : RingsR w g []
 | more {g G : List Bool} {out : List (List Str)} (h : CoreG w g G) (h2 : zaz (za6 w G) G w.length ≠ []) (h3 : RingsR w (zbT G (zaz (za6 w G) G w.length)) out) :
    RingsR w g (zdB w (zaz (za6 w G) G w.length) :: out)
theorem zoU {w : List WantS} {g : List Bool} {a : List (List Str)} (h : RingsR w g a) : ∀ {b : List (List Str)}, RingsR w g b → a = b := by
 induction h with
 | done h h2 =>
   intro b hb
   cases hb with
   | done => rfl
   | more g1 g2 g3 =>
     have := zen h g1
     subst this
     exact absurd h2 g2
 | more h h2 h3 ih =>
   intro b hb
   cases hb with
   | done g1 g2 =>
     have := zen h g1
     subst this
     exact absurd g2 h2
   | more g1 g2 g3 =>
     have := zen h g1
     subst this
     rw [ih g3]
/-- How many are not gone. -/
def zbc (g : List Bool) : Nat := g.countP fun b => !b
theorem zgi {g : List Bool} {k : Nat} (hk : g.getD k false = false) (hl : k < g.length) : zbc (g.set k true) < zbc g := by
 unfold zbc
 have e : g = g.take k ++ g[k] :: g.drop (k + 1) := by rw [List.getElem_cons_drop, List.take_append_drop]
 have h0 : g[k] = false := by rw [List.getD_eq_getElem?_getD, List.getElem?_eq_getElem hl] at hk; simpa using hk
 rw [List.set_eq_take_append_cons_drop, if_pos hl]
 conv => rhs; rw [e]
 rw [List.countP_append, List.countP_append, List.countP_cons, List.countP_cons, h0]
 simp
theorem zfr {g : List Bool} {k : Nat} : zbc (g.set k true) ≤ zbc g := by
 by_cases hl : k < g.length
 ·by_cases hk : g.getD k false = false
  ·exact Nat.le_of_lt (zgi hk hl)
  ·have : g.set k true = g := by
    refine zoO (by simp) fun i => ?_
    rw [getD_setG]
    split
    ·rename_i h; rw [← h.1]; simpa using hk
    ·rfl
   rw [this]; exact Nat.le_refl _
 ·rw [List.set_eq_of_length_le (by omega)]; exact Nat.le_refl _
where
 getD_setG {l : List Bool} {i j : Nat} {a : Bool} : (l.set i a).getD j false = if i = j ∧ i < l.length then a else l.getD j false := by
  rw [List.getD_eq_getElem?_getD, List.getD_eq_getElem?_getD, List.getElem?_set]
  by_cases h : i = j
  ·subst h
   by_cases h2 : i < l.length
   ·simp [h2]
   ·simp [h2, List.getElem?_eq_none (Nat.le_of_not_lt h2)]
  ·simp [h]
theorem zgl : ∀ {l : List Int} {g : List Bool}, (zbT g l).length = g.length
 | [], _ => rfl
 | k :: t, g => by rw [zbT, zgl]; simp
theorem zpp : ∀ {l : List Int} {g : List Bool}, zbc (zbT g l) ≤ zbc g
 | [], _ => Nat.le_refl _
 | k :: t, g => by rw [zbT]; exact Nat.le_trans zpp zfr
theorem zmH {to : List Int} : ∀ {m : Nat} {l : List Int} {k : Int}, l ≠ [] → (zd5 to m l k).head? = l.head?
 | 0, _, _, _ => rfl
 | m + 1, l, k, h => by
   rw [zd5]; split
   ·rfl
   ·rw [zmH (by simp)]
    cases l with
    | nil => exact absurd rfl h
    | cons a t => rfl
theorem ziY {to : List Int} {n i : Nat} : (zbS to n i).head? = some (i : Int) := by unfold zbS; rw [zmH (by simp)]; rfl
theorem zeR {to : List Int} {g : List Bool} {n : Nat} : ∀ {m i : Nat}, zgz to g n i m ≠ [] → ∃ j, i ≤ j ∧ j < i + m ∧ g.getD j false = false ∧ zdS to n j = true ∧ zgz to g n i m = zbS to n j ∧ ∀ k, i ≤ k → k < j → ¬ (g.getD k false = false ∧ zdS to n k = true)
 | 0, i, h => absurd rfl h
 | m + 1, i, h => by
   rw [zgz] at h ⊢
   split at h
   ·rename_i hc
    rw [if_pos hc]
    exact ⟨i, Nat.le_refl _, by omega, hc.1, hc.2, rfl, fun k h1 h2 => by omega⟩
   ·rename_i hc
    rw [if_neg hc]
    obtain ⟨j, j1, j2, j3, j4, j5, j6⟩ := zeR (m := m) (i := i + 1) h
    exact ⟨j, by omega, by omega, j3, j4, j5, fun k h1 h2 => by
     rcases Nat.eq_or_lt_of_le h1 with e | e
     ·subst e; exact hc
     ·exact j6 k e h2⟩
theorem zlU {w : List WantS} {g : List Bool} (hl : g.length = w.length) {to : List Int} (h : zaz to g w.length ≠ []) : zbc (zbT g (zaz to g w.length)) < zbc g := by
 obtain ⟨j, _, j2, j3, _, j5, _⟩ := zeR h
 have hh := ziY (to := to) (n := w.length) (i := j)
 unfold zaz
 rw [j5]
 cases hr : zbS to w.length j with
 | nil => rw [hr] at hh; cases hh
 | cons a t =>
   rw [hr] at hh
   simp at hh
   subst hh
   rw [zbT]
   exact Nat.lt_of_le_of_lt zpp (zgi (by simpa using j3) (by simp; omega))
theorem zjP {w : List WantS} : ∀ (n : Nat) (g : List Bool), g.length = w.length → zbc g ≤ n → ∃ G, CoreG w g G
 | n, g, hl, hn => by
   by_cases hc : zff w g
   ·exact ⟨g, zgZ hl hc⟩
   ·obtain ⟨i, h1, h2, h3⟩ : ∃ i, i < w.length ∧ g.getD i false = false ∧ zbL w g i < 0 := by
     refine Classical.byContradiction fun hn => hc fun i h1 h2 => ?_
     refine Classical.byContradiction fun h3 => hn ⟨i, h1, h2, by omega⟩
    have hlt := zgi (g := g) (k := i) h2 (by omega)
    cases n with
    | zero => omega
    | succ n =>
      obtain ⟨G, hG⟩ := zjP n (g.set i true) (by simpa using hl) (by omega)
      refine ⟨G, (ziO (h := g.set i true) (fun j hj => ?_) fun j hg hj H s1 s2 => ?_).2 hG⟩
      ·rw [zfr.getD_setG]; split
       ·rfl
       ·exact hj
      ·rw [zfr.getD_setG] at hj
       split at hj
       ·rename_i e; rw [← e.1]; exact zmm h1 h2 h3 H s1 s2
       ·rw [hg] at hj; cases hj
theorem zgj {w : List WantS} : ∀ (n : Nat) (g : List Bool), g.length = w.length → zbc g ≤ n → ∃ out, RingsR w g out
 | n, g, hl, hn => by
   obtain ⟨G, hG⟩ := zjP n g hl hn
   by_cases h : zaz (za6 w G) G w.length = []
   ·exact ⟨[], .done hG h⟩
   ·have h1 := zlU hG.len h
    have h2 : zbc G ≤ zbc g := by
     unfold zbc
     have hle : ∀ (a b : List Bool), a.length = b.length → (∀ i, a.getD i false = true → b.getD i false = true) → b.countP (fun b => !b) ≤ a.countP fun b => !b := by
      intro a
      induction a with
      | nil => intro b hb _; simp at hb; rw [List.length_eq_zero_iff.1 hb.symm]; exact Nat.le_refl _
      | cons x a ih =>
        intro b hb hi
        cases b with
        | nil => simp at hb
        | cons y b =>
          have i1 := ih b (by simpa using hb) fun i h => by have := hi (i + 1) (by simpa using h); simpa using this
          have i0 := hi 0
          simp at i0
          rw [List.countP_cons, List.countP_cons]
          cases x <;> cases y <;> simp_all <;> omega
     exact hle g G (by rw [hl, hG.len]) hG.sub
    cases n with
    | zero => omega
    | succ n =>
      obtain ⟨out, ho⟩ := zgj n (zbT G (zaz (za6 w G) G w.length)) (by rw [zgl]; exact hG.len) (by omega)
      exact ⟨_, .more hG h ho⟩
/-- The rings of all wants. -/
noncomputable def zbe (w : List WantS) : List (List Str) := Classical.choose (zgj (w := w) (zbc (List.replicate w.length false)) (List.replicate w.length false) (by simp) (Nat.le_refl _))
theorem zlM (w : List WantS) : RingsR w (List.replicate w.length false) (zbe w) := Classical.choose_spec (zgj (w := w) (zbc (List.replicate w.length false)) (List.replicate w.length false) (by simp) (Nat.le_refl _))
end
section
def zei (P : List Int) (n k : Nat) : List Int := P.take k ++ List.replicate (n - k) (-1)
theorem zoJ {P : List Int} {n k : Nat} (hl : P.length = n) (hk : k ≤ n) : (zei P n k).length = n := by unfold zei; simp; omega
theorem zq9 {P : List Int} {n : Nat} : zei P n 0 = List.replicate n (-1) := by unfold zei; simp
theorem zr2 {P : List Int} {n : Nat} (hl : P.length = n) : zei P n n = P := by unfold zei; rw [List.take_of_length_le (by omega)]; simp
theorem zol {P : List Int} {n k : Nat} (hl : P.length = n) (hk : k < n) : (zei P n k)[k]? = some (-1) := by
 unfold zei
 rw [List.getElem?_append_right (by rw [List.length_take]; omega), List.length_take, List.getElem?_replicate, if_pos (by omega)]
theorem zoE {P : List Int} {n k : Nat} {a : Int} (hl : P.length = n) (hP : P[k]? = some a) : (zei P n k).set k a = zei P n (k + 1) := by
 have hk := zC hP
 unfold zei
 have e : n - k = (n - (k + 1)) + 1 := by omega
 rw [e, List.replicate_succ, List.set_append, if_neg (by rw [List.length_take]; omega), List.length_take, show k - min k P.length = 0 by omega, List.set_cons_zero, List.take_add_one, hP]
 simp
theorem zm0 {P : List Int} {n k : Nat} (hl : P.length = n) (hP : P[k]? = some (-1)) : zei P n k = zei P n (k + 1) := by
 rw [← zoE hl hP]
 refine List.ext_getElem? fun p => ?_
 rw [List.getElem?_set]
 split
 ·rename_i h; subst h
  have hk := zC hP
  have := zol (P := P) (n := n) hl (show k < n by omega)
  rw [this, if_pos (zC this)]
 ·rfl
/-! letting go -/
structure DropI (w : List WantS) (h h2 : List Bool) (k : Nat) (sm : Bool) : Prop where
 len : h2.length = w.length
 sub : SubG h h2
 new : ∀ i, h.getD i false = false → h2.getD i false = true → i < k ∧ i < w.length ∧ zbL w h i < 0
 old : ∀ i, i < k → i < w.length → h.getD i false = false → zbL w h i < 0 → h2.getD i false = true
 eq : sm = false → h2 = h
 lt : sm = true → zbc h2 < zbc h
 le : zbc h2 ≤ zbc h
theorem getD_setG {l : List Bool} {i j : Nat} {a : Bool} : (l.set i a).getD j false = if i = j ∧ i < l.length then a else l.getD j false := zfr.getD_setG
theorem DropI.start {w : List WantS} {h : List Bool} (hl : h.length = w.length) : DropI w h h 0 false :=
 ⟨hl, SubG.refl _, fun i h1 h2 => (by rw [h1] at h2; cases h2), fun i hi => by omega, fun _ => rfl, fun e => (by cases e), Nat.le_refl _⟩
theorem DropI.set {w : List WantS} {h h2 : List Bool} {k : Nat} {sm : Bool} (d : DropI w h h2 k sm) (hk : k < w.length) (hb : h2.getD k false = false) (hp : zbL w h k < 0) : DropI w h (h2.set k true) (k + 1) true := by
 have hl := zgi hb (by rw [d.len]; exact hk)
 have hle := d.le
 have h0 : h.getD k false = false := by
  cases e : h.getD k false with
  | false => rfl
  | true => have := d.sub k e; rw [hb] at this; cases this
 refine ⟨by simpa using d.len, fun i hi => ?_, fun i h1 h3 => ?_, fun i hi hiw h1 h3 => ?_, fun e => (by cases e), fun _ => by omega, by omega⟩
 ·rw [getD_setG]; split
  ·rfl
  ·exact d.sub i hi
 ·rw [getD_setG] at h3
  split at h3
  ·rename_i e; rw [← e.1]; exact ⟨by omega, hk, hp⟩
  ·have := d.new i h1 h3; exact ⟨by omega, this.2⟩
 ·rw [getD_setG]; split
  ·rfl
  ·rename_i e
   refine d.old i ?_ hiw h1 h3
   rcases Nat.lt_succ_iff_lt_or_eq.1 hi with q | q
   ·exact q
   ·exact absurd ⟨q.symm, by rw [d.len]; exact hk⟩ e
theorem DropI.skip {w : List WantS} {h h2 : List Bool} {k : Nat} {sm : Bool} (d : DropI w h h2 k sm) (hn : h2.getD k false = true ∨ 0 ≤ zbL w h k) : DropI w h h2 (k + 1) sm := by
 refine ⟨d.len, d.sub, fun i h1 h3 => ?_, fun i hi hiw h1 h3 => ?_, d.eq, d.lt, d.le⟩
 ·have := d.new i h1 h3; exact ⟨by omega, this.2⟩
 ·rcases Nat.lt_succ_iff_lt_or_eq.1 hi with q | q
  ·exact d.old i q hiw h1 h3
  ·subst q
   rcases hn with e | e
   ·exact e
   ·omega
theorem DropI.done {w : List WantS} {h h2 : List Bool} (d : DropI w h h2 w.length false) : CoreG w h h ∧ h2 = h := by
 have e := d.eq rfl
 subst e
 refine ⟨zgZ d.len fun i hi hg => ?_, rfl⟩
 refine Classical.byContradiction fun hn => ?_
 have := d.old i hi hi hg (by omega)
 rw [hg] at this; cases this
theorem DropI.next {w : List WantS} {h h2 : List Bool} {k : Nat} {sm : Bool} (d : DropI w h h2 k sm) (G : List Bool) : CoreG w h G ↔ CoreG w h2 G :=
 ziO d.sub fun i h1 h3 H s1 s2 => by
  obtain ⟨_, a, b⟩ := d.new i h1 h3
  exact zmm a h1 b H s1 s2
/-! following -/
structure ClosedT (to : List Int) (g : List Bool) : Prop where
 nx : ∀ i, i < to.length → g.getD i false = false → ∃ k : Nat, to[i]? = some (k : Int) ∧ k < to.length ∧ g.getD k false = false
theorem zdo {w : List WantS} {g G : List Bool} (hs : SortedS (w.map (·.Player))) (h : CoreG w g G) : ClosedT (za6 w G) G := ⟨fun i hi hg => by
 rw [zbk] at hi ⊢
 have h1 := h.cl i hi hg
 rw [zf4 hi]
 unfold zbL at h1 ⊢
 rw [if_neg (by rw [hg]; simp)] at h1 ⊢
 rcases zpC (g := G) hs (t := (w.getD i zcm).For) with e | ⟨k, e1, e2, e3⟩
 ·omega
 ·exact ⟨k, by rw [e1], e2, e3⟩⟩
structure WalkI (to : List Int) (g : List Bool) (i : Nat) (L : List Int) (kk : Int) : Prop where
 nd : L.Nodup
 all : ∀ z ∈ L, ∃ a : Nat, z = (a : Int) ∧ a < to.length ∧ g.getD a false = false
 at' : ∃ b : Nat, kk = (b : Int) ∧ b < to.length ∧ g.getD b false = false
 ne : L ≠ []
 fu : ∃ f, f + L.length = to.length + 1 ∧ zd5 to f L kk = zbS to to.length i
theorem WalkI.len {to : List Int} {g : List Bool} {i : Nat} {L : List Int} {kk : Int} (h : WalkI to g i L kk) : L.length ≤ to.length := by
 have hn : (L.map Int.toNat).Nodup := by
  refine List.pairwise_map.2 (h.nd.imp_of_mem fun {a b} ha hb hab e => hab ?_)
  obtain ⟨x, rfl, _⟩ := h.all _ ha
  obtain ⟨y, rfl, _⟩ := h.all _ hb
  simp at e; rw [e]
 have := zeU hn (m := List.range to.length) fun x hx => by
  obtain ⟨z, hz, rfl⟩ := List.mem_map.1 hx
  obtain ⟨a, rfl, ha, _⟩ := h.all z hz
  exact List.mem_range.2 (by simpa using ha)
 simpa using this
theorem WalkI.start {to : List Int} {g : List Bool} (hc : ClosedT to g) {i : Nat} (hi : i < to.length) (hg : g.getD i false = false) : WalkI to g i [(i : Int)] (to.getD i 0) := by
 obtain ⟨k, k1, k2, k3⟩ := hc.nx i hi hg
 refine ⟨by simp, fun z hz => ⟨i, List.mem_singleton.1 hz, hi, hg⟩, ⟨k, by rw [List.getD_eq_getElem?_getD, k1]; rfl, k2, k3⟩, by simp, to.length, by simp, rfl⟩
theorem WalkI.step {to : List Int} {g : List Bool} (hc : ClosedT to g) {i : Nat} {L : List Int} {kk : Int} (h : WalkI to g i L kk) (hn : L.contains kk = false) : WalkI to g i (L ++ [kk]) (to.getD kk.toNat 0) := by
 obtain ⟨b, rfl, b2, b3⟩ := h.at'
 obtain ⟨k, k1, k2, k3⟩ := hc.nx b b2 b3
 obtain ⟨f, f1, f2⟩ := h.fu
 have hl := h.len
 have hm : (b : Int) ∉ L := by rw [← List.contains_iff_mem, hn]; simp
 refine ⟨List.nodup_append.2 ⟨h.nd, by simp, fun a ha c hc => by rw [List.mem_singleton.1 hc]; exact fun e => hm (e ▸ ha)⟩, fun z hz => ?_, ⟨k, ?_, k2, k3⟩, by simp, f - 1, by simp; omega, ?_⟩
 ·rcases List.mem_append.1 hz with e | e
  ·exact h.all z e
  ·exact ⟨b, List.mem_singleton.1 e, b2, b3⟩
 ·simp only [Int.toNat_natCast]; rw [List.getD_eq_getElem?_getD, k1]; rfl
 ·obtain ⟨f', rfl⟩ : ∃ f', f = f' + 1 := ⟨f - 1, by omega⟩
  rw [zd5, if_neg (by rw [hn]; simp)] at f2
  exact f2
theorem WalkI.done {to : List Int} {g : List Bool} {i : Nat} {L : List Int} {kk : Int} (h : WalkI to g i L kk) (hn : L.contains kk = true) : zbS to to.length i = L := by
 obtain ⟨f, f1, f2⟩ := h.fu
 have hl := h.len
 obtain ⟨f', rfl⟩ : ∃ f', f = f' + 1 := ⟨f - 1, by omega⟩
 rw [zd5, if_pos hn] at f2
 exact f2.symm
theorem WalkI.last {to : List Int} {g : List Bool} {i : Nat} {L : List Int} {kk : Int} (h : WalkI to g i L kk) : ∃ b : Nat, L[L.length - 1]? = some (b : Int) ∧ L.getLastD 0 = (b : Int) ∧ b < to.length ∧ g.getD b false = false := by
 obtain ⟨A, z, e⟩ : ∃ A z, L = A ++ [z] := ⟨L.dropLast, L.getLast h.ne, (List.dropLast_concat_getLast h.ne).symm⟩
 subst e
 obtain ⟨b, rfl, b2, b3⟩ := h.all z (by simp)
 refine ⟨b, by simp, by simp, b2, b3⟩
/-! taking a ring out -/
theorem zmU : ∀ {l : List Int} {g : List Bool} {z : Int}, zbT g (l ++ [z]) = (zbT g l).set z.toNat true
 | [], _, _ => rfl
 | k :: t, g, z => by rw [List.cons_append, zbT, zbT, zmU]
theorem zqJ {w : List WantS} {l : List Int} {z : Int} : zdB w (l ++ [z]) = zdB w l ++ [(w.getD z.toNat zcm).Player] := by unfold zdB; simp
theorem zsU {to : List Int} {g : List Bool} (hc : ClosedT to g) : ∀ z ∈ zaz to g to.length, ∃ a : Nat, z = (a : Int) ∧ a < to.length ∧ g.getD a false = false := fun z hz => by
 by_cases he : zaz to g to.length = []
 ·rw [he] at hz; cases hz
 obtain ⟨j, _, j2, j3, j4, j5, _⟩ := zeR he
 unfold zaz at hz
 rw [j5] at hz
 have key : ∀ (m : Nat) (L : List Int) (kk : Int), WalkI to g j L kk → to.length + 1 - L.length ≤ m → ∀ z ∈ zbS to to.length j, ∃ a : Nat, z = (a : Int) ∧ a < to.length ∧ g.getD a false = false := by
  intro m
  induction m with
  | zero => intro L kk hw hm; have := hw.len; omega
  | succ m ih =>
    intro L kk hw hm z hz
    cases hcn : L.contains kk with
    | true => rw [hw.done hcn] at hz; exact hw.all z hz
    | false => exact ih _ _ (hw.step hc hcn) (by simp; omega) z hz
 exact key _ _ _ (WalkI.start hc (by omega) j3) (Nat.le_refl _) z hz
theorem zkn {to : List Int} {g : List Bool} (hc : ClosedT to g) : (zaz to g to.length).length ≤ to.length := by
 by_cases he : zaz to g to.length = []
 ·rw [he]; exact Nat.zero_le _
 obtain ⟨j, _, j2, j3, j4, j5, _⟩ := zeR he
 unfold zaz
 rw [j5]
 have key : ∀ (m : Nat) (L : List Int) (kk : Int), WalkI to g j L kk → to.length + 1 - L.length ≤ m → (zbS to to.length j).length ≤ to.length := by
  intro m
  induction m with
  | zero => intro L kk hw hm; have := hw.len; omega
  | succ m ih =>
    intro L kk hw hm
    cases hcn : L.contains kk with
    | true => rw [hw.done hcn]; exact hw.len
    | false => exact ih _ _ (hw.step hc hcn) (by simp; omega)
 exact key _ _ _ (WalkI.start hc (by omega) j3) (Nat.le_refl _)
/-- What is left of the rings, and what is out already. -/
def zlj (w : List WantS) (g : List Bool) (out : List (List Str)) : Prop := ∃ rest, RingsR w g rest ∧ zbe w = out ++ rest
theorem zqj {w : List WantS} : zlj w (List.replicate w.length false) [] := ⟨_, zlM w, rfl⟩
theorem zmF {w : List WantS} {g G : List Bool} {out : List (List Str)} (hc : CoreG w g G) (h : zlj w g out) (hr : zaz (za6 w G) G w.length = []) : zbe w = out := by
 obtain ⟨r, r1, r2⟩ := h
 rw [zoU r1 (.done hc hr)] at r2
 simpa using r2
theorem zrF {w : List WantS} {g G : List Bool} {out : List (List Str)} (hc : CoreG w g G) (h : zlj w g out) (hr : zaz (za6 w G) G w.length ≠ []) :
 zlj w (zbT G (zaz (za6 w G) G w.length)) (out ++ [zdB w (zaz (za6 w G) G w.length)]) := by
 obtain ⟨r, r1, r2⟩ := h
 cases r1 with
 | done g1 g2 =>
   have := zen hc g1
   subst this
   exact absurd g2 hr
 | more g1 g2 g3 =>
   have := zen hc g1
   subst this
   exact ⟨_, g3, by rw [r2]; simp⟩
theorem zn5 {l : List Int} {z : Int} : l.contains z = l.any (· == z) := by
 rw [Bool.eq_iff_iff, List.contains_iff_mem, List.any_eq_true]
 constructor
 ·intro h; exact ⟨z, h, by simp⟩
 ·rintro ⟨y, hy, e⟩; rw [beq_iff_eq] at e; exact e ▸ hy
theorem zkb : ∀ {a b : List Bool}, a.length = b.length → SubG a b → zbc b ≤ zbc a
 | [], b, hb, _ => by simp at hb; rw [List.length_eq_zero_iff.1 hb.symm]; exact Nat.le_refl _
 | x :: a, [], hb, _ => by simp at hb
 | x :: a, y :: b, hb, hi => by
   have i1 := zkb (a := a) (b := b) (by simpa using hb) fun i h => hi (i + 1) h
   have i0 : x = true → y = true := fun h => hi 0 h
   unfold zbc at i1 ⊢
   rw [List.countP_cons, List.countP_cons]
   cases x <;> cases y <;> (try simp_all) <;> (try omega)
theorem zow {n : Nat} : zbc (List.replicate n false) = n := by unfold zbc; rw [List.countP_replicate]; rfl
/-- The rings, or none where the wants are wrong. -/
noncomputable def zho (m : MarketS) (o : List OwnerS) (w : List WantS) : List (List Str) := if zar m o w = 0 then zbe w else []
abbrev eSss (l : List (List Str)) : HVal := .slice 1 (l.map eSs)
end
section
structure OutS where
 Points : Int
 Weight : Int
abbrev most : Int := 1000000000000
end
section
abbrev NW := List (Int × Int)
/-- One player more. -/
def one (p : Int × Int) (O : List OutS) : NW := O.map fun o => (p.1 + o.Points, p.2 * o.Weight)
def tot : NW → Int
 | [] => 0
 | p :: r => p.2 + tot r
/-- All weights are above 0. -/
def PosW (L : NW) : Prop := ∀ p ∈ L, 1 ≤ p.2
theorem PosW.tot {L : NW} (h : PosW L) : 0 ≤ tot L := by
 induction L with
 | nil => simp [HL.tot]
 | cons p L ih =>
   have := ih fun q hq => h q (List.mem_cons_of_mem _ hq)
   have := h p List.mem_cons_self
   simp only [HL.tot]; omega
theorem PosW.le {L : NW} (h : PosW L) {p : Int × Int} (hp : p ∈ L) : p.2 ≤ HL.tot L := by
 induction L with
 | nil => cases hp
 | cons q L ih =>
   have hL : PosW L := fun q hq => h q (List.mem_cons_of_mem _ hq)
   have h1 := hL.tot
   have h2 := h q List.mem_cons_self
   rcases List.mem_cons.1 hp with rfl | hp
   ·simp only [HL.tot]; omega
   ·have := ih hL hp; simp only [HL.tot]; omega
theorem PosW.alk {L : NW} (h : PosW L) (k : Int) : 0 ≤ (alk k L).getD 0 ∧ (alk k L).getD 0 ≤ HL.tot L := by
 cases hq : HL.alk k L with
 | none => have := h.tot; simp; omega
 | some v =>
   have hm := zcV hq
   have h1 := h _ hm
   have h2 := h.le hm
   simp only [Option.getD_some]
   simp only at h1 h2
   omega
theorem PosW.one {p : Int × Int} (hp : 1 ≤ p.2) {O : List OutS} (hO : ∀ y ∈ O, 1 ≤ y.Weight) : PosW (HL.one p O) := fun q hq => by
 obtain ⟨o, ho, rfl⟩ := List.mem_map.1 hq
 have := hO o ho
 have : 1 * 1 ≤ p.2 * o.Weight := Int.mul_le_mul hp this (by decide) (by omega)
 dsimp only; omega
end
section
variable {P : Program}
open Go.Sort Go.Proofs
end
section

end
section
/-- All weights are above 0. -/
def PosO (Y : List OutS) : Prop := ∀ q ∈ Y, 1 ≤ q.Weight
theorem PosO.take {Y : List OutS} (h : PosO Y) (k : Nat) : PosO (Y.take k) := fun x hx => h x (List.mem_of_mem_take hx)
def IncO (Y : List OutS) : Prop := Y.Pairwise fun a b => a.Points < b.Points
theorem IncO.drop {Y : List OutS} (h : IncO Y) {i : Nat} {n : Int} {q : OutS} (hq : Y[i]? = some q) (hn : n ≤ q.Points) : ∀ x ∈ Y.drop i, n ≤ x.Points := by
 intro x hx
 have hi : i < Y.length := (List.getElem?_eq_some_iff.1 hq).1
 have he : Y[i] = q := (List.getElem?_eq_some_iff.1 hq).2
 rw [List.drop_eq_getElem_cons hi, he] at hx
 rcases List.mem_cons.1 hx with rfl | hx
 ·exact hn
 ·have hp : (Y.drop i).Pairwise fun a b => a.Points < b.Points := List.Pairwise.sublist (List.drop_sublist i Y) h
  rw [List.drop_eq_getElem_cons hi, he] at hp
  have := (List.pairwise_cons.1 hp).1 x hx
  omega
end
section

end
section
def hiW (A : Int) : Int := A / 18446744073709551616
def loW (A : Int) : Int := A % 18446744073709551616
end
section

end
section
theorem VisOk.rest {L E : NW} {vis : List Nat} (hv : VisOk L vis E) : ∃ E' : NW, (E ++ E').Perm L := by
 let rest := (List.range L.length).filter fun j => decide (j ∉ vis)
 have hr : ∀ j, j ∈ rest ↔ j < L.length ∧ j ∉ vis := fun j => by simp [rest]
 refine ⟨rest.map fun j => L.getD j (0, 0), ?_⟩
 have nd : (vis ++ rest).Nodup := List.nodup_append.2 ⟨hv.nd, List.Pairwise.filter _ List.nodup_range, fun a ha b hb e => ((hr b).1 hb).2 (e ▸ ha)⟩
 have hall : VisOk L (vis ++ rest) (E ++ rest.map fun j => L.getD j (0, 0)) := by
  refine ⟨nd, fun j hj => ?_, ?_⟩
  ·rcases List.mem_append.1 hj with h | h
   ·exact hv.lt j h
   ·exact ((hr j).1 h).1
  ·rw [List.map_append, List.map_append, hv.eq, List.map_map]
   congr 1
   refine List.map_congr_left fun j hj => ?_
   have := ((hr j).1 hj).1
   show some (L.getD j (0, 0)) = L[j]?
   rw [List.getElem?_eq_getElem this]; simp [List.getD, List.getElem?_eq_getElem this]
 refine hall.done ?_
 have hp : (vis ++ rest).Perm (List.range L.length) := (List.perm_ext_iff_of_nodup nd List.nodup_range).2 fun a => by
  rw [List.mem_append, hr, List.mem_range]
  constructor
  ·rintro (h | h)
   ·exact hv.lt a h
   ·exact h.1
  ·intro h
   by_cases c : a ∈ vis
   ·exact .inl c
   ·exact .inr ⟨h, c⟩
 have := hp.length_eq
 rwa [List.length_range] at this
end
section
variable {P : Program}
end
section
open Go
theorem zvh {m : Int} (h0 : 0 ≤ m) (h1 : m < 18446744073709551616) : IntKind.u64.wrap (((m % 2 ^ IntKind.u64.bits).toNat &&& 4294967295 % 2 ^ IntKind.u64.bits : Nat) : Int) = m % 4294967296 := by
 have e1 : (4294967295 % 2 ^ IntKind.u64.bits : Nat) = 2 ^ 32 - 1 := rfl
 rw [e1, Nat.and_two_pow_sub_one_eq_mod]
 have e2 : m % 2 ^ IntKind.u64.bits = m := by
  simp [IntKind.bits]; omega
 rw [e2]
 simp [IntKind.wrap, IntKind.bits, IntKind.signed]; omega
section
variable {P : Program} {e : Env} {dst : Option Tmp} {ty : TypeId} {pos : String} {af : Array Edge} {g : Option (Nat × Bool)}
theorem ziN [Tracks] {x y : Operand} {t t' : TypeId} {m : Int} (hx : zu e x = some (.int .u64 m)) (hy : zu e y = some (.int .u64 4294967295)) (h0 : 0 ≤ m) (h1 : m < 18446744073709551616) :
 POp P e ⟨dst, .binOp .and t x y t', ty, pos, af, g⟩ (.int .u64 (m % 4294967296)) :=
 POp.of_val fun I a w ho => ⟨.int .u64 (m % 4294967296), by
  have g1 := (ho.one (x := x) (by simp [Op.operands]) hx).int_inv
  have g2 := (ho.one (x := y) (by simp [Op.operands]) hy).int_inv
  have g3 := zvh h0 h1
  simp [execOp, g1, g2, eqGuard, binOp, Op.intBits]
  simpa using g3, .int _ _⟩
theorem znB {n : Int} (h1 : 0 ≤ n) (h2 : n < 18446744073709551616) : IntKind.wrap .u64 n = n := by
 simp [IntKind.wrap, IntKind.bits, IntKind.signed]; omega
theorem zhN [Tracks] {x y : Operand} {t t' : TypeId} {m n : Int} (hx : zu e x = some (.int .u64 m)) (hy : zu e y = some (.int .u64 n)) (h1 : 0 ≤ m + n) (h2 : m + n < 18446744073709551616) :
 POp P e ⟨dst, .binOp .add t x y t', ty, pos, af, g⟩ (.int .u64 (m + n)) := by
 have := zha (P := P) (dst := dst) (ty := ty) (pos := pos) (af := af) (g := g) (t := t) (t' := t') hx hy
 rwa [znB h1 h2] at this
theorem zhU [Tracks] {x y : Operand} {t t' : TypeId} {m n : Int} (hx : zu e x = some (.int .u64 m)) (hy : zu e y = some (.int .u64 n)) (h1 : 0 ≤ m * n) (h2 : m * n < 18446744073709551616) :
 POp P e ⟨dst, .binOp .mul t x y t', ty, pos, af, g⟩ (.int .u64 (m * n)) := by
 have := zhi (P := P) (dst := dst) (ty := ty) (pos := pos) (af := af) (g := g) (t := t) (t' := t') hx hy
 rwa [znB h1 h2] at this
theorem zrH [Tracks] {x y : Operand} {t t' : TypeId} {m n : Int} (hx : zu e x = some (.int .u64 m)) (hy : zu e y = some (.int .u64 n)) :
 POp P e ⟨dst, .binOp .mul t x y t', ty, pos, af, g⟩ (.int .u64 (loW (m * n))) := by
 have := zhi (P := P) (dst := dst) (ty := ty) (pos := pos) (af := af) (g := g) (t := t) (t' := t') hx hy
 have e : IntKind.wrap .u64 (m * n) = loW (m * n) := by unfold loW; simp [IntKind.wrap, IntKind.bits, IntKind.signed]
 rwa [e] at this
theorem zfH [Tracks] {x y : Operand} {t t' : TypeId} {m : Int} {k' : IntKind} (hx : zu e x = some (.int .u64 m)) (hy : zu e y = some (.int k' 32)) :
 POp P e ⟨dst, .binOp .shr t x y t', ty, pos, af, g⟩ (.int .u64 (m / 4294967296)) := by
 have := zjn (P := P) (dst := dst) (ty := ty) (pos := pos) (af := af) (g := g) (t := t) (t' := t') hx hy (by decide)
 have e : m.fdiv (2 ^ min (32 : Int).toNat IntKind.u64.bits) = m / 4294967296 := by
  show m.fdiv 4294967296 = _
  exact (Int.fdiv_eq_ediv_of_nonneg m (by decide))
 rwa [e] at this
end
/-- The halves of a product of two small numbers. -/
def zaw (m : Int) : Int := m % 4294967296
def zaT (m : Int) : Int := m / 4294967296
theorem zqP {m : Int} (h0 : 0 ≤ m) (h1 : m < 1099511627776) : (0 ≤ zaw m ∧ zaw m < 4294967296) ∧ (0 ≤ zaT m ∧ zaT m < 256) ∧ m = zaT m * 4294967296 + zaw m := by unfold zaw zaT; omega
theorem zfb {a b A B : Int} (ha : 0 ≤ a ∧ a < A) (hb : 0 ≤ b ∧ b < B) : 0 ≤ a * b ∧ a * b ≤ (A - 1) * (B - 1) := ⟨Int.mul_nonneg ha.1 hb.1, Int.mul_le_mul (by omega) (by omega) hb.1 (by omega)⟩
theorem zo5 {m n : Int} (hm : m = zaT m * 4294967296 + zaw m) (hn : n = zaT n * 4294967296 + zaw n) : m * n = zaT m * zaT n * 18446744073709551616 + (zaT m * zaw n + zaw m * zaT n) * 4294967296 + zaw m * zaw n := by
 conv => lhs; rw [hm, hn]
 generalize zaT m = a; generalize zaT n = b; generalize zaw m = c; generalize zaw n = d
 simp only [Int.mul_add, Int.add_mul]
 have e1 : a * 4294967296 * (b * 4294967296) = a * b * 18446744073709551616 := by rw [Int.mul_assoc, Int.mul_left_comm 4294967296, Int.mul_assoc a b]; rfl
 have e2 : c * (b * 4294967296) = c * b * 4294967296 := (Int.mul_assoc _ _ _).symm
 have e3 : a * 4294967296 * d = a * d * 4294967296 := Int.mul_right_comm _ _ _
 rw [e1, e2, e3]; omega
theorem zsn {m n : Int} (hm0 : 0 ≤ m) (hm : m < 1099511627776) (hn0 : 0 ≤ n) (hn : n < 1099511627776) :
 zaT m * zaT n + (zaT m * zaw n + zaw m * zaw n / 4294967296) / 4294967296 + ((zaT m * zaw n + zaw m * zaw n / 4294967296) % 4294967296 + zaw m * zaT n) / 4294967296 = hiW (m * n) := by
 have a := zqP hm0 hm
 have b := zqP hn0 hn
 have e := zo5 a.2.2 b.2.2
 have h1 := zfb a.1 b.1
 have h2 := zfb a.1 b.2.1
 have h3 := zfb a.2.1 b.1
 unfold hiW
 rw [e]
 generalize zaT m * zaT n = p at *
 generalize zaT m * zaw n = q at *
 generalize zaw m * zaT n = r at *
 generalize zaw m * zaw n = s at *
 omega
end
section
open Go
section
variable {P : Program} {e : Env} {dst : Option Tmp} {ty : TypeId} {pos : String} {af : Array Edge} {g : Option (Nat × Bool)}
def zsA (l : List Int) : HVal :=
 match l with
 | [] => .raw (.slice none 0 0)
 | x :: t => .slice 1 ((x :: t).map (HVal.int .i64))
theorem zlZ {l : List Int} (h : l ≠ []) : zsA l = .slice 1 (l.map (HVal.int .i64)) := by
 cases l with
 | nil => exact absurd rfl h
 | cons x t => rfl
theorem zqg [Tracks] {x y : Operand} {t t' el : TypeId} {size bytes : Nat} {zero : Value} {l : List Int} (hf : Fits P t (.slice el) size bytes zero) (hx : zu e x = some (zsA l)) (hy : zu e y = some (.raw (.slice none 0 0))) :
 POp P e ⟨dst, .binOp .eql t x y t', ty, pos, af, g⟩ (.bool (decide (l = []))) :=
 POp.of_val fun I a w ho => by
  have hv := ho.one (x := x) (by simp [Op.operands]) hx
  have h2 := (ho.one (x := y) (by simp [Op.operands]) hy).raw_inv
  obtain ⟨p, n, cap, h1, h3⟩ : ∃ p n cap, a.eval x = .slice p n cap ∧ p.isNone = decide (l = []) := by
   cases l with
   | nil => exact ⟨_, _, _, hv.raw_inv, rfl⟩
   | cons z t =>
     rcases hv.slice_inv with ⟨h0, _⟩ | ⟨b, off, cap', rc, el', fr, h3, _⟩
     ·simp at h0
     ·exact ⟨_, _, _, h3, by simp⟩
  refine ⟨.bool (decide (l = [])), ?_, .bool _⟩
  rw [← h3]
  simp [execOp, h1, h2, eqGuard, binOp, zh1 hf.slice]
end
end
section
variable {P : Program}
theorem zkH [Tracks] {e : Env} {dst : Option Tmp} {ty : TypeId} {pos : String} {af : Array Edge} {g : Option (Nat × Bool)} {M : List MObj} {K : HVal → List MObj → Prop} {t el : TypeId} {size bytes sz b2 n : Nat} {zero z2 : Value} {d : TD} {parts : Array (Nat × Operand)} {hs : List HVal}
 (hf : Fits P t (.slice el) size bytes zero) (hel : Fits P el d sz b2 z2) (hz : z2.cells.size = sz) (hn : parts.toList.length = n) (hsz : n * sz ≤ 16777216) (h0 : n * sz ≠ 0)
 (hr : zgp e sz 0 parts.toList = some hs) (hk : ∀ v, K (.raw v) (.arr v sz hs :: M)) : EOp P e M ⟨dst, .buildSlice t n parts, ty, pos, af, g⟩ K :=
 EOp.of_run fun I F a w ho hs' => by
  let zr : Array Value := (Array.range (n * sz)).map (z2.cells[· % z2.cells.size]!)
  obtain ⟨rc, h1, h2, h3, h4, h5, h6⟩ := zhO (I := I) (f := a.eval) parts.toList 0 hs zr hr (fun x hx h hh => ho.one (by simpa [Op.operands] using hx) hh) (by simp [zr, hn])
  have hl : hs.length = n := by omega
  have hpos : 0 < sz := by
   rcases Nat.eq_zero_or_pos sz with h | h
   ·rw [h] at h0; simp at h0
   ·exact h
  have hnle : n ≤ n * sz := Nat.le_mul_of_pos_right n hpos
  refine ⟨.slice (some ⟨w.heap.size, 0, none⟩) n n, .raw (.slice (some ⟨w.heap.size, 0, none⟩) n n), _, push w (.cells rc el (0, 0)), I, ?_, .refl I, hk _, .raw _ rfl, ?_⟩
  ·have hp : (parts.map fun x => (x.1, a.eval x.2)).toList = parts.toList.map fun p => (p.1, a.eval p.2) := by simp
   have hle : ¬ n * sz > 2 ^ 24 := by omega
   simp only [execOp, Instr.buildSlice, Sem.run_bind, run_underlying hf.slice, Result.andThen_ok, hel.run_sizeOf]
   rw [if_neg hle]
   simp only [Sem.run_pure, Result.andThen_ok]
   rw [if_neg h0]
   simp only [Sem.run_bind, hel.run_zero, Result.andThen_ok, Sem.run_pure, hp]
   have h1' : Instr.fill (fun i => some (i * sz, sz)) ((Array.range (n * sz)).map fun x => z2.cells[x % z2.cells.size]!) (parts.toList.map fun p => (p.1, a.eval p.2)) = some rc := h1
   rw [h1']
   simp [newRow]
  ·have hrc : rc.size = n * sz := by rw [h2]; simp [zr]
   exact hs'.new_own (.cells rc el (0, 0)) (.arr (.slice (some ⟨w.heap.size, 0, none⟩) n n) sz hs) rfl (.inr ⟨w.heap.size, 0, n, rc, el, (0, 0), by rw [hl], by simp [push], Free.zero _, h5, ⟨by omega, by omega⟩, by omega, fun i j x c v b1 b2 b3 => h6 i j x c v b1 b2 (by simpa using b3)⟩)
end
end Go.HL
namespace Go.Proofs.YtcihcbnjfclkbaaGreatDoor
set_option maxRecDepth 100000
set_option linter.unusedVariables false
set_option linter.unusedSimpArgs false
section
open Go.HL
/-- math/bits.Mul64 -/
theorem zjx [Tracks] {m n : Int} (hm0 : 0 ≤ m) (hm1 : m < 1099511627776) (hn0 : 0 ≤ n) (hn1 : n < 1099511627776) : ConP Tryz.prog 199 [.int .u64 m, .int .u64 n] (.tup [.int .u64 (hiW (m * n)), .int .u64 (loW (m * n))]) := by
 have ma := zqP hm0 hm1
 have na := zqP hn0 hn1
 have h00 := zfb ma.1 na.1
 have h10 := zfb ma.2.1 na.1
 have h01 := zfb ma.1 na.2.1
 have h11 := zfb ma.2.1 na.2.1
 have hhi := zsn hm0 hm1 hn0 hn1
 refine Con.of_body Tryz.func199 rfl Tryz.ntmps199 rfl rfl ?_
 refine zb ?_
 refine das rfl ?_
 refine das rfl ?_
 refine dn ?_
 refine zb ?_
 refine dmv rfl ?_
 refine dq (ziN rfl rfl (by omega) (by omega)) ?_
 refine das rfl ?_
 refine dn ?_
 refine zb ?_
 refine dmv rfl ?_
 refine dq (zfH rfl rfl) ?_
 refine das rfl ?_
 refine dn ?_
 refine zb ?_
 refine dmv rfl ?_
 refine dq (ziN rfl rfl (by omega) (by omega)) ?_
 refine das rfl ?_
 refine dn ?_
 refine zb ?_
 refine dmv rfl ?_
 refine dq (zfH rfl rfl) ?_
 refine das rfl ?_
 refine dn ?_
 refine zb ?_
 refine dmv rfl ?_
 refine dmv rfl ?_
 refine dq (zhU (m := zaw m) (n := zaw n) rfl rfl (by omega) (by omega)) ?_
 refine das rfl ?_
 refine dn ?_
 refine zb ?_
 refine dmv rfl ?_
 refine dmv rfl ?_
 refine dq (zhU (m := zaT m) (n := zaw n) rfl rfl (by omega) (by omega)) ?_
 refine dmv rfl ?_
 refine dq (zfH (m := zaw m * zaw n) rfl rfl) ?_
 refine dq (zhN (m := zaT m * zaw n) (n := zaw m * zaw n / 4294967296) rfl rfl (by omega) (by omega)) ?_
 refine das rfl ?_
 refine dn ?_
 refine zb ?_
 refine dmv rfl ?_
 refine dq (ziN (m := zaT m * zaw n + zaw m * zaw n / 4294967296) rfl rfl (by omega) (by omega)) ?_
 refine das rfl ?_
 refine dn ?_
 refine zb ?_
 refine dmv rfl ?_
 refine dq (zfH (m := zaT m * zaw n + zaw m * zaw n / 4294967296) rfl rfl) ?_
 refine das rfl ?_
 refine dn ?_
 refine zb ?_
 refine dmv rfl ?_
 refine dmv rfl ?_
 refine dmv rfl ?_
 refine dq (zhU (m := zaw m) (n := zaT n) rfl rfl (by omega) (by omega)) ?_
 refine dq (zhN (m := (zaT m * zaw n + zaw m * zaw n / 4294967296) % 4294967296) (n := zaw m * zaT n) rfl rfl (by omega) (by omega)) ?_
 refine das rfl ?_
 refine dn ?_
 refine zb ?_
 refine dmv rfl ?_
 refine dmv rfl ?_
 refine dq (zhU (m := zaT m) (n := zaT n) rfl rfl (by omega) (by omega)) ?_
 refine dmv rfl ?_
 refine dq (zhN (m := zaT m * zaT n) (n := (zaT m * zaw n + zaw m * zaw n / 4294967296) / 4294967296) rfl rfl (by omega) (by omega)) ?_
 refine dmv rfl ?_
 refine dq (zfH (m := (zaT m * zaw n + zaw m * zaw n / 4294967296) % 4294967296 + zaw m * zaT n) rfl rfl) ?_
 refine dq (zhN (m := zaT m * zaT n + (zaT m * zaw n + zaw m * zaw n / 4294967296) / 4294967296) (n := ((zaT m * zaw n + zaw m * zaw n / 4294967296) % 4294967296 + zaw m * zaT n) / 4294967296) rfl rfl (by omega) (by omega)) ?_
 refine das rfl ?_
 refine dn ?_
 refine zb ?_
 refine dmv rfl ?_
 refine dmv rfl ?_
 refine dq (zrH (m := m) (n := n) rfl rfl) ?_
 refine das rfl ?_
 refine dn ?_
 refine zn ?_
 refine zA rfl ?_
 show HVal.tup [HVal.int .u64 _, HVal.int .u64 _] = _
 rw [hhi]

/-- slices.Index[[]int,int] -/
theorem zgS [Tracks] {l : List Int} {z : Int} (hl : l.length ≤ 1000000) : ConP Tryz.prog 129 [.slice 1 (l.map (.int .i64)), .int .i64 z] (.int .i64 (zbN (· == z) l 0)) := by
 refine Con.of_body Tryz.func129 rfl Tryz.ntmps129 rfl rfl ?_
 refine zb ?_
 refine das rfl ?_
 refine dn ?_
 refine zh ?_
 refine zb ?_
 refine dmv rfl ?_
 refine dq (zF zU rfl) ?_
 refine dmv rfl ?_
 refine dn ?_
 refine zl ?_
 refine zZ [4, 5, 8, 9, 10, 11, 12, 13, 14, 15, 16, 17, 18] (fun (k : Nat) => [(8, .int .i64 k)]) (fun (k : Nat) => []) (fun (k : Nat) => k ≤ l.length ∧ (zbN (· == z) l 0 = zbN (· == z) (l.drop k) k)) (fun (k : Nat) => l.length - k) (0) ?_ ?_ ?_ ?_
 ·exact ⟨Nat.zero_le _, rfl⟩
 ·exact ⟨rfl, trivial⟩
 ·exact List.Perm.refl _
 ·intro k hinv
  obtain ⟨hk, hg⟩ := hinv
  refine zb ?_
  refine dq (zO rfl rfl) ?_
  refine dn ?_
  refine zh ?_
  refine zj rfl (fun h1 => ?_) (fun h2 => ?_)
  ·try simp at h1
   obtain ⟨x, hx⟩ : ∃ x, l[k]? = some x := ⟨_, List.getElem?_eq_getElem h1⟩
   have hdx := zQ hx
   rw [hdx] at hg
   refine zk ?_
   refine zf ?_
   refine zh ?_
   refine zl ?_
   refine zb ?_
   refine dmv rfl ?_
   refine das rfl ?_
   refine dn ?_
   refine zb ?_
   refine dmv rfl ?_
   refine dmv rfl ?_
   refine dmv rfl ?_
   refine dq (zJ zU ty3 rfl rfl rfl (by first | assumption | simp_all)) ?_
   refine dq (ze ty3 rfl rfl rfl) ?_
   refine dq (zaA rfl rfl) ?_
   refine dn ?_
   refine zj rfl (fun h3 => ?_) (fun h4 => ?_)
   ·try simp at h3
    refine zb ?_
    refine dmv rfl ?_
    refine das rfl ?_
    refine dn ?_
    refine zn ?_
    refine zA rfl ?_
    show HVal.int .i64 _ = _
    first | (rw [hg]; rfl) | (rw [hg]; simp_all [zbN])
   ·try simp at h4
    refine zk ?_
    refine zz ?_
    refine zf ?_
    refine zy ?_
    refine dq (zv rfl rfl (by omega) (by omega)) ?_
    refine dmv rfl ?_
    refine dn ?_
    refine ⟨k + 1, ?_, ?_, ⟨rfl, trivial⟩, (by repeat (first | exact zo | refine zt rfl ?_ | refine zp rfl rfl ?_)), List.Perm.refl _⟩
    ·refine ⟨by omega, ?_⟩
     rw [hg, zbN, if_neg (by simp_all; try omega)]; rfl
    ·dsimp only; omega
  ·try simp at h2
   have hnk : l.length ≤ k := by omega
   obtain rfl : k = l.length := by omega
   rw [zad (Nat.le_refl _)] at hg
   refine zN ?_
   refine zT ?_
   refine zah ?_
   refine zD ?_
   refine zf ?_
   refine zb ?_
   refine das rfl ?_
   refine dn ?_
   refine zn ?_
   refine zA rfl ?_
   show HVal.int .i64 _ = _
   first | (rw [hg]; rfl) | (rw [hg]; simp_all [zbN])

/-- slices.Contains[[]int,int] -/
theorem zfX [Tracks] {l : List Int} {z : Int} (hl : l.length ≤ 1000000) : ConP Tryz.prog 80 [.slice 1 (l.map (.int .i64)), .int .i64 z] (.bool (l.contains z)) := by
 refine Con.of_body Tryz.func80 rfl Tryz.ntmps80 rfl rfl ?_
 refine zb ?_
 refine das rfl ?_
 refine dn ?_
 refine zb ?_
 refine dmv rfl ?_
 refine dmv rfl ?_
 refine dq (zq zvz rfl (WeakL.refl _) (zgS (by first | assumption | omega | (simp; omega) | simp_all))) ?_
 refine dq (zbJ rfl rfl) ?_
 refine das rfl ?_
 refine dn ?_
 refine zn ?_
 refine zA rfl ?_
 show HVal.bool _ = _
 rw [zn5, ← zej _ l 0 (by omega)]

/-- math/bits.Mul -/
theorem zk4 [Tracks] {m n : Int} (hm0 : 0 ≤ m) (hm1 : m < 1099511627776) (hn0 : 0 ≤ n) (hn1 : n < 1099511627776) : ConP Tryz.prog 176 [.int .u64 m, .int .u64 n] (.tup [.int .u64 (hiW (m * n)), .int .u64 (loW (m * n))]) := by
 refine Con.of_body Tryz.func176 rfl Tryz.ntmps176 rfl rfl ?_
 refine zb ?_
 refine das rfl ?_
 refine das rfl ?_
 refine dn ?_
 refine zh ?_
 refine zcS rfl ?_
 refine zk ?_
 refine zf ?_
 refine zb ?_
 refine dmv rfl ?_
 refine dmv rfl ?_
 refine dq (zq zvc rfl (WeakL.refl _) (zjx hm0 hm1 hn0 hn1)) ?_
 refine dmv rfl ?_
 refine dq (z6 rfl rfl) ?_
 refine dq (z6 rfl rfl) ?_
 refine das rfl ?_
 refine das rfl ?_
 refine dn ?_
 refine zb ?_
 refine dmv rfl ?_
 refine dmv rfl ?_
 refine das rfl ?_
 refine das rfl ?_
 refine dn ?_
 refine zn ?_
 refine zA rfl ?_
 rfl

/-- slices.Repeat[[]int,int] -/
theorem zed [Tracks] {v : Int} {n : Nat} (hn : n ≤ 1000000) : zon Tryz.prog 130 [.slice 1 ([v].map (HVal.int .i64)), .int .i64 (n : Int)] 1 (((List.replicate n v).map (HVal.int .i64))) := by
 have e1 : hiW (1 * (n : Int)) = 0 := by unfold hiW; omega
 have e2 : loW (1 * (n : Int)) = n := by unfold loW; omega
 refine Con.of_body Tryz.func130 rfl Tryz.ntmps130 rfl rfl ?_
 refine zb ?_
 refine das rfl ?_
 refine dn ?_
 refine zh ?_
 refine zb ?_
 refine dmv rfl ?_
 refine dq (zO rfl rfl) ?_
 refine dn ?_
 refine zj rfl (fun h1 => ?_) (fun h1 => ?_)
 ·exfalso
  try simp at h1
  omega
 ·try simp at h1
  refine zk ?_
  refine zf ?_
  refine zb ?_
  refine dmv rfl ?_
  refine dq (zF zU rfl) ?_
  refine dq (zcy (zbX ty3 zfs rfl) (congrArg _ (znB (n := 1) (by decide) (by decide)))) ?_
  refine dmv rfl ?_
  refine dq (zcy (zbX ty3 zfs rfl) (congrArg _ (znB (by omega) (by omega)))) ?_
  refine dq (zq zuC rfl (WeakL.refl _) (zk4 (m := 1) (n := n) (by omega) (by omega) (by omega) (by omega))) ?_
  refine dmv rfl ?_
  refine dq (z6 rfl rfl) ?_
  refine dq (z6 rfl rfl) ?_
  refine das rfl ?_
  refine das rfl ?_
  refine dn ?_
  simp only [e1, e2]
  refine zh ?_
  refine zb ?_
  refine dmv rfl ?_
  refine dq (zai rfl rfl) ?_
  refine dmv rfl ?_
  refine dg rfl rfl (fun hc => ⟨_, OpenTo.refl _, zg rfl⟩) ?_
  refine dg rfl rfl (fun hc => ⟨_, OpenTo.upd (t := 24) rfl (by first | exact hc | simp_all) (OpenTo.refl _), zai rfl rfl⟩) ?_
  refine dq (zB rfl (.inl rfl) (.inr ⟨_, rfl, fun h => by simp_all⟩)) ?_
  refine dn ?_
  refine zj rfl (fun h2 => ?_) (fun h2 => ?_)
  ·exfalso
   try simp at h2
   first | omega | (simp at h2; omega)
  ·try simp at h2
   refine zk ?_
   refine zf ?_
   refine zb ?_
   refine dmv rfl ?_
   refine dq (zcy (zbX zfs ty3 rfl) (congrArg _ (zhb (by omega) (by omega)))) ?_
   refine de rfl (zhK (n := n) zU ty3 rfl rfl rfl rfl rfl hn fun b30 => ?_)
   refine das rfl ?_
   refine dn ?_
   refine zb ?_
   refine dmv rfl ?_
   refine dmv rfl ?_
   refine de rfl (zqD (k := 0) (off := 0) zU ty3 rfl rfl rfl (by simp) (by simp [zm]) rfl ?_)
   refine das rfl ?_
   refine dn ?_
   refine zh ?_
   refine zl ?_
   refine zZ [8, 34, 35, 36, 37, 38, 39, 40, 41, 42, 43, 44, 45, 46] (fun (j : Nat) => [(8, .int .i64 (j : Int))]) (fun (j : Nat) => [.arr (.slice (some ⟨b30, 0, none⟩) n n) 1 ((zbw v n j).map (HVal.int .i64))]) (fun (j : Nat) => j ≤ n ∧ (0 < n → 0 < j)) (fun (j : Nat) => n - j) (Nat.min 1 n) ?_ ?_ ?_ ?_
   ·exact ⟨Nat.min_le_right _ _, fun h => by show 0 < min 1 n; omega⟩
   ·exact ⟨zbx (by rw [List.length_replicate]; rfl), trivial⟩
   ·exact zL (by rw [← zp7]; simp; exact .inr rfl)
   ·intro j hinv
    obtain ⟨hj, hj0⟩ := hinv
    have hrl : ((zbw v n j).map (HVal.int .i64)).length = n := by rw [List.length_map, zgq hj]
    refine zh ?_
    refine zb ?_
    refine dmv rfl ?_
    refine dmv rfl ?_
    first
    | refine de rfl (zaP (i := 0) zU rfl rfl ?_)
    | refine de rfl (zaP (i := 1) zU rfl rfl ?_)
    | refine de rfl (zaP (i := 2) zU rfl rfl ?_)
    | refine de rfl (zaP (i := 3) zU rfl rfl ?_)
    refine dq (zO rfl rfl) ?_
    refine dn ?_
    refine zj rfl (fun h3 => ?_) (fun h4 => ?_)
    ·try simp at h3
     rw [zgq hj] at h3
     have hj1 : Nat.min j (n - j) ≤ j := Nat.min_le_left _ _
     have hj3 : Nat.min j (n - j) ≤ n - j := Nat.min_le_right _ _
     have hjm : j + Nat.min j (n - j) ≤ n := by omega
     have hjp : 0 < Nat.min j (n - j) := by show 0 < min j (n - j); omega
     refine zk ?_
     refine zf ?_
     refine zl ?_
     refine zbV (fun _ => True) [] mixed ?_
     refine ahp 0 rfl rfl (by kernel_rfl) (by kernel_rfl) (zg rfl) ?_
     refine ahp 1 rfl rfl (by kernel_rfl) (by kernel_rfl) (zg rfl) ?_
     refine ahp 2 rfl rfl (by kernel_rfl) (by kernel_rfl) (zg rfl) ?_
     refine ahp 3 rfl rfl (by kernel_rfl) (by kernel_rfl) (zlI (l := j) (h := n) zU ty3 rfl ⟨_, _, rfl, rfl⟩ rfl (by omega) (by omega)) ?_
     refine ahp 4 rfl rfl (by kernel_rfl) (by kernel_rfl) (zg rfl) ?_
     refine ahp 5 rfl rfl (by kernel_rfl) (by kernel_rfl) (zg rfl) ?_
     refine ahp 6 rfl rfl (by kernel_rfl) (by kernel_rfl) (zlp (h := j) zU ty3 rfl ⟨_, _, rfl, rfl⟩ (by omega)) ?_
     refine ahe 7 rfl (by kernel_rfl) ?_
     refine zH rfl (zpf (k := 0) (off := 0) (d := j) (s := j) (es := (zbw v n j).map (HVal.int .i64)) zU ty3 rfl (by unfold zfR; rw [if_neg (by omega)]; omega) rfl rfl hrl.symm (by simp [zm]) (zmY _) (by rw [hrl]; omega) (by rw [hrl]; exact hjm) ?_)
     refine ⟨fun _ => .inl trivial, ?_⟩
     refine ahp 8 rfl rfl (by kernel_rfl) (by kernel_rfl) (zv rfl rfl (by omega) (by omega)) ?_
     refine ahp 9 rfl rfl (by kernel_rfl) (by kernel_rfl) (zaW rfl) ?_
     refine ahz (by kernel_rfl) ?_
     refine zz ?_
     exact ⟨j + Nat.min j (n - j), ⟨hjm, by omega⟩, by dsimp only; omega, ⟨rfl, trivial⟩, (by repeat (first | exact zo | refine zt rfl ?_ | refine zp rfl rfl ?_)), zL (by dsimp only; rw [← zrW hj1 hjm, List.map_append, List.map_append, List.map_take, List.map_take, List.map_drop]; rfl)⟩
    ·try simp at h4
     rw [zgq hj] at h4
     obtain rfl : j = n := by omega
     refine zN ?_
     refine zT ?_
     refine zah ?_
     refine zD ?_
     refine zf ?_
     refine zb ?_
     refine dmv rfl ?_
     refine das rfl ?_
     refine dn ?_
     refine zn ?_
     refine zbs rfl ⟨_, rfl, ?_⟩
     rw [znS]

set_option maxHeartbeats 1000000 in
/-- benchwarmer/trade.points -/
theorem zmq [Tracks] {w : List WantS} {g : List Bool} (hw : w.length ≤ 500) (hs : SortedS (w.map (·.Player))) (hf : ∀ x ∈ w, x.For.length ≤ 1000000) (hgl : g.length = w.length) : zon Tryz.prog 81 [zc8 w, .slice 1 (g.map .bool)] 1 (((za6 w g).map (HVal.int .i64))) := by
 have hPl := zbk (w := w) (g := g)
 refine Con.of_body Tryz.func81 rfl Tryz.ntmps81 rfl rfl ?_
 refine zb ?_
 refine das rfl ?_
 refine dn ?_
 refine zb ?_
 refine dq (zK (hs := [_]) zU ty3 rfl rfl (by decide) (by decide) rfl) ?_
 refine dmv rfl ?_
 refine dq (zF zbj rfl) ?_
 refine de rfl (zeK ztq rfl (WeakL.refl _) (zed (v := -1) (n := w.length) (by omega)) fun v14 => ?_)
 refine das rfl ?_
 refine dn ?_
 refine zh ?_
 refine zb ?_
 refine dmv rfl ?_
 refine dq (zF zbj rfl) ?_
 refine dmv rfl ?_
 refine dn ?_
 refine zl ?_
 refine zZ [6, 7, 9, 10, 17, 18, 19, 20, 21, 22, 23, 24, 25, 26, 27, 28, 29, 30, 31, 32, 33, 34, 35, 36, 37, 38, 39, 40, 41, 42, 43, 44, 45, 46, 47, 48, 49, 50] (fun (k : Nat) => [(17, .int .i64 k)]) (fun (k : Nat) => [.arr v14 1 ((zei (za6 w g) w.length k).map (HVal.int .i64))]) (fun (k : Nat) => k ≤ w.length ∧ (True)) (fun (k : Nat) => w.length - k) (0) ?_ ?_ ?_ ?_
 ·exact ⟨Nat.zero_le _, trivial⟩
 ·exact ⟨rfl, trivial⟩
 ·exact zL (by rw [zq9])
 ·intro k hinv
  obtain ⟨hk, -⟩ := hinv
  refine zb ?_
  refine dq (zO rfl rfl) ?_
  refine dn ?_
  refine zh ?_
  refine zj rfl (fun h1 => ?_) (fun h2 => ?_)
  ·try simp at h1
   obtain ⟨x, hx⟩ : ∃ x, w[k]? = some x := ⟨_, List.getElem?_eq_getElem h1⟩
   have hdx := zQ hx
   have hfx := hf x (List.mem_of_getElem? hx)
   obtain ⟨gk, hgk⟩ : ∃ b, g[k]? = some b := ⟨_, List.getElem?_eq_getElem (by omega)⟩
   have hgd : g.getD k false = gk := by rw [List.getD_eq_getElem?_getD, hgk]; rfl
   have hwx : w.getD k zcm = x := by rw [List.getD_eq_getElem?_getD, hx]; rfl
   have hPk := zf4 (w := w) (g := g) (i := k) (by omega)
   refine zk ?_
   refine zf ?_
   refine zh ?_
   refine zl ?_
   refine zb ?_
   refine dmv rfl ?_
   refine dq (zJ zbj zaj rfl rfl rfl (by first | assumption | simp_all)) ?_
   refine dq (zV zaj rfl rfl rfl rfl) ?_
   refine de rfl (zX zaj rfl fun b7 => ?_)
   refine das rfl ?_
   refine de0 (zag zaj rfl rfl rfl rfl rfl ?_)
   refine dn ?_
   refine zI (Ghost.fc0 7 rfl) ?_
   refine zh ?_
   refine zb ?_
   refine dmv rfl ?_
   refine dmv rfl ?_
   refine dq (zJ (j := k) (a := gk) zcD ty4 rfl rfl rfl hgk) ?_
   refine dq (ze ty4 rfl rfl rfl) ?_
   refine dn ?_
   refine zj rfl (fun h3 => ?_) (fun h4 => ?_)
   ·try simp at h3
    refine zN ?_
    refine zT ?_
    refine zD ?_
    refine zf ?_
    refine zy ?_
    refine dq (zv rfl rfl (by omega) (by omega)) ?_
    refine dmv rfl ?_
    refine dn ?_
    exact ⟨k + 1, ⟨by omega, trivial⟩, by dsimp only; omega, ⟨rfl, trivial⟩, (by repeat (first | exact zo | refine zt rfl ?_ | refine zp rfl rfl ?_)), zL (by dsimp only; rw [zm0 hPl (by rw [hPk, zbL, if_pos (by rw [hgd]; simp_all)])])⟩
   ·try simp at h4
    refine zk ?_
    refine zf ?_
    refine zb ?_
    refine dq ((by first | exact zc zaj rfl zG (by decide) rfl | exact zw zaj rfl zG (by decide) rfl)) ?_
    refine dq (ze zG rfl rfl rfl) ?_
    refine dq (zF zG rfl) ?_
    refine dmv rfl ?_
    refine dn ?_
    refine zl ?_
    refine zZ [9, 10, 29, 30, 31, 32, 33, 34, 35, 36, 37, 38, 39, 40, 41, 42, 43, 44, 45, 46, 47, 48, 49] (fun (j : Nat) => [(29, .int .i64 j)]) (fun (j : Nat) => [.arr v14 1 ((zei (za6 w g) w.length k).map (HVal.int .i64))]) (fun (j : Nat) => j ≤ x.For.length ∧ (zdw w g x.For = zdw w g (x.For.drop j))) (fun (j : Nat) => x.For.length - j) (0) ?_ ?_ ?_ ?_
    ·exact ⟨Nat.zero_le _, rfl⟩
    ·exact ⟨rfl, trivial⟩
    ·exact List.Perm.refl _
    ·intro j hinv
     obtain ⟨hj, hj2⟩ := hinv
     refine zb ?_
     refine dq (zO rfl rfl) ?_
     refine dn ?_
     refine zh ?_
     refine zj rfl (fun h5 => ?_) (fun h6 => ?_)
     ·try simp at h5
      obtain ⟨y, hy⟩ : ∃ y, x.For[j]? = some y := ⟨_, List.getElem?_eq_getElem h5⟩
      have hdy := zQ hy
      rw [hdy] at hj2
      refine zk ?_
      refine zf ?_
      refine zh ?_
      refine zl ?_
      refine zb ?_
      refine dq (zJ zG ty9 rfl rfl rfl (by first | assumption | simp_all)) ?_
      refine dq (ze ty9 rfl rfl rfl) ?_
      refine das rfl ?_
      refine dn ?_
      have hfb := znJ hs (s := y)
      refine zb ?_
      refine dmv rfl ?_
      refine dmv rfl ?_
      refine dq (zq ca51 rfl (WeakL.refl _) (zi1 (w := w) (s := y) (by omega) hs)) ?_
      refine das rfl ?_
      refine dn ?_
      refine zb ?_
      refine dmv rfl ?_
      refine dq (zbJ rfl rfl) ?_
      refine dmv rfl ?_
      refine dg rfl rfl (fun hc => ⟨_, OpenTo.refl _, zg rfl⟩) ?_
      refine dg rfl rfl (fun hc => ⟨_, OpenTo.refl _, zg rfl⟩) ?_
      refine dg rfl rfl (fun hc => by
       have hf0 : 0 ≤ zba w y := by simpa using hc
       exact ⟨_, OpenTo.upd (t := 40) rfl (by first | exact hc | simp_all) (OpenTo.upd (t := 39) rfl (by first | exact hc | simp_all) (OpenTo.refl _)), zJ (j := (zba w y).toNat) (a := g.getD (zba w y).toNat false) zcD ty4 rfl rfl (by omega) (getD_some (by omega))⟩) ?_
      refine dg rfl rfl (fun hc => ⟨_, OpenTo.upd (t := 41) rfl (by first | exact hc | simp_all) (OpenTo.refl _), ze ty4 rfl rfl rfl⟩) ?_
      refine dg rfl rfl (fun hc => ⟨_, OpenTo.upd (t := 42) rfl (by first | exact hc | simp_all) (OpenTo.refl _), zao rfl⟩) ?_
      refine dq (zB rfl (.inr ⟨_, rfl, fun h => by simp_all⟩) (.inl rfl)) ?_
      refine dn ?_
      refine zj rfl (fun h7 => ?_) (fun h8 => ?_)
      ·try simp at h7
       have hpk : zbL w g k = zba w y := by rw [zbL, if_neg (by rw [hgd]; simp_all), hwx, hj2, zdw, if_pos (by rw [List.getD_eq_getElem?_getD]; exact h7)]
       refine zdb (i := 0) rfl (fun h0 he => ?_) (fun gb off cap hv hcap => ?_)
       ·exfalso
        have h9 : (zei (za6 w g) w.length k).length = 0 := by rw [← List.length_map (f := HVal.int .i64), he]; rfl
        rw [zoJ hPl hk] at h9; omega
       rw [List.length_map, zoJ hPl hk] at hv hcap
       subst hv
       refine zb ?_
       refine dmv rfl ?_
       refine dmv rfl ?_
       refine dmv rfl ?_
       refine dq (zab (j := k) zU ty3 rfl rfl rfl (by omega)) ?_
       refine de0 (zaR (i := 0) (j := k) (f := 0) (y := .int .i64 (-1)) (y' := .int .i64 (zba w y)) ty3 rfl (by omega) rfl rfl (zcJ (zol hPl (by omega))) rfl rfl (by simp [zm]) rfl ?_)
       refine dn ?_
       refine zN ?_
       refine zgI rfl ?_
       refine zT ?_
       refine zah ?_
       refine zD ?_
       refine zz ?_
       refine zf ?_
       refine zy ?_
       refine dq (zv rfl rfl (by omega) (by omega)) ?_
       refine dmv rfl ?_
       refine dn ?_
       exact ⟨k + 1, ⟨by omega, trivial⟩, by dsimp only; omega, ⟨rfl, trivial⟩, (by repeat (first | exact zo | refine zt rfl ?_ | refine zp rfl rfl ?_)), zL (by dsimp only; rw [← zoE hPl (hPk.trans (congrArg some hpk)), List.map_set]; rfl)⟩
      ·try simp at h8
       refine zk ?_
       refine zz ?_
       refine zf ?_
       refine zy ?_
       refine dq (zv rfl rfl (by omega) (by omega)) ?_
       refine dmv rfl ?_
       refine dn ?_
       exact ⟨j + 1, ⟨by omega, by rw [hj2, zdw, if_neg (by simp_all)]⟩, by dsimp only; omega, ⟨rfl, trivial⟩, (by repeat (first | exact zo | refine zt rfl ?_ | refine zp rfl rfl ?_)), List.Perm.refl _⟩
     ·try simp at h6
      have hnj : x.For.length ≤ j := by omega
      obtain rfl : j = x.For.length := by omega
      rw [zad (Nat.le_refl _)] at hj2
      refine zN ?_
      refine zT ?_
      refine zah ?_
      refine zD ?_
      refine zz ?_
      refine zf ?_
      refine zy ?_
      refine dq (zv rfl rfl (by omega) (by omega)) ?_
      refine dmv rfl ?_
      refine dn ?_
      exact ⟨k + 1, ⟨by omega, trivial⟩, by dsimp only; omega, ⟨rfl, trivial⟩, (by repeat (first | exact zo | refine zt rfl ?_ | refine zp rfl rfl ?_)), zL (by dsimp only; rw [zm0 hPl (by rw [hPk, zbL, if_neg (by rw [hgd]; simp_all), hwx, hj2]; rfl)])⟩
  ·try simp at h2
   have hnk : w.length ≤ k := by omega
   obtain rfl : k = w.length := by omega
   refine zN ?_
   refine zT ?_
   refine zah ?_
   refine zD ?_
   refine zf ?_
   refine zb ?_
   refine dmv rfl ?_
   refine das rfl ?_
   refine dn ?_
   refine zn ?_
   refine zbs rfl ⟨_, rfl, ?_⟩
   rw [zr2 hPl]

set_option maxHeartbeats 1000000 in
/-- benchwarmer/trade.drop -/
theorem zoV [Tracks] {w : List WantS} {g : List Bool} {gv : Value} (hw : w.length ≤ 500) (hs : SortedS (w.map (·.Player))) (hf : ∀ x ∈ w, x.For.length ≤ 1000000) (hgl : g.length = w.length) : Con Tryz.prog 50 [zc8 w, .raw gv] [.arr gv 1 (g.map .bool)] (fun x M' => ∃ G : List Bool, x = .slice 1 ((za6 w G).map (HVal.int .i64)) ∧ CoreG w g G ∧ M' = [.arr gv 1 (G.map .bool)]) := by
 refine Con.of_body Tryz.func50 rfl Tryz.ntmps50 rfl rfl ?_
 refine zb ?_
 refine das rfl ?_
 refine dn ?_
 refine zl ?_
 refine zZ [4, 5, 6, 7, 8, 9, 10, 11, 12, 13, 14, 15, 16, 17, 18, 19, 20, 21, 22, 23, 24, 25, 26, 27, 28, 29, 30, 31, 32, 33, 34] (fun (h : List Bool) => []) (fun (h : List Bool) => [.arr gv 1 (h.map .bool)]) (fun (h : List Bool) => h.length = w.length ∧ ∀ G, CoreG w g G ↔ CoreG w h G) (fun (h : List Bool) => zbc h) (g) ?_ ?_ ?_ ?_
 ·exact ⟨hgl, fun _ => Iff.rfl⟩
 ·exact trivial
 ·exact List.Perm.refl _
 ·intro h hinv
  obtain ⟨hhl, hco⟩ := hinv
  refine zl ?_
  refine zb ?_
  refine dmv rfl ?_
  refine dmv rfl ?_
  refine de rfl (zqm (hs' := [zc8 w, .slice 1 (h.map .bool)]) ca81 rfl ⟨.weak (Weak.refl _), .arr (i := 0) rfl, trivial⟩ (zmq (w := w) (g := h) hw hs hf hhl) (by simp [zm, zeI, zeT]) fun v10 => ?_)
  refine das rfl ?_
  refine das rfl ?_
  refine dn ?_
  refine zI (Ghost.fa 5 (i := 0) rfl rfl) ?_
  have hPl := zbk (w := w) (g := h)
  refine zh ?_
  refine zb ?_
  refine dmv rfl ?_
  refine dq (zF zbj rfl) ?_
  refine dmv rfl ?_
  refine dn ?_
  refine zl ?_
  refine zdn [6, 7, 13, 14, 15, 16, 17, 18, 19, 20, 21, 22, 23, 24, 25, 26, 27, 28, 29, 30, 31] (fun (k : Nat) (hB : List Bool) (sm : Bool) => [(13, .int .i64 k), (6, .bool sm)]) (fun (k : Nat) (hB : List Bool) (sm : Bool) => [.arr gv 1 (hB.map .bool)]) (fun (k : Nat) (hB : List Bool) (sm : Bool) => k ≤ w.length ∧ (DropI w h hB k sm)) (fun (k : Nat) (hB : List Bool) (sm : Bool) => w.length - k) (0) (h) (false) ?_ ?_ ?_ ?_
  ·exact ⟨Nat.zero_le _, DropI.start hhl⟩
  ·exact ⟨rfl, rfl, trivial⟩
  ·exact List.Perm.refl _
  ·intro k hB sm hinv
   obtain ⟨hk, hd⟩ := hinv
   refine zb ?_
   refine dq (zO rfl rfl) ?_
   refine dn ?_
   refine zh ?_
   refine zj rfl (fun h1 => ?_) (fun h2 => ?_)
   ·try simp at h1
    obtain ⟨x, hx⟩ : ∃ x, w[k]? = some x := ⟨_, List.getElem?_eq_getElem h1⟩
    have hdx := zQ hx
    have h2l := hd.len
    obtain ⟨gk, hgk⟩ : ∃ b, hB[k]? = some b := ⟨_, List.getElem?_eq_getElem (by omega)⟩
    have hgd : hB.getD k false = gk := by rw [List.getD_eq_getElem?_getD, hgk]; rfl
    refine zdb (i := 0) rfl (fun h0 he => ?_) (fun gb off cap hv hcap => ?_)
    ·exfalso
     have h9 : hB.length = 0 := by rw [← List.length_map (f := HVal.bool), he]; rfl
     omega
    rw [List.length_map] at hv hcap
    subst hv
    refine zk ?_
    refine zf ?_
    refine zh ?_
    refine zl ?_
    refine zb ?_
    refine dmv rfl ?_
    refine das rfl ?_
    refine dn ?_
    refine zb ?_
    refine dmv rfl ?_
    refine dmv rfl ?_
    refine dq (zab (j := k) zcD ty4 rfl rfl rfl (by omega)) ?_
    refine de rfl (zbg (i := 0) (j := k) 0 ty4 rfl (by omega) rfl hgk rfl rfl ?_)
    refine dq (zao rfl) ?_
    refine dmv rfl ?_
    refine dg rfl rfl (fun hc => ⟨_, OpenTo.refl _, zg rfl⟩) ?_
    refine dg rfl rfl (fun hc => ⟨_, OpenTo.refl _, zg rfl⟩) ?_
    refine dg rfl rfl (fun hc => by have hq := hc; (try simp at hq); exact ⟨_, OpenTo.upd (t := 23) rfl (by first | exact hc | simp_all) (OpenTo.upd (t := 22) rfl (by first | exact hc | simp_all) (OpenTo.refl _)), zJ (j := k) (a := zbL w h k) zU ty3 rfl rfl rfl (zf4 (by omega))⟩) ?_
    refine dg rfl rfl (fun hc => ⟨_, OpenTo.upd (t := 24) rfl (by first | exact hc | simp_all) (OpenTo.refl _), ze ty3 rfl rfl rfl⟩) ?_
    refine dg rfl rfl (fun hc => ⟨_, OpenTo.upd (t := 25) rfl (by first | exact hc | simp_all) (OpenTo.refl _), zO rfl rfl⟩) ?_
    refine dq (zB rfl (.inr ⟨_, rfl, fun h => by simp_all⟩) (.inl rfl)) ?_
    refine dn ?_
    refine zj rfl (fun h3 => ?_) (fun h4 => ?_)
    ·try simp at h3
     refine zy ?_
     refine dmv rfl ?_
     refine dmv rfl ?_
     refine dq (zab (j := k) zcD ty4 rfl rfl rfl (by omega)) ?_
     refine de0 (zaR (i := 0) (j := k) (f := 0) (y := .bool gk) (y' := .bool true) ty4 rfl (by omega) rfl rfl (zcJ hgk) rfl rfl (by simp [zm]) rfl ?_)
     refine das rfl ?_
     refine dn ?_
     refine zz ?_
     refine zf ?_
     refine zy ?_
     refine dq (zv rfl rfl (by omega) (by omega)) ?_
     refine dmv rfl ?_
     refine dn ?_
     exact ⟨k + 1, hB.set k true, true, ⟨by omega, hd.set (by omega) (by rw [hgd]; simp_all) (by simp_all)⟩, by dsimp only; omega, ⟨rfl, rfl, trivial⟩, (by repeat (first | exact zo | refine zt rfl ?_ | refine zp rfl rfl ?_)), zL (by dsimp only; rw [List.map_set]; rfl)⟩
    ·try simp at h4
     refine zk ?_
     refine zz ?_
     refine zf ?_
     refine zy ?_
     refine dq (zv rfl rfl (by omega) (by omega)) ?_
     refine dmv rfl ?_
     refine dn ?_
     exact ⟨k + 1, hB, sm, ⟨by omega, hd.skip (by rw [hgd]; by_cases hq : gk = true <;> simp_all)⟩, by dsimp only; omega, ⟨rfl, rfl, trivial⟩, (by repeat (first | exact zo | refine zt rfl ?_ | refine zp rfl rfl ?_)), List.Perm.refl _⟩
   ·try simp at h2
    have hnk : w.length ≤ k := by omega
    obtain rfl : k = w.length := by omega
    refine zN ?_
    refine zT ?_
    refine zeA ?_
    refine zD ?_
    refine zf ?_
    refine zb ?_
    refine dmv rfl ?_
    refine dq (zao rfl) ?_
    refine dn ?_
    refine zj rfl (fun h5 => ?_) (fun h6 => ?_)
    ·try simp at h5
     refine zb ?_
     refine dmv rfl ?_
     refine das rfl ?_
     refine dn ?_
     refine zn ?_
     have hsm : sm = false := by first | assumption | simp_all
     subst hsm
     obtain ⟨hc1, hc2⟩ := hd.done
     subst hc2
     exact zbs rfl ⟨_, rfl, (hco _).2 hc1, rfl⟩
    ·try simp at h6
     refine zk ?_
     refine zz ?_
     exact ⟨hB, ⟨hd.len, fun G => (hco G).trans (hd.next G)⟩, hd.lt (by first | assumption | simp_all), trivial, (by repeat (first | exact zo | refine zt rfl ?_ | refine zp rfl rfl ?_)), List.Perm.refl _⟩

set_option maxHeartbeats 1000000 in
/-- benchwarmer/trade.ring -/
theorem zoy [Tracks] {to : List Int} {g : List Bool} {gv : Value} (hn : to.length ≤ 500) (hgl : g.length = to.length) (hc : ClosedT to g) : Con Tryz.prog 49 [.slice 1 (to.map (HVal.int .i64)), .raw gv] [.arr gv 1 (g.map .bool)] (fun x M' => x = zsA (zaz to g to.length) ∧ M' = [.arr gv 1 (g.map .bool)]) := by
 refine Con.of_body Tryz.func49 rfl Tryz.ntmps49 rfl rfl ?_
 refine zb ?_
 refine das rfl ?_
 refine dn ?_
 refine zh ?_
 refine zb ?_
 refine dmv rfl ?_
 refine dq (zF zU rfl) ?_
 refine dmv rfl ?_
 refine dn ?_
 refine zl ?_
 refine zZ [4, 5, 6, 7, 10, 11, 12, 13, 14, 15, 16, 17, 18, 19, 20, 21, 22, 23, 24, 25, 26, 27, 28, 29, 30, 31, 32, 33, 34, 35, 36, 37, 38, 39, 40, 41, 42, 43, 44, 45, 46, 47] (fun (k : Nat) => [(10, .int .i64 k)]) (fun (k : Nat) => [.arr gv 1 (g.map .bool)]) (fun (k : Nat) => k ≤ to.length ∧ (zaz to g to.length = zgz to g to.length k (to.length - k))) (fun (k : Nat) => to.length - k) (0) ?_ ?_ ?_ ?_
 ·exact ⟨Nat.zero_le _, rfl⟩
 ·exact ⟨rfl, trivial⟩
 ·exact List.Perm.refl _
 ·intro k hinv
  obtain ⟨hk, hg⟩ := hinv
  refine zb ?_
  refine dq (zO rfl rfl) ?_
  refine dn ?_
  refine zh ?_
  refine zj rfl (fun h1 => ?_) (fun h2 => ?_)
  ·try simp at h1
   obtain ⟨x, hx⟩ : ∃ x, to[k]? = some x := ⟨_, List.getElem?_eq_getElem h1⟩
   have hdx := zQ hx
   obtain ⟨gk, hgk⟩ : ∃ b, g[k]? = some b := ⟨_, List.getElem?_eq_getElem (by omega)⟩
   have hgd : g.getD k false = gk := by rw [List.getD_eq_getElem?_getD, hgk]; rfl
   have hxd : to.getD k 0 = x := by rw [List.getD_eq_getElem?_getD, hx]; rfl
   rw [show to.length - k = (to.length - (k + 1)) + 1 by omega, zgz] at hg
   refine zdb (i := 0) rfl (fun h0 he => ?_) (fun gb off cap hv hcap => ?_)
   ·exfalso
    have h9 : g.length = 0 := by rw [← List.length_map (f := HVal.bool), he]; rfl
    omega
   rw [List.length_map] at hv hcap
   subst hv
   refine zk ?_
   refine zf ?_
   refine zh ?_
   refine zl ?_
   refine zb ?_
   refine dmv rfl ?_
   refine das rfl ?_
   refine dn ?_
   refine zh ?_
   refine zb ?_
   refine dmv rfl ?_
   refine dmv rfl ?_
   refine dq (zab (j := k) zcD ty4 rfl rfl rfl (by omega)) ?_
   refine de rfl (zbg (i := 0) (j := k) 0 ty4 rfl (by omega) rfl hgk rfl rfl ?_)
   refine dn ?_
   refine zj rfl (fun h3 => ?_) (fun h4 => ?_)
   ·try simp at h3
    refine zN ?_
    refine zT ?_
    refine zD ?_
    refine zf ?_
    refine zy ?_
    refine dq (zv rfl rfl (by omega) (by omega)) ?_
    refine dmv rfl ?_
    refine dn ?_
    exact ⟨k + 1, ⟨by omega, by rw [hg, if_neg (by rw [hgd]; simp_all)]⟩, by dsimp only; omega, ⟨rfl, trivial⟩, (by repeat (first | exact zo | refine zt rfl ?_ | refine zp rfl rfl ?_)), List.Perm.refl _⟩
   ·try simp at h4
    refine zk ?_
    refine zf ?_
    refine zb ?_
    refine dmv rfl ?_
    refine de rfl (zkH (hs := [_]) zU ty3 rfl rfl (by decide) (by decide) rfl fun v18 => ?_)
    refine das rfl ?_
    refine dn ?_
    refine zh ?_
    refine zb ?_
    refine dmv rfl ?_
    refine dmv rfl ?_
    refine dq (zJ (j := k) (a := x) zU ty3 rfl rfl rfl hx) ?_
    refine dq (ze ty3 rfl rfl rfl) ?_
    refine das rfl ?_
    refine dn ?_
    refine zl ?_
    refine zdn [6, 7, 23, 24, 25, 26, 27, 28, 29, 30, 31, 32, 33, 34] (fun (u : Value) (L : List Int) (kk : Int) => [(6, .raw u), (7, .int .i64 kk)]) (fun (u : Value) (L : List Int) (kk : Int) => [.arr u 1 (L.map (HVal.int .i64)), .arr (.slice (some ⟨gb, off, none⟩) g.length cap) 1 (g.map .bool)]) (fun (u : Value) (L : List Int) (kk : Int) => WalkI to g k L kk) (fun (u : Value) (L : List Int) (kk : Int) => to.length + 1 - L.length) (v18) ([(k : Int)]) (x) ?_ ?_ ?_ ?_
    ·rw [← hxd]; exact WalkI.start hc (by omega) (by rw [hgd]; simp_all)
    ·exact ⟨rfl, rfl, trivial⟩
    ·exact List.Perm.refl _
    ·intro u L kk hW
     refine zh ?_
     refine zb ?_
     refine dmv rfl ?_
     refine dmv rfl ?_
     refine de rfl (zrN (hs' := [.slice 1 (L.map (HVal.int .i64)), .int .i64 kk]) ca80 rfl ⟨.arr (i := 0) rfl, .weak (Weak.refl _), trivial⟩ (zfX (l := L) (z := kk) (by have := hW.len; omega)) rfl ?_)
     refine dq (zao rfl) ?_
     refine dn ?_
     refine zj rfl (fun h5 => ?_) (fun h6 => ?_)
     ·try simp at h5
      have hcn : L.contains kk = false := by simpa using h5
      refine zk ?_
      refine zf ?_
      refine zh ?_
      refine zl ?_
      refine zy ?_
      refine dmv rfl ?_
      refine dmv rfl ?_
      refine dq (zK (hs := [_]) zU ty3 rfl rfl (by decide) (by decide) rfl) ?_
      refine de rfl (zam (i := 0) zU ty3 rfl rfl rfl rfl rfl (by simp [zaD, zm]) (by have := hW.len; simp; omega) fun v34 => ?_)
      refine das rfl ?_
      refine dn ?_
      refine zz ?_
      refine zf ?_
      refine zy ?_
      refine dmv rfl ?_
      refine dmv rfl ?_
      obtain ⟨nb, hnb1, hnb2, hnb3⟩ := hW.at'
      obtain ⟨ny, hny⟩ : ∃ y, to[nb]? = some y := ⟨_, List.getElem?_eq_getElem hnb2⟩
      refine dq (zJ (j := nb) (a := ny) zU ty3 rfl rfl hnb1 hny) ?_
      refine dq (ze ty3 rfl rfl rfl) ?_
      refine das rfl ?_
      refine dn ?_
      exact ⟨v34, L ++ [kk], ny, by have := hW.step hc hcn; rw [show to.getD kk.toNat 0 = ny by rw [hnb1, Int.toNat_natCast, List.getD_eq_getElem?_getD, hny]; rfl] at this; exact this, by have := hW.len; dsimp only; simp; omega, ⟨rfl, rfl, trivial⟩, (by repeat (first | exact zo | refine zt rfl ?_ | refine zp rfl rfl ?_)), zL (by dsimp only; simp)⟩
     ·try simp at h6
      have hcn : L.contains kk = true := by simpa using h6
      refine zN ?_
      refine zT ?_
      refine zeA ?_
      refine zD ?_
      refine zf ?_
      have hdn := hW.done (by simpa using hcn)
      obtain ⟨lb, hlb, hlb2, hlb3, hlb4⟩ := hW.last
      obtain ⟨ly, hly⟩ : ∃ y, to[lb]? = some y := ⟨_, List.getElem?_eq_getElem hlb3⟩
      have hLp : 0 < L.length := List.length_pos_iff.2 hW.ne
      have hir : zdS to to.length k = (ly == (k : Int)) := by unfold zdS; rw [hdn, hlb2, Int.toNat_natCast, List.getD_eq_getElem?_getD, hly]; rfl
      have hLn := hW.len
      refine zI (Ghost.fa 6 (i := 0) rfl rfl) ?_
      refine zb ?_
      refine dmv rfl ?_
      refine dmv rfl ?_
      refine dmv rfl ?_
      refine dq (zF (f := HVal.int .i64) (l := L) zU rfl) ?_
      refine dq (zal rfl rfl (by omega) (by omega)) ?_
      refine dq (zJ (j := L.length - 1) (a := (lb : Int)) zU ty3 rfl rfl (by omega) hlb) ?_
      refine dq (ze ty3 rfl rfl rfl) ?_
      refine dq (zJ (j := lb) (a := ly) zU ty3 rfl rfl rfl hly) ?_
      refine dq (ze ty3 rfl rfl rfl) ?_
      refine dmv rfl ?_
      refine dq (zaA rfl rfl) ?_
      refine dn ?_
      refine zj rfl (fun h7 => ?_) (fun h8 => ?_)
      ·try simp at h7
       refine zb ?_
       refine dmv rfl ?_
       refine das rfl ?_
       refine dn ?_
       refine zn ?_
       first
       | (refine zbs rfl ⟨?_, rfl⟩
          rw [hg]; rfl
          done)
       | (refine zbs rfl ⟨?_, rfl⟩
          rw [hg, if_pos ⟨by rw [hgd]; assumption, by rw [hir]; simp_all⟩, hdn, zlZ hW.ne])
      ·try simp at h8
       refine zk ?_
       refine zz ?_
       refine zf ?_
       refine zy ?_
       refine dq (zv rfl rfl (by omega) (by omega)) ?_
       refine dmv rfl ?_
       refine dn ?_
       exact ⟨k + 1, ⟨by omega, by rw [hg, if_neg (by rw [hir]; simp_all)]⟩, by dsimp only; omega, ⟨rfl, trivial⟩, (by repeat (first | exact zo | refine zt rfl ?_ | refine zp rfl rfl ?_)), List.Perm.refl _⟩
  ·try simp at h2
   have hnk : to.length ≤ k := by omega
   obtain rfl : k = to.length := by omega
   rw [Nat.sub_self, zgz] at hg
   refine zN ?_
   refine zT ?_
   refine zah ?_
   refine zD ?_
   refine zf ?_
   refine zb ?_
   refine das rfl ?_
   refine dn ?_
   refine zn ?_
   first
   | (refine zbs rfl ⟨?_, rfl⟩
      rw [hg]; rfl
      done)
   | (refine zbs rfl ⟨?_, rfl⟩
      rw [hg, if_pos ⟨by rw [hgd]; assumption, by rw [hir]; simp_all⟩, hdn, zlZ hW.ne])

set_option maxHeartbeats 2000000 in
/-- benchwarmer/trade.Rings -/
theorem znr [Tracks] {m : MarketS} {o : List OwnerS} {w : List WantS} (ht : m.Teams.length ≤ 1000000) (ho : o.length ≤ 1000000) (hw : w.length ≤ 1000000) (hf : ∀ x ∈ w, x.For.length ≤ 1000000) : ConP Tryz.prog 13 [zbr m, zb4 o, zc8 w] (.tup [eSss (zho m o w), .int .i64 (zar m o w)]) := by
 refine Con.of_body Tryz.func13 rfl Tryz.ntmps13 rfl rfl ?_
 refine zb ?_
 refine dq (zaC rfl rfl) ?_
 refine das rfl ?_
 refine das rfl ?_
 refine dn ?_
 refine zh ?_
 refine zb ?_
 refine dq (zV z7 rfl rfl rfl rfl) ?_
 refine dmv rfl ?_
 refine dmv rfl ?_
 refine dq (zq ca12 rfl (WeakL.refl _) (zfy ht ho hw hf)) ?_
 refine das rfl ?_
 refine dn ?_
 refine zb ?_
 refine dmv rfl ?_
 refine dq (zaM rfl rfl) ?_
 refine dn ?_
 refine zj rfl (fun h1 => ?_) (fun h2 => ?_)
 ·try simp at h1
  refine zb ?_
  refine dmv rfl ?_
  refine das rfl ?_
  refine das rfl ?_
  refine dn ?_
  refine zn ?_
  first
  | (refine ⟨_, [], Ghost.clear, _, _, rfl, zcN ?_ (Weak.refl _), rfl, rfl⟩
     rw [zho, if_neg]
     ·exact zcC 1
     ·assumption)
  | (refine zbW ((Ghost.fa 6 (i := 1) rfl rfl).trans Ghost.clear) rfl ⟨?_, rfl⟩
     rw [zho, if_pos hchk, hchk, zmF hG hre (by simpa using hRn)]
     rfl)
 ·try simp at h2
  refine zk ?_
  refine zf ?_
  have hchk : zar m o w = 0 := by first | assumption | simp_all
  obtain ⟨_, hok⟩ := zeH hchk
  have hw5 := hok.len
  refine zb ?_
  refine dmv rfl ?_
  refine dq (zF zbj rfl) ?_
  refine de rfl (zhK (n := w.length) zcD ty4 rfl rfl rfl rfl rfl (by omega) fun b24 => ?_)
  refine das rfl ?_
  refine dn ?_
  refine zb ?_
  refine das rfl ?_
  refine dn ?_
  refine zI (Ghost.arr_nil 1) ?_
  refine zl ?_
  refine zdn [6, 7, 10, 11, 12, 14, 25, 26, 27, 28, 29, 30, 31, 32, 33, 34, 35, 36, 37, 38, 39, 40, 41, 42, 43, 44, 45, 46, 47, 48, 49, 50, 51, 52, 53, 54] (fun (ov : Value) (out : List (List Str)) (h : List Bool) => [(10, .raw ov)]) (fun (ov : Value) (out : List (List Str)) (h : List Bool) => [.arr (.slice (some ⟨b24, 0, none⟩) w.length w.length) 1 (h.map .bool), .arr ov 1 (out.map eSs)]) (fun (ov : Value) (out : List (List Str)) (h : List Bool) => h.length = w.length ∧ zlj w h out ∧ out.length + zbc h ≤ w.length) (fun (ov : Value) (out : List (List Str)) (h : List Bool) => zbc h) (.slice none 0 0) ([]) (List.replicate w.length false) ?_ ?_ ?_ ?_
  ·exact ⟨by simp, zqj, by rw [zow]; simp⟩
  ·exact ⟨rfl, trivial⟩
  ·exact (by refine (List.Perm.swap _ _ _).trans (zL ?_); rw [List.map_replicate]; rfl)
  ·intro ov out h hinv
   obtain ⟨hhl, hre, hol⟩ := hinv
   refine zl ?_
   refine zb ?_
   refine dmv rfl ?_
   refine dmv rfl ?_
   refine de rfl (zi (i := 0) ca50 rfl (WeakL.refl _) rfl (zoV (w := w) (g := h) hok.len hok.srt hf hhl) ?_)
   rintro _ _ ⟨G, rfl, hG, rfl⟩
   refine dmv rfl ?_
   refine de rfl (zi (i := 0) ca49 rfl (WeakL.refl _) rfl (zoy (to := za6 w G) (g := G) (by rw [zbk]; exact hok.len) (by rw [zbk]; exact hG.len) (zdo hok.srt hG)) ?_)
   rintro _ _ ⟨rfl, rfl⟩
   rw [zbk]
   refine das rfl ?_
   refine dn ?_
   refine zh ?_
   refine zb ?_
   refine dmv rfl ?_
   refine dq (zqg (l := (zaz (za6 w G) G w.length)) zU rfl rfl) ?_
   refine dn ?_
   refine zj rfl (fun h3 => ?_) (fun h4 => ?_)
   ·have hRn := h3
    try simp at h3
    refine zb ?_
    refine dmv rfl ?_
    refine das rfl ?_
    refine das rfl ?_
    refine dn ?_
    refine zn ?_
    first
    | (refine ⟨_, [], Ghost.clear, _, _, rfl, zcN ?_ (Weak.refl _), rfl, rfl⟩
       rw [zho, if_neg]
       ·exact zcC 1
       ·assumption)
    | (refine zbW ((Ghost.fa 6 (i := 1) rfl rfl).trans Ghost.clear) rfl ⟨?_, rfl⟩
       rw [zho, if_pos hchk, hchk, zmF hG hre (by simpa using hRn)]
       rfl)
   ·have hRn := h4
    try simp at h4
    refine zk ?_
    refine zf ?_
    have hRne : (zaz (za6 w G) G w.length) ≠ [] := by simpa using hRn
    simp only [zlZ hRne]
    have hrm := zsU (zdo hok.srt hG)
    rw [zbk] at hrm
    have hRl := zkn (zdo hok.srt hG)
    rw [zbk] at hRl
    have hGl := hG.len
    have hlG := zkb (by rw [hhl, hG.len]) hG.sub
    have hlt := zlU hG.len (to := za6 w G) hRne
    refine zb ?_
    refine das rfl ?_
    refine dn ?_
    refine zI (Ghost.arr_nil 1) ?_
    refine zh ?_
    refine zb ?_
    refine dmv rfl ?_
    refine dq (zF zU rfl) ?_
    refine dmv rfl ?_
    refine dn ?_
    refine zl ?_
    refine zaS [12, 14, 35, 36, 37, 38, 39, 40, 41, 42, 43, 44, 45, 46, 47, 48, 49, 50] (fun (j : Nat) (nv : Value) => [(35, .int .i64 j), (12, .raw nv)]) (fun (j : Nat) (nv : Value) => [.arr nv 1 ((zdB w ((zaz (za6 w G) G w.length).take j)).map .str), .arr (.slice (some ⟨b24, 0, none⟩) w.length w.length) 1 ((zbT G ((zaz (za6 w G) G w.length).take j)).map .bool), .arr ov 1 (out.map eSs)]) (fun (j : Nat) (nv : Value) => j ≤ (zaz (za6 w G) G w.length).length ∧ (True)) (fun (j : Nat) (nv : Value) => (zaz (za6 w G) G w.length).length - j) (0) (.slice none 0 0) ?_ ?_ ?_ ?_
    ·exact ⟨Nat.zero_le _, trivial⟩
    ·exact ⟨rfl, rfl, trivial⟩
    ·exact List.Perm.refl _
    ·intro j nv hinv
     obtain ⟨hj, -⟩ := hinv
     refine zb ?_
     refine dq (zO rfl rfl) ?_
     refine dn ?_
     refine zh ?_
     refine zj rfl (fun h5 => ?_) (fun h6 => ?_)
     ·try simp at h5
      obtain ⟨z, hz⟩ : ∃ z, (zaz (za6 w G) G w.length)[j]? = some z := ⟨_, List.getElem?_eq_getElem h5⟩
      have hdz := zQ hz
      obtain ⟨za, rfl, hza2, hza3⟩ := hrm z (List.mem_of_getElem? hz)
      obtain ⟨y, hy⟩ : ∃ y, w[za]? = some y := ⟨_, List.getElem?_eq_getElem hza2⟩
      have hyd : w.getD za zcm = y := by rw [List.getD_eq_getElem?_getD, hy]; rfl
      obtain ⟨bz, hbz⟩ : ∃ b, (zbT G ((zaz (za6 w G) G w.length).take j))[za]? = some b := ⟨_, List.getElem?_eq_getElem (by rw [zgl]; omega)⟩
      refine zk ?_
      refine zf ?_
      refine zh ?_
      refine zl ?_
      refine zb ?_
      refine dq (zJ zU ty3 rfl rfl rfl (by first | assumption | simp_all)) ?_
      refine dq (ze ty3 rfl rfl rfl) ?_
      refine das rfl ?_
      refine dn ?_
      refine zb ?_
      refine dmv rfl ?_
      refine dmv rfl ?_
      refine dmv rfl ?_
      refine dq (zJ (j := za) (a := y) zbj zaj rfl rfl rfl hy) ?_
      refine dq ((by first | exact zc zaj rfl ty9 (by decide) rfl | exact zw zaj rfl ty9 (by decide) rfl)) ?_
      refine dq (ze ty9 rfl rfl rfl) ?_
      refine dq (zK (hs := [_]) zG ty9 rfl rfl (by decide) (by decide) rfl) ?_
      refine de rfl (zam (i := 0) zG ty9 rfl rfl rfl rfl rfl (by simp [zaD, zm]) (by simp [zdB]; omega) fun v46 => ?_)
      refine das rfl ?_
      refine dn ?_
      refine zy ?_
      refine dmv rfl ?_
      refine dmv rfl ?_
      refine dq (zab (j := za) zcD ty4 rfl rfl rfl hza2) ?_
      refine de0 (zaR (i := 1) (j := za) (f := 0) (y := .bool bz) (y' := .bool true) ty4 rfl (by omega) rfl rfl (zcJ hbz) rfl rfl (by simp [zm]) rfl ?_)
      refine dn ?_
      refine zz ?_
      refine zf ?_
      refine zy ?_
      refine dq (zv rfl rfl (by omega) (by omega)) ?_
      refine dmv rfl ?_
      refine dn ?_
      exact ⟨j + 1, v46, ⟨by omega, trivial⟩, by dsimp only; omega, ⟨rfl, rfl, trivial⟩, (by repeat (first | exact zo | refine zt rfl ?_ | refine zp rfl rfl ?_)), zL (by dsimp only; rw [zaN hz, zqJ, zmU, Int.toNat_natCast, hyd, List.map_append, List.map_set]; rfl)⟩
     ·try simp at h6
      have hnj : (zaz (za6 w G) G w.length).length ≤ j := by omega
      obtain rfl : j = (zaz (za6 w G) G w.length).length := by omega
      refine zN ?_
      refine zT ?_
      refine za3 ?_
      refine zD ?_
      refine zf ?_
      rw [List.take_length]
      refine zI (Ghost.fa 12 (i := 0) rfl rfl) ?_
      refine zy ?_
      refine dmv rfl ?_
      refine dmv rfl ?_
      refine dq (zK (hs := [_]) zqd zG rfl rfl (by decide) (by decide) rfl) ?_
      refine de rfl (zam (i := 1) zqd zG rfl rfl rfl rfl rfl (by simp [zaD, zm]) (by simp; omega) fun v54 => ?_)
      refine das rfl ?_
      refine dn ?_
      refine zz ?_
      exact ⟨v54, out ++ [zdB w (zaz (za6 w G) G w.length)], zbT G (zaz (za6 w G) G w.length), ⟨by rw [zgl]; exact hGl, zrF hG hre hRne, by simp; omega⟩, by dsimp only; omega, ⟨rfl, trivial⟩, (by repeat (first | exact zo | refine zt rfl ?_ | refine zp rfl rfl ?_)), zL (by dsimp only; simp)⟩
end
end Go.Proofs.YtcihcbnjfclkbaaGreatDoor
namespace Go.HL
section
/-! ways by their heads -/
def zb3 (al : Nat → Nat → Bool) (can : List (List Nat)) : Nat → List Nat → List Nat → Prop
 | _, _, [] => True
 | fr, g, k :: q => k ∈ fr :: can.getD fr [] ∧ al fr k = true ∧ k ∉ g ∧ zb3 al can (fr + 1) (g ++ [k]) q
def zbf : Nat → List Nat → Int
 | _, [] => 0
 | fr, k :: q => (if k = fr then 0 else 1) + zbf (fr + 1) q
section
variable {al : Nat → Nat → Bool} {can : List (List Nat)}
theorem zc1 : ∀ {q1 q2 : List Nat} {fr : Nat} {g : List Nat}, zb3 al can fr g (q1 ++ q2) ↔ zb3 al can fr g q1 ∧ zb3 al can (fr + q1.length) (g ++ q1) q2
 | [], q2, fr, g => by simp [zb3]
 | k :: q1, q2, fr, g => by
   rw [List.cons_append, zb3, zb3, zc1 (q1 := q1), List.length_cons, List.append_assoc, show fr + 1 + q1.length = fr + (q1.length + 1) by omega]
   simp only [List.singleton_append, and_assoc]
theorem zgU : ∀ {q1 q2 : List Nat} {fr : Nat}, zbf fr (q1 ++ q2) = zbf fr q1 + zbf (fr + q1.length) q2
 | [], q2, fr => by simp [zbf]
 | k :: q1, q2, fr => by
   rw [List.cons_append, zbf, zbf, zgU (q1 := q1), List.length_cons, show fr + 1 + q1.length = fr + (q1.length + 1) by omega]; omega
theorem zuj {fr : Nat} {g q : List Nat} {c : Int} (h : WayB al can fr g q c) : zb3 al can fr g q ∧ c = zbf fr q := by
 induction h with
 | nil => exact ⟨trivial, rfl⟩
 | snoc h hk ha hn ih =>
   refine ⟨zc1.2 ⟨ih.1, hk, ha, hn, trivial⟩, ?_⟩
   rw [zgU, ← ih.2]; simp [zbf]
theorem zrr {fr : Nat} {g : List Nat} {q : List Nat} (h : zb3 al can fr g q) : WayB al can fr g q (zbf fr q) := by
 have key : ∀ m, m ≤ q.length → WayB al can fr g (q.take m) (zbf fr (q.take m)) := by
  intro m
  induction m with
  | zero => intro _; exact .nil
  | succ m ih =>
    intro hm
    obtain ⟨k, hk⟩ : ∃ k, q[m]? = some k := ⟨_, List.getElem?_eq_getElem (by omega)⟩
    have e : q.take (m + 1) = q.take m ++ [k] := by rw [List.take_add_one, hk]; rfl
    have hl : (q.take m).length = m := by rw [List.length_take]; omega
    have e2 : q = (q.take m ++ [k]) ++ q.drop (m + 1) := by rw [← e, List.take_append_drop]
    rw [e2] at h
    obtain ⟨h1, _⟩ := zc1.1 h
    obtain ⟨_, h2, h3, h4, _⟩ := zc1.1 h1
    rw [e, zgU]
    have := WayB.snoc (ih (by omega)) h2 h3 h4
    simpa [zbf] using this
 have := key q.length (Nat.le_refl _)
 rwa [List.take_length] at this
theorem zfY {a2 : Nat → Nat → Bool} : ∀ {q : List Nat} {fr : Nat} {g : List Nat}, zb3 al can fr g q → (∀ j k, q[j]? = some k → a2 (fr + j) k = true) → zb3 a2 can fr g q
 | [], _, _, _, _ => trivial
 | k :: q, fr, g, ⟨h1, _, h3, h4⟩, h => ⟨h1, by simpa using h 0 k rfl, h3, zfY h4 fun j x hx => by
   have := h (j + 1) x (by simpa using hx)
   rwa [show fr + 1 + j = fr + (j + 1) by omega]⟩
theorem zg7 : ∀ {q : List Nat} {fr : Nat} {g : List Nat}, zb3 al can fr g q → ∀ j k, q[j]? = some k → al (fr + j) k = true ∧ k ∈ (fr + j) :: can.getD (fr + j) []
 | k :: q, fr, g, ⟨h1, h2, _, h4⟩, 0, x, hx => by
   simp at hx; subst hx; exact ⟨h2, h1⟩
 | k :: q, fr, g, ⟨_, _, _, h4⟩, j + 1, x, hx => by
   have := zg7 h4 j x (by simpa using hx)
   rwa [show fr + 1 + j = fr + (j + 1) by omega] at this
theorem zmp (hc : CanOk can) {q : List Nat} {fr : Nat} {g : List Nat} (h : zb3 al can fr g q) (hl : fr + q.length ≤ can.length) : ∀ k ∈ q, k < can.length := fun k hk => by
 obtain ⟨j, hj⟩ := List.getElem?_of_mem hk
 have hjl : j < q.length := by
  rcases Nat.lt_or_ge j q.length with h | h
  ·exact h
  ·rw [List.getElem?_eq_none h] at hj; cases hj
 obtain ⟨_, h2⟩ := zg7 h j k hj
 rcases List.mem_cons.1 h2 with e | e
 ·omega
 ·exact hc.lt _ _ e
theorem zlv : ∀ {q : List Nat} {fr : Nat} {g : List Nat}, g.Nodup → zb3 al can fr g q → (g ++ q).Nodup := fun hg h => (zrr h).nodup hg
theorem zrx : ∀ {q : List Nat} {fr : Nat}, 0 ≤ zbf fr q ∧ zbf fr q ≤ q.length
 | [], _ => by simp [zbf]
 | k :: q, fr => by
   have := zrx (q := q) (fr := fr + 1)
   rw [zbf, List.length_cons]; split <;> omega
/-! what the table says, by heads -/
theorem zfE (hc : CanOk can) {g : List Nat} (hg : ∀ k ∈ g, k < can.length) (hn : g.Nodup) (hf : g.length ≤ can.length) (hb : zbM al can g.length (za1 g) ≠ zbb) :
 ∃ q, zb3 al can g.length g q ∧ g.length + q.length = can.length ∧ zbf g.length q = zbM al can g.length (za1 g) := by
 obtain ⟨q, h1, h2⟩ := (zoo (al := al) hc hg hn rfl hf).1 hb
 obtain ⟨h3, h4⟩ := zuj h1
 exact ⟨q, h3, h2, h4.symm⟩
theorem zlP (hc : CanOk can) {g : List Nat} (hg : ∀ k ∈ g, k < can.length) (hn : g.Nodup) {q : List Nat} (h : zb3 al can g.length g q) (hq : g.length + q.length = can.length) : zbf g.length q ≤ zbM al can g.length (za1 g) :=
 (zoo (al := al) hc hg hn rfl (by omega)).2 q _ (zrr h) hq
/-! whole ways -/
def zeq (can : List (List Nat)) (q : List Nat) : Prop := zb3 (fun _ _ => true) can 0 [] q ∧ q.length = can.length
theorem zs2 : ∀ (m fr : Nat) (g : List Nat), (∀ k ∈ g, k < fr) → zb3 (fun _ _ => true) can fr g (List.range' fr m) ∧ zbf fr (List.range' fr m) = 0
 | 0, fr, g, _ => ⟨trivial, rfl⟩
 | m + 1, fr, g, hg => by
   obtain ⟨h1, h2⟩ := zs2 m (fr + 1) (g ++ [fr]) fun k hk => by
    rcases List.mem_append.1 hk with h | h
    ·have := hg k h; omega
    ·rw [List.mem_singleton.1 h]; omega
   rw [List.range'_succ]
   exact ⟨⟨by simp, rfl, fun h => by have := hg fr h; omega, h1⟩, by rw [zbf, if_pos rfl, h2]; rfl⟩
def zey (can : List (List Nat)) : Int := zbM (fun _ _ => true) can 0 0
theorem zl2 (hc : CanOk can) : (∃ q, zeq can q ∧ zbf 0 q = zey can) ∧ (∀ q, zeq can q → zbf 0 q ≤ zey can) ∧ 0 ≤ zey can := by
 have h1 : ∀ q, zeq can q → zbf 0 q ≤ zey can := fun q h => zlP (g := []) hc (by simp) (by simp) h.1 (by simpa using h.2)
 obtain ⟨i1, i2⟩ := zs2 (can := can) can.length 0 [] (by simp)
 have h0 : 0 ≤ zey can := by
  have := h1 _ ⟨i1, by simp⟩
  rwa [i2] at this
 obtain ⟨q, q1, q2, q3⟩ := zfE (al := fun _ _ => true) (g := []) hc (by simp) (by simp) (by simp) (by show zey can ≠ _; have : zbb = -1000 := rfl; omega)
 exact ⟨⟨q, ⟨q1, by simpa using q2⟩, q3⟩, h1, h0⟩
/-- A way does as a list of who stays says, as far as it goes. -/
def zgo (m : Nat) (out : List Bool) (q : List Nat) : Prop := ∀ i k, i < m → q[i]? = some k → (i == k) = out.getD i false
def alS (known : Nat) (out : List Bool) (i k : Nat) : Bool := decide (known ≤ i) || ((i == k) == out.getD i false)
theorem zoi (hc : CanOk can) {m : Nat} {out : List Bool} : zbM (alS m out) can 0 0 = zey can ↔ ∃ q, zeq can q ∧ zbf 0 q = zey can ∧ zgo m out q := by
 obtain ⟨_, t2, t3⟩ := zl2 hc
 have nv : zbb = -1000 := rfl
 constructor
 ·intro h
  obtain ⟨q, q1, q2, q3⟩ := zfE (al := alS m out) (g := []) hc (by simp) (by simp) (by simp) (by show zbM (alS m out) can 0 0 ≠ _; rw [h]; omega)
  refine ⟨q, ⟨zfY q1 fun _ _ _ => rfl, by simpa using q2⟩, q3.trans h, fun i k hi hk => ?_⟩
  have := (zg7 q1 i k hk).1
  simp only [alS, List.length_nil, Nat.zero_add, Bool.or_eq_true, decide_eq_true_eq, beq_iff_eq] at this
  rcases this with e | e
  ·omega
  ·exact e
 ·rintro ⟨q, q1, q2, q3⟩
  have hw : zb3 (alS m out) can 0 [] q := zfY q1.1 fun j k hk => by
   simp only [alS, Nat.zero_add, Bool.or_eq_true, decide_eq_true_eq, beq_iff_eq]
   by_cases h : m ≤ j
   ·exact .inl h
   ·exact .inr (q3 j k (by omega) hk)
  have h1 := zlP (g := []) hc (by simp) (by simp) hw (by simpa using q1.2)
  have h1' : zbf 0 q ≤ zbM (alS m out) can 0 0 := h1
  obtain ⟨r, r1, r2, r3⟩ := zfE (al := alS m out) (g := []) hc (by simp) (by simp) (by simp) (by show zbM (alS m out) can 0 0 ≠ _; omega)
  have h2 := t2 r ⟨zfY r1 fun _ _ _ => rfl, by simpa using r2⟩
  have r3' : zbf 0 r = zbM (alS m out) can 0 0 := r3
  omega
/-! who stays -/
def stB (can : List (List Nat)) : Nat → List Bool
 | 0 => List.replicate can.length false
 | m + 1 => if zbM (alS (m + 1) ((stB can m).set m true)) can 0 0 ≠ zey can then ((stB can m).set m true).set m false else (stB can m).set m true
theorem zeS : ∀ m, (stB can m).length = can.length
 | 0 => by simp [stB]
 | m + 1 => by rw [stB]; split <;> simp [zeS m]
theorem zcU {l : List Bool} {i j : Nat} {a : Bool} (hi : i < l.length) : (l.set i a).getD j false = if i = j then a else l.getD j false := by
 rw [List.getD_eq_getElem?_getD, List.getD_eq_getElem?_getD, List.getElem?_set]
 by_cases h : i = j
 ·subst h; simp [hi]
 ·simp [h]
theorem zlL {m : Nat} {out : List Bool} {a : Bool} {q : List Nat} (hm : m < out.length) : zgo m (out.set m a) q ↔ zgo m out q := by
 unfold zgo
 constructor
 ·intro h i k hi hk
  have := h i k hi hk
  rwa [zcU hm, if_neg (by omega)] at this
 ·intro h i k hi hk
  rw [zcU hm, if_neg (by omega)]; exact h i k hi hk
theorem znK {m : Nat} {out : List Bool} {q : List Nat} : zgo (m + 1) out q ↔ zgo m out q ∧ ∀ k, q[m]? = some k → (m == k) = out.getD m false := by
 constructor
 ·exact fun h => ⟨fun i k hi => h i k (by omega), fun k hk => h m k (by omega) hk⟩
 ·rintro ⟨h1, h2⟩ i k hi hk
  rcases Nat.lt_succ_iff_lt_or_eq.1 hi with e | e
  ·exact h1 i k e hk
  ·subst e; exact h2 k hk
structure StaysOk (can : List (List Nat)) (m : Nat) (out : List Bool) : Prop where
 ex : ∃ q, zeq can q ∧ zbf 0 q = zey can ∧ zgo m out q
 no : ∀ j, j < m → out.getD j false = false → ∀ q, zeq can q → zbf 0 q = zey can → zgo j out q → q[j]? ≠ some j
theorem ztd (hc : CanOk can) : ∀ m, m ≤ can.length → StaysOk can m (stB can m)
 | 0, _ => ⟨by obtain ⟨⟨q, q1, q2⟩, _⟩ := zl2 hc; exact ⟨q, q1, q2, fun i k hi => by omega⟩, fun j hj => by omega⟩
 | m + 1, hm => by
   have ih := ztd hc m (by omega)
   have hl : m < (stB can m).length := by rw [zeS]; omega
   rw [stB]
   split
   ·rename_i hne
    have hno : ∀ q, zeq can q → zbf 0 q = zey can → zgo m (stB can m) q → q[m]? ≠ some m := fun q h1 h2 h3 hq => hne ((zoi hc).2 ⟨q, h1, h2, znK.2 ⟨(zlL hl).2 h3, fun k hk => by
     rw [hq] at hk; cases hk; rw [zcU hl, if_pos rfl]; simp⟩⟩)
    rw [List.set_set]
    refine ⟨?_, fun j hj hf q h1 h2 h3 => ?_⟩
    ·obtain ⟨q, q1, q2, q3⟩ := ih.ex
     refine ⟨q, q1, q2, znK.2 ⟨(zlL hl).2 q3, fun k hk => ?_⟩⟩
     rw [zcU hl, if_pos rfl]
     have := hno q q1 q2 q3
     rw [hk] at this
     rw [beq_eq_false_iff_ne]
     exact fun e => this (by rw [e])
    ·rcases Nat.lt_succ_iff_lt_or_eq.1 hj with e | e
     ·rw [zcU hl, if_neg (by omega)] at hf
      exact ih.no j e hf q h1 h2 fun i k hi hk => by
       have := h3 i k hi hk
       rwa [zcU hl, if_neg (by omega)] at this
     ·subst e; exact hno q h1 h2 ((zlL hl).1 h3)
   ·rename_i he
    obtain ⟨q, q1, q2, q3⟩ := (zoi hc).1 (Classical.not_not.1 he)
    refine ⟨⟨q, q1, q2, q3⟩, fun j hj hf q h1 h2 h3 => ?_⟩
    rcases Nat.lt_succ_iff_lt_or_eq.1 hj with e | e
    ·rw [zcU hl, if_neg (by omega)] at hf
     exact ih.no j e hf q h1 h2 fun i k hi hk => by
      have := h3 i k hi hk
      rwa [zcU hl, if_neg (by omega)] at this
    ·subst e; rw [zcU hl, if_pos rfl] at hf; cases hf
end
end
section
def alC (S : List Bool) (i k : Nat) : Bool := (i == k) == S.getD i false
def zbo (can : List (List Nat)) (S : List Bool) (i : Nat) : List Nat := if S.getD i false = true then [i] else can.getD i []
def zds (S : List Bool) (i : Nat) : Int := if S.getD i false = true then 0 else 1
def okB (can : List (List Nat)) (S : List Bool) (i : Nat) (g : List Nat) (k : Nat) : Bool :=
 !(za1 g).testBit k && decide (zbM (alC S) can (i + 1) (za1 g ||| 2 ^ k) + zds S i = zbM (alC S) can i (za1 g))
def chB (can : List (List Nat)) (S : List Bool) : Nat → List Nat
 | 0 => []
 | m + 1 => chB can S m ++ ((zbo can S m).find? (okB can S m (chB can S m))).toList
def cS (S : List Bool) : Nat → Nat → Int
 | _, 0 => 0
 | fr, m + 1 => zds S fr + cS S (fr + 1) m
section
variable {can : List (List Nat)} {S : List Bool}
theorem ziy {i k : Nat} : alC S i k = true ↔ (i == k) = S.getD i false := by unfold alC; exact beq_iff_eq
theorem zs7 : ∀ {m fr : Nat}, 0 ≤ cS S fr m
 | 0, _ => Int.le_refl _
 | m + 1, fr => by
   have := zs7 (m := m) (fr := fr + 1)
   rw [cS]; unfold zds; split <;> omega
theorem zlk : ∀ {q : List Nat} {fr : Nat} {g : List Nat}, zb3 (alC S) can fr g q → zbf fr q = cS S fr q.length
 | [], _, _, _ => rfl
 | k :: q, fr, g, ⟨_, h2, _, h4⟩ => by
   rw [zbf, List.length_cons, cS, zlk h4]
   have := ziy.1 h2
   congr 1
   unfold zds
   by_cases e : k = fr
   ·subst e; rw [if_pos rfl]
    rw [← this]; simp
   ·rw [if_neg e]
    rw [← this]; simp [Ne.symm e]
theorem zry (hc : CanOk can) {g q : List Nat} (hg : ∀ k ∈ g, k < can.length) (hn : g.Nodup) (h : zb3 (alC S) can g.length g q) (hq : g.length + q.length = can.length) : zbM (alC S) can g.length (za1 g) = cS S g.length (can.length - g.length) := by
 have h1 := zlP hc hg hn h hq
 have h0 := (zrx (q := q) (fr := g.length)).1
 obtain ⟨r, r1, r2, r3⟩ := zfE (al := alC S) hc hg hn (by omega) (by have : zbb = -1000 := rfl; omega)
 rw [← r3, zlk r1]; congr 1; omega
theorem zpz (hc : CanOk can) {g q : List Nat} (hg : ∀ k ∈ g, k < can.length) (hn : g.Nodup) (h : zb3 (alC S) can g.length g q) (hq : g.length + q.length = can.length) (hl : g.length < can.length) {k : Nat} (hk : k < can.length) :
 okB can S g.length g k = true ↔ k ∉ g ∧ ∃ r, zb3 (alC S) can (g.length + 1) (g ++ [k]) r ∧ g.length + 1 + r.length = can.length := by
 have h1 := zry hc hg hn h hq
 unfold okB
 rw [zfn, ← zgG, h1]
 have h0 := zs7 (S := S) (m := can.length - g.length) (fr := g.length)
 have e0 : can.length - g.length = (can.length - (g.length + 1)) + 1 := by omega
 have hcs : cS S g.length (can.length - g.length) = zds S g.length + cS S (g.length + 1) (can.length - (g.length + 1)) := by rw [e0, cS]
 have hm : zds S g.length ≤ 1 := by unfold zds; split <;> omega
 by_cases hkg : k ∈ g
 ·simp [hkg]
 have hg2 : ∀ j ∈ g ++ [k], j < can.length := fun j hj => (List.mem_append.1 hj).elim (hg j) fun e => by rw [List.mem_singleton.1 e]; exact hk
 have hn2 : (g ++ [k]).Nodup := List.nodup_append.2 ⟨hn, by simp, fun a ha b hb => by rw [List.mem_singleton.1 hb]; exact fun e => hkg (e ▸ ha)⟩
 have hl2 : (g ++ [k]).length = g.length + 1 := by simp
 simp only [hkg, decide_false, Bool.not_false, Bool.true_and, decide_eq_true_eq, not_false_eq_true, true_and]
 constructor
 ·intro e
  obtain ⟨r, r1, r2, _⟩ := zfE (al := alC S) hc hg2 hn2 (by omega) (by rw [hl2]; have : zbb = -1000 := rfl; omega)
  rw [hl2] at r1 r2
  exact ⟨r, r1, r2⟩
 ·rintro ⟨r, r1, r2⟩
  have := zry (S := S) hc hg2 hn2 (q := r) (by rw [hl2]; exact r1) (by rw [hl2]; exact r2)
  rw [hl2] at this
  rw [this, hcs]; omega
/-- The best ways: they do as S says. -/
def ziH (can : List (List Nat)) (S : List Bool) (q : List Nat) : Prop := zeq can q ∧ zgo can.length S q
theorem zjl {q : List Nat} (h : ziH can S q) : zb3 (alC S) can 0 [] q := zfY h.1.1 fun j k hk => by
 have hj : j < q.length := by
  rcases Nat.lt_or_ge j q.length with h | h
  ·exact h
  ·rw [List.getElem?_eq_none h] at hk; cases hk
 rw [ziy, Nat.zero_add]
 exact h.2 j k (by rw [← h.1.2]; exact hj) hk
theorem ztH {q : List Nat} (h : zb3 (alC S) can 0 [] q) (hl : q.length = can.length) : ziH can S q :=
 ⟨⟨zfY h fun _ _ _ => rfl, hl⟩, fun i k _ hk => by have := (zg7 h i k hk).1; rw [ziy, Nat.zero_add] at this; exact this⟩
structure ChOk (can : List (List Nat)) (S : List Bool) (m : Nat) (g : List Nat) : Prop where
 ex : ∃ q, ziH can S q ∧ q.take m = g
 len : g.length = m
 fst : ∀ j, j < m → ∀ q, ziH can S q → q.take j = g.take j → ∀ a b, g[j]? = some a → q[j]? = some b → a ≠ b → S.getD j false = false ∧ ∃ pre post, can.getD j [] = pre ++ a :: post ∧ b ∉ pre
theorem zs0 (hc : CanOk can) (h0 : ∃ q, ziH can S q) : ∀ m, m ≤ can.length → ChOk can S m (chB can S m)
 | 0, _ => by
   obtain ⟨q, hq⟩ := h0
   exact ⟨⟨q, hq, by simp [chB]⟩, rfl, fun j hj => by omega⟩
 | m + 1, hm => by
   have ih := zs0 hc h0 m (by omega)
   rw [chB]
   generalize chB can S m = g at ih ⊢
   obtain ⟨⟨q, q1, q2⟩, q3, q4⟩ := ih
   subst q3
   have ql := q1.1.2
   have qlt := zmp hc q1.1.1 (by omega)
   have qnd := zlv (g := []) (by simp) q1.1.1
   rw [List.nil_append] at qnd
   have hg : ∀ k ∈ g, k < can.length := fun k hk => qlt k (by rw [← q2] at hk; exact List.mem_of_mem_take hk)
   have hn : g.Nodup := by rw [← q2]; exact qnd.sublist (List.take_sublist _ _)
   have split : ∀ p, ziH can S p → p.take g.length = g → ∃ r, zb3 (alC S) can g.length g r ∧ p = g ++ r ∧ g.length + r.length = can.length := fun p p1 p2 => by
    refine ⟨p.drop g.length, ?_, ?_, ?_⟩
    ·have := zjl p1
     rw [← List.take_append_drop g.length p, p2] at this
     have := (zc1.1 this).2
     simpa using this
    ·conv => lhs; rw [← List.take_append_drop g.length p, p2]
    ·rw [List.length_drop, p1.1.2]; omega
   obtain ⟨r, r1, r2, r3⟩ := split q q1 q2
   have cand : ∀ p, ziH can S p → p.take g.length = g → ∃ k t, p = g ++ k :: t ∧ k < can.length ∧ k ∈ zbo can S g.length ∧ okB can S g.length g k = true := fun p p1 p2 => by
    obtain ⟨t, t1, t2, t3⟩ := split p p1 p2
    cases t with
    | nil => simp at t3; omega
    | cons k t =>
      have pk : k < can.length := zmp hc p1.1.1 (by rw [p1.1.2]; omega) k (by rw [t2]; simp)
      refine ⟨k, t, t2, pk, ?_, ?_⟩
      ·have h1 := ziy.1 t1.2.1
       have h2 := t1.1
       unfold zbo
       by_cases e : k = g.length
       ·have hS : S.getD g.length false = true := by rw [← h1, e]; simp
        rw [if_pos hS, e]; simp
       ·rw [if_neg (by rw [← h1]; simp [Ne.symm e])]
        exact (List.mem_cons.1 h2).resolve_left e
      ·exact (zpz hc hg hn r1 r3 (by omega) pk).2 ⟨t1.2.2.1, t, t1.2.2.2, by simp at t3; omega⟩
   obtain ⟨k0, t0, e0, l0, m0, o0⟩ := cand q q1 q2
   cases hf : (zbo can S g.length).find? (okB can S g.length g) with
   | none =>
     have := List.find?_eq_none.1 hf k0 m0
     exact absurd o0 this
   | some a =>
     obtain ⟨a1, pre, post, a2, a3⟩ := List.find?_eq_some_iff_append.1 hf
     have am : a ∈ zbo can S g.length := by rw [a2]; simp
     have al : a < can.length := by
      unfold zbo at am
      split at am
      ·rw [List.mem_singleton.1 am]; omega
      ·exact hc.lt _ _ am
     obtain ⟨ag, t, t1, t2⟩ := (zpz hc hg hn r1 r3 (by omega) al).1 a1
     have aal : alC S g.length a = true := by
      rw [ziy]
      unfold zbo at am
      split at am
      ·rename_i e; rw [List.mem_singleton.1 am, e]; simp
      ·rename_i e
       have : g.length ≠ a := fun h => hc.ne g.length (by have h2 := am; rw [← h] at h2; exact h2)
       have e2 : S.getD g.length false = false := by simpa using e
       rw [e2, beq_eq_false_iff_ne]; exact this
     have aop : a ∈ g.length :: can.getD g.length [] := by
      unfold zbo at am
      split at am
      ·rw [List.mem_singleton.1 am]; simp
      ·exact List.mem_cons_of_mem _ am
     have hw : zb3 (alC S) can 0 [] (g ++ a :: t) := by
      have hgw := zjl q1
      rw [r2] at hgw
      refine zc1.2 ⟨(zc1.1 hgw).1, ?_⟩
      simp only [Nat.zero_add, List.nil_append]
      exact ⟨aop, aal, ag, t1⟩
     simp only [Option.toList_some]
     refine ⟨⟨g ++ a :: t, ztH hw (by simp; omega), ?_⟩, by simp, fun j hj p p1 p2 x y hx hy hxy => ?_⟩
     ·rw [show g ++ a :: t = (g ++ [a]) ++ t by simp]
      exact List.take_left' (by simp)
     ·rcases Nat.lt_succ_iff_lt_or_eq.1 hj with e | e
      ·rw [List.getElem?_append_left e] at hx
       rw [List.take_append_of_le_length (by omega)] at p2
       exact q4 j e p p1 p2 x y hx hy hxy
      ·subst e
       rw [List.getElem?_append_right (Nat.le_refl _), Nat.sub_self] at hx
       simp at hx
       subst hx
       rw [List.take_left' rfl] at p2
       obtain ⟨k, s, s1, s2, s3, s4⟩ := cand p p1 p2
       rw [s1, List.getElem?_append_right (Nat.le_refl _), Nat.sub_self] at hy
       simp at hy
       subst hy
       have hS : S.getD g.length false = false := by
        cases hS : S.getD g.length false with
        | false => rfl
        | true =>
          exfalso; apply hxy
          unfold zbo at am s3
          rw [if_pos hS] at am s3
          rw [List.mem_singleton.1 am, List.mem_singleton.1 s3]
       refine ⟨hS, pre, post, ?_, fun hm => ?_⟩
       ·unfold zbo at a2; rwa [if_neg (by rw [hS]; simp)] at a2
       ·have := a3 k hm
        rw [s4] at this; simp at this
/-- What the two walks find: a way with as many as possible; of these the first ones stay who can; of these each one gets the first they can. -/
def zaO (can : List (List Nat)) : List Nat := chB can (stB can can.length) can.length
theorem zk2 (hc : CanOk can) : zeq can (zaO can) ∧ ∀ q, zeq can q → q ≠ zaO can →
 zbf 0 q < zbf 0 (zaO can) ∨ zbf 0 q = zbf 0 (zaO can) ∧
  ((∃ i, (zaO can)[i]? = some i ∧ q[i]? ≠ some i ∧ i < can.length ∧ ∀ j : Nat, j < i → ((zaO can)[j]? = some j ↔ q[j]? = some j)) ∨
    (∀ j : Nat, (zaO can)[j]? = some j ↔ q[j]? = some j) ∧ ∃ j a b, q.take j = (zaO can).take j ∧ (zaO can)[j]? = some a ∧ q[j]? = some b ∧ a ≠ b ∧ a ≠ j ∧ ∃ pre post, can.getD j [] = pre ++ a :: post ∧ b ∉ pre) := by
 obtain ⟨⟨q0, f1, f2, f3⟩, s2⟩ := ztd hc can.length (Nat.le_refl _)
 have hco := zs0 (S := stB can can.length) hc ⟨q0, f1, f3⟩ can.length (Nat.le_refl _)
 obtain ⟨⟨p, p1, p2⟩, p3, p4⟩ := hco
 have hpe : p = zaO can := by
  unfold zaO; rw [← p2, ← p1.1.2, List.take_length]
 subst hpe
 obtain ⟨_, t2, _⟩ := zl2 hc
 have hct : zbf 0 (zaO can) = zey can := by
  rw [← f2, zlk (zjl p1), zlk (zjl (S := stB can can.length) ⟨f1, f3⟩), p1.1.2, f1.2]
 have hpat : ∀ {q : List Nat}, zeq can q → ∀ m, m ≤ can.length → (zgo m (stB can can.length) q ↔ ∀ j : Nat, j < m → ((zaO can)[j]? = some j ↔ q[j]? = some j)) := fun {q} hq m hm => by
  have hr := p1.2
  constructor
  ·intro h j hj
   obtain ⟨x, hx⟩ : ∃ x, (zaO can)[j]? = some x := ⟨_, List.getElem?_eq_getElem (by rw [p1.1.2]; omega)⟩
   obtain ⟨y, hy⟩ : ∃ y, q[j]? = some y := ⟨_, List.getElem?_eq_getElem (by rw [hq.2]; omega)⟩
   have h1 := hr j x (by omega) hx
   have h2 := h j y hj hy
   rw [hx, hy]
   have h3 : (j == x) = (j == y) := h1.trans h2.symm
   simp only [Option.some.injEq]
   rw [Bool.eq_iff_iff] at h3
   simp only [beq_iff_eq] at h3
   constructor
   ·exact fun e => (h3.1 e.symm).symm
   ·exact fun e => (h3.2 e.symm).symm
  ·intro h j y hj hy
   obtain ⟨x, hx⟩ : ∃ x, (zaO can)[j]? = some x := ⟨_, List.getElem?_eq_getElem (by rw [p1.1.2]; omega)⟩
   have h1 := hr j x (by omega) hx
   have h2 := h j hj
   rw [hx, hy] at h2
   simp only [Option.some.injEq] at h2
   rw [← h1, Bool.eq_iff_iff]
   simp only [beq_iff_eq]
   constructor
   ·exact fun e => (h2.2 e.symm).symm
   ·exact fun e => (h2.1 e.symm).symm
 refine ⟨p1.1, fun q hq hne => ?_⟩
 have hle := t2 q hq
 rcases Int.lt_or_eq_of_le hle with h | h
 ·exact .inl (by omega)
 refine .inr ⟨by omega, ?_⟩
 by_cases hall : ∀ j : Nat, j < can.length → ((zaO can)[j]? = some j ↔ q[j]? = some j)
 ·refine .inr ⟨fun j => ?_, ?_⟩
  ·by_cases hj : j < can.length
   ·exact hall j hj
   ·rw [List.getElem?_eq_none (by rw [p1.1.2]; omega), List.getElem?_eq_none (by rw [hq.2]; omega)]
  ·have hopt : ziH can (stB can can.length) q := ⟨hq, (hpat hq _ (Nat.le_refl _)).2 hall⟩
   have key : ∀ m, m ≤ can.length → q.take m = (zaO can).take m ∨ ∃ j a b, q.take j = (zaO can).take j ∧ (zaO can)[j]? = some a ∧ q[j]? = some b ∧ a ≠ b := by
    intro m
    induction m with
    | zero => intro _; exact .inl rfl
    | succ m ih =>
      intro hm
      rcases ih (by omega) with e | e
      ·obtain ⟨x, hx⟩ : ∃ x, (zaO can)[m]? = some x := ⟨_, List.getElem?_eq_getElem (by rw [p1.1.2]; omega)⟩
       obtain ⟨y, hy⟩ : ∃ y, q[m]? = some y := ⟨_, List.getElem?_eq_getElem (by rw [hq.2]; omega)⟩
       by_cases hxy : x = y
       ·left; rw [List.take_add_one, List.take_add_one, hx, hy, e, hxy]
       ·exact .inr ⟨m, x, y, e, hx, hy, hxy⟩
      ·exact .inr e
   rcases key can.length (Nat.le_refl _) with e | ⟨j, a, b, e1, e2, e3, e4⟩
   ·exfalso; apply hne
    rw [List.take_of_length_le (by rw [hq.2]; omega), List.take_of_length_le (by rw [p1.1.2]; omega)] at e
    exact e
   ·have hj : j < can.length := by
     rcases Nat.lt_or_ge j can.length with h | h
     ·exact h
     ·rw [List.getElem?_eq_none (by rw [p1.1.2]; omega)] at e2; cases e2
    obtain ⟨g1, g2⟩ := p4 j hj q hopt e1 a b e2 e3 e4
    refine ⟨j, a, b, e1, e2, e3, e4, fun e => ?_, g2⟩
    have := p1.2 j a hj e2
    rw [g1, e] at this
    simp at this
 ·have hex : ∃ i, i < can.length ∧ ¬ ((zaO can)[i]? = some i ↔ q[i]? = some i) ∧ ∀ j : Nat, j < i → ((zaO can)[j]? = some j ↔ q[j]? = some j) := by
   have key : ∀ m, m ≤ can.length → (∀ j : Nat, j < m → ((zaO can)[j]? = some j ↔ q[j]? = some j)) ∨ ∃ i, i < can.length ∧ ¬ ((zaO can)[i]? = some i ↔ q[i]? = some i) ∧ ∀ j : Nat, j < i → ((zaO can)[j]? = some j ↔ q[j]? = some j) := by
    intro m
    induction m with
    | zero => intro _; exact .inl fun j hj => by omega
    | succ m ih =>
      intro hm
      rcases ih (by omega) with e | e
      ·by_cases hx : (zaO can)[m]? = some m ↔ q[m]? = some m
       ·exact .inl fun j hj => by
         rcases Nat.lt_succ_iff_lt_or_eq.1 hj with e2 | e2
         ·exact e j e2
         ·subst e2; exact hx
       ·exact .inr ⟨m, by omega, hx, e⟩
      ·exact .inr e
   rcases key can.length (Nat.le_refl _) with e | e
   ·exact absurd e hall
   ·exact e
  obtain ⟨i, i1, i2, i3⟩ := hex
  refine .inl ⟨i, ?_, ?_, i1, i3⟩
  ·refine Classical.byContradiction fun hr => ?_
   have hqi : q[i]? = some i := Classical.byContradiction fun hq2 => i2 ⟨fun e => absurd e hr, fun e => absurd e hq2⟩
   obtain ⟨x, hx⟩ : ∃ x, (zaO can)[i]? = some x := ⟨_, List.getElem?_eq_getElem (by rw [p1.1.2]; omega)⟩
   have hS := p1.2 i x i1 hx
   have : (i == x) = false := by
    rw [beq_eq_false_iff_ne]
    exact fun e => hr (by rw [hx, e])
   rw [this] at hS
   exact s2 i i1 hS.symm q hq (by omega) ((hpat hq i (by omega)).2 i3) hqi
  ·intro hqi
   apply i2
   refine ⟨fun _ => hqi, fun _ => ?_⟩
   refine Classical.byContradiction fun hr => ?_
   obtain ⟨x, hx⟩ : ∃ x, (zaO can)[i]? = some x := ⟨_, List.getElem?_eq_getElem (by rw [p1.1.2]; omega)⟩
   have hS := p1.2 i x i1 hx
   have : (i == x) = false := by
    rw [beq_eq_false_iff_ne]
    exact fun e => hr (by rw [hx, e])
   rw [this] at hS
   exact s2 i i1 hS.symm q hq (by omega) ((hpat hq i (by omega)).2 i3) hqi
end
end
section
def BdB (m : Int) (l : List Int) : Prop := ∀ t, l.getD t 0 = zbb ∨ (0 ≤ l.getD t 0 ∧ l.getD t 0 ≤ m)
theorem zpN {m : Int} {best nx : List Int} {ok : Bool} {s k : Nat} {more : Int} (h : BdB (m + 1) nx) (hb : BdB m best) (hn : best.getD s 0 ≠ zbb) (hm : 0 ≤ more ∧ more ≤ 1) : BdB (m + 1) (zbi best ok s k more nx) := by
 unfold zbi; split
 ·intro t
  rw [zew]; split
  ·rename_i e
   right
   have h1 := h (s ||| 2 ^ k)
   have h2 := (hb s).resolve_left hn
   have nv : zbb = -1000 := rfl
   rcases Int.le_total (nx.getD (s ||| 2 ^ k) 0) (best.getD s 0 + more) with q | q
   ·rw [Int.max_eq_right q]; omega
   ·rw [Int.max_eq_left q]
    rcases h1 with h1 | h1 <;> omega
  ·exact h t
 ·exact h
theorem zoP {m : Int} {best : List Int} {al : Nat → Nat → Bool} {i s : Nat} (hb : BdB m best) (hn : best.getD s 0 ≠ zbb) : ∀ {cs : List Nat} {nx : List Int}, BdB (m + 1) nx → BdB (m + 1) (cs.foldl (fun nx k => zbi best (al i k) s k 1 nx) nx)
 | [], _, h => h
 | k :: r, nx, h => by rw [List.foldl_cons]; exact zoP hb hn (zpN h hb hn (by omega))
theorem zpD {m : Int} {best : List Int} {al : Nat → Nat → Bool} {cs : List Nat} {i : Nat} (hb : BdB m best) : ∀ {ss : List Nat} {nx : List Int}, BdB (m + 1) nx → BdB (m + 1) (ss.foldl (zcd al cs i best) nx)
 | [], _, h => h
 | s :: r, nx, h => by
   rw [List.foldl_cons]
   refine zpD hb ?_
   unfold zcd; split
   ·exact h
   ·rename_i hn; exact zoP hb hn (zpN h hb hn (by omega))
theorem zou {m : Int} (hm : 0 ≤ m) {n : Nat} : BdB m (List.replicate n zbb) := fun t => by
 rw [List.getD_eq_getElem?_getD, List.getElem?_replicate]
 split
 ·exact .inl rfl
 ·exact .inr ⟨Int.le_refl _, hm⟩
theorem ztV {n got : Nat} : BdB 0 (zaU n got) := fun t => by
 unfold zaU
 rw [zew]; split
 ·exact .inr ⟨Int.le_refl _, Int.le_refl _⟩
 ·exact zou (Int.le_refl _) t
theorem zn8 {al : Nat → Nat → Bool} {can : List (List Nat)} {fr n got : Nat} : ∀ m : Nat, BdB (m : Int) (za7 al can fr (zaU n got) m)
 | 0 => ztV
 | m + 1 => by
   rw [za7]; unfold zhI
   have := zpD (al := al) (cs := can.getD (fr + m) []) (i := fr + m) (zn8 (al := al) (can := can) (fr := fr) (n := n) (got := got) m) (ss := List.range (za7 al can fr (zaU n got) m).length) (zou (n := (za7 al can fr (zaU n got) m).length) (show (0 : Int) ≤ (m : Int) + 1 by omega))
   exact this
theorem zoG {n got : Nat} : (zaU n got).length = 2 ^ n := by unfold zaU; simp
theorem zmM {al : Nat → Nat → Bool} {cs : List Nat} {i k : Nat} {best nx : List Int} : (List.range (k + 1)).foldl (zcd al cs i best) nx = zcd al cs i best ((List.range k).foldl (zcd al cs i best) nx) k := by
 rw [List.range_succ, List.foldl_append]; rfl
theorem zp3 {al : Nat → Nat → Bool} {cs : List Nat} {i s j y : Nat} {best nx : List Int} (h : cs[j]? = some y) : (cs.take (j + 1)).foldl (fun nx k => zbi best (al i k) s k 1 nx) nx = zbi best (al i y) s y 1 ((cs.take j).foldl (fun nx k => zbi best (al i k) s k 1 nx) nx) := by
 rw [List.take_add_one, h, List.foldl_append]; rfl
theorem zsp {out : List Bool} : alS 0 out = fun _ _ => true := by funext i k; simp [alS]
theorem ztR {al : Nat → Nat → Bool} {can : List (List Nat)} {fr got : Nat} (hn : can.length ≤ 14) : -1000 ≤ zbM al can fr got ∧ zbM al can fr got ≤ 14 := by
 unfold zbM
 have nv : zbb = -1000 := rfl
 rcases zn8 (al := al) (can := can) (fr := fr) (n := can.length) (got := got) (can.length - fr) (2 ^ can.length - 1) with h | h <;> omega
theorem ztU {S : List Bool} {i : Nat} : 0 ≤ zds S i ∧ zds S i ≤ 1 := by unfold zds; split <;> omega
theorem zpo {can : List (List Nat)} {S : List Bool} {m k : Nat} (hc : CanOk can) (hm : m < can.length) (h : k ∈ zbo can S m) : k < can.length := by
 unfold zbo at h
 split at h
 ·rw [List.mem_singleton.1 h]; exact hm
 ·exact hc.lt _ _ h
theorem zkh {can : List (List Nat)} {S : List Bool} {m y : Nat} (h : (zbo can S m).find? (okB can S m (chB can S m)) = some y) : chB can S (m + 1) = chB can S m ++ [y] := by rw [chB, h]; rfl
theorem zki {can : List (List Nat)} {S : List Bool} {m : Nat} (h : (zbo can S m).find? (okB can S m (chB can S m)) = none) : chB can S (m + 1) = chB can S m := by rw [chB, h]; simp
theorem zto {can : List (List Nat)} {S : List Bool} (hc : CanOk can) : ∀ m, m ≤ can.length → (∀ x ∈ chB can S m, x < can.length) ∧ (chB can S m).length ≤ m
 | 0, _ => ⟨by simp [chB], by simp [chB]⟩
 | m + 1, hm => by
   obtain ⟨h1, h2⟩ := zto (S := S) hc m (by omega)
   cases hf : (zbo can S m).find? (okB can S m (chB can S m)) with
   | none => rw [zki hf]; exact ⟨h1, by omega⟩
   | some y =>
     rw [zkh hf]
     refine ⟨fun x hx => ?_, by simp; omega⟩
     rcases List.mem_append.1 hx with h | h
     ·exact h1 x h
     ·rw [List.mem_singleton.1 h]; exact zpo hc (by omega) (List.mem_of_find?_eq_some hf)
theorem zui {can : List (List Nat)} {S : List Bool} {m y : Nat} {g : List Nat} (h1 : (za1 g).testBit y = false) (h2 : zbM (alC S) can (m + 1) (za1 g ||| 2 ^ y) + zds S m = zbM (alC S) can m (za1 g)) : okB can S m g y = true := by
 unfold okB; rw [h1, h2]; simp
theorem zt3 {can : List (List Nat)} {S : List Bool} {m y : Nat} {g : List Nat} (h : (za1 g).testBit y = false → ¬ zbM (alC S) can (m + 1) (za1 g ||| 2 ^ y) + zds S m = zbM (alC S) can m (za1 g)) : ¬ okB can S m g y = true := by
 unfold okB
 cases hb : (za1 g).testBit y with
 | true => simp
 | false => simp [h hb]
end
section
open Op
/-- Whom one could get, best first, as places in the wants. -/
def ze0 (w : List WantS) (F : List Str) : List Nat := F.filterMap fun s => if 0 ≤ zba w s then some (zba w s).toNat else none
def zbE (w : List WantS) : List (List Nat) := w.map fun x => ze0 w x.For
abbrev zoZ (w l : List WantS) : List (List Nat) := l.map fun x => ze0 w x.For
theorem zru {w l : List WantS} {x : WantS} : zoZ w (l ++ [x]) = zoZ w l ++ [ze0 w x.For] := by unfold zoZ; simp
theorem zll {w : List WantS} {F : List Str} {j : Nat} {y : Str} (h : F[j]? = some y) : ze0 w (F.take (j + 1)) = ze0 w (F.take j) ++ if 0 ≤ zba w y then [(zba w y).toNat] else [] := by
 unfold ze0
 rw [List.take_add_one, h]
 by_cases e : 0 ≤ zba w y <;> simp [List.filterMap_append, e]
theorem zm6 {w : List WantS} {F : List Str} : (ze0 w F).length ≤ F.length := List.length_filterMap_le _ _
theorem zf7 {w : List WantS} : (zbE w).length = w.length := by unfold zbE; simp
theorem zhA {w : List WantS} {i : Nat} {x : WantS} (h : w[i]? = some x) : (zbE w).getD i [] = ze0 w x.For := by
 unfold zbE; rw [List.getD_eq_getElem?_getD, List.getElem?_map, h]; rfl
theorem zoe {w : List WantS} {i : Nat} (h : w.length ≤ i) : (zbE w).getD i [] = [] := by
 unfold zbE; rw [List.getD_eq_getElem?_getD, List.getElem?_map, List.getElem?_eq_none h]; rfl
theorem zgE {w : List WantS} {F : List Str} {k : Nat} (hs : SortedS (w.map (·.Player))) : k ∈ ze0 w F ↔ ∃ s ∈ F, ∃ x, w[k]? = some x ∧ x.Player = s := by
 unfold ze0
 rw [List.mem_filterMap]
 constructor
 ·rintro ⟨s, h1, h2⟩
  split at h2
  ·rename_i h3
   simp at h2
   exact ⟨s, h1, (zcW hs).1 (by omega)⟩
  ·cases h2
 ·rintro ⟨s, h1, x, h2, h3⟩
  have := (zcW hs).2 ⟨x, h2, h3⟩
  exact ⟨s, h1, by rw [if_pos (by omega), this]; simp⟩
theorem zg5 {o : List OwnerS} {w : List WantS} (h : WantsOk o w) (hl : w.length ≤ 14) : CanOk (zbE w) where
 lt i k hk := by
  rw [zf7]
  rcases Nat.lt_or_ge i w.length with hi | hi
  ·obtain ⟨x, hx⟩ : ∃ x, w[i]? = some x := ⟨_, List.getElem?_eq_getElem hi⟩
   rw [zhA hx] at hk
   obtain ⟨s, _, y, hy, _⟩ := (zgE h.srt).1 hk
   exact zC hy
  ·rw [zoe hi] at hk; cases hk
 ne i hk := by
  rcases Nat.lt_or_ge i w.length with hi | hi
  ·obtain ⟨x, hx⟩ : ∃ x, w[i]? = some x := ⟨_, List.getElem?_eq_getElem hi⟩
   rw [zhA hx] at hk
   obtain ⟨s, hs, y, hy, he⟩ := (zgE h.srt).1 hk
   rw [hx] at hy; cases hy
   subst he
   exact (h.ftm x (List.mem_of_getElem? hx) _ hs).2 rfl
  ·rw [zoe hi] at hk; cases hk
 len := by rw [zf7]; exact hl
theorem zr7 {o : List OwnerS} {w : List WantS} (h : WantsOk o w) : ∀ c ∈ zbE w, c.length ≤ 1000 := fun c hc => by
 unfold zbE at hc
 obtain ⟨x, hx, rfl⟩ := List.mem_map.1 hc
 exact Nat.le_trans zm6 (Nat.le_trans (h.few x hx) (by omega))
def zbG (w : List WantS) (k : Nat) : Str := (w.getD k zcm).Player
/-- Who goes where. -/
def zc4 (o : List OwnerS) (w : List WantS) : Nat → List Nat → List GiveS
 | _, [] => []
 | i, k :: t => if i = k then zc4 o w (i + 1) t else ⟨zbG w k, zaE o (zbG w k), zaE o (zbG w i)⟩ :: zc4 o w (i + 1) t
theorem zjN {o : List OwnerS} {w : List WantS} : ∀ {a b : List Nat} {i : Nat}, zc4 o w i (a ++ b) = zc4 o w i a ++ zc4 o w (i + a.length) b
 | [], b, i => by simp [zc4]
 | k :: a, b, i => by
   rw [List.cons_append, zc4, zc4, zjN (a := a), List.length_cons, show i + 1 + a.length = i + (a.length + 1) by omega]
   split <;> simp
theorem znb {o : List OwnerS} {w : List WantS} {l : List Nat} {q z : Nat} (h : l[q]? = some z) : zc4 o w 0 (l.take (q + 1)) = zc4 o w 0 (l.take q) ++ if q = z then [] else [⟨zbG w z, zaE o (zbG w z), zaE o (zbG w q)⟩] := by
 have hq := zC h
 rw [List.take_add_one, h, Option.toList_some, zjN, List.length_take, Nat.min_eq_left (by omega), Nat.zero_add]
 congr 1
theorem zhw {o : List OwnerS} {w : List WantS} : ∀ {l : List Nat} {i : Nat}, (zc4 o w i l).length ≤ l.length
 | [], _ => Nat.le_refl _
 | k :: t, i => by
   rw [zc4]
   have := zhw (o := o) (w := w) (l := t) (i := i + 1)
   split <;> simp <;> omega
def zcg (m : MarketS) (o : List OwnerS) (w : List WantS) : List GiveS := if zar m o w = 0 then zaY zgK (zc4 o w 0 (zaO (zbE w))) else []
theorem zl5 {o : List OwnerS} {w : List WantS} (h : WantsOk o w) (hl : w.length ≤ 14) : (zaO (zbE w)).length = w.length := by
 rw [(zk2 (zg5 h hl)).1.2, zf7]
theorem zrS {o : List OwnerS} {w : List WantS} (h : WantsOk o w) (hl : w.length ≤ 14) : ∀ k ∈ zaO (zbE w), k < w.length := fun k hk => by
 have hf := (zk2 (zg5 h hl)).1
 have := zmp (zg5 h hl) hf.1 (by rw [hf.2]; omega) k hk
 rwa [zf7] at this
end
end Go.HL
