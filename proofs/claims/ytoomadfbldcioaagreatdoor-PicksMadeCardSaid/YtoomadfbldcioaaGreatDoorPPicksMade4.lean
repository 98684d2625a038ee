/- Part 4 of the proof: a program logic, contracts of functions and plain facts; no conditions. -/
import Derived.Test.YtoomadfbldcioaaGreatDoorPPicksMade3
set_option linter.unusedVariables false
set_option linter.unusedSimpArgs false
section
namespace Go.HL
variable {P : Program}
section
variable {P : Program} {e : Env} {dst : Option Tmp} {ty : TypeId} {pos : String} {af : Array Edge} {g : Option (Nat × Bool)} {M : List MObj} {K : HVal → List MObj → Prop}
/-- A whole element of an owned slice is loaded. -/
theorem eop_load_elw {α : Type} {f : α → HVal} {x : Operand} {t : TypeId} {d : TD} {size bytes : Nat} {zero : Value} {i b off cap n sz j o : Nat} {es : List α} {y : α} (hf : Fits P t d size bytes zero)
    (hx : evalO e x = some (.raw (.pointer (some ⟨b, o, none⟩)))) (ho' : o = off + j * sz) (hm : M[i]? = some (.arr (.slice (some ⟨b, off, none⟩) n cap) sz (es.map f))) (hj : es[j]? = some y)
    (hd : d.isAgg = true) (hs : size = (hcells (f y)).length) (hv : f y = .agg (hcells (f y))) (hk : K (f y) M) : EOp P e M ⟨dst, .load t x, ty, pos, af, g⟩ K :=
  eop_load_arr (j := j) (f := 0) (y := f y) hf hx (by omega) hm (by rw [List.getElem?_map, hj]; rfl) (.inr ⟨hd, by omega, by rw [List.drop_zero, hs, List.take_length]; exact hv⟩) hk
/-- A whole element of an owned slice is stored. -/
theorem eop_store_elw {α : Type} {f : α → HVal} {x z : Operand} {t : TypeId} {d : TD} {size bytes : Nat} {zero : Value} {i b off cap n sz j o : Nat} {es : List α} {y y' : α} (hf : Fits P t d size bytes zero)
    (hx : evalO e x = some (.raw (.pointer (some ⟨b, o, none⟩)))) (ho' : o = off + j * sz) (hz : evalO e z = some (f y')) (hm : M[i]? = some (.arr (.slice (some ⟨b, off, none⟩) n cap) sz (es.map f))) (hj : es[j]? = some y)
    (hok : okElem size (f y') = true) (hfl : flat (hcells (f y')) = true) (hle : (hcells (f y')).length = (hcells (f y)).length)
    (hk : K .junk (M.set i (.arr (.slice (some ⟨b, off, none⟩) n cap) sz ((es.set j y').map f)))) : EOp P e M ⟨dst, .store t x z, ty, pos, af, g⟩ K := by
  have h0 := (okElem_cells hok).1
  refine eop_store_arr (j := j) (f := 0) (y := f y) (y' := f y') hf hx (by omega) hz hm (by rw [List.getElem?_map, hj]; rfl) hok hfl (by omega) ?_ ?_
  · rw [setL_all hle]
  · rw [List.map_set] at hk; exact hk
end
theorem Sat.arr_take {I : Imm} {F : List MObj} {w : World} {b off n cap sz m : Nat} {es : List HVal} (hm : m ≤ es.length) (h : Sat P I (.arr (.slice (some ⟨b, off, none⟩) n cap) sz es :: F) w) :
    Sat P I (.arr (.slice (some ⟨b, off, none⟩) m cap) sz (es.take m) :: F) w := by
  obtain ⟨_, rc, el, fr, h2, h3, h4, h5, h6, h7⟩ := arr_some h
  refine h.change (m' := .arr (.slice (some ⟨b, off, none⟩) m cap) sz (es.take m)) (fun _ _ _ => rfl) (fun c hc => .inl hc) (by simp [MObj.blocks]) ?_ rfl rfl rfl
  have hl : (es.take m).length = m := by simp; omega
  refine .inr ⟨b, off, cap, rc, el, fr, by rw [hl], h2, h3, fun e he => h4 e (List.mem_of_mem_take he), by omega, h6, fun i j e c v a1 a2 a3 => ?_⟩
  have hi := lt_of_get a1
  rw [List.getElem?_take_of_lt (by omega)] at a1
  exact h7 i j e c v a1 a2 a3
theorem Ghost.take {e : Env} {M : List MObj} {b off n cap sz m : Nat} {es : List HVal} (hm : m ≤ es.length) : Ghost e (.arr (.slice (some ⟨b, off, none⟩) n cap) sz es :: M) e (.arr (.slice (some ⟨b, off, none⟩) m cap) sz (es.take m) :: M) :=
  fun _ I F tmps w h1 h2 => ⟨I, .refl I, h1, h2.arr_take hm⟩
def slOff (cap off sz lo : Nat) : Nat := if cap = lo then off else off + lo * sz
section
variable {P : Program} {e : Env} {dst : Option Tmp} {ty : TypeId} {pos : String} {af : Array Edge} {g : Option (Nat × Bool)} {M : List MObj} {K : HVal → List MObj → Prop}
/-- A slice whose header is known is cut. -/
theorem pop_slraw {x : Operand} {lo hi : Option Operand} {t el : TypeId} {size bytes sz b2 : Nat} {zero z2 : Value} {d : TD} {b off n cap l h : Nat}
    (hf : Fits P t (.slice el) size bytes zero) (hel : Fits P el d sz b2 z2) (hx : evalO e x = some (.raw (.slice (some ⟨b, off, none⟩) n cap))) (hlo : BoundIs e lo 0 l) (hhi : BoundIs e hi n h) (h1 : l ≤ h) (h2 : h ≤ n) (hc : n ≤ cap) :
    POp P e ⟨dst, .slice t x lo hi none, ty, pos, af, g⟩ (.raw (.slice (some ⟨b, slOff cap off sz l, none⟩) (h - l) (cap - l))) :=
  POp.of_val fun I a w ho => by
    have h3 := (ho.one (x := x) (by simp [Op.operands]) hx).raw_inv
    have hb : (Instr.sliceBounds true n cap (Option.map a.eval lo) (Option.map a.eval hi) none).run P w = .ok (l, h, cap) w :=
      run_bounds (P := P) (e := e) (lo := lo) (hi := hi) (l := l) (h := h) (len := n) (cap := cap) ho (by intro y hy; simp [Op.operands, hy]) (by intro y hy; simp [Op.operands, hy]) hlo hhi h1 h2 hc true w
    refine ⟨_, ?_, .raw _ rfl⟩
    simp [execOp, Instr.sliceAt, run_underlying hf.slice, h3, Instr.slice, hb, hel.run_sizeOf, slOff]
    try (split <;> simp_all [addr_add])
    try omega
/-- Cells of an owned slice behind the first m' elements are cleared: what stays are these. -/
theorem eop_clear_at {x : Operand} {t el : TypeId} {size bytes sz b2 : Nat} {zero z2 : Value} {d : TD} {i b off n cap m q o c2 : Nat} {es : List HVal} (m' : Nat)
    (hf : Fits P t (.slice el) size bytes zero) (hel : Fits P el d sz b2 z2) (hz : z2.cells.size = sz) (hz1 : z2.cells.toList.all Value.oneCell' = true)
    (hx : evalO e x = some (.raw (.slice (some ⟨b, o, none⟩) q c2))) (ho' : q = 0 ∨ o = off + m * sz) (hm : M[i]? = some (.arr (.slice (some ⟨b, off, none⟩) n cap) sz es)) (hmq : m + q ≤ cap) (hmm : m' ≤ m) (hme : m' ≤ es.length)
    (hk : K .junk (M.set i (.arr (.slice (some ⟨b, off, none⟩) m' cap) sz (es.take m')))) : EOp P e M ⟨dst, .call ⟨.builtin .clear, #[x], #[t]⟩, ty, pos, af, g⟩ K :=
  EOp.of_run fun I F a w ho hs => by
    have h1 := (ho.one (x := x) (by simp [Op.operands, Call.operands]) hx).raw_inv
    have hp := hs.pull hm
    obtain ⟨_, rc, el', fr, h2, h3, h4, h5, h6, h7⟩ := arr_some hp
    have hrun : (execOp a.eval ⟨dst, .call ⟨.builtin .clear, #[x], #[t]⟩, ty, pos, af, g⟩).run P w = ((Builtin.clear_ #[t] ty #[a.eval x]).run P w).andThen fun v w => .ok (.value v) w := by
      simp [execOp, resolve, invoke, builtin]
    rcases Nat.eq_zero_or_pos q with h0 | h0
    · refine ⟨.tuple #[], .junk, _, w, I, ?_, .refl I, hk, .junk _, ?_⟩
      · rw [hrun, h1, h0]
        simp [Builtin.clear_, run_underlying hf.slice]
      · exact Sat.unpull hm (hp.arr_take hme)
    · have hso : o = off + m * sz := by rcases ho' with h | h; omega; exact h
      have hmul : (m + q) * sz ≤ cap * sz := Nat.mul_le_mul_right _ hmq
      rw [Nat.add_mul] at hmul
      have hlen : (Builtin.zeroCells z2.cells q).toList.length = q * sz := by rw [Array.length_toList, zeroCells_size, hz]
      have hone : ∀ v ∈ (Builtin.zeroCells z2.cells q).toList, v.oneCell' = true := fun v hv => by
        simp only [Builtin.zeroCells, Array.toList_map, List.mem_map] at hv
        obtain ⟨r, hr, rfl⟩ := hv
        have hq' : r < q * z2.cells.size := by simpa using hr
        have hpos : 0 < z2.cells.size := by
          rcases Nat.eq_zero_or_pos z2.cells.size with h | h
          · rw [h] at hq'; simp at hq'
          · exact h
        have hlt : r % z2.cells.size < z2.cells.size := Nat.mod_lt _ hpos
        rw [getElem!_pos z2.cells _ hlt]
        exact List.all_eq_true.1 hz1 _ (by simp)
      obtain ⟨w', rc', g1, g2, g3, g4, g5, g6, g7, g8, g9⟩ := run_storeCells (P := P) b el' fr (off + m * sz) (Builtin.zeroCells z2.cells q).toList 0 w rc h2 h3 hone (by rw [hlen]; omega)
      refine ⟨.tuple #[], .junk, _, w', I, ?_, .refl I, hk, .junk _, ?_⟩
      · rw [hrun, h1, hso]
        obtain ⟨r, rfl⟩ : ∃ r, q = r + 1 := ⟨q - 1, by omega⟩
        simp [Builtin.clear_, run_underlying hf.slice, hel.run_zero, g1]
      · refine Sat.unpull hm (hp.change (m' := .arr (.slice (some ⟨b, off, none⟩) m' cap) sz (es.take m')) (fun k hk hnk => g5 k (by simpa [MObj.blocks] using hnk)) (fun k hk => .inl hk) (by simp [MObj.blocks]) ?_ g7 g8 g9.1 (Nat.le_of_eq g9.2.symm))
        have hl : (es.take m').length = m' := by simp; omega
        refine .inr ⟨b, off, cap, rc', el', fr, by rw [hl], g2, by rw [g3]; exact h3, fun e he => h4 e (List.mem_of_mem_take he), by omega, by rw [g3]; exact h6, fun p q' y c v a1 a2 a3 => ?_⟩
        have hi := lt_of_get a1
        rw [List.getElem?_take_of_lt (by omega)] at a1
        have hq := lt_of_get a2
        rw [h4 y (List.mem_of_getElem? a1)] at hq
        have hpm : (p + 1) * sz ≤ m * sz := Nat.mul_le_mul_right _ (by omega)
        rw [Nat.add_mul] at hpm
        rw [g4, if_neg (by omega)] at a3
        exact h7 p q' y c v a1 a2 a3
theorem run_boundsc {I : Imm} {a : Act} {o : Oper} (ho : Opds I e a o) {lo hi : Option Operand} (hlo : ∀ x, lo = some x → x ∈ o.op.operands) (hhi : ∀ x, hi = some x → x ∈ o.op.operands)
    {len cap l h : Nat} (h1 : BoundIs e lo 0 l) (h2 : BoundIs e hi len h) (h3 : l ≤ h) (h4 : h ≤ cap) (b : Bool) (w : World) :
    (Instr.sliceBounds b len cap (lo.map a.eval) (hi.map a.eval) none).run P w = .ok (l, h, cap) w := by
  unfold Instr.sliceBounds
  cases lo with
  | none =>
    simp only [BoundIs] at h1
    subst h1
    cases hi with
    | none => simp only [BoundIs] at h2; subst h2; simp
    | some y =>
      obtain ⟨k, i, h6, rfl⟩ := h2
      have h7 := (ho.one (hhi y rfl) h6).int_inv
      simp [h7, run_sliceBound h4]
  | some x =>
    obtain ⟨k', i', h8, rfl⟩ := h1
    have h9 := (ho.one (hlo x rfl) h8).int_inv
    cases hi with
    | none => simp only [BoundIs] at h2; subst h2; simp [h9, run_sliceBound h3]
    | some y =>
      obtain ⟨k, i, h6, rfl⟩ := h2
      have h7 := (ho.one (hhi y rfl) h6).int_inv
      simp [h7, h9, run_sliceBound h4, run_sliceBound h3]
/-- A slice whose header is known is cut, within its capacity. -/
theorem pop_slrawc {x : Operand} {lo hi : Option Operand} {t el : TypeId} {size bytes sz b2 : Nat} {zero z2 : Value} {d : TD} {b off n cap l h : Nat}
    (hf : Fits P t (.slice el) size bytes zero) (hel : Fits P el d sz b2 z2) (hx : evalO e x = some (.raw (.slice (some ⟨b, off, none⟩) n cap))) (hlo : BoundIs e lo 0 l) (hhi : BoundIs e hi n h) (h1 : l ≤ h) (h2 : h ≤ cap) :
    POp P e ⟨dst, .slice t x lo hi none, ty, pos, af, g⟩ (.raw (.slice (some ⟨b, slOff cap off sz l, none⟩) (h - l) (cap - l))) :=
  POp.of_val fun I a w ho => by
    have h3 := (ho.one (x := x) (by simp [Op.operands]) hx).raw_inv
    have hb : (Instr.sliceBounds true n cap (Option.map a.eval lo) (Option.map a.eval hi) none).run P w = .ok (l, h, cap) w :=
      run_boundsc (P := P) (e := e) (lo := lo) (hi := hi) (l := l) (h := h) (len := n) (cap := cap) ho (by intro y hy; simp [Op.operands, hy]) (by intro y hy; simp [Op.operands, hy]) hlo hhi h1 h2 true w
    refine ⟨_, ?_, .raw _ rfl⟩
    simp [execOp, Instr.sliceAt, run_underlying hf.slice, h3, Instr.slice, hb, hel.run_sizeOf, slOff]
    try (split <;> simp_all [addr_add])
    try omega
/-- s[:h] -/
theorem pop_slraw0 {x : Operand} {hi : Option Operand} {t el : TypeId} {size bytes sz b2 : Nat} {zero z2 : Value} {d : TD} {b off n cap h : Nat}
    (hf : Fits P t (.slice el) size bytes zero) (hel : Fits P el d sz b2 z2) (hx : evalO e x = some (.raw (.slice (some ⟨b, off, none⟩) n cap))) (hhi : BoundIs e hi n h) (h2 : h ≤ cap) :
    POp P e ⟨dst, .slice t x none hi none, ty, pos, af, g⟩ (.raw (.slice (some ⟨b, off, none⟩) h cap)) := by
  have := pop_slrawc (P := P) (dst := dst) (ty := ty) (pos := pos) (af := af) (g := g) (lo := none) (l := 0) hf hel hx rfl hhi (Nat.zero_le _) h2
  have e1 : slOff cap off sz 0 = off := by unfold slOff; split <;> omega
  rwa [e1, Nat.sub_zero, Nat.sub_zero] at this
end
end Go.HL
end
section
namespace Go.HL
section
variable {P : Program} {ops : Array Oper} {n : Nat} {S : List MObj → Prop} {ld : List Nat} {K : Env → List MObj → Prop} {e : Env} {M : List MObj} {listed : Array Bool} {fuel : Nat} {d : Nat} {op : Op} {ty : TypeId} {pos : String} {af : Array Edge} {h : HVal}
end
theorem some_int {k : IntKind} {a b : Int} (h : a = b) : some (HVal.int k a) = some (.int k b) := by rw [h]
section
variable {α : Type} {c : α → α → Int}
end
end Go.HL
namespace Go.HL
section
variable {α : Type} {p : α → Bool}
/-- What slices.DeleteFunc has done when it looks at place j. -/
structure DelInv (p : α → Bool) (l : List α) (j : Nat) (D : List α) : Prop where
  len : D.length = l.length
  jle : j ≤ l.length
  lt : ((l.take j).filter (fun x => !p x)).length < j
  kept : D.take ((l.take j).filter (fun x => !p x)).length = (l.take j).filter (fun x => !p x)
  rest : D.drop j = l.drop j
theorem filter_snoc {l : List α} {j : Nat} {x : α} (hx : l[j]? = some x) : (l.take (j + 1)).filter (fun x => !p x) = (l.take j).filter (fun x => !p x) ++ if p x then [] else [x] := by
  rw [take_snoc' hx, List.filter_append]
  by_cases h : p x <;> simp [h]
theorem DelInv.get {l D : List α} {j : Nat} {x : α} (h : DelInv p l j D) (hx : l[j]? = some x) : D[j]? = some x := by
  have h1 := congrArg (fun t => t[0]?) h.rest
  simp only [List.getElem?_drop, Nat.add_zero] at h1
  rw [h1]; exact hx
theorem DelInv.drop1 {l D : List α} {j : Nat} (h : DelInv p l j D) : D.drop (j + 1) = l.drop (j + 1) := by
  have := congrArg (List.drop 1) h.rest
  simpa [List.drop_drop] using this
theorem DelInv.skip {l D : List α} {j : Nat} {x : α} (h : DelInv p l j D) (hx : l[j]? = some x) (hp : p x = true) : DelInv p l (j + 1) D ∧ ((l.take (j + 1)).filter (fun x => !p x)).length = ((l.take j).filter (fun x => !p x)).length := by
  have e := filter_snoc (p := p) hx
  rw [if_pos hp, List.append_nil] at e
  refine ⟨⟨h.len, by have := lt_of_get hx; omega, by rw [e]; have := h.lt; omega, by rw [e]; exact h.kept, h.drop1⟩, by rw [e]⟩
theorem DelInv.keep {l D : List α} {j : Nat} {x : α} (h : DelInv p l j D) (hx : l[j]? = some x) (hp : p x = false) :
    DelInv p l (j + 1) (D.set ((l.take j).filter (fun x => !p x)).length x) ∧ ((l.take (j + 1)).filter (fun x => !p x)).length = ((l.take j).filter (fun x => !p x)).length + 1 := by
  have e := filter_snoc (p := p) hx
  rw [if_neg (by simp [hp])] at e
  have hlt := h.lt
  have hj := lt_of_get hx
  have hl := h.len
  have el : ((l.take (j + 1)).filter (fun x => !p x)).length = ((l.take j).filter (fun x => !p x)).length + 1 := by rw [e]; simp
  refine ⟨⟨by simp [hl], by omega, by omega, ?_, ?_⟩, el⟩
  · rw [el, e]
    have hk := h.kept
    generalize ((l.take j).filter (fun x => !p x)) = F at *
    rw [take_snoc' (List.getElem?_set_self (by omega)), List.take_set_of_le (Nat.le_refl _), hk]
  · rw [List.drop_set_of_lt (by omega)]; exact h.drop1
theorem idxF_found (p : α → Bool) : ∀ (l : List α) (k : Int), 0 ≤ k → idxF p l k ≠ -1 → ∃ i : Nat, idxF p l k = k + i ∧ i < l.length ∧ (∃ x, l[i]? = some x ∧ p x = true) ∧ ∀ y ∈ l.take i, p y = false
  | [], k, _, h => by simp [idxF] at h
  | x :: r, k, h0, h => by
    by_cases hx : p x = true
    · exact ⟨0, by simp [idxF, hx], by simp, ⟨x, rfl, hx⟩, by simp⟩
    · have e : idxF p (x :: r) k = idxF p r (k + 1) := by simp [idxF, hx]
      rw [e] at h ⊢
      obtain ⟨i, h1, h2, ⟨y, h3, h4⟩, h5⟩ := idxF_found p r (k + 1) (by omega) h
      refine ⟨i + 1, by rw [h1]; simp; omega, by simp; omega, ⟨y, by simpa using h3, h4⟩, fun z hz => ?_⟩
      simp only [List.take_succ_cons, List.mem_cons] at hz
      rcases hz with rfl | hz
      · simpa using hx
      · exact h5 z hz
theorem idxF_none (p : α → Bool) : ∀ (l : List α) (k : Int), 0 ≤ k → idxF p l k = -1 → l.filter (fun x => !p x) = l
  | [], _, _, _ => rfl
  | x :: r, k, h0, h => by
    by_cases hx : p x = true
    · simp [idxF, hx] at h; omega
    · have e : idxF p (x :: r) k = idxF p r (k + 1) := by simp [idxF, hx]
      rw [e] at h
      rw [List.filter_cons, if_pos (by simp [hx]), idxF_none p r (k + 1) (by omega) h]
theorem DelInv.start {l : List α} {i : Nat} {x : α} (hi : i < l.length) (hx : l[i]? = some x) (hp : p x = true) (hb : ∀ y ∈ l.take i, p y = false) : DelInv p l (i + 1) l ∧ ((l.take (i + 1)).filter (fun x => !p x)).length = i := by
  have e := filter_snoc (p := p) hx
  rw [if_pos hp, List.append_nil, (List.filter_eq_self (l := l.take i) (p := fun x => !p x)).2 (fun y hy => by simp [hb y hy])] at e
  have hl : (l.take i).length = i := by simp; omega
  refine ⟨⟨rfl, by omega, by rw [e]; omega, by rw [e, hl], rfl⟩, by rw [e, hl]⟩
theorem DelInv.done {l D : List α} (h : DelInv p l l.length D) : D.take (l.filter (fun x => !p x)).length = l.filter (fun x => !p x) := by
  have := h.kept
  rwa [List.take_length] at this
end
theorem slOff_or {cap off sz m n : Nat} (h1 : m ≤ n) (h2 : n ≤ cap) : n - m = 0 ∨ slOff cap off sz m = off + m * sz := by
  unfold slOff
  by_cases h : cap = m
  · exact .inl (by omega)
  · exact .inr (by rw [if_neg h])
end Go.HL
namespace Go.HL
end Go.HL
end
section
namespace Go.HL
abbrev RunH (r : Room) (A T l : List Pick) (S : List Str) : List HVal := [.vptr (hcells (eRoom r)) 0, ePicks A, ePicks T, ePicks l, hset S]
abbrev RunM (b m : Nat) (va v : Value) (r : Room) (A T l : List Pick) (S : List Str) : List MObj :=
  [.cells b [.vptr (hcells (eRoom r)) 0, .raw va, ePicks T, .raw v, .raw (.map (some m))], .arr va 5 (A.map ePick), .arr v 5 (l.map ePick), .map m (sk (mset S))]
theorem bowRun0 {b m : Nat} {va v : Value} {r : Room} {A T l : List Pick} {S : List Str} : Bow (RunM b m va v r A T l S) (pAt b) (.vptr (RunH r A T l S) 0) :=
  .cellsL (i := 0) rfl ⟨.refl, .arr (i := 1) rfl, .refl, .arr (i := 2) rfl, .map (i := 3) (L := mset S) rfl, trivial⟩
theorem lastAt_z {r : Room} {l : List Pick} (h : l = []) : lastAt r l = r.Start := by subst h; rfl
theorem lastAt_n {r : Room} {l : List Pick} (h : ¬ l = []) : lastAt r l = (l.getD (l.length - 1) pick0).At := by
  have h0 : 0 < l.length := List.length_pos_iff.2 h
  have e : l.getLast? = some (l.getD (l.length - 1) pick0) := by rw [List.getLast?_eq_getElem?, getD_some (d := pick0) (by omega)]
  simp only [lastAt, e]
theorem drop_get {α : Type} {l : List α} {n : Nat} {d : α} (h : n < l.length) : (l.drop n)[0]? = some (l.getD n d) := by
  rw [List.getElem?_drop]; exact getD_some h
theorem open_pos {r : Room} {k : List Keep} {s : List Swap} (h : RoomOk r) : 0 < (open1 r k s).length := by
  unfold open1; rw [openFrom_len]; unfold turns; rw [turnsFrom_len]
  exact Nat.mul_pos (by have := h.r1; omega) h.t0
theorem run_start {r : Room} {k : List Keep} {s : List Swap} {S : List Str} (h : openFault r k s = 0) (hS : ∀ x, S.contains x = (open1 r k s).any fun p => !(p.Player == []) && p.Player == x) : RunOk r k s [] S := ⟨fun x hx => by
  have hne := (room_ok (openFault_ok h).1).ne x hx
  rw [hS x, goneB, ← open_any h hne]
  simp only [List.any_nil, Bool.or_false]
  congr 1; funext p
  by_cases e : p.Player = x
  · subst e; simp [hne]
  · have : (p.Player == x) = false := by simpa using e
    rw [this]; simp⟩
theorem any_snoc {α : Type} (q : α → Bool) {l : List α} {i : Nat} {x : α} (hx : l[i]? = some x) : (l.take (i + 1)).any q = ((l.take i).any q || q x) := by
  rw [take_snoc' hx]; simp
theorem filter_snoc1 {α : Type} (q : α → Bool) {l : List α} {i : Nat} {x : α} (hx : l[i]? = some x) : (l.take (i + 1)).filter q = (l.take i).filter q ++ if q x then [x] else [] := by
  rw [take_snoc' hx, List.filter_append]; congr 1; simp [List.filter_cons]
def dueI (r : Room) (T l : List Pick) : Int := if T.isEmpty || !(moment (lastAt r l + r.Clock)) then 0 else lastAt r l + r.Clock
def dueD (r : Room) (T l : List Pick) : Bool := !(T.isEmpty || !(moment (lastAt r l + r.Clock)))
section
variable {r : Room} {w : List Wish} {k : Nat} {x : Wish} {t : List Wish}
end
theorem left_mem {r : Room} {k : List Keep} {l : List Pick} {s : Str} (h : s ∈ r.Players) : s ∈ leftL r k l ↔ goneB k l s = false := by
  simp [leftL, h]
def nextP (r : Room) (k : List Keep) (s : List Swap) (l : List Pick) : Pick := if l.length < (freeP r k s).length then (freeP r k s).getD l.length pick0 else pick0
def dueN (r : Room) (k : List Keep) (s : List Swap) (l : List Pick) : Int := if l.length < (freeP r k s).length ∧ moment (lastAt r l + r.Clock) = true then lastAt r l + r.Clock else -1
theorem b_true {b : Bool} (h : ¬ b = false) : b = true := by cases b <;> simp_all
structure GoodPicks (l : List Pick) : Prop where
  len : l.length ≤ 10
end Go.HL
end
section
namespace Go.Proofs.YtoomadfbldcioaaGreatDoor
open Go.HL
set_option maxRecDepth 100000
set_option linter.unusedVariables false
set_option linter.unusedSimpArgs false
/-- slices.IndexFunc[[]string,string] -/
theorem c_slices_IndexFunc_string_string {l : List Str} {fid : FuncId} {caps : List HVal} {p : Str → Bool} (hca : Callable Tryz.prog fid) (hp : ∀ x, ConP Tryz.prog fid ([HVal.str x] ++ caps) (.bool (p x))) (hl : l.length ≤ 1000000) : ConP Tryz.prog 104 [.slice 1 (l.map HVal.str), .fn (.func fid) [] caps] (.int .i64 (idxF p l 0)) := by
  refine Con.of_body Tryz.func104 rfl Tryz.ntmps104 rfl rfl ?_
  refine hw_reg ?_
  refine dp rfl (pop_assign rfl) ?_
  refine dn ?_
  refine hw_seq ?_
  refine hw_reg ?_
  refine dp rfl (pop_move rfl) ?_
  refine dp rfl (pop_lenm ty26 rfl) ?_
  refine dp rfl (pop_move rfl) ?_
  refine dn ?_
  refine hw_block ?_
  refine hw_loopw [4, 5, 8, 9, 10, 11, 12, 13, 14, 15, 16, 17, 18] (fun (k : Nat) => [(8, .int .i64 k)]) (fun (k : Nat) => []) (fun (k : Nat) => k ≤ l.length ∧ (idxF p l 0 = idxF p (l.drop k) k)) (fun (k : Nat) => l.length - k) (0) ?_ ?_ ?_ ?_
  · exact ⟨Nat.zero_le _, rfl⟩
  · exact ⟨rfl, trivial⟩
  · exact List.Perm.refl _
  · intro k hinv
    obtain ⟨hk, hg⟩ := hinv
    refine hw_reg ?_
    refine dp rfl (pop_lss rfl rfl) ?_
    refine dn ?_
    refine hw_seq ?_
    refine hw_cond rfl (fun h1 => ?_) (fun h2 => ?_)
    · try simp at h1
      obtain ⟨x, hx⟩ : ∃ x, l[k]? = some x := ⟨_, List.getElem?_eq_getElem h1⟩
      have hdx := drop_cons hx
      rw [hdx] at hg
      refine hw_skip ?_
      refine seqQ_n ?_
      refine hw_seq ?_
      refine hw_block ?_
      refine hw_reg ?_
      refine dp rfl (pop_move rfl) ?_
      refine dp rfl (pop_assign rfl) ?_
      refine dn ?_
      refine hw_reg ?_
      refine dp rfl (pop_move rfl) ?_
      refine dp rfl (pop_move rfl) ?_
      refine dp rfl (pop_move rfl) ?_
      refine dp rfl (pop_idx ty26 ty9 rfl rfl rfl (by first | assumption | simp_all)) ?_
      refine dp rfl (pop_load ty9 rfl rfl rfl) ?_
      refine dp rfl (pop_callv hca rfl rfl (WeakL.refl _) (hp _)) ?_
      refine dn ?_
      refine hw_cond rfl (fun h3 => ?_) (fun h4 => ?_)
      · try simp at h3
        refine hw_reg ?_
        refine dp rfl (pop_move rfl) ?_
        refine dp rfl (pop_assign rfl) ?_
        refine dn ?_
        refine hw_ret ?_
        refine ret_p rfl ?_
        show HVal.int .i64 _ = _
        first | (rw [hg]; rfl) | (rw [hg]; simp_all [idxF])
      · try simp at h4
        refine hw_skip ?_
        refine blockQ_n ?_
        refine seqQ_n ?_
        refine hw_reg1 ?_
        refine dp rfl (pop_add64 rfl rfl (by omega) (by omega)) ?_
        refine dp rfl (pop_move rfl) ?_
        refine dn ?_
        refine ⟨k + 1, ?_, ?_, ⟨rfl, trivial⟩, (by repeat (first | exact keeps_refl | refine keeps_upd rfl ?_ | refine keeps_loop rfl rfl ?_)), List.Perm.refl _⟩
        · refine ⟨by omega, ?_⟩
          rw [hg, idxF, if_neg (by simp_all)]; rfl
        · dsimp only; omega
    · try simp at h2
      have hnk : l.length ≤ k := by omega
      obtain rfl : k = l.length := by omega
      rw [drop_all (Nat.le_refl _)] at hg
      refine hw_exit ?_
      refine seqQ_x ?_
      refine loopQ_x ?_
      refine blockQ_eq ?_
      refine seqQ_n ?_
      refine hw_reg ?_
      refine dp rfl (pop_assign rfl) ?_
      refine dn ?_
      refine hw_ret ?_
      refine ret_p rfl ?_
      show HVal.int .i64 _ = _
      first | (rw [hg]; rfl) | (rw [hg]; simp_all [idxF])

/-- slices.DeleteFunc[[]string,string] -/
theorem c_slices_DeleteFunc_string_string {l : List Str} {fid : FuncId} {caps : List HVal} {p : Str → Bool} {v : Value} (hca : Callable Tryz.prog fid) (hp : ∀ x, ConP Tryz.prog fid ([HVal.str x] ++ caps) (.bool (p x))) (hl : l.length ≤ 1000000) : Con Tryz.prog 74 [.raw v, .fn (.func fid) [] caps] [.arr v 1 (l.map HVal.str)] (fun x M' => ∃ u, x = .raw u ∧ M' = [.arr u 1 ((l.filter (fun x => !p x)).map HVal.str)]) := by
  refine Con.of_body Tryz.func74 rfl Tryz.ntmps74 rfl rfl ?_
  refine hw_reg ?_
  refine dp rfl (pop_assign rfl) ?_
  refine dn ?_
  refine hw_reg ?_
  refine dp rfl (pop_move rfl) ?_
  refine dp rfl (pop_move rfl) ?_
  refine de rfl (eop_callb (hs' := [.slice 1 (l.map HVal.str), .fn (.func fid) [] caps]) ca104 rfl ⟨.arr (i := 0) rfl, .weak (Weak.refl _), trivial⟩ (c_slices_IndexFunc_string_string (p := p) hca hp hl) rfl ?_)
  refine dp rfl (pop_assign rfl) ?_
  refine dn ?_
  refine hw_seq ?_
  refine hw_reg ?_
  refine dp rfl (pop_move rfl) ?_
  refine dp rfl (pop_eql rfl rfl) ?_
  refine dn ?_
  refine hw_cond rfl (fun h1 => ?_) (fun h2 => ?_)
  · try simp at h1
    refine hw_reg ?_
    refine dp rfl (pop_move rfl) ?_
    refine dp rfl (pop_assign rfl) ?_
    refine dn ?_
    refine hw_ret ?_
    first
    | (refine ret_q rfl ⟨_, rfl, ?_⟩
       rw [idxF_none p l 0 (by omega) h1]
       done)
    | (refine ret_q rfl ⟨_, rfl, ?_⟩
       rw [List.take_length, ← List.map_take, hend]; rfl)
  · try simp at h2
    refine hw_skip ?_
    refine seqQ_n ?_
    refine hw_seq ?_
    obtain ⟨i0, hi0, hil, ⟨x0, hx0, hp0⟩, hb0⟩ := idxF_found p l 0 (by omega) h2
    rw [Int.zero_add] at hi0
    obtain ⟨hD0, hn0⟩ := DelInv.start (p := p) hil hx0 hp0 hb0
    refine hw_arrc (i := 0) rfl (fun h0 he => ?_) (fun b off cap hv hcap => ?_)
    · exfalso; have := congrArg List.length he; simp at this; subst this; simp at hil
    rw [List.length_map] at hv hcap
    subst hv
    refine hw_reg ?_
    refine dp rfl (pop_move rfl) ?_
    refine dp rfl (pop_eq (pop_add64 rfl rfl (by rw [hi0]; omega) (by rw [hi0]; omega)) (congrArg _ (by rw [hi0]))) ?_
    refine dp rfl (pop_assign rfl) ?_
    refine dn ?_
    refine hw_block ?_
    refine hw_loopw2 [5, 6, 7, 16, 17, 18, 19, 20, 21, 22, 23, 24, 25, 26, 27, 28, 29, 30, 31, 32, 33, 34, 35] (fun (j : Nat) (D : List Str) => [(6, .int .i64 (j : Int)), (5, .int .i64 (((l.take j).filter (fun x => !p x)).length : Int))]) (fun (j : Nat) (D : List Str) => [.arr (.slice (some ⟨b, off, none⟩) l.length cap) 1 (D.map HVal.str)]) (fun (j : Nat) (D : List Str) => DelInv p l j D) (fun (j : Nat) (D : List Str) => l.length - j) (i0 + 1) (l) ?_ ?_ ?_ ?_
    · exact hD0
    · exact ⟨rfl, some_int (by rw [hn0, hi0]), trivial⟩
    · exact List.Perm.refl _
    · intro j D hD
      have hlt0 := hD.lt
      have hle0 := hD.len
      refine hw_seq ?_
      refine hw_reg ?_
      refine dp rfl (pop_move rfl) ?_
      refine dp rfl (pop_move rfl) ?_
      first
      | refine de rfl (eop_lenm (i := 0) ty26 rfl rfl ?_)
      | refine de rfl (eop_lenm (i := 1) ty26 rfl rfl ?_)
      | refine de rfl (eop_lenm (i := 2) ty26 rfl rfl ?_)
      | refine de rfl (eop_lenm (i := 3) ty26 rfl rfl ?_)
      refine dp rfl (pop_lss rfl rfl) ?_
      refine dn ?_
      refine hw_cond rfl (fun h3 => ?_) (fun h4 => ?_)
      · try simp at h3
        obtain ⟨x, hx⟩ : ∃ x, l[j]? = some x := ⟨_, List.getElem?_eq_getElem (by omega)⟩
        refine hw_skip ?_
        refine seqQ_n ?_
        refine hw_seq ?_
        refine hw_block ?_
        refine hw_reg ?_
        refine dp rfl (pop_move rfl) ?_
        refine dp rfl (pop_move rfl) ?_
        refine dp rfl (pop_idxraw (j := j) ty26 ty9 rfl rfl rfl (by omega)) ?_
        refine de rfl (eop_load_el (i := 0) (j := j) 0 ty9 rfl rfl rfl (hD.get hx) rfl rfl ?_)
        refine dp rfl (pop_assign rfl) ?_
        refine dn ?_
        refine hw_reg ?_
        refine dp rfl (pop_move rfl) ?_
        refine dp rfl (pop_move rfl) ?_
        refine dp rfl (pop_callv hca rfl rfl (WeakL.refl _) (hp _)) ?_
        refine dp rfl (pop_not rfl) ?_
        refine dn ?_
        refine hw_cond rfl (fun h5 => ?_) (fun h6 => ?_)
        · try simp at h5
          refine hw_reg ?_
          refine dp rfl (pop_move rfl) ?_
          refine dp rfl (pop_move rfl) ?_
          refine dp rfl (pop_move rfl) ?_
          refine dp rfl (pop_idxraw (j := ((l.take j).filter (fun x => !p x)).length) ty26 ty9 rfl rfl rfl (by have := hD.lt; omega)) ?_
          refine de0 (eop_store_elw (i := 0) (j := ((l.take j).filter (fun x => !p x)).length) (y := D[((l.take j).filter (fun x => !p x)).length]'(by have := hD.lt; have := hD.len; omega)) (y' := x) ty9 rfl rfl rfl rfl (List.getElem?_eq_getElem _) rfl rfl rfl ?_)
          refine dn ?_
          refine hw_reg1 ?_
          refine dp rfl (pop_move rfl) ?_
          refine dp rfl (pop_add64 rfl rfl (by omega) (by have := hD.lt; omega)) ?_
          refine dp rfl (pop_assign rfl) ?_
          refine dn ?_
          refine blockQ_n ?_
          refine seqQ_n ?_
          refine hw_reg1 ?_
          refine dp rfl (pop_move rfl) ?_
          refine dp rfl (pop_add64 rfl rfl (by omega) (by omega)) ?_
          refine dp rfl (pop_assign rfl) ?_
          refine dn ?_
          first
          | exact ⟨j + 1, _, (hD.keep hx (by simp_all)).1, by dsimp only; omega, ⟨rfl, some_int (by rw [(hD.keep hx (by simp_all)).2]; rfl), trivial⟩, (by repeat (first | exact keeps_refl | refine keeps_upd rfl ?_ | refine keeps_loop rfl rfl ?_)), List.Perm.refl _⟩
          | exact ⟨j + 1, _, (hD.skip hx (by simp_all)).1, by dsimp only; omega, ⟨rfl, some_int (by rw [(hD.skip hx (by simp_all)).2]), trivial⟩, (by repeat (first | exact keeps_refl | refine keeps_upd rfl ?_ | refine keeps_loop rfl rfl ?_)), List.Perm.refl _⟩
        · try simp at h6
          refine hw_skip ?_
          refine blockQ_n ?_
          refine seqQ_n ?_
          refine hw_reg1 ?_
          refine dp rfl (pop_move rfl) ?_
          refine dp rfl (pop_add64 rfl rfl (by omega) (by omega)) ?_
          refine dp rfl (pop_assign rfl) ?_
          refine dn ?_
          first
          | exact ⟨j + 1, _, (hD.keep hx (by simp_all)).1, by dsimp only; omega, ⟨rfl, some_int (by rw [(hD.keep hx (by simp_all)).2]; rfl), trivial⟩, (by repeat (first | exact keeps_refl | refine keeps_upd rfl ?_ | refine keeps_loop rfl rfl ?_)), List.Perm.refl _⟩
          | exact ⟨j + 1, _, (hD.skip hx (by simp_all)).1, by dsimp only; omega, ⟨rfl, some_int (by rw [(hD.skip hx (by simp_all)).2]), trivial⟩, (by repeat (first | exact keeps_refl | refine keeps_upd rfl ?_ | refine keeps_loop rfl rfl ?_)), List.Perm.refl _⟩
      · try simp at h4
        obtain rfl : j = l.length := by have := hD.jle; omega
        have hend := hD.done
        refine hw_exit ?_
        refine seqQ_x ?_
        refine loopQ2_x ?_
        refine blockQ_eq ?_
        refine seqQ_n ?_
        refine hw_reg ?_
        refine dp rfl (pop_move rfl) ?_
        refine dp rfl (pop_move rfl) ?_
        refine dp rfl (pop_slraw (l := ((l.take l.length).filter (fun x => !p x)).length) ty26 ty9 rfl ⟨_, _, rfl, rfl⟩ rfl (by omega) (by omega) hcap) ?_
        refine de0 (eop_clear_at (i := 0) (m := ((l.take l.length).filter (fun x => !p x)).length) (((l.take l.length).filter (fun x => !p x)).length) ty26 ty9 rfl rfl rfl (slOff_or (by omega) hcap) rfl (by omega) (Nat.le_refl _) (by rw [List.length_map, hD.len]; omega) ?_)
        refine dn ?_
        refine hw_reg ?_
        refine dp rfl (pop_move rfl) ?_
        refine dp rfl (pop_move rfl) ?_
        refine dp rfl (pop_slraw0 (h := ((l.take l.length).filter (fun x => !p x)).length) ty26 ty9 rfl ⟨_, _, rfl, rfl⟩ (by omega)) ?_
        refine dp rfl (pop_assign rfl) ?_
        refine dn ?_
        refine hw_ret ?_
        first
        | (refine ret_q rfl ⟨_, rfl, ?_⟩
           rw [idxF_none p l 0 (by omega) h1]
           done)
        | (refine ret_q rfl ⟨_, rfl, ?_⟩
           rw [List.take_length, ← List.map_take, hend]; rfl)

/-- (*benchwarmer/draft.run).last -/
theorem c_draft_run_last {r : Room} {A T l : List Pick} {S : List Str}  (hl : l.length ≤ 1000000) : ConP Tryz.prog 64 [.vptr (RunH r A T l S) 0] (.int .i64 (lastAt r l)) := by
  refine Con.of_body Tryz.func64 rfl Tryz.ntmps64 rfl rfl ?_
  refine hw_reg ?_
  refine dp rfl (pop_assign rfl) ?_
  refine dn ?_
  refine hw_seq ?_
  refine hw_reg ?_
  refine dp rfl (pop_move rfl) ?_
  refine dp rfl ((by first | exact pop_nilCheck rfl | exact pop_nilCheck_raw rfl)) ?_
  refine dp rfl (pop_fieldAddr ty113 rfl ty36 (by decide) rfl) ?_
  refine dp rfl (pop_load ty36 rfl rfl rfl) ?_
  refine dp rfl (pop_lenm ty36 rfl) ?_
  refine dp rfl (pop_eql rfl rfl) ?_
  refine dn ?_
  refine hw_cond rfl (fun h1 => ?_) (fun h2 => ?_)
  · try simp at h1
    refine hw_reg ?_
    refine dp rfl (pop_move rfl) ?_
    refine dp rfl ((by first | exact pop_nilCheck rfl | exact pop_nilCheck_raw rfl)) ?_
    refine dp rfl (pop_fieldAddr ty113 rfl ty106 (by decide) rfl) ?_
    refine dp rfl (pop_load ty106 rfl rfl rfl) ?_
    refine dp rfl ((by first | exact pop_nilCheck rfl | exact pop_nilCheck_raw rfl)) ?_
    refine dp rfl (pop_fieldAddr ty28 rfl ty3 (by decide) rfl) ?_
    refine dp rfl (pop_load ty3 rfl rfl rfl) ?_
    refine dp rfl (pop_assign rfl) ?_
    refine dn ?_
    refine hw_ret ?_
    refine ret_p rfl ?_
    show HVal.int .i64 _ = _
    first | (rw [lastAt_z h1]; done) | (rw [lastAt_n h2])
  · try simp at h2
    refine hw_skip ?_
    refine seqQ_n ?_
    have hl0 : 0 < l.length := List.length_pos_iff.2 h2
    refine hw_draw (fun _ => True) [] mixed ?_
    refine ahp 0 rfl rfl (by kernel_rfl) (by kernel_rfl) (pop_move rfl) ?_
    refine ahp 1 rfl rfl (by kernel_rfl) (by kernel_rfl) ((by first | exact pop_nilCheck rfl | exact pop_nilCheck_raw rfl)) ?_
    refine ahp 2 rfl rfl (by kernel_rfl) (by kernel_rfl) (pop_fieldAddr ty113 rfl ty36 (by decide) rfl) ?_
    refine ahp 3 rfl rfl (by kernel_rfl) (by kernel_rfl) (pop_load ty36 rfl rfl rfl) ?_
    refine ahp 4 rfl rfl (by kernel_rfl) (by kernel_rfl) (pop_move rfl) ?_
    refine ahp 5 rfl rfl (by kernel_rfl) (by kernel_rfl) ((by first | exact pop_nilCheck rfl | exact pop_nilCheck_raw rfl)) ?_
    refine ahp 6 rfl rfl (by kernel_rfl) (by kernel_rfl) (pop_fieldAddr ty113 rfl ty36 (by decide) rfl) ?_
    refine ahp 7 rfl rfl (by kernel_rfl) (by kernel_rfl) (pop_load ty36 rfl rfl rfl) ?_
    refine ahp 8 rfl rfl (by kernel_rfl) (by kernel_rfl) (pop_lenm ty36 rfl) ?_
    refine ahp 9 rfl rfl (by kernel_rfl) (by kernel_rfl) (pop_sub64 rfl rfl (by omega) (by omega)) ?_
    refine ahp 10 rfl rfl (by kernel_rfl) (by kernel_rfl) (pop_idx (j := l.length - 1) (a := l.getD (l.length - 1) pick0) ty36 ty55 rfl rfl (by omega) (getD_some (by omega))) ?_
    refine ahp 11 rfl rfl (by kernel_rfl) (by kernel_rfl) (pop_fieldAddr ty55 rfl ty3 (by decide) rfl) ?_
    refine ahp 12 rfl rfl (by kernel_rfl) (by kernel_rfl) (pop_load ty3 rfl rfl rfl) ?_
    refine ahp 13 rfl rfl (by kernel_rfl) (by kernel_rfl) (pop_assign rfl) ?_
    refine ahz (by kernel_rfl) ?_
    refine hw_ret ?_
    refine ret_p rfl ?_
    show HVal.int .i64 _ = _
    first | (rw [lastAt_z h1]; done) | (rw [lastAt_n h2])

/-- (*benchwarmer/draft.run).fault -/
theorem c_draft_run_fault {r : Room} {k : List Keep} {s : List Swap} {A T l : List Pick} {S : List Str} {fr : List Pick} {p : Pick} (hl : l.length ≤ 1000000) (hT : T = fr.drop l.length) (h0 : l.length < fr.length) (ok : RunOk r k s l S) (hpl : r.Players.length ≤ 1000000) (hso : SortedS r.Players) : ConP Tryz.prog 108 [.vptr (RunH r A T l S) 0, ePick p] (.int .i64 (pkF r k fr l p)) := by
  subst hT
  refine Con.of_body Tryz.func108 rfl Tryz.ntmps108 rfl rfl ?_
  refine hw_reg ?_
  refine dp rfl (pop_box rfl rfl) ?_
  refine dp rfl (pop_assign rfl) ?_
  refine dn ?_
  refine hw_seq ?_
  refine hw_reg ?_
  refine dp rfl (pop_move rfl) ?_
  refine dp rfl ((by first | exact pop_nilCheck rfl | exact pop_nilCheck_raw rfl)) ?_
  refine dp rfl (pop_fieldAddr ty113 rfl ty36 (by decide) rfl) ?_
  refine dp rfl (pop_load ty36 rfl rfl rfl) ?_
  refine dp rfl (pop_idx (j := 0) (a := fr.getD l.length pick0) ty36 ty55 rfl rfl rfl (drop_get h0)) ?_
  refine dp rfl (pop_loadw ty55 rfl rfl rfl rfl) ?_
  refine de rfl (eop_alloc ty55 rfl fun b5 => ?_)
  refine de0 (eop_storew ty55 rfl rfl rfl rfl rfl ?_)
  refine dn ?_
  refine hw_ghost (Ghost.fc0 5 rfl) ?_
  refine hw_block ?_
  refine hw_reg ?_
  refine dp rfl (pop_fieldAddr ty55 rfl ty3 (by decide) rfl) ?_
  refine dp rfl (pop_load ty3 rfl rfl rfl) ?_
  refine dp rfl (pop_call ca61 rfl (WeakL.refl _) c_base_Moment) ?_
  refine dp rfl (pop_not rfl) ?_
  refine dp rfl (pop_assign rfl) ?_
  refine dn ?_
  refine hw_cond rfl (fun h1 => ?_) (fun h2 => ?_)
  · try simp at h1
    refine hw_reg ?_
    refine dp rfl (pop_assign rfl) ?_
    refine dn ?_
    refine hw_ret ?_
    refine ret_p rfl ?_
    show HVal.int .i64 _ = _
    first | (rw [pf1 h1]; done) | (rw [pf2 h2 h3]; done) | (rw [pf3 h2 h4 h5]; done) | (rw [pf4 h2 h4 h6 h7]; done) | (rw [pf5 h2 h4 h6 h8 h9]; done) | (rw [pf6 h2 h4 h6 h8 h10 h11]; done) | (rw [pf0 h2 h4 h6 h8 h10 (by omega)]; done)
  · try simp at h2
    refine hw_reg ?_
    refine dp rfl (pop_fieldAddr ty55 rfl ty3 (by decide) rfl) ?_
    refine dp rfl (pop_load ty3 rfl rfl rfl) ?_
    refine dp rfl (pop_fieldAddr ty55 rfl ty3 (by decide) rfl) ?_
    refine dp rfl (pop_load ty3 rfl rfl rfl) ?_
    refine dp rfl (pop_neq rfl rfl) ?_
    refine dp rfl (pop_assign rfl) ?_
    refine dn ?_
    refine hw_cond rfl (fun h3 => ?_) (fun h4 => ?_)
    · try simp at h3
      refine hw_reg ?_
      refine dp rfl (pop_assign rfl) ?_
      refine dn ?_
      refine hw_ret ?_
      refine ret_p rfl ?_
      show HVal.int .i64 _ = _
      first | (rw [pf1 h1]; done) | (rw [pf2 h2 h3]; done) | (rw [pf3 h2 h4 h5]; done) | (rw [pf4 h2 h4 h6 h7]; done) | (rw [pf5 h2 h4 h6 h8 h9]; done) | (rw [pf6 h2 h4 h6 h8 h10 h11]; done) | (rw [pf0 h2 h4 h6 h8 h10 (by omega)]; done)
    · try simp at h4
      refine hw_reg ?_
      refine dp rfl (pop_fieldAddr ty55 rfl ty9 (by decide) rfl) ?_
      refine dp rfl (pop_load ty9 rfl rfl rfl) ?_
      refine dp rfl (pop_fieldAddr ty55 rfl ty9 (by decide) rfl) ?_
      refine dp rfl (pop_load ty9 rfl rfl rfl) ?_
      refine dp rfl (pop_neqs rfl rfl) ?_
      refine dp rfl (pop_assign rfl) ?_
      refine dn ?_
      refine hw_cond rfl (fun h5 => ?_) (fun h6 => ?_)
      · try simp at h5
        refine hw_reg ?_
        refine dp rfl (pop_assign rfl) ?_
        refine dn ?_
        refine hw_ret ?_
        refine ret_p rfl ?_
        show HVal.int .i64 _ = _
        first | (rw [pf1 h1]; done) | (rw [pf2 h2 h3]; done) | (rw [pf3 h2 h4 h5]; done) | (rw [pf4 h2 h4 h6 h7]; done) | (rw [pf5 h2 h4 h6 h8 h9]; done) | (rw [pf6 h2 h4 h6 h8 h10 h11]; done) | (rw [pf0 h2 h4 h6 h8 h10 (by omega)]; done)
      · try simp at h6
        refine hw_draw (fun _ => True) [] mixed ?_
        refine ahp 0 rfl rfl (by kernel_rfl) (by kernel_rfl) (pop_move rfl) ?_
        refine ahp 1 rfl rfl (by kernel_rfl) (by kernel_rfl) ((by first | exact pop_nilCheck rfl | exact pop_nilCheck_raw rfl)) ?_
        refine ahp 2 rfl rfl (by kernel_rfl) (by kernel_rfl) (pop_fieldAddr ty113 rfl ty106 (by decide) rfl) ?_
        refine ahp 3 rfl rfl (by kernel_rfl) (by kernel_rfl) (pop_load ty106 rfl rfl rfl) ?_
        refine ahp 4 rfl rfl (by kernel_rfl) (by kernel_rfl) (pop_fieldAddr ty55 rfl ty9 (by decide) rfl) ?_
        refine ahp 5 rfl rfl (by kernel_rfl) (by kernel_rfl) (pop_load ty9 rfl rfl rfl) ?_
        refine ahp 6 rfl rfl (by kernel_rfl) (by kernel_rfl) (pop_call ca59 rfl (WeakL.refl _) (c_draft_has (by first | assumption | omega | (simp; omega) | simp_all) (by first | assumption | omega | (simp; omega) | simp_all))) ?_
        refine ahp 7 rfl rfl (by kernel_rfl) (by kernel_rfl) (pop_not rfl) ?_
        refine ahp 8 rfl rfl (by kernel_rfl) (by kernel_rfl) (pop_assign rfl) ?_
        refine ahz (by kernel_rfl) ?_
        refine hw_cond rfl (fun h7 => ?_) (fun h8 => ?_)
        · try simp at h7
          refine hw_reg ?_
          refine dp rfl (pop_assign rfl) ?_
          refine dn ?_
          refine hw_ret ?_
          refine ret_p rfl ?_
          show HVal.int .i64 _ = _
          first | (rw [pf1 h1]; done) | (rw [pf2 h2 h3]; done) | (rw [pf3 h2 h4 h5]; done) | (rw [pf4 h2 h4 h6 h7]; done) | (rw [pf5 h2 h4 h6 h8 h9]; done) | (rw [pf6 h2 h4 h6 h8 h10 h11]; done) | (rw [pf0 h2 h4 h6 h8 h10 (by omega)]; done)
        · try simp at h8
          refine hw_draw (fun _ => True) [] mixed ?_
          refine ahp 0 rfl rfl (by kernel_rfl) (by kernel_rfl) (pop_move rfl) ?_
          refine ahp 1 rfl rfl (by kernel_rfl) (by kernel_rfl) ((by first | exact pop_nilCheck rfl | exact pop_nilCheck_raw rfl)) ?_
          refine ahp 2 rfl rfl (by kernel_rfl) (by kernel_rfl) (pop_fieldAddr ty113 rfl ty104 (by decide) rfl) ?_
          refine ahp 3 rfl rfl (by kernel_rfl) (by kernel_rfl) (pop_load ty104 rfl rfl rfl) ?_
          refine ahp 4 rfl rfl (by kernel_rfl) (by kernel_rfl) (pop_fieldAddr ty55 rfl ty9 (by decide) rfl) ?_
          refine ahp 5 rfl rfl (by kernel_rfl) (by kernel_rfl) (pop_load ty9 rfl rfl rfl) ?_
          refine ahp 6 rfl rfl (by kernel_rfl) (by kernel_rfl) (pop_eq (pop_lookup_h ty104 ty9 ty4 rfl rfl) (congrArg HVal.bool (ok.gone p.Player h8))) ?_
          refine ahp 7 rfl rfl (by kernel_rfl) (by kernel_rfl) (pop_assign rfl) ?_
          refine ahz (by kernel_rfl) ?_
          refine hw_cond rfl (fun h9 => ?_) (fun h10 => ?_)
          · try simp at h9
            refine hw_reg ?_
            refine dp rfl (pop_assign rfl) ?_
            refine dn ?_
            refine hw_ret ?_
            refine ret_p rfl ?_
            show HVal.int .i64 _ = _
            first | (rw [pf1 h1]; done) | (rw [pf2 h2 h3]; done) | (rw [pf3 h2 h4 h5]; done) | (rw [pf4 h2 h4 h6 h7]; done) | (rw [pf5 h2 h4 h6 h8 h9]; done) | (rw [pf6 h2 h4 h6 h8 h10 h11]; done) | (rw [pf0 h2 h4 h6 h8 h10 (by omega)]; done)
          · try simp at h10
            refine hw_draw (fun _ => True) [] mixed ?_
            refine ahp 0 rfl rfl (by kernel_rfl) (by kernel_rfl) (pop_fieldAddr ty55 rfl ty3 (by decide) rfl) ?_
            refine ahp 1 rfl rfl (by kernel_rfl) (by kernel_rfl) (pop_load ty3 rfl rfl rfl) ?_
            refine ahp 2 rfl rfl (by kernel_rfl) (by kernel_rfl) (pop_move rfl) ?_
            refine ahp 3 rfl rfl (by kernel_rfl) (by kernel_rfl) (pop_call ca64 rfl (WeakL.refl _) (c_draft_run_last (by first | assumption | omega | (simp; omega) | simp_all))) ?_
            refine ahp 4 rfl rfl (by kernel_rfl) (by kernel_rfl) (pop_lss rfl rfl) ?_
            refine ahp 5 rfl rfl (by kernel_rfl) (by kernel_rfl) (pop_assign rfl) ?_
            refine ahz (by kernel_rfl) ?_
            refine hw_cond rfl (fun h11 => ?_) (fun h12 => ?_)
            · try simp at h11
              refine hw_reg ?_
              refine dp rfl (pop_assign rfl) ?_
              refine dn ?_
              refine hw_ret ?_
              refine ret_p rfl ?_
              show HVal.int .i64 _ = _
              first | (rw [pf1 h1]; done) | (rw [pf2 h2 h3]; done) | (rw [pf3 h2 h4 h5]; done) | (rw [pf4 h2 h4 h6 h7]; done) | (rw [pf5 h2 h4 h6 h8 h9]; done) | (rw [pf6 h2 h4 h6 h8 h10 h11]; done) | (rw [pf0 h2 h4 h6 h8 h10 (by omega)]; done)
            · try simp at h12
              refine hw_skip ?_
              refine blockQ_n ?_
              refine seqQ_n ?_
              refine hw_reg ?_
              refine dp rfl (pop_assign rfl) ?_
              refine dn ?_
              refine hw_ret ?_
              refine ret_p rfl ?_
              show HVal.int .i64 _ = _
              first | (rw [pf1 h1]; done) | (rw [pf2 h2 h3]; done) | (rw [pf3 h2 h4 h5]; done) | (rw [pf4 h2 h4 h6 h7]; done) | (rw [pf5 h2 h4 h6 h8 h9]; done) | (rw [pf6 h2 h4 h6 h8 h10 h11]; done) | (rw [pf0 h2 h4 h6 h8 h10 (by omega)]; done)

/-- (*benchwarmer/draft.run).due -/
theorem c_draft_run_due {r : Room} {A T l : List Pick} {S : List Str}  (hl : l.length ≤ 1000000) (hm : moment (lastAt r l) = true) (hc : r.Clock ≤ 86400000) (hc0 : 0 ≤ r.Clock) : ConP Tryz.prog 62 [.vptr (RunH r A T l S) 0] (.tup [.int .i64 (dueI r T l), .bool (dueD r T l)]) := by
  have hmb := out_f (n := lastAt r l) (lo := 0) (hi := 345686399999) (by simpa [moment] using hm)
  refine Con.of_body Tryz.func62 rfl Tryz.ntmps62 rfl rfl ?_
  refine hw_reg ?_
  refine dp rfl (pop_assign rfl) ?_
  refine dp rfl (pop_assign rfl) ?_
  refine dn ?_
  refine hw_draw (fun _ => True) [] mixed ?_
  refine ahp 0 rfl rfl (by kernel_rfl) (by kernel_rfl) (pop_move rfl) ?_
  refine ahp 1 rfl rfl (by kernel_rfl) (by kernel_rfl) (pop_call ca64 rfl (WeakL.refl _) (c_draft_run_last (by first | assumption | omega | (simp; omega) | simp_all))) ?_
  refine ahp 2 rfl rfl (by kernel_rfl) (by kernel_rfl) (pop_move rfl) ?_
  refine ahp 3 rfl rfl (by kernel_rfl) (by kernel_rfl) ((by first | exact pop_nilCheck rfl | exact pop_nilCheck_raw rfl)) ?_
  refine ahp 4 rfl rfl (by kernel_rfl) (by kernel_rfl) (pop_fieldAddr ty113 rfl ty106 (by decide) rfl) ?_
  refine ahp 5 rfl rfl (by kernel_rfl) (by kernel_rfl) (pop_load ty106 rfl rfl rfl) ?_
  refine ahp 6 rfl rfl (by kernel_rfl) (by kernel_rfl) ((by first | exact pop_nilCheck rfl | exact pop_nilCheck_raw rfl)) ?_
  refine ahp 7 rfl rfl (by kernel_rfl) (by kernel_rfl) (pop_fieldAddr ty28 rfl ty3 (by decide) rfl) ?_
  refine ahp 8 rfl rfl (by kernel_rfl) (by kernel_rfl) (pop_load ty3 rfl rfl rfl) ?_
  refine ahp 9 rfl rfl (by kernel_rfl) (by kernel_rfl) (pop_add64 rfl rfl (by omega) (by omega)) ?_
  refine ahp 10 rfl rfl (by kernel_rfl) (by kernel_rfl) (pop_assign rfl) ?_
  refine ahz (by kernel_rfl) ?_
  refine hw_seq ?_
  refine hw_reg ?_
  refine dp rfl (pop_move rfl) ?_
  refine dp rfl ((by first | exact pop_nilCheck rfl | exact pop_nilCheck_raw rfl)) ?_
  refine dp rfl (pop_fieldAddr ty113 rfl ty36 (by decide) rfl) ?_
  refine dp rfl (pop_load ty36 rfl rfl rfl) ?_
  refine dp rfl (pop_lenm ty36 rfl) ?_
  refine dp rfl (pop_eql rfl rfl) ?_
  refine dp rfl (pop_move rfl) ?_
  refine dg rfl rfl (fun hc => ⟨_, OpenTo.refl _, pop_move rfl⟩) ?_
  refine dg rfl rfl (fun hc => ⟨_, OpenTo.upd (t := 22) rfl (by first | exact hc | simp_all) (OpenTo.refl _), pop_call ca61 rfl (WeakL.refl _) c_base_Moment⟩) ?_
  refine dg rfl rfl (fun hc => ⟨_, OpenTo.upd (t := 23) rfl (by first | exact hc | simp_all) (OpenTo.refl _), pop_not rfl⟩) ?_
  refine dp rfl (pop_picko rfl (.inl rfl) (.inr ⟨_, rfl, fun h => by simp_all⟩)) ?_
  refine dn ?_
  refine hw_cond rfl (fun h1 => ?_) (fun h2 => ?_)
  · try simp at h1
    refine hw_reg ?_
    refine dp rfl (pop_assign rfl) ?_
    refine dp rfl (pop_assign rfl) ?_
    refine dn ?_
    refine hw_ret ?_
    refine ret_p rfl ?_
    show HVal.tup _ = _
    first | (rcases h1 with h1 | h1 <;> simp [h1, dueI, dueD, ofVal, ofVal1]; done) | (obtain ⟨h2a, h2b⟩ := h2; simp [h2a, h2b, dueI, dueD, ofVal, ofVal1])
  · try simp at h2
    refine hw_skip ?_
    refine seqQ_n ?_
    refine hw_reg ?_
    refine dp rfl (pop_move rfl) ?_
    refine dp rfl (pop_assign rfl) ?_
    refine dp rfl (pop_assign rfl) ?_
    refine dn ?_
    refine hw_ret ?_
    refine ret_p rfl ?_
    show HVal.tup _ = _
    first | (rcases h1 with h1 | h1 <;> simp [h1, dueI, dueD, ofVal, ofVal1]; done) | (obtain ⟨h2a, h2b⟩ := h2; simp [h2a, h2b, dueI, dueD, ofVal, ofVal1])

/-- (*benchwarmer/draft.run).pick -/
theorem c_draft_run_pick {b m : Nat} {va v : Value} {r : Room} {A T l : List Pick} {S : List Str} {p : Pick} (h0 : 0 < T.length) (hl : l.length ≤ 1000) : Con Tryz.prog 67 [pAt b, ePick p] (RunM b m va v r A T l S) (fun x M' => ∃ v', x = .tup [] ∧ M' = RunM b m va v' r A (T.drop 1) (l ++ [p]) (sadd p.Player S)) := by
  refine Con.of_body Tryz.func67 rfl Tryz.ntmps67 rfl rfl ?_
  refine hw_reg ?_
  refine dp rfl (pop_box rfl rfl) ?_
  refine dn ?_
  refine hw_draw (fun M => ∃ i : Nat, M[i]? = some (.cells b [.vptr (hcells (eRoom r)) 0, .raw va, ePicks T, .raw v, .raw (.map (some m))])) [5, 12] mixed ?_
  refine ahp 0 rfl rfl (by kernel_rfl) (by kernel_rfl) (pop_move rfl) ?_
  refine ahp 1 rfl rfl (by kernel_rfl) (by kernel_rfl) (pop_move rfl) ?_
  refine ahp 2 rfl rfl (by kernel_rfl) (by kernel_rfl) (pop_move rfl) ?_
  refine ahp 3 rfl rfl (by kernel_rfl) (by kernel_rfl) ((by first | exact pop_nilCheck rfl | exact pop_nilCheck_raw rfl)) ?_
  refine ahp 4 rfl rfl (by kernel_rfl) (by kernel_rfl) (pop_fieldAddr_raw ty113 rfl ty36 (by decide) rfl) ?_
  refine ahl 5 rfl rfl (by kernel_rfl) (by kernel_rfl) (by simp) (by first | exact ⟨0, rfl⟩ | exact ⟨1, rfl⟩ | exact ⟨2, rfl⟩) (fun M hM => by obtain ⟨i, hi⟩ := hM; exact eop_load (i := i) ty36 rfl hi (.inl ⟨rfl, rfl⟩) ⟨rfl, rfl⟩) ?_
  refine ahp 6 rfl rfl (by kernel_rfl) (by kernel_rfl) (pop_loadw ty55 rfl rfl rfl rfl) ?_
  refine ahp 7 rfl rfl (by kernel_rfl) (by kernel_rfl) (pop_buildSlice (hs := [_]) ty36 ty55 rfl rfl (by decide) (by decide) rfl) ?_
  refine ahp 9 rfl rfl (by kernel_rfl) (by kernel_rfl) (pop_move rfl) ?_
  refine ahp 10 rfl rfl (by kernel_rfl) (by kernel_rfl) ((by first | exact pop_nilCheck rfl | exact pop_nilCheck_raw rfl)) ?_
  refine ahp 11 rfl rfl (by kernel_rfl) (by kernel_rfl) (pop_fieldAddr_raw ty113 rfl ty36 (by decide) rfl) ?_
  refine ahl 12 rfl rfl (by kernel_rfl) (by kernel_rfl) (by simp) (by first | exact ⟨0, rfl⟩ | exact ⟨1, rfl⟩ | exact ⟨2, rfl⟩) (fun M hM => by obtain ⟨i, hi⟩ := hM; exact eop_load (i := i) ty36 rfl hi (.inl ⟨rfl, rfl⟩) ⟨rfl, rfl⟩) ?_
  refine ahp 13 rfl rfl (by kernel_rfl) (by kernel_rfl) (pop_slicem (l := 1) ty36 ty55 rfl ⟨_, _, rfl, rfl⟩ rfl (by omega) (by omega)) ?_
  refine ahe 8 rfl (by kernel_rfl) ?_
  first
  | refine hop_e rfl (eop_append (i := 0) ty36 ty55 rfl rfl rfl rfl rfl (by simp [flat, hcells]) (by first | omega | (simp; omega)) fun v12 => ?_)
  | refine hop_e rfl (eop_append (i := 1) ty36 ty55 rfl rfl rfl rfl rfl (by simp [flat, hcells]) (by first | omega | (simp; omega)) fun v12 => ?_)
  | refine hop_e rfl (eop_append (i := 2) ty36 ty55 rfl rfl rfl rfl rfl (by simp [flat, hcells]) (by first | omega | (simp; omega)) fun v12 => ?_)
  | refine hop_e rfl (eop_append (i := 3) ty36 ty55 rfl rfl rfl rfl rfl (by simp [flat, hcells]) (by first | omega | (simp; omega)) fun v12 => ?_)
  refine ⟨fun _ => by first | exact .inl ⟨0, rfl⟩ | exact .inl ⟨1, rfl⟩ | exact .inl ⟨2, rfl⟩ | exact .inr (by simp [Before, Region.binds]), ?_⟩
  refine ahp 14 rfl rfl (by kernel_rfl) (by kernel_rfl) ((by first | exact pop_nilCheck rfl | exact pop_nilCheck_raw rfl)) ?_
  refine ahp 15 rfl rfl (by kernel_rfl) (by kernel_rfl) (pop_fieldAddr_raw ty113 rfl ty36 (by decide) rfl) ?_
  refine ahe 16 rfl (by kernel_rfl) ?_
  first
  | refine hop_e0 (eop_store (i := 0) ty36 rfl rfl rfl rfl rfl (Nat.le_of_ble_eq_true rfl) ?_)
  | refine hop_e0 (eop_store (i := 1) ty36 rfl rfl rfl rfl rfl (Nat.le_of_ble_eq_true rfl) ?_)
  | refine hop_e0 (eop_store (i := 2) ty36 rfl rfl rfl rfl rfl (Nat.le_of_ble_eq_true rfl) ?_)
  | refine hop_e0 (eop_store (i := 3) ty36 rfl rfl rfl rfl rfl (Nat.le_of_ble_eq_true rfl) ?_)
  refine ⟨fun _ => by first | exact .inl ⟨0, rfl⟩ | exact .inl ⟨1, rfl⟩ | exact .inl ⟨2, rfl⟩ | exact .inr (by simp [Before, Region.binds]), ?_⟩
  refine ahp 17 rfl rfl (by kernel_rfl) (by kernel_rfl) ((by first | exact pop_nilCheck rfl | exact pop_nilCheck_raw rfl)) ?_
  refine ahp 18 rfl rfl (by kernel_rfl) (by kernel_rfl) (pop_fieldAddr_raw ty113 rfl ty36 (by decide) rfl) ?_
  refine ahe 19 rfl (by kernel_rfl) ?_
  first
  | refine hop_e0 (eop_store (i := 0) ty36 rfl rfl rfl rfl rfl (Nat.le_of_ble_eq_true rfl) ?_)
  | refine hop_e0 (eop_store (i := 1) ty36 rfl rfl rfl rfl rfl (Nat.le_of_ble_eq_true rfl) ?_)
  | refine hop_e0 (eop_store (i := 2) ty36 rfl rfl rfl rfl rfl (Nat.le_of_ble_eq_true rfl) ?_)
  | refine hop_e0 (eop_store (i := 3) ty36 rfl rfl rfl rfl rfl (Nat.le_of_ble_eq_true rfl) ?_)
  refine ⟨fun _ => by first | exact .inl ⟨0, rfl⟩ | exact .inl ⟨1, rfl⟩ | exact .inl ⟨2, rfl⟩ | exact .inr (by simp [Before, Region.binds]), ?_⟩
  refine ahz (by kernel_rfl) ?_
  refine hw_ghost (Ghost.perm (M' := RunM b m va v12 r A (T.drop 1) (l ++ [p]) S) (perm_eq (by first | (simp [setL, hcells]; done) | rfl))) ?_
  refine hw_draw1 (fun _ => True) [] mixed ?_
  refine ahp 0 rfl rfl (by kernel_rfl) (by kernel_rfl) (pop_move rfl) ?_
  refine ahp 1 rfl rfl (by kernel_rfl) (by kernel_rfl) ((by first | exact pop_nilCheck rfl | exact pop_nilCheck_raw rfl)) ?_
  refine ahp 2 rfl rfl (by kernel_rfl) (by kernel_rfl) (pop_fieldAddr_raw ty113 rfl ty104 (by decide) rfl) ?_
  refine ahp 4 rfl rfl (by kernel_rfl) (by kernel_rfl) ((by first | exact pop_fieldAddr ty55 rfl ty9 (by decide) rfl | exact pop_fieldAddr_raw ty55 rfl ty9 (by decide) rfl)) ?_
  refine ahp 5 rfl rfl (by kernel_rfl) (by kernel_rfl) (pop_load ty9 rfl rfl rfl) ?_
  refine ahe 3 rfl (by kernel_rfl) ?_
  first
  | refine hop_e rfl (eop_load (i := 0) ty104 rfl rfl (.inl ⟨rfl, rfl⟩) ?_)
  | refine hop_e rfl (eop_load (i := 1) ty104 rfl rfl (.inl ⟨rfl, rfl⟩) ?_)
  | refine hop_e rfl (eop_load (i := 2) ty104 rfl rfl (.inl ⟨rfl, rfl⟩) ?_)
  | refine hop_e rfl (eop_load (i := 3) ty104 rfl rfl (.inl ⟨rfl, rfl⟩) ?_)
  refine ⟨fun _ => .inl trivial, ?_⟩
  refine ahe 6 rfl (by kernel_rfl) ?_
  first
  | refine hop_e0 (eop_update_set (i := 0) ty104 ty9 rfl rfl rfl rfl ?_)
  | refine hop_e0 (eop_update_set (i := 1) ty104 ty9 rfl rfl rfl rfl ?_)
  | refine hop_e0 (eop_update_set (i := 2) ty104 ty9 rfl rfl rfl rfl ?_)
  | refine hop_e0 (eop_update_set (i := 3) ty104 ty9 rfl rfl rfl rfl ?_)
  refine ⟨fun _ => .inl trivial, ?_⟩
  refine ahz (by kernel_rfl) ?_
  exact ret_q rfl ⟨v12, rfl, rfl⟩

/-- benchwarmer/draft.open -/
theorem c_draft_open_a {r : Room} {l : List Keep} {s : List Swap} (ht : r.Teams.length ≤ 20) (hr0 : 1 ≤ r.Rounds) (hr : r.Rounds ≤ 30) (hk0 : l.length ≤ 1000000) (hl : s.length ≤ 1000000) (hlen : (turns r s).length ≤ 600) : ConA Tryz.prog 102 [.vptr (hcells (eRoom r)) 0, eKeeps l, eSwaps s] 5 ((open1 r l s).map ePick) := by
  refine Con.of_body Tryz.func102 rfl Tryz.ntmps102 rfl rfl ?_
  refine hw_reg ?_
  refine dp rfl (pop_assign rfl) ?_
  refine dn ?_
  refine hw_reg ?_
  refine dp rfl (pop_assign rfl) ?_
  refine dn ?_
  refine hw_ghost (Ghost.arr_nil 5) ?_
  refine hw_seq ?_
  refine hw_reg ?_
  refine dp rfl (pop_move rfl) ?_
  refine dp rfl (pop_move rfl) ?_
  refine dp rfl (pop_call ca106 rfl (WeakL.refl _) (c_draft_turns (by first | assumption | omega | (simp; omega) | simp_all) (by first | assumption | omega | (simp; omega) | simp_all) (by first | assumption | omega | (simp; omega) | simp_all) (by first | assumption | omega | (simp; omega) | simp_all))) ?_
  refine dp rfl (pop_lenm ty147 rfl) ?_
  refine dp rfl (pop_move rfl) ?_
  refine dn ?_
  refine hw_block ?_
  refine hw_loopw2 [7, 8, 9, 10, 12, 17, 18, 19, 20, 21, 22, 23, 24, 25, 26, 27, 28, 29, 30, 31, 32, 33, 34, 35, 36, 37, 38, 39, 40, 41, 42, 43, 44, 45, 46, 47, 48, 49, 50, 51, 52, 53, 54, 55, 56, 57] (fun (i : Nat) (u : Value) => [(17, .int .i64 i), (7, .raw u)]) (fun (i : Nat) (u : Value) => [.arr u 5 ((openFrom r l 0 ((turns r s).take i)).map ePick)]) (fun (i : Nat) (u : Value) => i ≤ (turns r s).length ∧ (True)) (fun (i : Nat) (u : Value) => (turns r s).length - i) (0) (.slice none 0 0) ?_ ?_ ?_ ?_
  · exact ⟨Nat.zero_le _, by simp_all⟩
  · exact ⟨rfl, rfl, trivial⟩
  · exact perm_eq (by simp [openFrom])
  · intro i u hinv
    obtain ⟨hi, -⟩ := hinv
    refine hw_reg ?_
    refine dp rfl (pop_lss rfl rfl) ?_
    refine dn ?_
    refine hw_seq ?_
    refine hw_cond rfl (fun h1 => ?_) (fun h2 => ?_)
    · try simp at h1
      obtain ⟨t, ht⟩ : ∃ t, (turns r s)[i]? = some t := ⟨_, List.getElem?_eq_getElem h1⟩
      have hdt := drop_cons ht
      refine hw_skip ?_
      refine seqQ_n ?_
      refine hw_seq ?_
      refine hw_block ?_
      refine hw_reg ?_
      refine dp rfl (pop_move rfl) ?_
      refine dp rfl (pop_idx ty147 ty150 rfl rfl rfl (by first | assumption | simp_all)) ?_
      refine dp rfl (pop_loadw ty150 rfl rfl rfl rfl) ?_
      refine de rfl (eop_alloc ty150 rfl fun b9 => ?_)
      refine dp rfl (pop_assign rfl) ?_
      refine de0 (eop_storew ty150 rfl rfl rfl rfl rfl ?_)
      refine dn ?_
      refine hw_ghost (Ghost.fc0 9 rfl) ?_
      refine hw_reg ?_
      refine dp rfl (pop_move rfl) ?_
      refine dp rfl (pop_fieldAddr ty150 rfl ty9 (by decide) rfl) ?_
      refine dp rfl (pop_load ty9 rfl rfl rfl) ?_
      refine dp rfl (pop_build (cs := [_, _, _, _, _]) ty55 pl55 rfl) ?_
      refine de rfl (eop_alloc ty55 rfl fun b10 => ?_)
      refine de0 (eop_storew ty55 rfl rfl rfl rfl rfl ?_)
      refine dn ?_
      refine hw_seq ?_
      refine hw_reg ?_
      refine dp rfl (pop_move rfl) ?_
      refine dp rfl (pop_lenm ty30 rfl) ?_
      refine dp rfl (pop_move rfl) ?_
      refine dn ?_
      refine hw_block ?_
      refine hw_loopw2 [12, 28, 29, 30, 31, 32, 33, 34, 35, 36, 37, 38, 39, 40, 41, 42, 43, 44, 45, 46, 47, 48, 49, 50, 51, 52] (fun (k : Nat) (p : Pick) => [(28, .int .i64 k)]) (fun (k : Nat) (p : Pick) => [.cells b10 (hcells (ePick p)), .arr u 5 ((openFrom r l 0 ((turns r s).take i)).map ePick)]) (fun (k : Nat) (p : Pick) => k ≤ l.length ∧ (p = keepIn r t ⟨i, t.team, [], 0, false⟩ (l.take k))) (fun (k : Nat) (p : Pick) => l.length - k) (0) (⟨i, t.team, [], 0, false⟩) ?_ ?_ ?_ ?_
      · exact ⟨Nat.zero_le _, by simp [keepIn]⟩
      · exact ⟨rfl, trivial⟩
      · exact List.Perm.refl _
      · intro k p hinv
        obtain ⟨hk, hp⟩ := hinv
        refine hw_reg ?_
        refine dp rfl (pop_lss rfl rfl) ?_
        refine dn ?_
        refine hw_seq ?_
        refine hw_cond rfl (fun h3 => ?_) (fun h4 => ?_)
        · try simp at h3
          obtain ⟨x, hx⟩ : ∃ x, l[k]? = some x := ⟨_, List.getElem?_eq_getElem h3⟩
          have hdx := drop_cons hx
          refine hw_skip ?_
          refine seqQ_n ?_
          refine hw_seq ?_
          refine hw_block ?_
          refine hw_reg ?_
          refine dp rfl (pop_idx ty30 ty88 rfl rfl rfl (by first | assumption | simp_all)) ?_
          refine dp rfl (pop_loadw ty88 rfl rfl rfl rfl) ?_
          refine de rfl (eop_alloc ty88 rfl fun b12 => ?_)
          refine de0 (eop_storew ty88 rfl rfl rfl rfl rfl ?_)
          refine dn ?_
          refine hw_ghost (Ghost.fc0 12 rfl) ?_
          refine hw_reg ?_
          refine dp rfl (pop_fieldAddr ty88 rfl ty9 (by decide) rfl) ?_
          refine dp rfl (pop_load ty9 rfl rfl rfl) ?_
          refine dp rfl (pop_fieldAddr ty150 rfl ty9 (by decide) rfl) ?_
          refine dp rfl (pop_load ty9 rfl rfl rfl) ?_
          refine dp rfl (pop_eqls rfl rfl) ?_
          refine dp rfl (pop_move rfl) ?_
          refine dg rfl rfl (fun hc => ⟨_, OpenTo.refl _, pop_fieldAddr ty88 rfl ty3 (by decide) rfl⟩) ?_
          refine dg rfl rfl (fun hc => ⟨_, OpenTo.upd (t := 38) rfl (by first | exact hc | simp_all) (OpenTo.refl _), pop_load ty3 rfl rfl rfl⟩) ?_
          refine dg rfl rfl (fun hc => ⟨_, OpenTo.refl _, pop_fieldAddr ty150 rfl ty3 (by decide) rfl⟩) ?_
          refine dg rfl rfl (fun hc => ⟨_, OpenTo.upd (t := 40) rfl (by first | exact hc | simp_all) (OpenTo.refl _), pop_load ty3 rfl rfl rfl⟩) ?_
          refine dg rfl rfl (fun hc => ⟨_, OpenTo.upd (t := 41) rfl (by first | exact hc | simp_all) (OpenTo.upd (t := 39) rfl (by first | exact hc | simp_all) (OpenTo.refl _)), pop_eql rfl rfl⟩) ?_
          refine dp rfl (pop_picko rfl (.inr ⟨_, rfl, fun h => by simp_all⟩) (.inl rfl)) ?_
          refine dn ?_
          refine hw_cond rfl (fun h5 => ?_) (fun h6 => ?_)
          · try simp at h5
            refine hw_draw1 (fun _ => True) [] mixed ?_
            refine ahp 0 rfl rfl (by kernel_rfl) (by kernel_rfl) (pop_fieldAddr ty88 rfl ty9 (by decide) rfl) ?_
            refine ahp 1 rfl rfl (by kernel_rfl) (by kernel_rfl) (pop_load ty9 rfl rfl rfl) ?_
            refine ahp 2 rfl rfl (by kernel_rfl) (by kernel_rfl) (pop_move rfl) ?_
            refine ahp 3 rfl rfl (by kernel_rfl) (by kernel_rfl) ((by first | exact pop_nilCheck rfl | exact pop_nilCheck_raw rfl)) ?_
            refine ahp 4 rfl rfl (by kernel_rfl) (by kernel_rfl) (pop_fieldAddr ty28 rfl ty3 (by decide) rfl) ?_
            refine ahp 5 rfl rfl (by kernel_rfl) (by kernel_rfl) (pop_load ty3 rfl rfl rfl) ?_
            refine ahp 6 rfl rfl (by kernel_rfl) (by kernel_rfl) (pop_fieldAddr_raw ty55 rfl ty9 (by decide) rfl) ?_
            refine ahe 7 rfl (by kernel_rfl) ?_
            refine hop_e0 (eop_store (i := 0) ty9 rfl rfl rfl rfl rfl (Nat.le_of_ble_eq_true rfl) ?_)
            refine ⟨fun _ => .inl trivial, ?_⟩
            refine ahp 8 rfl rfl (by kernel_rfl) (by kernel_rfl) (pop_fieldAddr_raw ty55 rfl ty3 (by decide) rfl) ?_
            refine ahe 9 rfl (by kernel_rfl) ?_
            refine hop_e0 (eop_store (i := 0) ty3 rfl rfl rfl rfl rfl (Nat.le_of_ble_eq_true rfl) ?_)
            refine ⟨fun _ => .inl trivial, ?_⟩
            refine ahz (by kernel_rfl) ?_
            refine blockQ_n ?_
            refine seqQ_n ?_
            refine hw_reg1 ?_
            refine dp rfl (pop_add64 rfl rfl (by omega) (by omega)) ?_
            refine dp rfl (pop_move rfl) ?_
            refine dn ?_
            first
            | exact ⟨k + 1, { p with Player := x.Player, At := r.Start }, ⟨by omega, by rw [List.take_add_one, hx, hp]; exact (keepIn_snoc r t _ x _).symm ▸ (by simp_all)⟩, by dsimp only; omega, ⟨rfl, trivial⟩, (by repeat (first | exact keeps_refl | refine keeps_upd rfl ?_ | refine keeps_loop rfl rfl ?_)), List.Perm.refl _⟩
            | exact ⟨k + 1, p, ⟨by omega, by rw [List.take_add_one, hx, hp]; exact (keepIn_snoc r t _ x _).symm ▸ (by simp_all)⟩, by dsimp only; omega, ⟨rfl, trivial⟩, (by repeat (first | exact keeps_refl | refine keeps_upd rfl ?_ | refine keeps_loop rfl rfl ?_)), List.Perm.refl _⟩
          · try simp at h6
            refine hw_skip ?_
            refine blockQ_n ?_
            refine seqQ_n ?_
            refine hw_reg1 ?_
            refine dp rfl (pop_add64 rfl rfl (by omega) (by omega)) ?_
            refine dp rfl (pop_move rfl) ?_
            refine dn ?_
            first
            | exact ⟨k + 1, { p with Player := x.Player, At := r.Start }, ⟨by omega, by rw [List.take_add_one, hx, hp]; exact (keepIn_snoc r t _ x _).symm ▸ (by simp_all)⟩, by dsimp only; omega, ⟨rfl, trivial⟩, (by repeat (first | exact keeps_refl | refine keeps_upd rfl ?_ | refine keeps_loop rfl rfl ?_)), List.Perm.refl _⟩
            | exact ⟨k + 1, p, ⟨by omega, by rw [List.take_add_one, hx, hp]; exact (keepIn_snoc r t _ x _).symm ▸ (by simp_all)⟩, by dsimp only; omega, ⟨rfl, trivial⟩, (by repeat (first | exact keeps_refl | refine keeps_upd rfl ?_ | refine keeps_loop rfl rfl ?_)), List.Perm.refl _⟩
        · try simp at h4
          have hnk : l.length ≤ k := by omega
          obtain rfl : k = l.length := by omega
          rw [List.take_length] at hp
          subst hp
          refine hw_exit ?_
          refine seqQ_x ?_
          refine loopQ2_x ?_
          refine blockQ_eq ?_
          refine seqQ_n ?_
          have ho : (openFrom r l 0 ((turns r s).take i)).length ≤ 600 := by rw [openFrom_len]; simp; omega
          refine hw_reg1 ?_
          refine dp rfl (pop_move rfl) ?_
          refine de rfl (eop_loadw (i := 0) ty55 rfl rfl rfl rfl rfl ?_)
          refine dp rfl (pop_buildSlice (hs := [_]) ty36 ty55 rfl rfl (by decide) (by decide) rfl) ?_
          refine de rfl (eop_append (i := 1) ty36 ty55 rfl rfl rfl rfl rfl (by simp [flat, hcells]) (by first | omega | (simp; omega)) fun v56 => ?_)
          refine dp rfl (pop_assign rfl) ?_
          refine dn ?_
          refine blockQ_n ?_
          refine seqQ_n ?_
          refine hw_ghost Ghost.drop ?_
          refine hw_reg1 ?_
          refine dp rfl (pop_add64 rfl rfl (by omega) (by omega)) ?_
          refine dp rfl (pop_move rfl) ?_
          refine dn ?_
          refine ⟨i + 1, _, ?_, ?_, ⟨rfl, rfl, trivial⟩, (by repeat (first | exact keeps_refl | refine keeps_upd rfl ?_ | refine keeps_loop rfl rfl ?_)), perm_eq (by simp [List.take_add_one, ht, openFrom_snoc, Nat.min_eq_left hi])⟩
          · exact ⟨by omega, trivial⟩
          · dsimp only; omega
    · try simp at h2
      have hni : (turns r s).length ≤ i := by omega
      obtain rfl : i = (turns r s).length := by omega
      refine hw_exit ?_
      refine seqQ_x ?_
      refine loopQ2_x ?_
      refine blockQ_eq ?_
      refine seqQ_n ?_
      refine hw_reg ?_
      refine dp rfl (pop_move rfl) ?_
      refine dp rfl (pop_assign rfl) ?_
      refine dn ?_
      refine hw_ret ?_
      exact ret_a rfl (by simp [open1])

/-- benchwarmer/draft.newRun -/
theorem c_draft_newRun {r : Room} {k : List Keep} {s : List Swap} (h : openFault r k s = 0) (hk0 : k.length ≤ 1000000) (hl : s.length ≤ 1000000) : Con Tryz.prog 65 [.vptr (hcells (eRoom r)) 0, eKeeps k, eSwaps s] [] (fun x M' => ∃ b m va v S, x = pAt b ∧ RunOk r k s [] S ∧ M' = RunM b m va v r (open1 r k s) (freeP r k s) [] S) := by
  have hro := room_ok (openFault_ok h).1
  have ht := hro.t20
  have hr0 := hro.r1
  have hr := hro.r30
  have hlen := turns_len (r := r) (s := s) (openFault_ok h).1
  have hop := open_pos (k := k) (s := s) hro
  have hol : (open1 r k s).length ≤ 600 := by unfold open1; rw [openFrom_len]; exact hlen
  refine Con.of_body Tryz.func65 rfl Tryz.ntmps65 rfl rfl ?_
  refine hw_reg ?_
  refine dp rfl (pop_assign rfl) ?_
  refine dn ?_
  refine hw_reg ?_
  refine dp rfl (pop_move rfl) ?_
  refine dp rfl (pop_move rfl) ?_
  refine dp rfl (pop_move rfl) ?_
  refine dp rfl (pop_move rfl) ?_
  refine de rfl (eop_calla ca102 rfl (WeakL.refl _) (c_draft_open_a (by first | assumption | omega | (simp; omega) | simp_all) (by first | assumption | omega | (simp; omega) | simp_all) (by first | assumption | omega | (simp; omega) | simp_all) (by first | assumption | omega | (simp; omega) | simp_all) (by first | assumption | omega | (simp; omega) | simp_all) (by first | assumption | omega | (simp; omega) | simp_all)) fun v14 => ?_)
  refine de rfl (eop_makeMap fun m15 => ?_)
  refine dp rfl (pop_build (cs := [_, _, _, _, _]) ty113 pl113 rfl) ?_
  refine de rfl (eop_box rfl rfl fun b => ?_)
  refine dp rfl (pop_assign rfl) ?_
  refine dn ?_
  refine hw_ghost (Ghost.perm (M' := [.arr v14 5 ((open1 r k s).map ePick), .cells b [.vptr (hcells (eRoom r)) 0, .raw v14, .raw (.slice none 0 0), .raw (.slice none 0 0), .raw (.map (some m15))], .map m15 (sk (mset []))]) (by repeat (first | exact List.Perm.nil | refine permTo 0 rfl ?_ | refine permTo 1 rfl ?_ | refine permTo 2 rfl ?_ | refine permTo 3 rfl ?_ | (refine permToE 0 rfl ?hq ?_; (case hq => simp [setL, hcells]; done)) | (refine permToE 1 rfl ?hq ?_; (case hq => simp [setL, hcells]; done)) | (refine permToE 2 rfl ?hq ?_; (case hq => simp [setL, hcells]; done)) | (refine permToE 3 rfl ?hq ?_; (case hq => simp [setL, hcells]; done)) | fail))) ?_
  refine hw_arrc (i := 0) rfl (fun h0 he => ?_) (fun ob off cap hv hcap => ?_)
  · exfalso; have := congrArg List.length he; simp at this; rw [this] at hop; simp at hop
  rw [List.length_map] at hv hcap
  subst hv
  refine hw_seq ?_
  refine hw_reg ?_
  refine dp rfl (pop_move rfl) ?_
  refine dp rfl ((by first | exact pop_nilCheck rfl | exact pop_nilCheck_raw rfl)) ?_
  refine dp rfl (pop_fieldAddr_raw ty113 rfl ty36 (by decide) rfl) ?_
  first
  | refine de rfl (eop_load (i := 0) ty36 rfl rfl (.inl ⟨rfl, rfl⟩) ?_)
  | refine de rfl (eop_load (i := 1) ty36 rfl rfl (.inl ⟨rfl, rfl⟩) ?_)
  | refine de rfl (eop_load (i := 2) ty36 rfl rfl (.inl ⟨rfl, rfl⟩) ?_)
  | refine de rfl (eop_load (i := 3) ty36 rfl rfl (.inl ⟨rfl, rfl⟩) ?_)
  first
  | refine de rfl (eop_lenm (i := 0) ty36 rfl rfl ?_)
  | refine de rfl (eop_lenm (i := 1) ty36 rfl rfl ?_)
  | refine de rfl (eop_lenm (i := 2) ty36 rfl rfl ?_)
  | refine de rfl (eop_lenm (i := 3) ty36 rfl rfl ?_)
  refine dp rfl (pop_move rfl) ?_
  refine dn ?_
  refine hw_ghost (Ghost.arr_nil 5) ?_
  refine hw_block ?_
  refine hw_loopw3 [9, 23, 24, 25, 26, 27, 28, 29, 30, 31, 32, 33, 34, 35, 36, 37, 38, 39, 40, 41, 42, 43, 44, 45, 46] (fun (i : Nat) (u : Value) (S : List Str) => [(23, .int .i64 i)]) (fun (i : Nat) (u : Value) (S : List Str) => [.cells b [.vptr (hcells (eRoom r)) 0, .raw (.slice (some ⟨ob, off, none⟩) (open1 r k s).length cap), .raw u, .raw (.slice none 0 0), .raw (.map (some m15))], .arr (.slice (some ⟨ob, off, none⟩) (open1 r k s).length cap) 5 ((open1 r k s).map ePick), .arr u 5 ((((open1 r k s).take i).filter fun p => p.Player == []).map ePick), .map m15 (sk (mset S))]) (fun (i : Nat) (u : Value) (S : List Str) => i ≤ (open1 r k s).length ∧ (∀ x, S.contains x = ((open1 r k s).take i).any fun p => !(p.Player == []) && p.Player == x)) (fun (i : Nat) (u : Value) (S : List Str) => (open1 r k s).length - i) (0) (.slice none 0 0) ([]) ?_ ?_ ?_ ?_
  · exact ⟨Nat.zero_le _, by simp⟩
  · exact ⟨rfl, trivial⟩
  · repeat (first | exact List.Perm.nil | refine permTo 0 rfl ?_ | refine permTo 1 rfl ?_ | refine permTo 2 rfl ?_ | refine permTo 3 rfl ?_ | (refine permToE 0 rfl ?hq ?_; (case hq => simp [setL, hcells]; done)) | (refine permToE 1 rfl ?hq ?_; (case hq => simp [setL, hcells]; done)) | (refine permToE 2 rfl ?hq ?_; (case hq => simp [setL, hcells]; done)) | (refine permToE 3 rfl ?hq ?_; (case hq => simp [setL, hcells]; done)) | fail)
  · intro i u S hinv
    obtain ⟨hi, hS⟩ := hinv
    refine hw_reg ?_
    refine dp rfl (pop_lss rfl rfl) ?_
    refine dn ?_
    refine hw_seq ?_
    refine hw_cond rfl (fun h1 => ?_) (fun h2 => ?_)
    · try simp at h1
      obtain ⟨x, hx⟩ : ∃ x, (open1 r k s)[i]? = some x := ⟨_, List.getElem?_eq_getElem h1⟩
      have hdx := drop_cons hx
      have hfl : (((open1 r k s).take i).filter fun p => p.Player == []).length ≤ 600 := Nat.le_trans (List.length_filter_le _ _) (by simp; omega)
      refine hw_skip ?_
      refine seqQ_n ?_
      refine hw_seq ?_
      refine hw_block ?_
      refine hw_reg ?_
      refine dp rfl (pop_idxraw (j := i) ty36 ty55 rfl rfl rfl (by omega)) ?_
      refine de rfl (eop_load_elw (i := 1) (j := i) (f := ePick) (es := open1 r k s) ty55 rfl rfl rfl hx rfl rfl rfl ?_)
      refine de rfl (eop_alloc ty55 rfl fun b9 => ?_)
      refine de0 (eop_storew ty55 rfl rfl rfl rfl rfl ?_)
      refine dn ?_
      refine hw_ghost (Ghost.fc0 9 rfl) ?_
      refine hw_reg ?_
      refine dp rfl ((by first | exact pop_fieldAddr ty55 rfl ty9 (by decide) rfl | exact pop_fieldAddr_raw ty55 rfl ty9 (by decide) rfl)) ?_
      refine dp rfl (pop_load ty9 rfl rfl rfl) ?_
      refine dp rfl (pop_eqls rfl rfl) ?_
      refine dn ?_
      refine hw_cond rfl (fun h3 => ?_) (fun h4 => ?_)
      · try simp at h3
        refine hw_draw1 (fun _ => True) [] mixed ?_
        refine ahp 0 rfl rfl (by kernel_rfl) (by kernel_rfl) (pop_move rfl) ?_
        refine ahp 1 rfl rfl (by kernel_rfl) (by kernel_rfl) (pop_move rfl) ?_
        refine ahp 2 rfl rfl (by kernel_rfl) (by kernel_rfl) ((by first | exact pop_nilCheck rfl | exact pop_nilCheck_raw rfl)) ?_
        refine ahp 3 rfl rfl (by kernel_rfl) (by kernel_rfl) (pop_fieldAddr_raw ty113 rfl ty36 (by decide) rfl) ?_
        refine ahp 5 rfl rfl (by kernel_rfl) (by kernel_rfl) (pop_loadw ty55 rfl rfl rfl rfl) ?_
        refine ahp 6 rfl rfl (by kernel_rfl) (by kernel_rfl) (pop_buildSlice (hs := [_]) ty36 ty55 rfl rfl (by decide) (by decide) rfl) ?_
        refine ahe 4 rfl (by kernel_rfl) ?_
        first
        | refine hop_e rfl (eop_load (i := 0) ty36 rfl rfl (.inl ⟨rfl, rfl⟩) ?_)
        | refine hop_e rfl (eop_load (i := 1) ty36 rfl rfl (.inl ⟨rfl, rfl⟩) ?_)
        | refine hop_e rfl (eop_load (i := 2) ty36 rfl rfl (.inl ⟨rfl, rfl⟩) ?_)
        | refine hop_e rfl (eop_load (i := 3) ty36 rfl rfl (.inl ⟨rfl, rfl⟩) ?_)
        refine ⟨fun _ => .inl trivial, ?_⟩
        refine ahe 7 rfl (by kernel_rfl) ?_
        refine hop_e rfl (eop_append (i := 2) ty36 ty55 rfl rfl rfl rfl rfl (by simp [flat, hcells]) (by simp only [List.length_map, List.length_cons, List.length_nil]; omega) fun v37 => ?_)
        refine ⟨fun _ => .inl trivial, ?_⟩
        refine ahp 8 rfl rfl (by kernel_rfl) (by kernel_rfl) ((by first | exact pop_nilCheck rfl | exact pop_nilCheck_raw rfl)) ?_
        refine ahp 9 rfl rfl (by kernel_rfl) (by kernel_rfl) (pop_fieldAddr_raw ty113 rfl ty36 (by decide) rfl) ?_
        refine ahe 10 rfl (by kernel_rfl) ?_
        first
        | refine hop_e0 (eop_store (i := 0) ty36 rfl rfl rfl rfl rfl (Nat.le_of_ble_eq_true rfl) ?_)
        | refine hop_e0 (eop_store (i := 1) ty36 rfl rfl rfl rfl rfl (Nat.le_of_ble_eq_true rfl) ?_)
        | refine hop_e0 (eop_store (i := 2) ty36 rfl rfl rfl rfl rfl (Nat.le_of_ble_eq_true rfl) ?_)
        | refine hop_e0 (eop_store (i := 3) ty36 rfl rfl rfl rfl rfl (Nat.le_of_ble_eq_true rfl) ?_)
        refine ⟨fun _ => .inl trivial, ?_⟩
        refine ahz (by kernel_rfl) ?_
        refine blockQ_n ?_
        refine seqQ_n ?_
        refine hw_reg1 ?_
        refine dp rfl (pop_add64 rfl rfl (by omega) (by omega)) ?_
        refine dp rfl (pop_move rfl) ?_
        refine dn ?_
        exact ⟨i + 1, v37, S, ⟨by omega, fun y => by rw [any_snoc _ hx, hS y]; simp [h3]⟩, by dsimp only; omega, ⟨rfl, trivial⟩, (by repeat (first | exact keeps_refl | refine keeps_upd rfl ?_ | refine keeps_loop rfl rfl ?_)), perm_eq (by dsimp only; rw [filter_snoc1 _ hx]; simp [h3, setL, hcells])⟩
      · try simp at h4
        refine hw_draw1 (fun _ => True) [] mixed ?_
        refine ahp 0 rfl rfl (by kernel_rfl) (by kernel_rfl) (pop_move rfl) ?_
        refine ahp 1 rfl rfl (by kernel_rfl) (by kernel_rfl) ((by first | exact pop_nilCheck rfl | exact pop_nilCheck_raw rfl)) ?_
        refine ahp 2 rfl rfl (by kernel_rfl) (by kernel_rfl) (pop_fieldAddr_raw ty113 rfl ty104 (by decide) rfl) ?_
        refine ahp 4 rfl rfl (by kernel_rfl) (by kernel_rfl) ((by first | exact pop_fieldAddr ty55 rfl ty9 (by decide) rfl | exact pop_fieldAddr_raw ty55 rfl ty9 (by decide) rfl)) ?_
        refine ahp 5 rfl rfl (by kernel_rfl) (by kernel_rfl) (pop_load ty9 rfl rfl rfl) ?_
        refine ahe 3 rfl (by kernel_rfl) ?_
        first
        | refine hop_e rfl (eop_load (i := 0) ty104 rfl rfl (.inl ⟨rfl, rfl⟩) ?_)
        | refine hop_e rfl (eop_load (i := 1) ty104 rfl rfl (.inl ⟨rfl, rfl⟩) ?_)
        | refine hop_e rfl (eop_load (i := 2) ty104 rfl rfl (.inl ⟨rfl, rfl⟩) ?_)
        | refine hop_e rfl (eop_load (i := 3) ty104 rfl rfl (.inl ⟨rfl, rfl⟩) ?_)
        refine ⟨fun _ => .inl trivial, ?_⟩
        refine ahe 6 rfl (by kernel_rfl) ?_
        first
        | refine hop_e0 (eop_update_set (i := 0) ty104 ty9 rfl rfl rfl rfl ?_)
        | refine hop_e0 (eop_update_set (i := 1) ty104 ty9 rfl rfl rfl rfl ?_)
        | refine hop_e0 (eop_update_set (i := 2) ty104 ty9 rfl rfl rfl rfl ?_)
        | refine hop_e0 (eop_update_set (i := 3) ty104 ty9 rfl rfl rfl rfl ?_)
        refine ⟨fun _ => .inl trivial, ?_⟩
        refine ahz (by kernel_rfl) ?_
        refine blockQ_n ?_
        refine seqQ_n ?_
        refine hw_reg1 ?_
        refine dp rfl (pop_add64 rfl rfl (by omega) (by omega)) ?_
        refine dp rfl (pop_move rfl) ?_
        refine dn ?_
        have e4 : (x.Player == []) = false := by simpa using h4
        exact ⟨i + 1, u, sadd x.Player S, ⟨by omega, fun y => by simp only [any_snoc _ hx, sadd_contains, hS y, e4, Bool.not_false, Bool.true_and]⟩, by dsimp only; omega, ⟨rfl, trivial⟩, (by repeat (first | exact keeps_refl | refine keeps_upd rfl ?_ | refine keeps_loop rfl rfl ?_)), perm_eq (by dsimp only; rw [filter_snoc1 _ hx]; simp [h4])⟩
    · try simp at h2
      have hni : (open1 r k s).length ≤ i := by omega
      obtain rfl : i = (open1 r k s).length := by omega
      rw [List.take_length] at hS ⊢
      refine hw_exit ?_
      refine seqQ_x ?_
      refine loopQ3_x ?_
      refine blockQ_eq ?_
      refine seqQ_n ?_
      refine hw_ghost (Ghost.fcell (i := 2) (k := 0) (j := 2) rfl rfl rfl) ?_
      refine hw_ghost (Ghost.arr_nil 5) ?_
      refine hw_reg ?_
      refine dp rfl (pop_move rfl) ?_
      refine dp rfl (pop_assign rfl) ?_
      refine dn ?_
      refine hw_ret ?_
      refine ret_g (Ghost.perm (M' := RunM b m15 (.slice (some ⟨ob, off, none⟩) (open1 r k s).length cap) (.slice none 0 0) r (open1 r k s) (freeP r k s) [] S) (by repeat (first | exact List.Perm.nil | refine permTo 0 rfl ?_ | refine permTo 1 rfl ?_ | refine permTo 2 rfl ?_ | refine permTo 3 rfl ?_ | (refine permToE 0 rfl ?hq ?_; (case hq => simp [setL, hcells]; done)) | (refine permToE 1 rfl ?hq ?_; (case hq => simp [setL, hcells]; done)) | (refine permToE 2 rfl ?hq ?_; (case hq => simp [setL, hcells]; done)) | (refine permToE 3 rfl ?hq ?_; (case hq => simp [setL, hcells]; done)) | fail))) rfl ⟨b, m15, _, _, S, rfl, run_start h hS, rfl⟩

/-- benchwarmer/draft.follow -/
theorem c_draft_follow {r : Room} {k : List Keep} {s : List Swap} {l : List Pick}  (ht : r.Teams.length ≤ 1000000) (hp : r.Players.length ≤ 1000000) (hk0 : k.length ≤ 1000000) (hl : s.length ≤ 1000000) (hll : l.length ≤ 1000) : Con Tryz.prog 73 [.vptr (hcells (eRoom r)) 0, eKeeps k, eSwaps s, ePicks l] [] (fun res M' => ∃ v, res = .tup [.raw v, .int .i64 (picksE r k s l)] ∧ (picksE r k s l = 0 → ∃ b m va u S, v = .pointer (some ⟨b, 0, none⟩) ∧ RunOk r k s l S ∧ M' = RunM b m va u r (open1 r k s) ((freeP r k s).drop l.length) l S)) := by
  refine Con.of_body Tryz.func73 rfl Tryz.ntmps73 rfl rfl ?_
  refine hw_reg ?_
  refine dp rfl (pop_assign rfl) ?_
  refine dp rfl (pop_assign rfl) ?_
  refine dn ?_
  refine hw_seq ?_
  refine hw_reg ?_
  refine dp rfl (pop_move rfl) ?_
  refine dp rfl ((by first | exact pop_nilCheck rfl | exact pop_nilCheck_raw rfl)) ?_
  refine dp rfl (pop_loadw ty28 rfl rfl rfl rfl) ?_
  refine dp rfl (pop_move rfl) ?_
  refine dp rfl (pop_move rfl) ?_
  refine dp rfl (pop_call ca107 rfl (WeakL.refl _) (c_draft_openFault (by first | assumption | omega | (simp; omega) | simp_all) (by first | assumption | omega | (simp; omega) | simp_all) (by first | assumption | omega | (simp; omega) | simp_all) (by first | assumption | omega | (simp; omega) | simp_all))) ?_
  refine dp rfl (pop_assign rfl) ?_
  refine dn ?_
  refine hw_reg ?_
  refine dp rfl (pop_move rfl) ?_
  refine dp rfl (pop_neq rfl rfl) ?_
  refine dn ?_
  refine hw_cond rfl (fun h1 => ?_) (fun h2 => ?_)
  · try simp at h1
    refine hw_reg ?_
    refine dp rfl (pop_move rfl) ?_
    refine dp rfl (pop_assign rfl) ?_
    refine dp rfl (pop_assign rfl) ?_
    refine dn ?_
    refine hw_ret ?_
    first
    | (refine ret_g Ghost.clear rfl ⟨.pointer none, ?_, fun h0 => ?_⟩
       · show HVal.tup _ = _
         first
         | (rw [picksE, if_pos (by simpa using h1)]; rfl)
         | (rw [picksE, if_neg (by simpa using h2), pksR, if_pos (by omega)]; rfl)
         | (rw [picksE, if_neg (by simpa using h2), hg, pgo_ne (by simpa using h7)]; rfl)
       · exfalso
         first
         | (rw [picksE, if_pos (by simpa using h1)] at h0; exact absurd h0 h1)
         | (rw [picksE, if_neg (by simpa using h2), pksR, if_pos (by omega)] at h0; simp at h0; done)
         | (rw [picksE, if_neg (by simpa using h2), hg, pgo_ne (by simpa using h7)] at h0; exact absurd h0 (by simpa using h7)))
    | (have hz : picksE r k s l = 0 := by rw [picksE, if_neg (by simpa using h2), hg]; rfl
       rw [hz]
       exact ret_q rfl ⟨_, rfl, fun _ => ⟨b, m, va, v, S, rfl, ok, rfl⟩⟩)
  · try simp at h2
    refine hw_skip ?_
    refine seqQ_n ?_
    have hof : openFault r k s = 0 := by simpa using h2
    have hso := (room_ok (openFault_ok hof).1).sorted
    refine hw_reg ?_
    refine dp rfl (pop_move rfl) ?_
    refine dp rfl (pop_move rfl) ?_
    refine dp rfl (pop_move rfl) ?_
    refine de rfl (eop_callf (M1 := []) (R := []) ca65 rfl (WeakL.refl _) (List.Perm.refl _) (c_draft_newRun (k := k) (s := s) hof hk0 hl) ?_)
    rintro _ _ ⟨b, m, va, v0, S0, rfl, ok0, rfl⟩
    refine dp rfl (pop_assign rfl) ?_
    refine dn ?_
    refine hw_seq ?_
    refine hw_reg ?_
    refine dp rfl (pop_move rfl) ?_
    refine dp rfl (pop_lenm ty36 rfl) ?_
    refine dp rfl (pop_move rfl) ?_
    refine dp rfl ((by first | exact pop_nilCheck rfl | exact pop_nilCheck_raw rfl)) ?_
    refine dp rfl (pop_fieldAddr_raw ty113 rfl ty36 (by decide) rfl) ?_
    first
    | refine de rfl (eop_load (i := 0) ty36 rfl rfl (.inl ⟨rfl, rfl⟩) ?_)
    | refine de rfl (eop_load (i := 1) ty36 rfl rfl (.inl ⟨rfl, rfl⟩) ?_)
    | refine de rfl (eop_load (i := 2) ty36 rfl rfl (.inl ⟨rfl, rfl⟩) ?_)
    | refine de rfl (eop_load (i := 3) ty36 rfl rfl (.inl ⟨rfl, rfl⟩) ?_)
    refine dp rfl (pop_lenm ty36 rfl) ?_
    refine dp rfl (pop_gtr rfl rfl) ?_
    refine dn ?_
    refine hw_cond rfl (fun h3 => ?_) (fun h4 => ?_)
    · try simp at h3
      refine hw_reg ?_
      refine dp rfl (pop_assign rfl) ?_
      refine dp rfl (pop_assign rfl) ?_
      refine dn ?_
      refine hw_ret ?_
      first
      | (refine ret_g Ghost.clear rfl ⟨.pointer none, ?_, fun h0 => ?_⟩
         · show HVal.tup _ = _
           first
           | (rw [picksE, if_pos (by simpa using h1)]; rfl)
           | (rw [picksE, if_neg (by simpa using h2), pksR, if_pos (by omega)]; rfl)
           | (rw [picksE, if_neg (by simpa using h2), hg, pgo_ne (by simpa using h7)]; rfl)
         · exfalso
           first
           | (rw [picksE, if_pos (by simpa using h1)] at h0; exact absurd h0 h1)
           | (rw [picksE, if_neg (by simpa using h2), pksR, if_pos (by omega)] at h0; simp at h0; done)
           | (rw [picksE, if_neg (by simpa using h2), hg, pgo_ne (by simpa using h7)] at h0; exact absurd h0 (by simpa using h7)))
      | (have hz : picksE r k s l = 0 := by rw [picksE, if_neg (by simpa using h2), hg]; rfl
         rw [hz]
         exact ret_q rfl ⟨_, rfl, fun _ => ⟨b, m, va, v, S, rfl, ok, rfl⟩⟩)
    · try simp at h4
      refine hw_skip ?_
      refine seqQ_n ?_
      refine hw_seq ?_
      refine hw_reg ?_
      refine dp rfl (pop_move rfl) ?_
      refine dp rfl (pop_lenm ty36 rfl) ?_
      refine dp rfl (pop_move rfl) ?_
      refine dn ?_
      refine hw_block ?_
      refine hw_loopw3 [8, 9, 13, 14, 38, 39, 40, 41, 42, 43, 44, 45, 46, 47, 48, 49, 50, 51] (fun (i : Nat) (v : Value) (S : List Str) => [(38, .int .i64 i)]) (fun (i : Nat) (v : Value) (S : List Str) => (RunM b m va v r (open1 r k s) ((freeP r k s).drop i) (l.take i) S)) (fun (i : Nat) (v : Value) (S : List Str) => i ≤ l.length ∧ (RunOk r k s (l.take i) S ∧ pksR r k s l = pksGo r k (freeP r k s) l i (l.drop i))) (fun (i : Nat) (v : Value) (S : List Str) => l.length - i) (0) (v0) (S0) ?_ ?_ ?_ ?_
      · refine ⟨Nat.zero_le _, ok0, ?_⟩
        rw [pksR, if_neg (by omega)]; rfl
      · exact ⟨rfl, trivial⟩
      · exact List.Perm.refl _
      · intro i v S hinv
        obtain ⟨hi, ok, hg⟩ := hinv
        refine hw_reg ?_
        refine dp rfl (pop_lss rfl rfl) ?_
        refine dn ?_
        refine hw_seq ?_
        refine hw_cond rfl (fun h5 => ?_) (fun h6 => ?_)
        · try simp at h5
          obtain ⟨x, hx⟩ : ∃ x, l[i]? = some x := ⟨_, List.getElem?_eq_getElem h5⟩
          have hdx := drop_cons hx
          rw [hdx] at hg
          refine hw_skip ?_
          refine seqQ_n ?_
          refine hw_seq ?_
          refine hw_block ?_
          refine hw_reg ?_
          refine dp rfl (pop_idx ty36 ty55 rfl rfl rfl (by first | assumption | simp_all)) ?_
          refine dp rfl (pop_loadw ty55 rfl rfl rfl rfl) ?_
          refine de rfl (eop_alloc ty55 rfl fun b13 => ?_)
          refine de0 (eop_storew ty55 rfl rfl rfl rfl rfl ?_)
          refine dn ?_
          refine hw_ghost (Ghost.fc0 13 rfl) ?_
          refine hw_seq ?_
          refine hw_reg ?_
          refine dp rfl (pop_move rfl) ?_
          refine dp rfl (pop_loadw ty55 rfl rfl rfl rfl) ?_
          refine de rfl (eop_callw (hs' := [.vptr (RunH r (open1 r k s) ((freeP r k s).drop i) (l.take i) S) 0, ePick x]) ca108 rfl ⟨bowRun0, .refl, trivial⟩ (c_draft_run_fault (k := k) (s := s) (fr := freeP r k s) (by simp; omega) (by rw [List.length_take, Nat.min_eq_left hi]) (by simp; omega) ok hp hso) rfl ?_)
          refine dp rfl (pop_assign rfl) ?_
          refine dn ?_
          refine hw_reg ?_
          refine dp rfl (pop_move rfl) ?_
          refine dp rfl (pop_neq rfl rfl) ?_
          refine dn ?_
          refine hw_cond rfl (fun h7 => ?_) (fun h8 => ?_)
          · try simp at h7
            refine hw_reg ?_
            refine dp rfl (pop_move rfl) ?_
            refine dp rfl (pop_assign rfl) ?_
            refine dp rfl (pop_assign rfl) ?_
            refine dn ?_
            refine hw_ret ?_
            first
            | (refine ret_g Ghost.clear rfl ⟨.pointer none, ?_, fun h0 => ?_⟩
               · show HVal.tup _ = _
                 first
                 | (rw [picksE, if_pos (by simpa using h1)]; rfl)
                 | (rw [picksE, if_neg (by simpa using h2), pksR, if_pos (by omega)]; rfl)
                 | (rw [picksE, if_neg (by simpa using h2), hg, pgo_ne (by simpa using h7)]; rfl)
               · exfalso
                 first
                 | (rw [picksE, if_pos (by simpa using h1)] at h0; exact absurd h0 h1)
                 | (rw [picksE, if_neg (by simpa using h2), pksR, if_pos (by omega)] at h0; simp at h0; done)
                 | (rw [picksE, if_neg (by simpa using h2), hg, pgo_ne (by simpa using h7)] at h0; exact absurd h0 (by simpa using h7)))
            | (have hz : picksE r k s l = 0 := by rw [picksE, if_neg (by simpa using h2), hg]; rfl
               rw [hz]
               exact ret_q rfl ⟨_, rfl, fun _ => ⟨b, m, va, v, S, rfl, ok, rfl⟩⟩)
          · try simp at h8
            refine hw_skip ?_
            refine seqQ_n ?_
            refine hw_reg1 ?_
            refine dp rfl (pop_move rfl) ?_
            refine dp rfl (pop_loadw ty55 rfl rfl rfl rfl) ?_
            refine de rfl (eop_callf (M1 := (RunM b m va v r (open1 r k s) ((freeP r k s).drop i) (l.take i) S)) (R := []) ca67 rfl (WeakL.refl _) (List.Perm.refl _) (c_draft_run_pick (p := x) (by simp; omega) (by simp; omega)) ?_)
            rintro _ _ ⟨v50, rfl, rfl⟩
            refine dn ?_
            refine blockQ_n ?_
            refine seqQ_n ?_
            refine hw_reg1 ?_
            refine dp rfl (pop_add64 rfl rfl (by omega) (by omega)) ?_
            refine dp rfl (pop_move rfl) ?_
            refine dn ?_
            exact ⟨i + 1, v50, sadd x.Player S, ⟨by omega, by rw [take_snoc' hx]; exact ok.add x, by rw [hg, pgo_z (by simpa using h8)]⟩, by dsimp only; omega, ⟨rfl, trivial⟩, (by repeat (first | exact keeps_refl | refine keeps_upd rfl ?_ | refine keeps_loop rfl rfl ?_)), perm_eq (by dsimp only; rw [take_snoc' hx, List.drop_drop]; rfl)⟩
        · try simp at h6
          have hni : l.length ≤ i := by omega
          obtain rfl : i = l.length := by omega
          rw [drop_all (Nat.le_refl _)] at hg
          rw [List.take_length] at ok
          refine hw_ghost (Ghost.of_eq (M' := (RunM b m va v r (open1 r k s) ((freeP r k s).drop l.length) l S)) (by rw [List.take_length])) ?_
          refine hw_exit ?_
          refine seqQ_x ?_
          refine loopQ3_x ?_
          refine blockQ_eq ?_
          refine seqQ_n ?_
          refine hw_reg ?_
          refine dp rfl (pop_move rfl) ?_
          refine dp rfl (pop_assign rfl) ?_
          refine dp rfl (pop_assign rfl) ?_
          refine dn ?_
          refine hw_ret ?_
          first
          | (refine ret_g Ghost.clear rfl ⟨.pointer none, ?_, fun h0 => ?_⟩
             · show HVal.tup _ = _
               first
               | (rw [picksE, if_pos (by simpa using h1)]; rfl)
               | (rw [picksE, if_neg (by simpa using h2), pksR, if_pos (by omega)]; rfl)
               | (rw [picksE, if_neg (by simpa using h2), hg, pgo_ne (by simpa using h7)]; rfl)
             · exfalso
               first
               | (rw [picksE, if_pos (by simpa using h1)] at h0; exact absurd h0 h1)
               | (rw [picksE, if_neg (by simpa using h2), pksR, if_pos (by omega)] at h0; simp at h0; done)
               | (rw [picksE, if_neg (by simpa using h2), hg, pgo_ne (by simpa using h7)] at h0; exact absurd h0 (by simpa using h7)))
          | (have hz : picksE r k s l = 0 := by rw [picksE, if_neg (by simpa using h2), hg]; rfl
             rw [hz]
             exact ret_q rfl ⟨_, rfl, fun _ => ⟨b, m, va, v, S, rfl, ok, rfl⟩⟩)
end Go.Proofs.YtoomadfbldcioaaGreatDoor
end
section
namespace Go.Proofs.YtoomadfbldcioaaGreatDoor
open Go.HL
set_option maxRecDepth 100000
set_option linter.unusedVariables false
set_option linter.unusedSimpArgs false
end Go.Proofs.YtoomadfbldcioaaGreatDoor
end
section
namespace Go.Proofs.YtoomadfbldcioaaGreatDoor
open Go.HL
set_option maxRecDepth 100000
set_option linter.unusedVariables false
set_option linter.unusedSimpArgs false
end Go.Proofs.YtoomadfbldcioaaGreatDoor
end
section
namespace Go.Proofs.YtoomadfbldcioaaGreatDoor
open Go.HL
set_option maxRecDepth 100000
set_option linter.unusedVariables false
set_option linter.unusedSimpArgs false
/-- slices.IndexFunc[[]benchwarmer/api.Pick,benchwarmer/api.Pick] -/
theorem c_slices_IndexFunc_api_Pick_api_Pick {l : List Pick} {fid : FuncId} {caps : List HVal} {p : Pick → Bool} (hca : Callable Tryz.prog fid) (hp : ∀ x, ConP Tryz.prog fid ([ePick x] ++ caps) (.bool (p x))) (hl : l.length ≤ 1000000) : ConP Tryz.prog 110 [.slice 5 (l.map ePick), .fn (.func fid) [] caps] (.int .i64 (idxF p l 0)) := by
  refine Con.of_body Tryz.func110 rfl Tryz.ntmps110 rfl rfl ?_
  refine hw_reg ?_
  refine dp rfl (pop_assign rfl) ?_
  refine dn ?_
  refine hw_seq ?_
  refine hw_reg ?_
  refine dp rfl (pop_move rfl) ?_
  refine dp rfl (pop_lenm ty36 rfl) ?_
  refine dp rfl (pop_move rfl) ?_
  refine dn ?_
  refine hw_block ?_
  refine hw_loopw [4, 5, 8, 9, 10, 11, 12, 13, 14, 15, 16, 17, 18] (fun (k : Nat) => [(8, .int .i64 k)]) (fun (k : Nat) => []) (fun (k : Nat) => k ≤ l.length ∧ (idxF p l 0 = idxF p (l.drop k) k)) (fun (k : Nat) => l.length - k) (0) ?_ ?_ ?_ ?_
  · exact ⟨Nat.zero_le _, rfl⟩
  · exact ⟨rfl, trivial⟩
  · exact List.Perm.refl _
  · intro k hinv
    obtain ⟨hk, hg⟩ := hinv
    refine hw_reg ?_
    refine dp rfl (pop_lss rfl rfl) ?_
    refine dn ?_
    refine hw_seq ?_
    refine hw_cond rfl (fun h1 => ?_) (fun h2 => ?_)
    · try simp at h1
      obtain ⟨x, hx⟩ : ∃ x, l[k]? = some x := ⟨_, List.getElem?_eq_getElem h1⟩
      have hdx := drop_cons hx
      rw [hdx] at hg
      refine hw_skip ?_
      refine seqQ_n ?_
      refine hw_seq ?_
      refine hw_block ?_
      refine hw_reg ?_
      refine dp rfl (pop_move rfl) ?_
      refine dp rfl (pop_assign rfl) ?_
      refine dn ?_
      refine hw_reg ?_
      refine dp rfl (pop_move rfl) ?_
      refine dp rfl (pop_move rfl) ?_
      refine dp rfl (pop_move rfl) ?_
      refine dp rfl (pop_idx ty36 ty55 rfl rfl rfl (by first | assumption | simp_all)) ?_
      refine dp rfl (pop_loadw ty55 rfl rfl rfl rfl) ?_
      refine dp rfl (pop_callv hca rfl rfl (WeakL.refl _) (hp _)) ?_
      refine dn ?_
      refine hw_cond rfl (fun h3 => ?_) (fun h4 => ?_)
      · try simp at h3
        refine hw_reg ?_
        refine dp rfl (pop_move rfl) ?_
        refine dp rfl (pop_assign rfl) ?_
        refine dn ?_
        refine hw_ret ?_
        refine ret_p rfl ?_
        show HVal.int .i64 _ = _
        first | (rw [hg]; rfl) | (rw [hg]; simp_all [idxF])
      · try simp at h4
        refine hw_skip ?_
        refine blockQ_n ?_
        refine seqQ_n ?_
        refine hw_reg1 ?_
        refine dp rfl (pop_add64 rfl rfl (by omega) (by omega)) ?_
        refine dp rfl (pop_move rfl) ?_
        refine dn ?_
        refine ⟨k + 1, ?_, ?_, ⟨rfl, trivial⟩, (by repeat (first | exact keeps_refl | refine keeps_upd rfl ?_ | refine keeps_loop rfl rfl ?_)), List.Perm.refl _⟩
        · refine ⟨by omega, ?_⟩
          rw [hg, idxF, if_neg (by simp_all)]; rfl
        · dsimp only; omega
    · try simp at h2
      have hnk : l.length ≤ k := by omega
      obtain rfl : k = l.length := by omega
      rw [drop_all (Nat.le_refl _)] at hg
      refine hw_exit ?_
      refine seqQ_x ?_
      refine loopQ_x ?_
      refine blockQ_eq ?_
      refine seqQ_n ?_
      refine hw_reg ?_
      refine dp rfl (pop_assign rfl) ?_
      refine dn ?_
      refine hw_ret ?_
      refine ret_p rfl ?_
      show HVal.int .i64 _ = _
      first | (rw [hg]; rfl) | (rw [hg]; simp_all [idxF])

/-- slices.ContainsFunc[[]benchwarmer/api.Pick,benchwarmer/api.Pick] -/
theorem c_slices_ContainsFunc_api_Pick_api_Pick {l : List Pick} {fid : FuncId} {caps : List HVal} {p : Pick → Bool} (hca : Callable Tryz.prog fid) (hp : ∀ x, ConP Tryz.prog fid ([ePick x] ++ caps) (.bool (p x))) (hl : l.length ≤ 1000000) : ConP Tryz.prog 79 [.slice 5 (l.map ePick), .fn (.func fid) [] caps] (.bool (l.any p)) := by
  refine Con.of_body Tryz.func79 rfl Tryz.ntmps79 rfl rfl ?_
  refine hw_reg ?_
  refine dp rfl (pop_assign rfl) ?_
  refine dn ?_
  refine hw_reg ?_
  refine dp rfl (pop_move rfl) ?_
  refine dp rfl (pop_move rfl) ?_
  refine dp rfl (pop_call ca110 rfl (WeakL.refl _) (c_slices_IndexFunc_api_Pick_api_Pick hca hp hl)) ?_
  refine dp rfl (pop_geq rfl rfl) ?_
  refine dp rfl (pop_assign rfl) ?_
  refine dn ?_
  refine hw_ret ?_
  refine ret_p rfl ?_
  congr 1; exact idxF_nonneg p l 0 (by omega)

/-- slices.DeleteFunc[[]benchwarmer/api.Pick,benchwarmer/api.Pick] -/
theorem c_slices_DeleteFunc_api_Pick_api_Pick {l : List Pick} {fid : FuncId} {caps : List HVal} {p : Pick → Bool} {v : Value} (hca : Callable Tryz.prog fid) (hp : ∀ x, ConP Tryz.prog fid ([ePick x] ++ caps) (.bool (p x))) (hl : l.length ≤ 1000000) : Con Tryz.prog 82 [.raw v, .fn (.func fid) [] caps] [.arr v 5 (l.map ePick)] (fun x M' => ∃ u, x = .raw u ∧ M' = [.arr u 5 ((l.filter (fun x => !p x)).map ePick)]) := by
  refine Con.of_body Tryz.func82 rfl Tryz.ntmps82 rfl rfl ?_
  refine hw_reg ?_
  refine dp rfl (pop_assign rfl) ?_
  refine dn ?_
  refine hw_reg ?_
  refine dp rfl (pop_move rfl) ?_
  refine dp rfl (pop_move rfl) ?_
  refine de rfl (eop_callb (hs' := [.slice 5 (l.map ePick), .fn (.func fid) [] caps]) ca110 rfl ⟨.arr (i := 0) rfl, .weak (Weak.refl _), trivial⟩ (c_slices_IndexFunc_api_Pick_api_Pick (p := p) hca hp hl) rfl ?_)
  refine dp rfl (pop_assign rfl) ?_
  refine dn ?_
  refine hw_seq ?_
  refine hw_reg ?_
  refine dp rfl (pop_move rfl) ?_
  refine dp rfl (pop_eql rfl rfl) ?_
  refine dn ?_
  refine hw_cond rfl (fun h1 => ?_) (fun h2 => ?_)
  · try simp at h1
    refine hw_reg ?_
    refine dp rfl (pop_move rfl) ?_
    refine dp rfl (pop_assign rfl) ?_
    refine dn ?_
    refine hw_ret ?_
    first
    | (refine ret_q rfl ⟨_, rfl, ?_⟩
       rw [idxF_none p l 0 (by omega) h1]
       done)
    | (refine ret_q rfl ⟨_, rfl, ?_⟩
       rw [List.take_length, ← List.map_take, hend]; rfl)
  · try simp at h2
    refine hw_skip ?_
    refine seqQ_n ?_
    refine hw_seq ?_
    obtain ⟨i0, hi0, hil, ⟨x0, hx0, hp0⟩, hb0⟩ := idxF_found p l 0 (by omega) h2
    rw [Int.zero_add] at hi0
    obtain ⟨hD0, hn0⟩ := DelInv.start (p := p) hil hx0 hp0 hb0
    refine hw_arrc (i := 0) rfl (fun h0 he => ?_) (fun b off cap hv hcap => ?_)
    · exfalso; have := congrArg List.length he; simp at this; subst this; simp at hil
    rw [List.length_map] at hv hcap
    subst hv
    refine hw_reg ?_
    refine dp rfl (pop_move rfl) ?_
    refine dp rfl (pop_eq (pop_add64 rfl rfl (by rw [hi0]; omega) (by rw [hi0]; omega)) (congrArg _ (by rw [hi0]))) ?_
    refine dp rfl (pop_assign rfl) ?_
    refine dn ?_
    refine hw_block ?_
    refine hw_loopw2 [5, 6, 7, 16, 17, 18, 19, 20, 21, 22, 23, 24, 25, 26, 27, 28, 29, 30, 31, 32, 33, 34, 35] (fun (j : Nat) (D : List Pick) => [(6, .int .i64 (j : Int)), (5, .int .i64 (((l.take j).filter (fun x => !p x)).length : Int))]) (fun (j : Nat) (D : List Pick) => [.arr (.slice (some ⟨b, off, none⟩) l.length cap) 5 (D.map ePick)]) (fun (j : Nat) (D : List Pick) => DelInv p l j D) (fun (j : Nat) (D : List Pick) => l.length - j) (i0 + 1) (l) ?_ ?_ ?_ ?_
    · exact hD0
    · exact ⟨rfl, some_int (by rw [hn0, hi0]), trivial⟩
    · exact List.Perm.refl _
    · intro j D hD
      have hlt0 := hD.lt
      have hle0 := hD.len
      refine hw_seq ?_
      refine hw_reg ?_
      refine dp rfl (pop_move rfl) ?_
      refine dp rfl (pop_move rfl) ?_
      first
      | refine de rfl (eop_lenm (i := 0) ty36 rfl rfl ?_)
      | refine de rfl (eop_lenm (i := 1) ty36 rfl rfl ?_)
      | refine de rfl (eop_lenm (i := 2) ty36 rfl rfl ?_)
      | refine de rfl (eop_lenm (i := 3) ty36 rfl rfl ?_)
      refine dp rfl (pop_lss rfl rfl) ?_
      refine dn ?_
      refine hw_cond rfl (fun h3 => ?_) (fun h4 => ?_)
      · try simp at h3
        obtain ⟨x, hx⟩ : ∃ x, l[j]? = some x := ⟨_, List.getElem?_eq_getElem (by omega)⟩
        refine hw_skip ?_
        refine seqQ_n ?_
        refine hw_seq ?_
        refine hw_block ?_
        refine hw_reg ?_
        refine dp rfl (pop_move rfl) ?_
        refine dp rfl (pop_move rfl) ?_
        refine dp rfl (pop_idxraw (j := j) ty36 ty55 rfl rfl rfl (by omega)) ?_
        refine de rfl (eop_load_elw (i := 0) (j := j) ty55 rfl rfl rfl (hD.get hx) rfl rfl rfl ?_)
        refine de rfl (eop_alloc ty55 rfl fun b7 => ?_)
        refine de0 (eop_storew ty55 rfl rfl rfl rfl rfl ?_)
        refine dn ?_
        refine hw_ghost (Ghost.fc0 7 rfl) ?_
        refine hw_reg ?_
        refine dp rfl (pop_move rfl) ?_
        refine dp rfl (pop_loadw ty55 rfl rfl rfl rfl) ?_
        refine dp rfl (pop_callv hca rfl rfl (WeakL.refl _) (hp _)) ?_
        refine dp rfl (pop_not rfl) ?_
        refine dn ?_
        refine hw_cond rfl (fun h5 => ?_) (fun h6 => ?_)
        · try simp at h5
          refine hw_reg ?_
          refine dp rfl (pop_move rfl) ?_
          refine dp rfl (pop_move rfl) ?_
          refine dp rfl (pop_loadw ty55 rfl rfl rfl rfl) ?_
          refine dp rfl (pop_idxraw (j := ((l.take j).filter (fun x => !p x)).length) ty36 ty55 rfl rfl rfl (by have := hD.lt; omega)) ?_
          refine de0 (eop_store_elw (i := 0) (j := ((l.take j).filter (fun x => !p x)).length) (y := D[((l.take j).filter (fun x => !p x)).length]'(by have := hD.lt; have := hD.len; omega)) (y' := x) ty55 rfl rfl rfl rfl (List.getElem?_eq_getElem _) rfl rfl rfl ?_)
          refine dn ?_
          refine hw_reg1 ?_
          refine dp rfl (pop_move rfl) ?_
          refine dp rfl (pop_add64 rfl rfl (by omega) (by have := hD.lt; omega)) ?_
          refine dp rfl (pop_assign rfl) ?_
          refine dn ?_
          refine blockQ_n ?_
          refine seqQ_n ?_
          refine hw_reg1 ?_
          refine dp rfl (pop_move rfl) ?_
          refine dp rfl (pop_add64 rfl rfl (by omega) (by omega)) ?_
          refine dp rfl (pop_assign rfl) ?_
          refine dn ?_
          first
          | exact ⟨j + 1, _, (hD.keep hx (by simp_all)).1, by dsimp only; omega, ⟨rfl, some_int (by rw [(hD.keep hx (by simp_all)).2]; rfl), trivial⟩, (by repeat (first | exact keeps_refl | refine keeps_upd rfl ?_ | refine keeps_loop rfl rfl ?_)), List.Perm.refl _⟩
          | exact ⟨j + 1, _, (hD.skip hx (by simp_all)).1, by dsimp only; omega, ⟨rfl, some_int (by rw [(hD.skip hx (by simp_all)).2]), trivial⟩, (by repeat (first | exact keeps_refl | refine keeps_upd rfl ?_ | refine keeps_loop rfl rfl ?_)), List.Perm.refl _⟩
        · try simp at h6
          refine hw_skip ?_
          refine blockQ_n ?_
          refine seqQ_n ?_
          refine hw_reg1 ?_
          refine dp rfl (pop_move rfl) ?_
          refine dp rfl (pop_add64 rfl rfl (by omega) (by omega)) ?_
          refine dp rfl (pop_assign rfl) ?_
          refine dn ?_
          first
          | exact ⟨j + 1, _, (hD.keep hx (by simp_all)).1, by dsimp only; omega, ⟨rfl, some_int (by rw [(hD.keep hx (by simp_all)).2]; rfl), trivial⟩, (by repeat (first | exact keeps_refl | refine keeps_upd rfl ?_ | refine keeps_loop rfl rfl ?_)), List.Perm.refl _⟩
          | exact ⟨j + 1, _, (hD.skip hx (by simp_all)).1, by dsimp only; omega, ⟨rfl, some_int (by rw [(hD.skip hx (by simp_all)).2]), trivial⟩, (by repeat (first | exact keeps_refl | refine keeps_upd rfl ?_ | refine keeps_loop rfl rfl ?_)), List.Perm.refl _⟩
      · try simp at h4
        obtain rfl : j = l.length := by have := hD.jle; omega
        have hend := hD.done
        refine hw_exit ?_
        refine seqQ_x ?_
        refine loopQ2_x ?_
        refine blockQ_eq ?_
        refine seqQ_n ?_
        refine hw_reg ?_
        refine dp rfl (pop_move rfl) ?_
        refine dp rfl (pop_move rfl) ?_
        refine dp rfl (pop_slraw (l := ((l.take l.length).filter (fun x => !p x)).length) ty36 ty55 rfl ⟨_, _, rfl, rfl⟩ rfl (by omega) (by omega) hcap) ?_
        refine de0 (eop_clear_at (i := 0) (m := ((l.take l.length).filter (fun x => !p x)).length) (((l.take l.length).filter (fun x => !p x)).length) ty36 ty55 rfl rfl rfl (slOff_or (by omega) hcap) rfl (by omega) (Nat.le_refl _) (by rw [List.length_map, hD.len]; omega) ?_)
        refine dn ?_
        refine hw_reg ?_
        refine dp rfl (pop_move rfl) ?_
        refine dp rfl (pop_move rfl) ?_
        refine dp rfl (pop_slraw0 (h := ((l.take l.length).filter (fun x => !p x)).length) ty36 ty55 rfl ⟨_, _, rfl, rfl⟩ (by omega)) ?_
        refine dp rfl (pop_assign rfl) ?_
        refine dn ?_
        refine hw_ret ?_
        first
        | (refine ret_q rfl ⟨_, rfl, ?_⟩
           rw [idxF_none p l 0 (by omega) h1]
           done)
        | (refine ret_q rfl ⟨_, rfl, ?_⟩
           rw [List.take_length, ← List.map_take, hend]; rfl)

/-- slices.IndexFunc[[]benchwarmer/api.Keep,benchwarmer/api.Keep] -/
theorem c_slices_IndexFunc_api_Keep_api_Keep {l : List Keep} {fid : FuncId} {caps : List HVal} {p : Keep → Bool} (hca : Callable Tryz.prog fid) (hp : ∀ x, ConP Tryz.prog fid ([eKeep x] ++ caps) (.bool (p x))) (hl : l.length ≤ 1000000) : ConP Tryz.prog 109 [.slice 3 (l.map eKeep), .fn (.func fid) [] caps] (.int .i64 (idxF p l 0)) := by
  refine Con.of_body Tryz.func109 rfl Tryz.ntmps109 rfl rfl ?_
  refine hw_reg ?_
  refine dp rfl (pop_assign rfl) ?_
  refine dn ?_
  refine hw_seq ?_
  refine hw_reg ?_
  refine dp rfl (pop_move rfl) ?_
  refine dp rfl (pop_lenm ty30 rfl) ?_
  refine dp rfl (pop_move rfl) ?_
  refine dn ?_
  refine hw_block ?_
  refine hw_loopw [4, 5, 8, 9, 10, 11, 12, 13, 14, 15, 16, 17, 18] (fun (k : Nat) => [(8, .int .i64 k)]) (fun (k : Nat) => []) (fun (k : Nat) => k ≤ l.length ∧ (idxF p l 0 = idxF p (l.drop k) k)) (fun (k : Nat) => l.length - k) (0) ?_ ?_ ?_ ?_
  · exact ⟨Nat.zero_le _, rfl⟩
  · exact ⟨rfl, trivial⟩
  · exact List.Perm.refl _
  · intro k hinv
    obtain ⟨hk, hg⟩ := hinv
    refine hw_reg ?_
    refine dp rfl (pop_lss rfl rfl) ?_
    refine dn ?_
    refine hw_seq ?_
    refine hw_cond rfl (fun h1 => ?_) (fun h2 => ?_)
    · try simp at h1
      obtain ⟨x, hx⟩ : ∃ x, l[k]? = some x := ⟨_, List.getElem?_eq_getElem h1⟩
      have hdx := drop_cons hx
      rw [hdx] at hg
      refine hw_skip ?_
      refine seqQ_n ?_
      refine hw_seq ?_
      refine hw_block ?_
      refine hw_reg ?_
      refine dp rfl (pop_move rfl) ?_
      refine dp rfl (pop_assign rfl) ?_
      refine dn ?_
      refine hw_reg ?_
      refine dp rfl (pop_move rfl) ?_
      refine dp rfl (pop_move rfl) ?_
      refine dp rfl (pop_move rfl) ?_
      refine dp rfl (pop_idx ty30 ty88 rfl rfl rfl (by first | assumption | simp_all)) ?_
      refine dp rfl (pop_loadw ty88 rfl rfl rfl rfl) ?_
      refine dp rfl (pop_callv hca rfl rfl (WeakL.refl _) (hp _)) ?_
      refine dn ?_
      refine hw_cond rfl (fun h3 => ?_) (fun h4 => ?_)
      · try simp at h3
        refine hw_reg ?_
        refine dp rfl (pop_move rfl) ?_
        refine dp rfl (pop_assign rfl) ?_
        refine dn ?_
        refine hw_ret ?_
        refine ret_p rfl ?_
        show HVal.int .i64 _ = _
        first | (rw [hg]; rfl) | (rw [hg]; simp_all [idxF])
      · try simp at h4
        refine hw_skip ?_
        refine blockQ_n ?_
        refine seqQ_n ?_
        refine hw_reg1 ?_
        refine dp rfl (pop_add64 rfl rfl (by omega) (by omega)) ?_
        refine dp rfl (pop_move rfl) ?_
        refine dn ?_
        refine ⟨k + 1, ?_, ?_, ⟨rfl, trivial⟩, (by repeat (first | exact keeps_refl | refine keeps_upd rfl ?_ | refine keeps_loop rfl rfl ?_)), List.Perm.refl _⟩
        · refine ⟨by omega, ?_⟩
          rw [hg, idxF, if_neg (by simp_all)]; rfl
        · dsimp only; omega
    · try simp at h2
      have hnk : l.length ≤ k := by omega
      obtain rfl : k = l.length := by omega
      rw [drop_all (Nat.le_refl _)] at hg
      refine hw_exit ?_
      refine seqQ_x ?_
      refine loopQ_x ?_
      refine blockQ_eq ?_
      refine seqQ_n ?_
      refine hw_reg ?_
      refine dp rfl (pop_assign rfl) ?_
      refine dn ?_
      refine hw_ret ?_
      refine ret_p rfl ?_
      show HVal.int .i64 _ = _
      first | (rw [hg]; rfl) | (rw [hg]; simp_all [idxF])

/-- slices.ContainsFunc[[]benchwarmer/api.Keep,benchwarmer/api.Keep] -/
theorem c_slices_ContainsFunc_api_Keep_api_Keep {l : List Keep} {fid : FuncId} {caps : List HVal} {p : Keep → Bool} (hca : Callable Tryz.prog fid) (hp : ∀ x, ConP Tryz.prog fid ([eKeep x] ++ caps) (.bool (p x))) (hl : l.length ≤ 1000000) : ConP Tryz.prog 77 [.slice 3 (l.map eKeep), .fn (.func fid) [] caps] (.bool (l.any p)) := by
  refine Con.of_body Tryz.func77 rfl Tryz.ntmps77 rfl rfl ?_
  refine hw_reg ?_
  refine dp rfl (pop_assign rfl) ?_
  refine dn ?_
  refine hw_reg ?_
  refine dp rfl (pop_move rfl) ?_
  refine dp rfl (pop_move rfl) ?_
  refine dp rfl (pop_call ca109 rfl (WeakL.refl _) (c_slices_IndexFunc_api_Keep_api_Keep hca hp hl)) ?_
  refine dp rfl (pop_geq rfl rfl) ?_
  refine dp rfl (pop_assign rfl) ?_
  refine dn ?_
  refine hw_ret ?_
  refine ret_p rfl ?_
  congr 1; exact idxF_nonneg p l 0 (by omega)

/-- benchwarmer/benchref1.OpenOf -/
theorem c_benchref1_OpenOf_a {r : Room} {l : List Keep} {s : List Swap} (ht0 : 0 < r.Teams.length) (ht : r.Teams.length ≤ 20) (hr0 : 1 ≤ r.Rounds) (hr : r.Rounds ≤ 30) (hk0 : l.length ≤ 1000000) (hl : s.length ≤ 1000000) (hlen : (turns r s).length ≤ 600) : ConA Tryz.prog 83 [eRoom r, eKeeps l, eSwaps s] 5 ((open1 r l s).map ePick) := by
  have ho := ownFrom_len r r.Rounds.toNat
  have hm := Nat.mul_le_mul (show r.Rounds.toNat ≤ 30 by omega) ht
  have ho6 : (ownTurns r).length ≤ 600 := by unfold ownTurns; omega
  have hot : (ownTurns r).length = (turns r s).length := by rw [← ref_turns, tfor_len]
  refine Con.of_body Tryz.func83 rfl Tryz.ntmps83 rfl rfl ?_
  refine hw_reg ?_
  refine dp rfl (pop_box rfl rfl) ?_
  refine dp rfl (pop_assign rfl) ?_
  refine dn ?_
  refine hw_reg ?_
  refine dp rfl (pop_loadw ty28 rfl rfl rfl rfl) ?_
  refine dp rfl (pop_call ca112 rfl (WeakL.refl _) (c_benchref1_ownTurns (by first | assumption | omega | (simp; omega) | simp_all) (by first | assumption | omega | (simp; omega) | simp_all) (by first | assumption | omega | (simp; omega) | simp_all))) ?_
  refine dp rfl (pop_assign rfl) ?_
  refine dn ?_
  refine hw_reg ?_
  refine dp rfl (pop_assign rfl) ?_
  refine dn ?_
  refine hw_ghost (Ghost.arr_nil 5) ?_
  refine hw_seq ?_
  refine hw_reg ?_
  refine dp rfl (pop_loadw ty28 rfl rfl rfl rfl) ?_
  refine dp rfl (pop_move rfl) ?_
  refine dp rfl (pop_call ca113 rfl (WeakL.refl _) (c_benchref1_TurnsFor (by first | assumption | omega | (simp; omega) | simp_all) (by first | assumption | omega | (simp; omega) | simp_all) (by first | assumption | omega | (simp; omega) | simp_all) (by first | assumption | omega | (simp; omega) | simp_all) (by first | assumption | omega | (simp; omega) | simp_all))) ?_
  refine dp rfl (pop_lenm ty26 rfl) ?_
  refine dp rfl (pop_move rfl) ?_
  refine dn ?_
  refine hw_block ?_
  refine hw_loopw2 [8, 9, 10, 11, 13, 20, 21, 22, 23, 24, 25, 26, 27, 28, 29, 30, 31, 32, 33, 34, 35, 36, 37, 38, 39, 40, 41, 42, 43, 44, 45, 46, 47, 48, 49, 50, 51, 52, 53, 54, 55, 56, 57, 58, 59, 60, 61, 62, 63] (fun (i : Nat) (u : Value) => [(20, .int .i64 i), (8, .raw u)]) (fun (i : Nat) (u : Value) => [.arr u 5 ((openFrom r l 0 ((turns r s).take i)).map ePick)]) (fun (i : Nat) (u : Value) => i ≤ (turns r s).length ∧ (True)) (fun (i : Nat) (u : Value) => (turns r s).length - i) (0) (.slice none 0 0) ?_ ?_ ?_ ?_
  · exact ⟨Nat.zero_le _, by simp_all⟩
  · exact ⟨rfl, rfl, trivial⟩
  · exact perm_eq (by simp [openFrom])
  · intro i u hinv
    obtain ⟨hi, -⟩ := hinv
    refine hw_reg ?_
    refine dp rfl (pop_lss rfl rfl) ?_
    refine dn ?_
    refine hw_seq ?_
    refine hw_cond rfl (fun h1 => ?_) (fun h2 => ?_)
    · try simp at h1
      obtain ⟨t, ht⟩ : ∃ t, (turns r s)[i]? = some t := ⟨_, List.getElem?_eq_getElem h1⟩
      have hdt := drop_cons ht
      obtain ⟨w, hw⟩ : ∃ w, (ownTurns r)[i]? = some w := ⟨_, List.getElem?_eq_getElem (by omega)⟩
      have htw := tfor_get r s _ 0 i w hw
      rw [ref_turns, ht, Nat.zero_add] at htw
      obtain rfl := Option.some.inj htw
      have hdl := Nat.div_le_self i r.Teams.length
      have hdn : (0:Int) ≤ ((i / r.Teams.length : Nat) : Int) := Int.natCast_nonneg _
      refine hw_skip ?_
      refine seqQ_n ?_
      refine hw_seq ?_
      refine hw_block ?_
      refine hw_reg ?_
      refine dp rfl (pop_move rfl) ?_
      refine dp rfl (pop_idx (j := i) (a := owner (((i / r.Teams.length : Nat) : Int) + 1) w s) ty26 ty9 rfl rfl rfl (by rw [List.getElem?_map, ht]; rfl)) ?_
      refine dp rfl (pop_load ty9 rfl rfl rfl) ?_
      refine dp rfl (pop_assign rfl) ?_
      refine dp rfl (pop_assign rfl) ?_
      refine dn ?_
      refine hw_reg ?_
      refine dp rfl (pop_move rfl) ?_
      refine dp rfl (pop_move rfl) ?_
      refine dp rfl (pop_build (cs := [_, _, _, _, _]) ty55 pl55 rfl) ?_
      refine de rfl (eop_alloc ty55 rfl fun b11 => ?_)
      refine de0 (eop_storew ty55 rfl rfl rfl rfl rfl ?_)
      refine dn ?_
      refine hw_seq ?_
      refine hw_reg ?_
      refine dp rfl (pop_move rfl) ?_
      refine dp rfl (pop_lenm ty30 rfl) ?_
      refine dp rfl (pop_move rfl) ?_
      refine dn ?_
      refine hw_block ?_
      refine hw_loopw2 [13, 30, 31, 32, 33, 34, 35, 36, 37, 38, 39, 40, 41, 42, 43, 44, 45, 46, 47, 48, 49, 50, 51, 52, 53, 54, 55, 56, 57, 58] (fun (k : Nat) (p : Pick) => [(30, .int .i64 k)]) (fun (k : Nat) (p : Pick) => [.cells b11 (hcells (ePick p)), .arr u 5 ((openFrom r l 0 ((turns r s).take i)).map ePick)]) (fun (k : Nat) (p : Pick) => k ≤ l.length ∧ (p = keepIn r (⟨((i / r.Teams.length : Nat) : Int) + 1, w, owner (((i / r.Teams.length : Nat) : Int) + 1) w s⟩ : Turn) ⟨i, (⟨((i / r.Teams.length : Nat) : Int) + 1, w, owner (((i / r.Teams.length : Nat) : Int) + 1) w s⟩ : Turn).team, [], 0, false⟩ (l.take k))) (fun (k : Nat) (p : Pick) => l.length - k) (0) (⟨i, owner (((i / r.Teams.length : Nat) : Int) + 1) w s, [], 0, false⟩) ?_ ?_ ?_ ?_
      · exact ⟨Nat.zero_le _, by simp [keepIn]⟩
      · exact ⟨rfl, trivial⟩
      · exact List.Perm.refl _
      · intro k p hinv
        obtain ⟨hk, hp⟩ := hinv
        refine hw_reg ?_
        refine dp rfl (pop_lss rfl rfl) ?_
        refine dn ?_
        refine hw_seq ?_
        refine hw_cond rfl (fun h3 => ?_) (fun h4 => ?_)
        · try simp at h3
          obtain ⟨x, hx⟩ : ∃ x, l[k]? = some x := ⟨_, List.getElem?_eq_getElem h3⟩
          have hdx := drop_cons hx
          refine hw_skip ?_
          refine seqQ_n ?_
          refine hw_seq ?_
          refine hw_block ?_
          refine hw_reg ?_
          refine dp rfl (pop_idx ty30 ty88 rfl rfl rfl (by first | assumption | simp_all)) ?_
          refine dp rfl (pop_loadw ty88 rfl rfl rfl rfl) ?_
          refine de rfl (eop_alloc ty88 rfl fun b13 => ?_)
          refine de0 (eop_storew ty88 rfl rfl rfl rfl rfl ?_)
          refine dn ?_
          refine hw_ghost (Ghost.fc0 13 rfl) ?_
          refine hw_draw (fun _ => True) [] mixed ?_
          refine ahp 0 rfl rfl (by kernel_rfl) (by kernel_rfl) (pop_fieldAddr ty88 rfl ty9 (by decide) rfl) ?_
          refine ahp 1 rfl rfl (by kernel_rfl) (by kernel_rfl) (pop_load ty9 rfl rfl rfl) ?_
          refine ahp 2 rfl rfl (by kernel_rfl) (by kernel_rfl) (pop_move rfl) ?_
          refine ahp 3 rfl rfl (by kernel_rfl) (by kernel_rfl) (pop_move rfl) ?_
          refine ahp 4 rfl rfl (by kernel_rfl) (by kernel_rfl) (pop_idx (j := i) (a := w) ty26 ty9 rfl rfl rfl hw) ?_
          refine ahp 5 rfl rfl (by kernel_rfl) (by kernel_rfl) (pop_load ty9 rfl rfl rfl) ?_
          refine ahp 6 rfl rfl (by kernel_rfl) (by kernel_rfl) (pop_eqls rfl rfl) ?_
          refine ahp 7 rfl rfl (by kernel_rfl) (by kernel_rfl) (pop_move rfl) ?_
          refine ahg 8 rfl rfl (by kernel_rfl) (by kernel_rfl) rfl (fun hc => ⟨_, OpenTo.refl _, pop_fieldAddr ty88 rfl ty3 (by decide) rfl⟩) ?_
          refine ahg 9 rfl rfl (by kernel_rfl) (by kernel_rfl) rfl (fun hc => ⟨_, OpenTo.upd (t := 42) rfl (by first | exact hc | simp_all) (OpenTo.refl _), pop_load ty3 rfl rfl rfl⟩) ?_
          refine ahg 10 rfl rfl (by kernel_rfl) (by kernel_rfl) rfl (fun hc => ⟨_, OpenTo.refl _, pop_move rfl⟩) ?_
          refine ahg 11 rfl rfl (by kernel_rfl) (by kernel_rfl) rfl (fun hc => ⟨_, OpenTo.refl _, pop_fieldAddr ty28 rfl ty26 (by decide) rfl⟩) ?_
          refine ahg 12 rfl rfl (by kernel_rfl) (by kernel_rfl) rfl (fun hc => ⟨_, OpenTo.upd (t := 45) rfl (by first | exact hc | simp_all) (OpenTo.refl _), pop_load ty26 rfl rfl rfl⟩) ?_
          refine ahg 13 rfl rfl (by kernel_rfl) (by kernel_rfl) rfl (fun hc => ⟨_, OpenTo.upd (t := 46) rfl (by first | exact hc | simp_all) (OpenTo.refl _), pop_lenm ty26 rfl⟩) ?_
          refine ahg 14 rfl rfl (by kernel_rfl) (by kernel_rfl) rfl (fun hc => by have hq := hc; (try simp at hq); exact ⟨_, OpenTo.upd (t := 47) rfl (by first | exact hc | simp_all) (OpenTo.upd (t := 44) rfl (by first | exact hc | simp_all) (OpenTo.refl _)), pop_eq (pop_quo64 rfl rfl (by omega) (by omega) (by omega)) (congrArg _ (tdiv_nat _ _))⟩) ?_
          refine ahg 15 rfl rfl (by kernel_rfl) (by kernel_rfl) rfl (fun hc => by have hq := hc; (try simp at hq); exact ⟨_, OpenTo.upd (t := 48) rfl (by first | exact hc | simp_all) (OpenTo.refl _), pop_add64 rfl rfl (by omega) (by omega)⟩) ?_
          refine ahg 16 rfl rfl (by kernel_rfl) (by kernel_rfl) rfl (fun hc => ⟨_, OpenTo.upd (t := 49) rfl (by first | exact hc | simp_all) (OpenTo.upd (t := 43) rfl (by first | exact hc | simp_all) (OpenTo.refl _)), pop_eql rfl rfl⟩) ?_
          refine ahp 17 rfl rfl (by kernel_rfl) (by kernel_rfl) (pop_picko rfl (.inr ⟨_, rfl, fun h => by simp_all⟩) (.inl rfl)) ?_
          refine ahz (by kernel_rfl) ?_
          refine hw_cond rfl (fun h5 => ?_) (fun h6 => ?_)
          · try simp at h5
            refine hw_draw1 (fun _ => True) [] mixed ?_
            refine ahp 0 rfl rfl (by kernel_rfl) (by kernel_rfl) (pop_fieldAddr ty88 rfl ty9 (by decide) rfl) ?_
            refine ahp 1 rfl rfl (by kernel_rfl) (by kernel_rfl) (pop_load ty9 rfl rfl rfl) ?_
            refine ahp 2 rfl rfl (by kernel_rfl) (by kernel_rfl) (pop_fieldAddr ty28 rfl ty3 (by decide) rfl) ?_
            refine ahp 3 rfl rfl (by kernel_rfl) (by kernel_rfl) (pop_load ty3 rfl rfl rfl) ?_
            refine ahp 4 rfl rfl (by kernel_rfl) (by kernel_rfl) (pop_fieldAddr_raw ty55 rfl ty9 (by decide) rfl) ?_
            refine ahe 5 rfl (by kernel_rfl) ?_
            refine hop_e0 (eop_store (i := 0) ty9 rfl rfl rfl rfl rfl (Nat.le_of_ble_eq_true rfl) ?_)
            refine ⟨fun _ => .inl trivial, ?_⟩
            refine ahp 6 rfl rfl (by kernel_rfl) (by kernel_rfl) (pop_fieldAddr_raw ty55 rfl ty3 (by decide) rfl) ?_
            refine ahe 7 rfl (by kernel_rfl) ?_
            refine hop_e0 (eop_store (i := 0) ty3 rfl rfl rfl rfl rfl (Nat.le_of_ble_eq_true rfl) ?_)
            refine ⟨fun _ => .inl trivial, ?_⟩
            refine ahz (by kernel_rfl) ?_
            refine blockQ_n ?_
            refine seqQ_n ?_
            refine hw_reg1 ?_
            refine dp rfl (pop_add64 rfl rfl (by omega) (by omega)) ?_
            refine dp rfl (pop_move rfl) ?_
            refine dn ?_
            first
            | exact ⟨k + 1, { p with Player := x.Player, At := r.Start }, ⟨by omega, by rw [List.take_add_one, hx, hp]; exact (keepIn_snoc r _ _ x _).symm ▸ (by simp_all)⟩, by dsimp only; omega, ⟨rfl, trivial⟩, (by repeat (first | exact keeps_refl | refine keeps_upd rfl ?_ | refine keeps_loop rfl rfl ?_)), List.Perm.refl _⟩
            | exact ⟨k + 1, p, ⟨by omega, by rw [List.take_add_one, hx, hp]; exact (keepIn_snoc r _ _ x _).symm ▸ (by simp_all)⟩, by dsimp only; omega, ⟨rfl, trivial⟩, (by repeat (first | exact keeps_refl | refine keeps_upd rfl ?_ | refine keeps_loop rfl rfl ?_)), List.Perm.refl _⟩
          · try simp at h6
            refine hw_skip ?_
            refine blockQ_n ?_
            refine seqQ_n ?_
            refine hw_reg1 ?_
            refine dp rfl (pop_add64 rfl rfl (by omega) (by omega)) ?_
            refine dp rfl (pop_move rfl) ?_
            refine dn ?_
            first
            | exact ⟨k + 1, { p with Player := x.Player, At := r.Start }, ⟨by omega, by rw [List.take_add_one, hx, hp]; exact (keepIn_snoc r _ _ x _).symm ▸ (by simp_all)⟩, by dsimp only; omega, ⟨rfl, trivial⟩, (by repeat (first | exact keeps_refl | refine keeps_upd rfl ?_ | refine keeps_loop rfl rfl ?_)), List.Perm.refl _⟩
            | exact ⟨k + 1, p, ⟨by omega, by rw [List.take_add_one, hx, hp]; exact (keepIn_snoc r _ _ x _).symm ▸ (by simp_all)⟩, by dsimp only; omega, ⟨rfl, trivial⟩, (by repeat (first | exact keeps_refl | refine keeps_upd rfl ?_ | refine keeps_loop rfl rfl ?_)), List.Perm.refl _⟩
        · try simp at h4
          have hnk : l.length ≤ k := by omega
          obtain rfl : k = l.length := by omega
          rw [List.take_length] at hp
          subst hp
          refine hw_exit ?_
          refine seqQ_x ?_
          refine loopQ2_x ?_
          refine blockQ_eq ?_
          refine seqQ_n ?_
          have ho7 : (openFrom r l 0 ((turns r s).take i)).length ≤ 600 := by rw [openFrom_len]; simp; omega
          refine hw_reg1 ?_
          refine dp rfl (pop_move rfl) ?_
          refine de rfl (eop_loadw (i := 0) ty55 rfl rfl rfl rfl rfl ?_)
          refine dp rfl (pop_buildSlice (hs := [_]) ty36 ty55 rfl rfl (by decide) (by decide) rfl) ?_
          refine de rfl (eop_append (i := 1) ty36 ty55 rfl rfl rfl rfl rfl (by simp [flat, hcells]) (by first | omega | (simp; omega)) fun v62 => ?_)
          refine dp rfl (pop_assign rfl) ?_
          refine dn ?_
          refine blockQ_n ?_
          refine seqQ_n ?_
          refine hw_ghost Ghost.drop ?_
          refine hw_reg1 ?_
          refine dp rfl (pop_add64 rfl rfl (by omega) (by omega)) ?_
          refine dp rfl (pop_move rfl) ?_
          refine dn ?_
          refine ⟨i + 1, _, ?_, ?_, ⟨rfl, rfl, trivial⟩, (by repeat (first | exact keeps_refl | refine keeps_upd rfl ?_ | refine keeps_loop rfl rfl ?_)), perm_eq (by simp [List.take_add_one, ht, openFrom_snoc, Nat.min_eq_left hi])⟩
          · exact ⟨by omega, trivial⟩
          · dsimp only; omega
    · try simp at h2
      have hni : (turns r s).length ≤ i := by omega
      obtain rfl : i = (turns r s).length := by omega
      refine hw_exit ?_
      refine seqQ_x ?_
      refine loopQ2_x ?_
      refine blockQ_eq ?_
      refine seqQ_n ?_
      refine hw_reg ?_
      refine dp rfl (pop_move rfl) ?_
      refine dp rfl (pop_assign rfl) ?_
      refine dn ?_
      refine hw_ret ?_
      exact ret_a rfl (by simp [open1])

/-- benchwarmer/benchref1.free$1 -/
theorem c_benchref1_free_1 {p : Pick}  : ConP Tryz.prog 97 [ePick p] (.bool (!(p.Player == []))) := by
  refine Con.of_body Tryz.func97 rfl Tryz.ntmps97 rfl rfl ?_
  refine hw_reg ?_
  refine dp rfl (pop_box rfl rfl) ?_
  refine dp rfl (pop_assign rfl) ?_
  refine dn ?_
  refine hw_reg ?_
  refine dp rfl (pop_fieldAddr ty55 rfl ty9 (by decide) rfl) ?_
  refine dp rfl (pop_load ty9 rfl rfl rfl) ?_
  refine dp rfl (pop_neqs rfl rfl) ?_
  refine dp rfl (pop_assign rfl) ?_
  refine dn ?_
  refine hw_ret ?_
  refine ret_p rfl ?_
  show HVal.bool _ = _
  first | rfl | simp

/-- benchwarmer/benchref1.free -/
theorem c_benchref1_free {r : Room} {k : List Keep} {s : List Swap} (h : openFault r k s = 0) (hk0 : k.length ≤ 1000000) (hl : s.length ≤ 1000000) : ConP Tryz.prog 56 [eRoom r, eKeeps k, eSwaps s] (ePicks (freeP r k s)) := by
  have hro := room_ok (openFault_ok h).1
  have ht0 := hro.t0
  have ht := hro.t20
  have hr0 := hro.r1
  have hr := hro.r30
  have hlen := turns_len (r := r) (s := s) (openFault_ok h).1
  have hol : (open1 r k s).length ≤ 600 := by unfold open1; rw [openFrom_len]; exact hlen
  have hfl : (freeP r k s).length ≤ 600 := Nat.le_trans (List.length_filter_le _ _) hol
  refine Con.of_body Tryz.func56 rfl Tryz.ntmps56 rfl rfl ?_
  refine hw_reg ?_
  refine dp rfl (pop_box rfl rfl) ?_
  refine dp rfl (pop_assign rfl) ?_
  refine dn ?_
  refine hw_reg ?_
  refine dp rfl (pop_loadw ty28 rfl rfl rfl rfl) ?_
  refine dp rfl (pop_move rfl) ?_
  refine dp rfl (pop_move rfl) ?_
  refine de rfl (eop_calla ca83 rfl (WeakL.refl _) (c_benchref1_OpenOf_a (by first | assumption | omega | (simp; omega) | simp_all) (by first | assumption | omega | (simp; omega) | simp_all) (by first | assumption | omega | (simp; omega) | simp_all) (by first | assumption | omega | (simp; omega) | simp_all) (by first | assumption | omega | (simp; omega) | simp_all) (by first | assumption | omega | (simp; omega) | simp_all) (by first | assumption | omega | (simp; omega) | simp_all)) fun v10 => ?_)
  first
  | refine de rfl (eop_callx (i := 0) ca82 rfl (WeakL.refl _) rfl (c_slices_DeleteFunc_api_Pick_api_Pick (l := open1 r k s) (p := fun x => !(x.Player == [])) ca97 (fun _ => c_benchref1_free_1) (by omega)) ?_)
  | refine de rfl (eop_callx (i := 1) ca82 rfl (WeakL.refl _) rfl (c_slices_DeleteFunc_api_Pick_api_Pick (l := open1 r k s) (p := fun x => !(x.Player == [])) ca97 (fun _ => c_benchref1_free_1) (by omega)) ?_)
  | refine de rfl (eop_callx (i := 2) ca82 rfl (WeakL.refl _) rfl (c_slices_DeleteFunc_api_Pick_api_Pick (l := open1 r k s) (p := fun x => !(x.Player == [])) ca97 (fun _ => c_benchref1_free_1) (by omega)) ?_)
  | refine de rfl (eop_callx (i := 3) ca82 rfl (WeakL.refl _) rfl (c_slices_DeleteFunc_api_Pick_api_Pick (l := open1 r k s) (p := fun x => !(x.Player == [])) ca97 (fun _ => c_benchref1_free_1) (by omega)) ?_)
  rintro _ _ ⟨u11, rfl, rfl⟩
  refine dp rfl (pop_assign rfl) ?_
  refine dn ?_
  refine hw_ret ?_
  refine ret_fa (M := []) 6 rfl rfl ?_
  simp [freeP]

/-- benchwarmer/benchref1.LeftOf$1$1 -/
theorem c_benchref1_LeftOf_1_1 {y : Keep} {x : Str}  : ConP Tryz.prog 78 [eKeep y, .vptr [.str x] 0] (.bool (y.Player == x)) := by
  refine Con.of_body Tryz.func78 rfl Tryz.ntmps78 rfl rfl ?_
  refine hw_reg ?_
  refine dp rfl (pop_box rfl rfl) ?_
  refine dp rfl (pop_assign rfl) ?_
  refine dn ?_
  refine hw_reg ?_
  refine dp rfl (pop_fieldAddr ty88 rfl ty9 (by decide) rfl) ?_
  refine dp rfl (pop_load ty9 rfl rfl rfl) ?_
  refine dp rfl (pop_load ty9 rfl rfl rfl) ?_
  refine dp rfl (pop_eqls rfl rfl) ?_
  refine dp rfl (pop_assign rfl) ?_
  refine dn ?_
  refine hw_ret ?_
  refine ret_p rfl ?_
  rfl

/-- benchwarmer/benchref1.LeftOf$1$2 -/
theorem c_benchref1_LeftOf_1_2 {y : Pick} {x : Str}  : ConP Tryz.prog 80 [ePick y, .vptr [.str x] 0] (.bool (y.Player == x)) := by
  refine Con.of_body Tryz.func80 rfl Tryz.ntmps80 rfl rfl ?_
  refine hw_reg ?_
  refine dp rfl (pop_box rfl rfl) ?_
  refine dp rfl (pop_assign rfl) ?_
  refine dn ?_
  refine hw_reg ?_
  refine dp rfl (pop_fieldAddr ty55 rfl ty9 (by decide) rfl) ?_
  refine dp rfl (pop_load ty9 rfl rfl rfl) ?_
  refine dp rfl (pop_load ty9 rfl rfl rfl) ?_
  refine dp rfl (pop_eqls rfl rfl) ?_
  refine dp rfl (pop_assign rfl) ?_
  refine dn ?_
  refine hw_ret ?_
  refine ret_p rfl ?_
  rfl

/-- benchwarmer/benchref1.LeftOf$1 -/
theorem c_benchref1_LeftOf_1 {k : List Keep} {l : List Pick} {x : Str} (hk0 : k.length ≤ 1000000) (hl : l.length ≤ 1000000) : ConP Tryz.prog 76 [.str x, .vptr [eKeeps k] 0, .vptr [ePicks l] 0] (.bool (goneB k l x)) := by
  refine Con.of_body Tryz.func76 rfl Tryz.ntmps76 rfl rfl ?_
  refine hw_reg ?_
  refine dp rfl (pop_box rfl rfl) ?_
  refine dp rfl (pop_assign rfl) ?_
  refine dn ?_
  refine hw_reg ?_
  refine dp rfl (pop_load ty30 rfl rfl rfl) ?_
  refine dp rfl (pop_makeFunc rfl rfl) ?_
  refine dp rfl (pop_call ca77 rfl (WeakL.refl _) (c_slices_ContainsFunc_api_Keep_api_Keep (p := fun y => y.Player == x) ca78 (fun _ => c_benchref1_LeftOf_1_1) hk0)) ?_
  refine dp rfl (pop_move rfl) ?_
  refine dg rfl rfl (fun hc => ⟨_, OpenTo.refl _, pop_load ty36 rfl rfl rfl⟩) ?_
  refine dg rfl rfl (fun hc => ⟨_, OpenTo.refl _, pop_makeFunc rfl rfl⟩) ?_
  refine dg rfl rfl (fun hc => ⟨_, OpenTo.upd (t := 10) rfl (by first | exact hc | simp_all) (OpenTo.upd (t := 9) rfl (by first | exact hc | simp_all) (OpenTo.refl _)), pop_call ca79 rfl (WeakL.refl _) (c_slices_ContainsFunc_api_Pick_api_Pick (p := fun y => y.Player == x) ca80 (fun _ => c_benchref1_LeftOf_1_2) hl)⟩) ?_
  refine dp rfl (pop_picko rfl (.inl rfl) (.inr ⟨_, rfl, fun h => by simp_all⟩)) ?_
  refine dp rfl (pop_assign rfl) ?_
  refine dn ?_
  refine hw_ret ?_
  refine ret_p rfl ?_
  show HVal.bool _ = _
  unfold goneB
  cases k.any (fun y => y.Player == x) <;> rfl

/-- benchwarmer/benchref1.LeftOf -/
theorem c_benchref1_LeftOf {r : Room} {k : List Keep} {l : List Pick} (hp : r.Players.length ≤ 1000000) (hk0 : k.length ≤ 1000000) (hll : l.length ≤ 1000000) : ConP Tryz.prog 35 [eRoom r, eKeeps k, ePicks l] (eSs (leftL r k l)) := by
  refine Con.of_body Tryz.func35 rfl Tryz.ntmps35 rfl rfl ?_
  refine hw_reg ?_
  refine dp rfl (pop_box rfl rfl) ?_
  refine dp rfl (pop_box rfl rfl) ?_
  refine dp rfl (pop_box rfl rfl) ?_
  refine dp rfl (pop_assign rfl) ?_
  refine dn ?_
  refine hw_reg ?_
  refine dp rfl ((by first | exact pop_fieldAddr ty28 rfl ty26 (by decide) rfl | exact pop_fieldAddr_raw ty28 rfl ty26 (by decide) rfl)) ?_
  refine dp rfl (pop_load ty26 rfl rfl rfl) ?_
  refine de rfl (eop_calla ca42 rfl (WeakL.refl _) (c_slices_Clone_string_string (by first | assumption | omega | (simp; omega) | simp_all)) fun v9 => ?_)
  refine dp rfl (pop_makeFunc rfl rfl) ?_
  first
  | refine de rfl (eop_callx (i := 0) ca74 rfl (WeakL.refl _) rfl (c_slices_DeleteFunc_string_string (l := r.Players) (p := goneB k l) ca76 (fun _ => c_benchref1_LeftOf_1 hk0 hll) hp) ?_)
  | refine de rfl (eop_callx (i := 1) ca74 rfl (WeakL.refl _) rfl (c_slices_DeleteFunc_string_string (l := r.Players) (p := goneB k l) ca76 (fun _ => c_benchref1_LeftOf_1 hk0 hll) hp) ?_)
  | refine de rfl (eop_callx (i := 2) ca74 rfl (WeakL.refl _) rfl (c_slices_DeleteFunc_string_string (l := r.Players) (p := goneB k l) ca76 (fun _ => c_benchref1_LeftOf_1 hk0 hll) hp) ?_)
  | refine de rfl (eop_callx (i := 3) ca74 rfl (WeakL.refl _) rfl (c_slices_DeleteFunc_string_string (l := r.Players) (p := goneB k l) ca76 (fun _ => c_benchref1_LeftOf_1 hk0 hll) hp) ?_)
  rintro _ _ ⟨u11, rfl, rfl⟩
  refine dp rfl (pop_assign rfl) ?_
  refine dn ?_
  refine hw_ret ?_
  exact ret_fa (M := []) 6 rfl rfl rfl

/-- benchwarmer/benchref1.lastAt -/
theorem c_benchref1_lastAt {r : Room} {l : List Pick} (hl : l.length ≤ 1000000) : ConP Tryz.prog 72 [eRoom r, ePicks l] (.int .i64 (lastAt r l)) := by
  refine Con.of_body Tryz.func72 rfl Tryz.ntmps72 rfl rfl ?_
  refine hw_reg ?_
  refine dp rfl (pop_box rfl rfl) ?_
  refine dp rfl (pop_assign rfl) ?_
  refine dn ?_
  refine hw_seq ?_
  refine hw_reg ?_
  refine dp rfl (pop_move rfl) ?_
  refine dp rfl (pop_lenm ty36 rfl) ?_
  refine dp rfl (pop_eql rfl rfl) ?_
  refine dn ?_
  refine hw_cond rfl (fun h1 => ?_) (fun h2 => ?_)
  · try simp at h1
    refine hw_reg ?_
    refine dp rfl (pop_fieldAddr ty28 rfl ty3 (by decide) rfl) ?_
    refine dp rfl (pop_load ty3 rfl rfl rfl) ?_
    refine dp rfl (pop_assign rfl) ?_
    refine dn ?_
    refine hw_ret ?_
    refine ret_p rfl ?_
    show HVal.int .i64 _ = _
    first | (rw [lastAt_z h1]; done) | (rw [lastAt_n h2])
  · try simp at h2
    refine hw_skip ?_
    refine seqQ_n ?_
    have hl0 : 0 < l.length := List.length_pos_iff.2 h2
    refine hw_reg ?_
    refine dp rfl (pop_move rfl) ?_
    refine dp rfl (pop_move rfl) ?_
    refine dp rfl (pop_lenm ty36 rfl) ?_
    refine dp rfl (pop_sub64 rfl rfl (by omega) (by omega)) ?_
    refine dp rfl (pop_idx (j := l.length - 1) (a := l.getD (l.length - 1) pick0) ty36 ty55 rfl rfl (by omega) (getD_some (by omega))) ?_
    refine dp rfl (pop_fieldAddr ty55 rfl ty3 (by decide) rfl) ?_
    refine dp rfl (pop_load ty3 rfl rfl rfl) ?_
    refine dp rfl (pop_assign rfl) ?_
    refine dn ?_
    refine hw_ret ?_
    refine ret_p rfl ?_
    show HVal.int .i64 _ = _
    first | (rw [lastAt_z h1]; done) | (rw [lastAt_n h2])

/-- benchwarmer/benchref1.NextOf -/
theorem c_benchref1_NextOf {r : Room} {k : List Keep} {s : List Swap} {l : List Pick}  (h : openFault r k s = 0) (hk0 : k.length ≤ 1000000) (hl : s.length ≤ 1000000) (hlf : l.length ≤ (freeP r k s).length) : ConP Tryz.prog 32 [eRoom r, eKeeps k, eSwaps s, ePicks l] (.tup [ePick (nextP r k s l), .bool (decide (l.length < (freeP r k s).length))]) := by
  have hro := room_ok (openFault_ok h).1
  have ht0 := hro.t0
  have ht := hro.t20
  have hr0 := hro.r1
  have hr := hro.r30
  have hlen := turns_len (r := r) (s := s) (openFault_ok h).1
  have hol : (open1 r k s).length ≤ 600 := by unfold open1; rw [openFrom_len]; exact hlen
  have hfl : (freeP r k s).length ≤ 600 := Nat.le_trans (List.length_filter_le _ _) hol
  refine Con.of_bodyc Tryz.func32 rfl Tryz.ntmps32 rfl rfl ?_
  refine hw_reg ?_
  refine dp rfl (pop_box rfl rfl) ?_
  refine de rfl (eop_alloc ty55 rfl fun b8 => ?_)
  refine dp rfl (pop_assign rfl) ?_
  refine dn ?_
  refine hw_reg ?_
  refine dp rfl (pop_loadw ty28 rfl rfl rfl rfl) ?_
  refine dp rfl (pop_move rfl) ?_
  refine dp rfl (pop_move rfl) ?_
  refine dp rfl (pop_call ca56 rfl (WeakL.refl _) (c_benchref1_free (by first | assumption | omega | (simp; omega) | simp_all) (by first | assumption | omega | (simp; omega) | simp_all) (by first | assumption | omega | (simp; omega) | simp_all))) ?_
  refine dp rfl (pop_assign rfl) ?_
  refine dn ?_
  refine hw_seq ?_
  refine hw_reg ?_
  refine dp rfl (pop_move rfl) ?_
  refine dp rfl (pop_lenm ty36 rfl) ?_
  refine dp rfl (pop_move rfl) ?_
  refine dp rfl (pop_lenm ty36 rfl) ?_
  refine dp rfl (pop_eql rfl rfl) ?_
  refine dn ?_
  refine hw_cond rfl (fun h1 => ?_) (fun h2 => ?_)
  · try simp at h1
    refine hw_reg ?_
    refine dp rfl (pop_build (cs := [_, _, _, _, _]) ty55 pl55 rfl) ?_
    first
    | refine de0 (eop_store (i := 0) ty55 rfl rfl rfl rfl rfl (Nat.le_of_ble_eq_true rfl) ?_)
    | refine de0 (eop_store (i := 1) ty55 rfl rfl rfl rfl rfl (Nat.le_of_ble_eq_true rfl) ?_)
    | refine de0 (eop_store (i := 2) ty55 rfl rfl rfl rfl rfl (Nat.le_of_ble_eq_true rfl) ?_)
    | refine de0 (eop_store (i := 3) ty55 rfl rfl rfl rfl rfl (Nat.le_of_ble_eq_true rfl) ?_)
    refine dp rfl (pop_assign rfl) ?_
    refine dn ?_
    refine hw_ret ?_
    refine ⟨_, _, Ghost.fc0 8 rfl, [_, _], _, ⟨⟨_, _, _, _, _, rfl, ty55, .inr ⟨rfl, rfl, rfl⟩⟩, ⟨rfl, trivial⟩⟩, Weak.refl _, ?_, rfl⟩
    show HVal.tup _ = _
    first | (rw [nextP, if_neg (by omega), show decide (l.length < (freeP r k s).length) = false by simp; omega]; rfl) | (rw [nextP, if_pos (by omega), show decide (l.length < (freeP r k s).length) = true by simp; omega]; rfl)
  · try simp at h2
    refine hw_skip ?_
    refine seqQ_n ?_
    refine hw_reg ?_
    refine dp rfl (pop_move rfl) ?_
    refine dp rfl (pop_move rfl) ?_
    refine dp rfl (pop_lenm ty36 rfl) ?_
    refine dp rfl (pop_idx (j := l.length) (a := (freeP r k s).getD l.length pick0) ty36 ty55 rfl rfl rfl (getD_some (by omega))) ?_
    refine dp rfl (pop_loadw ty55 rfl rfl rfl rfl) ?_
    first
    | refine de0 (eop_store (i := 0) ty55 rfl rfl rfl rfl rfl (Nat.le_of_ble_eq_true rfl) ?_)
    | refine de0 (eop_store (i := 1) ty55 rfl rfl rfl rfl rfl (Nat.le_of_ble_eq_true rfl) ?_)
    | refine de0 (eop_store (i := 2) ty55 rfl rfl rfl rfl rfl (Nat.le_of_ble_eq_true rfl) ?_)
    | refine de0 (eop_store (i := 3) ty55 rfl rfl rfl rfl rfl (Nat.le_of_ble_eq_true rfl) ?_)
    refine dp rfl (pop_assign rfl) ?_
    refine dn ?_
    refine hw_ret ?_
    refine ⟨_, _, Ghost.fc0 8 rfl, [_, _], _, ⟨⟨_, _, _, _, _, rfl, ty55, .inr ⟨rfl, rfl, rfl⟩⟩, ⟨rfl, trivial⟩⟩, Weak.refl _, ?_, rfl⟩
    show HVal.tup _ = _
    first | (rw [nextP, if_neg (by omega), show decide (l.length < (freeP r k s).length) = false by simp; omega]; rfl) | (rw [nextP, if_pos (by omega), show decide (l.length < (freeP r k s).length) = true by simp; omega]; rfl)

/-- benchwarmer/benchref1.DueOf -/
theorem c_benchref1_DueOf {r : Room} {k : List Keep} {s : List Swap} {l : List Pick}  (h : openFault r k s = 0) (hk0 : k.length ≤ 1000000) (hl : s.length ≤ 1000000) (hlf : l.length ≤ (freeP r k s).length) (hm : moment (lastAt r l) = true) : ConP Tryz.prog 33 [eRoom r, eKeeps k, eSwaps s, ePicks l] (.int .i64 (dueN r k s l)) := by
  have hro := room_ok (openFault_ok h).1
  have ht0 := hro.t0
  have ht := hro.t20
  have hr0 := hro.r1
  have hr := hro.r30
  have hlen := turns_len (r := r) (s := s) (openFault_ok h).1
  have hol : (open1 r k s).length ≤ 600 := by unfold open1; rw [openFrom_len]; exact hlen
  have hfl : (freeP r k s).length ≤ 600 := Nat.le_trans (List.length_filter_le _ _) hol
  have hcl := hro.clock
  have hmb := out_f (n := lastAt r l) (lo := 0) (hi := 345686399999) (by simpa [moment] using hm)
  refine Con.of_body Tryz.func33 rfl Tryz.ntmps33 rfl rfl ?_
  refine hw_reg ?_
  refine dp rfl (pop_box rfl rfl) ?_
  refine dp rfl (pop_assign rfl) ?_
  refine dn ?_
  refine hw_draw (fun _ => True) [] mixed ?_
  refine ahp 0 rfl rfl (by kernel_rfl) (by kernel_rfl) (pop_loadw ty28 rfl rfl rfl rfl) ?_
  refine ahp 1 rfl rfl (by kernel_rfl) (by kernel_rfl) (pop_move rfl) ?_
  refine ahp 2 rfl rfl (by kernel_rfl) (by kernel_rfl) (pop_call ca72 rfl (WeakL.refl _) (c_benchref1_lastAt (by first | assumption | omega | (simp; omega) | simp_all))) ?_
  refine ahp 3 rfl rfl (by kernel_rfl) (by kernel_rfl) (pop_fieldAddr ty28 rfl ty3 (by decide) rfl) ?_
  refine ahp 4 rfl rfl (by kernel_rfl) (by kernel_rfl) (pop_load ty3 rfl rfl rfl) ?_
  refine ahp 5 rfl rfl (by kernel_rfl) (by kernel_rfl) (pop_add64 rfl rfl (by omega) (by omega)) ?_
  refine ahp 6 rfl rfl (by kernel_rfl) (by kernel_rfl) (pop_assign rfl) ?_
  refine ahz (by kernel_rfl) ?_
  refine hw_seq ?_
  refine hw_reg ?_
  refine dp rfl (pop_loadw ty28 rfl rfl rfl rfl) ?_
  refine dp rfl (pop_move rfl) ?_
  refine dp rfl (pop_move rfl) ?_
  refine dp rfl (pop_move rfl) ?_
  refine dp rfl (pop_call ca32 rfl (WeakL.refl _) (c_benchref1_NextOf (by first | assumption | omega | (simp; omega) | simp_all) (by first | assumption | omega | (simp; omega) | simp_all) (by first | assumption | omega | (simp; omega) | simp_all) (by first | assumption | omega | (simp; omega) | simp_all))) ?_
  refine dp rfl (pop_move rfl) ?_
  refine dp rfl (pop_extract rfl rfl) ?_
  refine dp rfl (pop_extract rfl rfl) ?_
  refine de rfl (eop_alloc ty55 rfl fun b10 => ?_)
  refine de0 (eop_storew ty55 rfl rfl rfl rfl rfl ?_)
  refine dp rfl (pop_assign rfl) ?_
  refine dn ?_
  refine hw_ghost (Ghost.fc0 10 rfl) ?_
  refine hw_reg ?_
  refine dp rfl (pop_move rfl) ?_
  refine dp rfl (pop_not rfl) ?_
  refine dp rfl (pop_move rfl) ?_
  refine dg rfl rfl (fun hc => ⟨_, OpenTo.refl _, pop_move rfl⟩) ?_
  refine dg rfl rfl (fun hc => ⟨_, OpenTo.upd (t := 29) rfl (by first | exact hc | simp_all) (OpenTo.refl _), pop_call ca20 rfl (WeakL.refl _) c_benchref1_MomentFault⟩) ?_
  refine dg rfl rfl (fun hc => ⟨_, OpenTo.upd (t := 30) rfl (by first | exact hc | simp_all) (OpenTo.refl _), pop_neq rfl rfl⟩) ?_
  refine dp rfl (pop_picko rfl (.inl rfl) (.inr ⟨_, rfl, fun h => by simp_all⟩)) ?_
  refine dn ?_
  refine hw_cond rfl (fun h1 => ?_) (fun h2 => ?_)
  · try simp at h1
    refine hw_reg ?_
    refine dp rfl (pop_assign rfl) ?_
    refine dn ?_
    refine hw_ret ?_
    refine ret_p rfl ?_
    show HVal.int .i64 _ = _
    first | (rw [dueN, if_neg (fun q => h1.elim (fun e => absurd q.1 (by omega)) (fun e => by rw [q.2] at e; cases e))]; done) | (rw [dueN, if_pos h2])
  · try simp at h2
    refine hw_skip ?_
    refine seqQ_n ?_
    refine hw_reg ?_
    refine dp rfl (pop_move rfl) ?_
    refine dp rfl (pop_assign rfl) ?_
    refine dn ?_
    refine hw_ret ?_
    refine ret_p rfl ?_
    show HVal.int .i64 _ = _
    first | (rw [dueN, if_neg (fun q => h1.elim (fun e => absurd q.1 (by omega)) (fun e => by rw [q.2] at e; cases e))]; done) | (rw [dueN, if_pos h2])
end Go.Proofs.YtoomadfbldcioaaGreatDoor
end
section
namespace Go.Proofs.YtoomadfbldcioaaGreatDoor
open Go.HL
set_option maxRecDepth 100000
set_option linter.unusedVariables false
set_option linter.unusedSimpArgs false
/-- benchwarmer/benchref1.PicksFault -/
theorem c_benchref1_PicksFault {r : Room} {k : List Keep} {s : List Swap} {l : List Pick}  (ht : r.Teams.length ≤ 1000000) (hp : r.Players.length ≤ 1000000) (hk0 : k.length ≤ 1000000) (hl : s.length ≤ 1000000) (hs1 : ∀ s ∈ r.Teams, s.length ≤ 1000000) (hs2 : ∀ s ∈ r.Players, s.length ≤ 1000000) (hll : l.length ≤ 1000) : ConP Tryz.prog 15 [eRoom r, eKeeps k, eSwaps s, ePicks l] (.int .i64 (picksE r k s l)) := by
  refine Con.of_body Tryz.func15 rfl Tryz.ntmps15 rfl rfl ?_
  refine hw_reg ?_
  refine dp rfl (pop_box rfl rfl) ?_
  refine dp rfl (pop_assign rfl) ?_
  refine dn ?_
  refine hw_seq ?_
  refine hw_reg ?_
  refine dp rfl (pop_loadw ty28 rfl rfl rfl rfl) ?_
  refine dp rfl (pop_move rfl) ?_
  refine dp rfl (pop_move rfl) ?_
  refine dp rfl (pop_eq (pop_call ca49 rfl (WeakL.refl _) (c_benchref1_OpenFault ht hp hs1 hs2 hk0 hl)) (congrArg (HVal.int .i64) (openFault_ref r k s))) ?_
  refine dp rfl (pop_assign rfl) ?_
  refine dn ?_
  refine hw_reg ?_
  refine dp rfl (pop_move rfl) ?_
  refine dp rfl (pop_neq rfl rfl) ?_
  refine dn ?_
  refine hw_cond rfl (fun h1 => ?_) (fun h2 => ?_)
  · try simp at h1
    refine hw_reg ?_
    refine dp rfl (pop_move rfl) ?_
    refine dp rfl (pop_assign rfl) ?_
    refine dn ?_
    refine hw_ret ?_
    refine ret_p rfl ?_
    show HVal.int .i64 _ = _
    first | (rw [picksE, if_pos (by simpa using h1)]; done) | (rw [picksE, if_neg (by simpa using h2), pksR, if_pos (by omega)]; done) | (rw [picksE, if_neg (by simpa using h2), hg, pgo_ne (by rw [pf1 h7]; decide), pf1 h7]; done) | (rw [picksE, if_neg (by simpa using h2), hg, pgo_ne (by rw [pf2 h8 (by rw [hti]; exact h9)]; decide), pf2 h8 (by rw [hti]; exact h9)]; done) | (rw [picksE, if_neg (by simpa using h2), hg, pgo_ne (by rw [pf3 h8 (by rw [hti]; exact h10) (by rw [hti]; exact h11)]; decide), pf3 h8 (by rw [hti]; exact h10) (by rw [hti]; exact h11)]; done) | (rw [picksE, if_neg (by simpa using h2), hg, pgo_ne (by rw [pf4 h8 (by rw [hti]; exact h10) (by rw [hti]; exact h12) h13]; decide), pf4 h8 (by rw [hti]; exact h10) (by rw [hti]; exact h12) h13]; done) | (rw [picksE, if_neg (by simpa using h2), hg, pgo_ne (by rw [pf5 h8 (by rw [hti]; exact h10) (by rw [hti]; exact h12) h14 (b_true fun q => h15 (by simpa using (left_mem h14).2 q))]; decide), pf5 h8 (by rw [hti]; exact h10) (by rw [hti]; exact h12) h14 (b_true fun q => h15 (by simpa using (left_mem h14).2 q))]; done) | (rw [picksE, if_neg (by simpa using h2), hg, pgo_ne (by rw [pf6 h8 (by rw [hti]; exact h10) (by rw [hti]; exact h12) h14 hgo (by omega)]; decide), pf6 h8 (by rw [hti]; exact h10) (by rw [hti]; exact h12) h14 hgo (by omega)]; done) | (rw [picksE, if_neg (by simpa using h2), hg]; rfl)
  · try simp at h2
    refine hw_skip ?_
    refine seqQ_n ?_
    have hof : openFault r k s = 0 := by simpa using h2
    have hfl : (freeP r k s).length ≤ 600 := by have h5 := free_len hof; have h6 := turns_len (r := r) (s := s) (openFault_ok hof).1; omega
    refine hw_reg ?_
    refine dp rfl (pop_loadw ty28 rfl rfl rfl rfl) ?_
    refine dp rfl (pop_move rfl) ?_
    refine dp rfl (pop_move rfl) ?_
    refine dp rfl (pop_call ca56 rfl (WeakL.refl _) (c_benchref1_free hof hk0 hl)) ?_
    refine dp rfl (pop_assign rfl) ?_
    refine dn ?_
    refine hw_seq ?_
    refine hw_reg ?_
    refine dp rfl (pop_move rfl) ?_
    refine dp rfl (pop_lenm ty36 rfl) ?_
    refine dp rfl (pop_move rfl) ?_
    refine dp rfl (pop_lenm ty36 rfl) ?_
    refine dp rfl (pop_gtr rfl rfl) ?_
    refine dn ?_
    refine hw_cond rfl (fun h3 => ?_) (fun h4 => ?_)
    · try simp at h3
      refine hw_reg ?_
      refine dp rfl (pop_assign rfl) ?_
      refine dn ?_
      refine hw_ret ?_
      refine ret_p rfl ?_
      show HVal.int .i64 _ = _
      first | (rw [picksE, if_pos (by simpa using h1)]; done) | (rw [picksE, if_neg (by simpa using h2), pksR, if_pos (by omega)]; done) | (rw [picksE, if_neg (by simpa using h2), hg, pgo_ne (by rw [pf1 h7]; decide), pf1 h7]; done) | (rw [picksE, if_neg (by simpa using h2), hg, pgo_ne (by rw [pf2 h8 (by rw [hti]; exact h9)]; decide), pf2 h8 (by rw [hti]; exact h9)]; done) | (rw [picksE, if_neg (by simpa using h2), hg, pgo_ne (by rw [pf3 h8 (by rw [hti]; exact h10) (by rw [hti]; exact h11)]; decide), pf3 h8 (by rw [hti]; exact h10) (by rw [hti]; exact h11)]; done) | (rw [picksE, if_neg (by simpa using h2), hg, pgo_ne (by rw [pf4 h8 (by rw [hti]; exact h10) (by rw [hti]; exact h12) h13]; decide), pf4 h8 (by rw [hti]; exact h10) (by rw [hti]; exact h12) h13]; done) | (rw [picksE, if_neg (by simpa using h2), hg, pgo_ne (by rw [pf5 h8 (by rw [hti]; exact h10) (by rw [hti]; exact h12) h14 (b_true fun q => h15 (by simpa using (left_mem h14).2 q))]; decide), pf5 h8 (by rw [hti]; exact h10) (by rw [hti]; exact h12) h14 (b_true fun q => h15 (by simpa using (left_mem h14).2 q))]; done) | (rw [picksE, if_neg (by simpa using h2), hg, pgo_ne (by rw [pf6 h8 (by rw [hti]; exact h10) (by rw [hti]; exact h12) h14 hgo (by omega)]; decide), pf6 h8 (by rw [hti]; exact h10) (by rw [hti]; exact h12) h14 hgo (by omega)]; done) | (rw [picksE, if_neg (by simpa using h2), hg]; rfl)
    · try simp at h4
      refine hw_skip ?_
      refine seqQ_n ?_
      refine hw_reg ?_
      refine dp rfl (pop_fieldAddr ty28 rfl ty3 (by decide) rfl) ?_
      refine dp rfl (pop_load ty3 rfl rfl rfl) ?_
      refine dp rfl (pop_assign rfl) ?_
      refine dn ?_
      refine hw_seq ?_
      refine hw_reg ?_
      refine dp rfl (pop_move rfl) ?_
      refine dp rfl (pop_lenm ty36 rfl) ?_
      refine dp rfl (pop_move rfl) ?_
      refine dn ?_
      refine hw_block ?_
      refine hw_loopw [8, 11, 12, 13, 34, 35, 36, 37, 38, 39, 40, 41, 42, 43, 44, 45, 46, 47, 48, 49, 50, 51, 52, 53, 54, 55, 56, 57, 58, 59, 60, 61, 62, 63, 64, 65, 66, 67, 68, 69, 70, 71, 72, 73, 74, 75, 76, 77, 78, 79, 80, 81, 82, 83, 84, 85, 86, 87] (fun (i : Nat) => [(34, .int .i64 i), (11, .int .i64 (lastAt r (l.take i)))]) (fun (i : Nat) => []) (fun (i : Nat) => i ≤ l.length ∧ (pksR r k s l = pksGo r k (freeP r k s) l i (l.drop i))) (fun (i : Nat) => l.length - i) (0) ?_ ?_ ?_ ?_
      · refine ⟨Nat.zero_le _, ?_⟩
        rw [pksR, if_neg (by omega)]; rfl
      · exact ⟨rfl, rfl, trivial⟩
      · exact List.Perm.refl _
      · intro i hinv
        obtain ⟨hi, hg⟩ := hinv
        refine hw_reg ?_
        refine dp rfl (pop_lss rfl rfl) ?_
        refine dn ?_
        refine hw_seq ?_
        refine hw_cond rfl (fun h5 => ?_) (fun h6 => ?_)
        · try simp at h5
          obtain ⟨x, hx⟩ : ∃ x, l[i]? = some x := ⟨_, List.getElem?_eq_getElem h5⟩
          have hdx := drop_cons hx
          rw [hdx] at hg
          refine hw_skip ?_
          refine seqQ_n ?_
          refine hw_seq ?_
          refine hw_block ?_
          refine hw_reg ?_
          refine dp rfl (pop_move rfl) ?_
          refine dp rfl (pop_idx ty36 ty55 rfl rfl rfl (by first | assumption | simp_all)) ?_
          refine dp rfl (pop_loadw ty55 rfl rfl rfl rfl) ?_
          refine de rfl (eop_alloc ty55 rfl fun b13 => ?_)
          refine dp rfl (pop_assign rfl) ?_
          refine de0 (eop_storew ty55 rfl rfl rfl rfl rfl ?_)
          refine dn ?_
          refine hw_ghost (Ghost.fc0 13 rfl) ?_
          refine hw_seq ?_
          refine hw_block ?_
          refine hw_reg ?_
          refine dp rfl (pop_fieldAddr ty55 rfl ty3 (by decide) rfl) ?_
          refine dp rfl (pop_load ty3 rfl rfl rfl) ?_
          refine dp rfl (pop_call ca20 rfl (WeakL.refl _) c_benchref1_MomentFault) ?_
          refine dp rfl (pop_neq rfl rfl) ?_
          refine dp rfl (pop_assign rfl) ?_
          refine dn ?_
          refine hw_cond rfl (fun h7 => ?_) (fun h8 => ?_)
          · try simp at h7
            refine hw_reg ?_
            refine dp rfl (pop_assign rfl) ?_
            refine dn ?_
            refine hw_ret ?_
            refine ret_p rfl ?_
            show HVal.int .i64 _ = _
            first | (rw [picksE, if_pos (by simpa using h1)]; done) | (rw [picksE, if_neg (by simpa using h2), pksR, if_pos (by omega)]; done) | (rw [picksE, if_neg (by simpa using h2), hg, pgo_ne (by rw [pf1 h7]; decide), pf1 h7]; done) | (rw [picksE, if_neg (by simpa using h2), hg, pgo_ne (by rw [pf2 h8 (by rw [hti]; exact h9)]; decide), pf2 h8 (by rw [hti]; exact h9)]; done) | (rw [picksE, if_neg (by simpa using h2), hg, pgo_ne (by rw [pf3 h8 (by rw [hti]; exact h10) (by rw [hti]; exact h11)]; decide), pf3 h8 (by rw [hti]; exact h10) (by rw [hti]; exact h11)]; done) | (rw [picksE, if_neg (by simpa using h2), hg, pgo_ne (by rw [pf4 h8 (by rw [hti]; exact h10) (by rw [hti]; exact h12) h13]; decide), pf4 h8 (by rw [hti]; exact h10) (by rw [hti]; exact h12) h13]; done) | (rw [picksE, if_neg (by simpa using h2), hg, pgo_ne (by rw [pf5 h8 (by rw [hti]; exact h10) (by rw [hti]; exact h12) h14 (b_true fun q => h15 (by simpa using (left_mem h14).2 q))]; decide), pf5 h8 (by rw [hti]; exact h10) (by rw [hti]; exact h12) h14 (b_true fun q => h15 (by simpa using (left_mem h14).2 q))]; done) | (rw [picksE, if_neg (by simpa using h2), hg, pgo_ne (by rw [pf6 h8 (by rw [hti]; exact h10) (by rw [hti]; exact h12) h14 hgo (by omega)]; decide), pf6 h8 (by rw [hti]; exact h10) (by rw [hti]; exact h12) h14 hgo (by omega)]; done) | (rw [picksE, if_neg (by simpa using h2), hg]; rfl)
          · try simp at h8
            have hti : (l.take i).length = i := by simp; omega
            refine hw_draw (fun _ => True) [] mixed ?_
            refine ahp 0 rfl rfl (by kernel_rfl) (by kernel_rfl) (pop_fieldAddr ty55 rfl ty3 (by decide) rfl) ?_
            refine ahp 1 rfl rfl (by kernel_rfl) (by kernel_rfl) (pop_load ty3 rfl rfl rfl) ?_
            refine ahp 2 rfl rfl (by kernel_rfl) (by kernel_rfl) (pop_move rfl) ?_
            refine ahp 3 rfl rfl (by kernel_rfl) (by kernel_rfl) (pop_move rfl) ?_
            refine ahp 4 rfl rfl (by kernel_rfl) (by kernel_rfl) (pop_idx (j := i) (a := (freeP r k s).getD i pick0) ty36 ty55 rfl rfl rfl (getD_some (by omega))) ?_
            refine ahp 5 rfl rfl (by kernel_rfl) (by kernel_rfl) (pop_fieldAddr ty55 rfl ty3 (by decide) rfl) ?_
            refine ahp 6 rfl rfl (by kernel_rfl) (by kernel_rfl) (pop_load ty3 rfl rfl rfl) ?_
            refine ahp 7 rfl rfl (by kernel_rfl) (by kernel_rfl) (pop_neq rfl rfl) ?_
            refine ahp 8 rfl rfl (by kernel_rfl) (by kernel_rfl) (pop_assign rfl) ?_
            refine ahz (by kernel_rfl) ?_
            refine hw_cond rfl (fun h9 => ?_) (fun h10 => ?_)
            · try simp at h9
              refine hw_reg ?_
              refine dp rfl (pop_assign rfl) ?_
              refine dn ?_
              refine hw_ret ?_
              refine ret_p rfl ?_
              show HVal.int .i64 _ = _
              first | (rw [picksE, if_pos (by simpa using h1)]; done) | (rw [picksE, if_neg (by simpa using h2), pksR, if_pos (by omega)]; done) | (rw [picksE, if_neg (by simpa using h2), hg, pgo_ne (by rw [pf1 h7]; decide), pf1 h7]; done) | (rw [picksE, if_neg (by simpa using h2), hg, pgo_ne (by rw [pf2 h8 (by rw [hti]; exact h9)]; decide), pf2 h8 (by rw [hti]; exact h9)]; done) | (rw [picksE, if_neg (by simpa using h2), hg, pgo_ne (by rw [pf3 h8 (by rw [hti]; exact h10) (by rw [hti]; exact h11)]; decide), pf3 h8 (by rw [hti]; exact h10) (by rw [hti]; exact h11)]; done) | (rw [picksE, if_neg (by simpa using h2), hg, pgo_ne (by rw [pf4 h8 (by rw [hti]; exact h10) (by rw [hti]; exact h12) h13]; decide), pf4 h8 (by rw [hti]; exact h10) (by rw [hti]; exact h12) h13]; done) | (rw [picksE, if_neg (by simpa using h2), hg, pgo_ne (by rw [pf5 h8 (by rw [hti]; exact h10) (by rw [hti]; exact h12) h14 (b_true fun q => h15 (by simpa using (left_mem h14).2 q))]; decide), pf5 h8 (by rw [hti]; exact h10) (by rw [hti]; exact h12) h14 (b_true fun q => h15 (by simpa using (left_mem h14).2 q))]; done) | (rw [picksE, if_neg (by simpa using h2), hg, pgo_ne (by rw [pf6 h8 (by rw [hti]; exact h10) (by rw [hti]; exact h12) h14 hgo (by omega)]; decide), pf6 h8 (by rw [hti]; exact h10) (by rw [hti]; exact h12) h14 hgo (by omega)]; done) | (rw [picksE, if_neg (by simpa using h2), hg]; rfl)
            · try simp at h10
              refine hw_draw (fun _ => True) [] mixed ?_
              refine ahp 0 rfl rfl (by kernel_rfl) (by kernel_rfl) (pop_fieldAddr ty55 rfl ty9 (by decide) rfl) ?_
              refine ahp 1 rfl rfl (by kernel_rfl) (by kernel_rfl) (pop_load ty9 rfl rfl rfl) ?_
              refine ahp 2 rfl rfl (by kernel_rfl) (by kernel_rfl) (pop_move rfl) ?_
              refine ahp 3 rfl rfl (by kernel_rfl) (by kernel_rfl) (pop_move rfl) ?_
              refine ahp 4 rfl rfl (by kernel_rfl) (by kernel_rfl) (pop_idx (j := i) (a := (freeP r k s).getD i pick0) ty36 ty55 rfl rfl rfl (getD_some (by omega))) ?_
              refine ahp 5 rfl rfl (by kernel_rfl) (by kernel_rfl) (pop_fieldAddr ty55 rfl ty9 (by decide) rfl) ?_
              refine ahp 6 rfl rfl (by kernel_rfl) (by kernel_rfl) (pop_load ty9 rfl rfl rfl) ?_
              refine ahp 7 rfl rfl (by kernel_rfl) (by kernel_rfl) (pop_neqs rfl rfl) ?_
              refine ahp 8 rfl rfl (by kernel_rfl) (by kernel_rfl) (pop_assign rfl) ?_
              refine ahz (by kernel_rfl) ?_
              refine hw_cond rfl (fun h11 => ?_) (fun h12 => ?_)
              · try simp at h11
                refine hw_reg ?_
                refine dp rfl (pop_assign rfl) ?_
                refine dn ?_
                refine hw_ret ?_
                refine ret_p rfl ?_
                show HVal.int .i64 _ = _
                first | (rw [picksE, if_pos (by simpa using h1)]; done) | (rw [picksE, if_neg (by simpa using h2), pksR, if_pos (by omega)]; done) | (rw [picksE, if_neg (by simpa using h2), hg, pgo_ne (by rw [pf1 h7]; decide), pf1 h7]; done) | (rw [picksE, if_neg (by simpa using h2), hg, pgo_ne (by rw [pf2 h8 (by rw [hti]; exact h9)]; decide), pf2 h8 (by rw [hti]; exact h9)]; done) | (rw [picksE, if_neg (by simpa using h2), hg, pgo_ne (by rw [pf3 h8 (by rw [hti]; exact h10) (by rw [hti]; exact h11)]; decide), pf3 h8 (by rw [hti]; exact h10) (by rw [hti]; exact h11)]; done) | (rw [picksE, if_neg (by simpa using h2), hg, pgo_ne (by rw [pf4 h8 (by rw [hti]; exact h10) (by rw [hti]; exact h12) h13]; decide), pf4 h8 (by rw [hti]; exact h10) (by rw [hti]; exact h12) h13]; done) | (rw [picksE, if_neg (by simpa using h2), hg, pgo_ne (by rw [pf5 h8 (by rw [hti]; exact h10) (by rw [hti]; exact h12) h14 (b_true fun q => h15 (by simpa using (left_mem h14).2 q))]; decide), pf5 h8 (by rw [hti]; exact h10) (by rw [hti]; exact h12) h14 (b_true fun q => h15 (by simpa using (left_mem h14).2 q))]; done) | (rw [picksE, if_neg (by simpa using h2), hg, pgo_ne (by rw [pf6 h8 (by rw [hti]; exact h10) (by rw [hti]; exact h12) h14 hgo (by omega)]; decide), pf6 h8 (by rw [hti]; exact h10) (by rw [hti]; exact h12) h14 hgo (by omega)]; done) | (rw [picksE, if_neg (by simpa using h2), hg]; rfl)
              · try simp at h12
                refine hw_reg ?_
                refine dp rfl (pop_fieldAddr ty28 rfl ty26 (by decide) rfl) ?_
                refine dp rfl (pop_load ty26 rfl rfl rfl) ?_
                refine dp rfl (pop_fieldAddr ty55 rfl ty9 (by decide) rfl) ?_
                refine dp rfl (pop_load ty9 rfl rfl rfl) ?_
                refine dp rfl (pop_call ca53 rfl (WeakL.refl _) (c_slices_Contains_string_string (by first | assumption | omega | (simp; omega) | simp_all))) ?_
                refine dp rfl (pop_not rfl) ?_
                refine dp rfl (pop_assign rfl) ?_
                refine dn ?_
                refine hw_cond rfl (fun h13 => ?_) (fun h14 => ?_)
                · try simp at h13
                  refine hw_reg ?_
                  refine dp rfl (pop_assign rfl) ?_
                  refine dn ?_
                  refine hw_ret ?_
                  refine ret_p rfl ?_
                  show HVal.int .i64 _ = _
                  first | (rw [picksE, if_pos (by simpa using h1)]; done) | (rw [picksE, if_neg (by simpa using h2), pksR, if_pos (by omega)]; done) | (rw [picksE, if_neg (by simpa using h2), hg, pgo_ne (by rw [pf1 h7]; decide), pf1 h7]; done) | (rw [picksE, if_neg (by simpa using h2), hg, pgo_ne (by rw [pf2 h8 (by rw [hti]; exact h9)]; decide), pf2 h8 (by rw [hti]; exact h9)]; done) | (rw [picksE, if_neg (by simpa using h2), hg, pgo_ne (by rw [pf3 h8 (by rw [hti]; exact h10) (by rw [hti]; exact h11)]; decide), pf3 h8 (by rw [hti]; exact h10) (by rw [hti]; exact h11)]; done) | (rw [picksE, if_neg (by simpa using h2), hg, pgo_ne (by rw [pf4 h8 (by rw [hti]; exact h10) (by rw [hti]; exact h12) h13]; decide), pf4 h8 (by rw [hti]; exact h10) (by rw [hti]; exact h12) h13]; done) | (rw [picksE, if_neg (by simpa using h2), hg, pgo_ne (by rw [pf5 h8 (by rw [hti]; exact h10) (by rw [hti]; exact h12) h14 (b_true fun q => h15 (by simpa using (left_mem h14).2 q))]; decide), pf5 h8 (by rw [hti]; exact h10) (by rw [hti]; exact h12) h14 (b_true fun q => h15 (by simpa using (left_mem h14).2 q))]; done) | (rw [picksE, if_neg (by simpa using h2), hg, pgo_ne (by rw [pf6 h8 (by rw [hti]; exact h10) (by rw [hti]; exact h12) h14 hgo (by omega)]; decide), pf6 h8 (by rw [hti]; exact h10) (by rw [hti]; exact h12) h14 hgo (by omega)]; done) | (rw [picksE, if_neg (by simpa using h2), hg]; rfl)
                · try simp at h14
                  refine hw_draw (fun _ => True) [] mixed ?_
                  refine ahp 0 rfl rfl (by kernel_rfl) (by kernel_rfl) (pop_loadw ty28 rfl rfl rfl rfl) ?_
                  refine ahp 1 rfl rfl (by kernel_rfl) (by kernel_rfl) (pop_move rfl) ?_
                  refine ahp 2 rfl rfl (by kernel_rfl) (by kernel_rfl) (pop_move rfl) ?_
                  refine ahp 3 rfl rfl (by kernel_rfl) (by kernel_rfl) (pop_move rfl) ?_
                  refine ahp 4 rfl rfl (by kernel_rfl) (by kernel_rfl) (pop_slicem ty36 ty55 rfl rfl ⟨_, _, rfl, rfl⟩ (by omega) (by omega)) ?_
                  refine ahp 5 rfl rfl (by kernel_rfl) (by kernel_rfl) (pop_call ca35 rfl (WeakL.refl _) (c_benchref1_LeftOf (l := (l.take i).drop 0) hp hk0 (by simp; omega))) ?_
                  refine ahp 6 rfl rfl (by kernel_rfl) (by kernel_rfl) (pop_fieldAddr ty55 rfl ty9 (by decide) rfl) ?_
                  refine ahp 7 rfl rfl (by kernel_rfl) (by kernel_rfl) (pop_load ty9 rfl rfl rfl) ?_
                  refine ahp 8 rfl rfl (by kernel_rfl) (by kernel_rfl) (pop_call ca53 rfl (WeakL.refl _) (c_slices_Contains_string_string (Nat.le_trans (List.length_filter_le _ _) (by omega)))) ?_
                  refine ahp 9 rfl rfl (by kernel_rfl) (by kernel_rfl) (pop_not rfl) ?_
                  refine ahp 10 rfl rfl (by kernel_rfl) (by kernel_rfl) (pop_assign rfl) ?_
                  refine ahz (by kernel_rfl) ?_
                  refine hw_cond rfl (fun h15 => ?_) (fun h16 => ?_)
                  · try simp at h15
                    refine hw_reg ?_
                    refine dp rfl (pop_assign rfl) ?_
                    refine dn ?_
                    refine hw_ret ?_
                    refine ret_p rfl ?_
                    show HVal.int .i64 _ = _
                    first | (rw [picksE, if_pos (by simpa using h1)]; done) | (rw [picksE, if_neg (by simpa using h2), pksR, if_pos (by omega)]; done) | (rw [picksE, if_neg (by simpa using h2), hg, pgo_ne (by rw [pf1 h7]; decide), pf1 h7]; done) | (rw [picksE, if_neg (by simpa using h2), hg, pgo_ne (by rw [pf2 h8 (by rw [hti]; exact h9)]; decide), pf2 h8 (by rw [hti]; exact h9)]; done) | (rw [picksE, if_neg (by simpa using h2), hg, pgo_ne (by rw [pf3 h8 (by rw [hti]; exact h10) (by rw [hti]; exact h11)]; decide), pf3 h8 (by rw [hti]; exact h10) (by rw [hti]; exact h11)]; done) | (rw [picksE, if_neg (by simpa using h2), hg, pgo_ne (by rw [pf4 h8 (by rw [hti]; exact h10) (by rw [hti]; exact h12) h13]; decide), pf4 h8 (by rw [hti]; exact h10) (by rw [hti]; exact h12) h13]; done) | (rw [picksE, if_neg (by simpa using h2), hg, pgo_ne (by rw [pf5 h8 (by rw [hti]; exact h10) (by rw [hti]; exact h12) h14 (b_true fun q => h15 (by simpa using (left_mem h14).2 q))]; decide), pf5 h8 (by rw [hti]; exact h10) (by rw [hti]; exact h12) h14 (b_true fun q => h15 (by simpa using (left_mem h14).2 q))]; done) | (rw [picksE, if_neg (by simpa using h2), hg, pgo_ne (by rw [pf6 h8 (by rw [hti]; exact h10) (by rw [hti]; exact h12) h14 hgo (by omega)]; decide), pf6 h8 (by rw [hti]; exact h10) (by rw [hti]; exact h12) h14 hgo (by omega)]; done) | (rw [picksE, if_neg (by simpa using h2), hg]; rfl)
                  · try simp at h16
                    have hgo : goneB k (l.take i) x.Player = false := (left_mem h14).1 (by simpa using h16)
                    refine hw_reg ?_
                    refine dp rfl (pop_fieldAddr ty55 rfl ty3 (by decide) rfl) ?_
                    refine dp rfl (pop_load ty3 rfl rfl rfl) ?_
                    refine dp rfl (pop_move rfl) ?_
                    refine dp rfl (pop_lss rfl rfl) ?_
                    refine dp rfl (pop_assign rfl) ?_
                    refine dn ?_
                    refine hw_cond rfl (fun h17 => ?_) (fun h18 => ?_)
                    · try simp at h17
                      refine hw_reg ?_
                      refine dp rfl (pop_assign rfl) ?_
                      refine dn ?_
                      refine hw_ret ?_
                      refine ret_p rfl ?_
                      show HVal.int .i64 _ = _
                      first | (rw [picksE, if_pos (by simpa using h1)]; done) | (rw [picksE, if_neg (by simpa using h2), pksR, if_pos (by omega)]; done) | (rw [picksE, if_neg (by simpa using h2), hg, pgo_ne (by rw [pf1 h7]; decide), pf1 h7]; done) | (rw [picksE, if_neg (by simpa using h2), hg, pgo_ne (by rw [pf2 h8 (by rw [hti]; exact h9)]; decide), pf2 h8 (by rw [hti]; exact h9)]; done) | (rw [picksE, if_neg (by simpa using h2), hg, pgo_ne (by rw [pf3 h8 (by rw [hti]; exact h10) (by rw [hti]; exact h11)]; decide), pf3 h8 (by rw [hti]; exact h10) (by rw [hti]; exact h11)]; done) | (rw [picksE, if_neg (by simpa using h2), hg, pgo_ne (by rw [pf4 h8 (by rw [hti]; exact h10) (by rw [hti]; exact h12) h13]; decide), pf4 h8 (by rw [hti]; exact h10) (by rw [hti]; exact h12) h13]; done) | (rw [picksE, if_neg (by simpa using h2), hg, pgo_ne (by rw [pf5 h8 (by rw [hti]; exact h10) (by rw [hti]; exact h12) h14 (b_true fun q => h15 (by simpa using (left_mem h14).2 q))]; decide), pf5 h8 (by rw [hti]; exact h10) (by rw [hti]; exact h12) h14 (b_true fun q => h15 (by simpa using (left_mem h14).2 q))]; done) | (rw [picksE, if_neg (by simpa using h2), hg, pgo_ne (by rw [pf6 h8 (by rw [hti]; exact h10) (by rw [hti]; exact h12) h14 hgo (by omega)]; decide), pf6 h8 (by rw [hti]; exact h10) (by rw [hti]; exact h12) h14 hgo (by omega)]; done) | (rw [picksE, if_neg (by simpa using h2), hg]; rfl)
                    · try simp at h18
                      refine hw_skip ?_
                      refine blockQ_n ?_
                      refine seqQ_n ?_
                      refine hw_reg1 ?_
                      refine dp rfl (pop_fieldAddr ty55 rfl ty3 (by decide) rfl) ?_
                      refine dp rfl (pop_load ty3 rfl rfl rfl) ?_
                      refine dp rfl (pop_assign rfl) ?_
                      refine dn ?_
                      refine blockQ_n ?_
                      refine seqQ_n ?_
                      refine hw_reg1 ?_
                      refine dp rfl (pop_add64 rfl rfl (by omega) (by omega)) ?_
                      refine dp rfl (pop_move rfl) ?_
                      refine dn ?_
                      exact ⟨i + 1, ⟨by omega, by rw [hg, pgo_z (pf0 h8 (by rw [hti]; exact h10) (by rw [hti]; exact h12) h14 hgo (by omega))]⟩, by dsimp only; omega, ⟨rfl, some_int (by rw [take_snoc' hx, lastAt_snoc]), trivial⟩, (by repeat (first | exact keeps_refl | refine keeps_upd rfl ?_ | refine keeps_loop rfl rfl ?_)), List.Perm.refl _⟩
        · try simp at h6
          have hni : l.length ≤ i := by omega
          obtain rfl : i = l.length := by omega
          rw [drop_all (Nat.le_refl _)] at hg
          refine hw_exit ?_
          refine seqQ_x ?_
          refine loopQ_x ?_
          refine blockQ_eq ?_
          refine seqQ_n ?_
          refine hw_reg ?_
          refine dp rfl (pop_assign rfl) ?_
          refine dn ?_
          refine hw_ret ?_
          refine ret_p rfl ?_
          show HVal.int .i64 _ = _
          first | (rw [picksE, if_pos (by simpa using h1)]; done) | (rw [picksE, if_neg (by simpa using h2), pksR, if_pos (by omega)]; done) | (rw [picksE, if_neg (by simpa using h2), hg, pgo_ne (by rw [pf1 h7]; decide), pf1 h7]; done) | (rw [picksE, if_neg (by simpa using h2), hg, pgo_ne (by rw [pf2 h8 (by rw [hti]; exact h9)]; decide), pf2 h8 (by rw [hti]; exact h9)]; done) | (rw [picksE, if_neg (by simpa using h2), hg, pgo_ne (by rw [pf3 h8 (by rw [hti]; exact h10) (by rw [hti]; exact h11)]; decide), pf3 h8 (by rw [hti]; exact h10) (by rw [hti]; exact h11)]; done) | (rw [picksE, if_neg (by simpa using h2), hg, pgo_ne (by rw [pf4 h8 (by rw [hti]; exact h10) (by rw [hti]; exact h12) h13]; decide), pf4 h8 (by rw [hti]; exact h10) (by rw [hti]; exact h12) h13]; done) | (rw [picksE, if_neg (by simpa using h2), hg, pgo_ne (by rw [pf5 h8 (by rw [hti]; exact h10) (by rw [hti]; exact h12) h14 (b_true fun q => h15 (by simpa using (left_mem h14).2 q))]; decide), pf5 h8 (by rw [hti]; exact h10) (by rw [hti]; exact h12) h14 (b_true fun q => h15 (by simpa using (left_mem h14).2 q))]; done) | (rw [picksE, if_neg (by simpa using h2), hg, pgo_ne (by rw [pf6 h8 (by rw [hti]; exact h10) (by rw [hti]; exact h12) h14 hgo (by omega)]; decide), pf6 h8 (by rw [hti]; exact h10) (by rw [hti]; exact h12) h14 hgo (by omega)]; done) | (rw [picksE, if_neg (by simpa using h2), hg]; rfl)

end Go.Proofs.YtoomadfbldcioaaGreatDoor
end
section
namespace Go.Proofs.YtoomadfbldcioaaGreatDoor
open Go.HL
set_option maxRecDepth 100000
set_option linter.unusedVariables false
set_option linter.unusedSimpArgs false
end Go.Proofs.YtoomadfbldcioaaGreatDoor
end
section
namespace Go.HL
variable {P : Program}
theorem EOp.fz {e : Env} {M : List MObj} {o : Oper} {K : HVal → List MObj → Prop} {sz : Nat} {es : List HVal} (h : EOp P e M o fun x M' => ∃ v, x = .raw v ∧ M' = .arr v sz es :: M) (hk : K (.slice sz es) M) : EOp P e M o K := fun I F a w ho hs =>
  Oper.wp_noQ (fun _ _ ⟨v, x, M', J, h1, h2, ⟨u, h3, h4⟩, h5, h6⟩ => by
    subst h3 h4
    obtain ⟨J', g1, g2, g3⟩ := Sat.freeze_arr (M := M ++ F) h6
    exact ⟨v, _, M, J', h1, h2.trans g1, hk, by rw [h5.raw_inv]; exact g3, g2⟩) (h I F a w ho hs)
theorem EOp.fzi {e : Env} {M N : List MObj} {o : Oper} {K : HVal → List MObj → Prop} {sz : Nat} {es : List HVal} (i : Nat) (h : EOp P e M o fun x M' => ∃ v, x = .raw v ∧ M'[i]? = some (.arr v sz es) ∧ M'.eraseIdx i = N) (hk : K (.slice sz es) N) : EOp P e M o K := fun I F a w ho hs =>
  Oper.wp_noQ (fun _ _ ⟨v, x, M', J, h1, h2, ⟨u, h3, h4, h5⟩, h6, h7⟩ => by
    subst h3 h5
    obtain ⟨J', g1, g2, g3⟩ := (h7.pull h4).freeze_arr
    exact ⟨v, _, _, J', h1, h2.trans g1, hk, by rw [h6.raw_inv]; exact g3, g2⟩) (h I F a w ho hs)
end Go.HL
end
section
namespace Go.Proofs.YtoomadfbldcioaaGreatDoor
open Go.HL
set_option maxRecDepth 100000
set_option linter.unusedVariables false
set_option linter.unusedSimpArgs false
/-- benchwarmer/benchref1.LeftOf -/
theorem c_benchref1_LeftOf_a {r : Room} {k : List Keep} {l : List Pick} (hp : r.Players.length ≤ 1000000) (hk0 : k.length ≤ 1000000) (hll : l.length ≤ 1000000) : ConA Tryz.prog 35 [eRoom r, eKeeps k, ePicks l] 1 ((leftL r k l).map .str) := by
  refine Con.of_body Tryz.func35 rfl Tryz.ntmps35 rfl rfl ?_
  refine hw_reg ?_
  refine dp rfl (pop_box rfl rfl) ?_
  refine dp rfl (pop_box rfl rfl) ?_
  refine dp rfl (pop_box rfl rfl) ?_
  refine dp rfl (pop_assign rfl) ?_
  refine dn ?_
  refine hw_reg ?_
  refine dp rfl ((by first | exact pop_fieldAddr ty28 rfl ty26 (by decide) rfl | exact pop_fieldAddr_raw ty28 rfl ty26 (by decide) rfl)) ?_
  refine dp rfl (pop_load ty26 rfl rfl rfl) ?_
  refine de rfl (eop_calla ca42 rfl (WeakL.refl _) (c_slices_Clone_string_string (by first | assumption | omega | (simp; omega) | simp_all)) fun v9 => ?_)
  refine dp rfl (pop_makeFunc rfl rfl) ?_
  first
  | refine de rfl (eop_callx (i := 0) ca74 rfl (WeakL.refl _) rfl (c_slices_DeleteFunc_string_string (l := r.Players) (p := goneB k l) ca76 (fun _ => c_benchref1_LeftOf_1 hk0 hll) hp) ?_)
  | refine de rfl (eop_callx (i := 1) ca74 rfl (WeakL.refl _) rfl (c_slices_DeleteFunc_string_string (l := r.Players) (p := goneB k l) ca76 (fun _ => c_benchref1_LeftOf_1 hk0 hll) hp) ?_)
  | refine de rfl (eop_callx (i := 2) ca74 rfl (WeakL.refl _) rfl (c_slices_DeleteFunc_string_string (l := r.Players) (p := goneB k l) ca76 (fun _ => c_benchref1_LeftOf_1 hk0 hll) hp) ?_)
  | refine de rfl (eop_callx (i := 3) ca74 rfl (WeakL.refl _) rfl (c_slices_DeleteFunc_string_string (l := r.Players) (p := goneB k l) ca76 (fun _ => c_benchref1_LeftOf_1 hk0 hll) hp) ?_)
  rintro _ _ ⟨u11, rfl, rfl⟩
  refine dp rfl (pop_assign rfl) ?_
  refine dn ?_
  refine hw_ret ?_
  exact ret_a rfl rfl

set_option maxHeartbeats 4000000 in
/-- (*benchwarmer/benchmake.Stream).PickList -/
theorem c_benchmake_Stream_PickList {b : Nat} {l : List Int} {a : Nat} {r : Room} {ks : List Keep} {ss : List Swap} (ha : a ≤ 700000) (hr : GoodRoom r) (hk0 : ks.length ≤ 1000000) (hl0 : ss.length ≤ 1000000) : Con Tryz.prog 9 [pAt b, eRoom r, eKeeps ks, eSwaps ss] [St b l a] (fun x M' => ∃ k a', x = ePicks k ∧ GoodPicks k ∧ a' ≤ a + 100 ∧ M' = [St b l a']) := by
  have ht := hr.t4
  have hp := hr.p20
  refine Con.of_body Tryz.func9 rfl Tryz.ntmps9 rfl rfl ?_
  refine hw_reg ?_
  refine dp rfl (pop_box rfl rfl) ?_
  refine dp rfl (pop_assign rfl) ?_
  refine dn ?_
  refine hw_seq ?_
  refine hw_reg ?_
  refine dp rfl (pop_loadw ty28 rfl rfl rfl rfl) ?_
  refine dp rfl (pop_move rfl) ?_
  refine dp rfl (pop_move rfl) ?_
  refine dp rfl (pop_eq (pop_call ca49 rfl (WeakL.refl _) (c_benchref1_OpenFault (by omega) (by omega) hr.ts hr.ps hk0 hl0)) (congrArg (HVal.int .i64) (openFault_ref r ks ss))) ?_
  refine dp rfl (pop_neq rfl rfl) ?_
  refine dn ?_
  refine hw_cond rfl (fun h1 => ?_) (fun h2 => ?_)
  · try simp at h1
    refine hw_reg ?_
    refine dp rfl (pop_assign rfl) ?_
    refine dn ?_
    refine hw_ret ?_
    first
    | exact ⟨_, _, Ghost.sub (Sub.refl _), _, .slice 5 [], rfl, weak_nil 5, [], a, rfl, ⟨by simp⟩, by omega, rfl⟩
    | refine ret_g (Ghost.fa 8 (i := 1) rfl rfl) rfl ⟨k1, a4, rfl, ⟨by omega⟩, by omega, rfl⟩
  · try simp at h2
    refine hw_skip ?_
    refine seqQ_n ?_
    refine hw_reg ?_
    refine dp rfl (pop_assign rfl) ?_
    refine dn ?_
    have hof : openFault r ks ss = 0 := by simpa using h2
    refine hw_ghost (Ghost.arr_nil 5) ?_
    refine hw_reg ?_
    refine dp rfl ((by first | exact pop_fieldAddr ty28 rfl ty3 (by decide) rfl | exact pop_fieldAddr_raw ty28 rfl ty3 (by decide) rfl)) ?_
    refine dp rfl (pop_load ty3 rfl rfl rfl) ?_
    refine dp rfl (pop_assign rfl) ?_
    refine dn ?_
    refine hw_joing [9, 10, 11, 12, 21, 22, 23, 24, 25, 26, 27, 28, 29, 30, 31, 32, 33, 34, 35, 36, 37, 38, 39, 40, 41, 42, 43, 44, 45, 46, 47, 48, 49, 50, 51, 52, 53, 54, 55, 56] (fun (q : GL Pick) => [(9, .raw q.u)]) (fun (q : GL Pick) => [St b l q.a, .arr q.u 5 (q.out.map ePick)]) (fun (q : GL Pick) => q.out.length ≤ 8 ∧ q.a ≤ a + 30) ?_ ?_
    · skip
      refine hw_reg ?_
      refine dp rfl (pop_move rfl) ?_
      first
      | refine de rfl (eop_callx (i := 0) ca39 rfl (WeakL.refl _) rfl (c_benchmake_Stream_Range (by first | assumption | omega | (simp; omega) | simp_all) (by first | assumption | omega | (simp; omega) | simp_all) (by first | assumption | omega | (simp; omega) | simp_all) (by first | assumption | omega | (simp; omega) | simp_all)) ?_)
      | refine de rfl (eop_callx (i := 1) ca39 rfl (WeakL.refl _) rfl (c_benchmake_Stream_Range (by first | assumption | omega | (simp; omega) | simp_all) (by first | assumption | omega | (simp; omega) | simp_all) (by first | assumption | omega | (simp; omega) | simp_all) (by first | assumption | omega | (simp; omega) | simp_all)) ?_)
      | refine de rfl (eop_callx (i := 2) ca39 rfl (WeakL.refl _) rfl (c_benchmake_Stream_Range (by first | assumption | omega | (simp; omega) | simp_all) (by first | assumption | omega | (simp; omega) | simp_all) (by first | assumption | omega | (simp; omega) | simp_all) (by first | assumption | omega | (simp; omega) | simp_all)) ?_)
      | refine de rfl (eop_callx (i := 3) ca39 rfl (WeakL.refl _) rfl (c_benchmake_Stream_Range (by first | assumption | omega | (simp; omega) | simp_all) (by first | assumption | omega | (simp; omega) | simp_all) (by first | assumption | omega | (simp; omega) | simp_all) (by first | assumption | omega | (simp; omega) | simp_all)) ?_)
      rintro _ _ ⟨y22, rfl, hy22, rfl⟩
      refine dp rfl (pop_move rfl) ?_
      refine dn ?_
      refine hw_block ?_
      refine hw_loopw3 [9, 10, 11, 12, 23, 24, 25, 26, 27, 28, 29, 30, 31, 32, 33, 34, 35, 36, 37, 38, 39, 40, 41, 42, 43, 44, 45, 46, 47, 48, 49, 50, 51, 52, 53, 54, 55, 56] (fun (k : Nat) (at1 : Int) (q : GL Pick) => [(23, .int .i64 (k : Int)), (9, .raw q.u), (10, .int .i64 at1)]) (fun (k : Nat) (at1 : Int) (q : GL Pick) => [St b l q.a, .arr q.u 5 (q.out.map ePick)]) (fun (k : Nat) (at1 : Int) (q : GL Pick) => k ≤ 8 ∧ (q.out.length ≤ k ∧ q.out.length ≤ (freeP r ks ss).length) ∧ q.a ≤ a + 1 + 3 * k) (fun (k : Nat) (at1 : Int) (q : GL Pick) => 8 - k) (0) (r.Start) (⟨.slice none 0 0, [], a + 1⟩) ?_ ?_ ?_ ?_
      · exact ⟨by omega, ⟨by simp, by simp⟩, by dsimp only; omega⟩
      · exact ⟨rfl, rfl, rfl, trivial⟩
      · repeat (first | exact List.Perm.nil | refine permTo 0 rfl ?_ | refine permTo 1 rfl ?_ | refine permTo 2 rfl ?_ | refine permTo 3 rfl ?_ | (refine permToE 0 rfl ?hq ?_; (case hq => simp [setL, hcells]; done)) | (refine permToE 1 rfl ?hq ?_; (case hq => simp [setL, hcells]; done)) | (refine permToE 2 rfl ?hq ?_; (case hq => simp [setL, hcells]; done)) | (refine permToE 3 rfl ?hq ?_; (case hq => simp [setL, hcells]; done)) | fail)
      · intro k at1 q hinv
        obtain ⟨hk, hq, hqa⟩ := hinv
        obtain ⟨u, out, a2⟩ := q
        dsimp only at hq hqa
        obtain ⟨g1, g2⟩ := hq
        refine hw_reg ?_
        refine dp rfl (pop_lss rfl rfl) ?_
        refine dn ?_
        refine hw_seq ?_
        refine hw_cond rfl (fun h3 => ?_) (fun h4 => ?_)
        · try simp at h3
          have hk8 : k < 8 := by omega
          refine hw_skip ?_
          refine seqQ_n ?_
          refine hw_seq ?_
          refine hw_block ?_
          refine hw_reg ?_
          refine dp rfl (pop_loadw ty28 rfl rfl rfl rfl) ?_
          refine dp rfl (pop_move rfl) ?_
          refine dp rfl (pop_move rfl) ?_
          refine dp rfl (pop_move rfl) ?_
          refine de rfl (eop_callw (hs' := [eRoom r, eKeeps ks, eSwaps ss, ePicks out]) ca32 rfl ⟨.refl, .refl, .refl, .arr (i := 1) rfl, trivial⟩ (c_benchref1_NextOf hof hk0 hl0 g2) rfl ?_)
          refine dp rfl (pop_move rfl) ?_
          refine dp rfl (pop_extract rfl rfl) ?_
          refine dp rfl (pop_extract rfl rfl) ?_
          refine de rfl (eop_alloc ty55 rfl fun b11 => ?_)
          first
          | refine de0 (eop_store (i := 0) ty55 rfl rfl rfl rfl rfl (Nat.le_of_ble_eq_true rfl) ?_)
          | refine de0 (eop_store (i := 1) ty55 rfl rfl rfl rfl rfl (Nat.le_of_ble_eq_true rfl) ?_)
          | refine de0 (eop_store (i := 2) ty55 rfl rfl rfl rfl rfl (Nat.le_of_ble_eq_true rfl) ?_)
          | refine de0 (eop_store (i := 3) ty55 rfl rfl rfl rfl rfl (Nat.le_of_ble_eq_true rfl) ?_)
          refine dp rfl (pop_assign rfl) ?_
          refine dn ?_
          refine hw_seq ?_
          refine hw_reg ?_
          refine dp rfl (pop_move rfl) ?_
          refine dp rfl (pop_not rfl) ?_
          refine dn ?_
          refine hw_cond rfl (fun h5 => ?_) (fun h6 => ?_)
          · try simp at h5
            refine hw_exit ?_
            refine seqQ_x ?_
            refine blockQ_ne rfl ?_
            refine seqQ_x ?_
            refine loopQ3_x ?_
            refine blockQ_eq ?_
            refine joinG_n Ghost.drop ?_
            refine joinG_z ⟨u, out, a2⟩ ⟨by dsimp only; omega, by dsimp only; omega⟩ ⟨rfl, trivial⟩ (by repeat (first | exact keeps_refl | refine keeps_upd rfl ?_ | refine keeps_loop rfl rfl ?_)) ?_
            repeat (first | exact List.Perm.nil | refine permTo 0 rfl ?_ | refine permTo 1 rfl ?_ | refine permTo 2 rfl ?_ | refine permTo 3 rfl ?_ | (refine permToE 0 rfl ?hq ?_; (case hq => simp [setL, hcells]; done)) | (refine permToE 1 rfl ?hq ?_; (case hq => simp [setL, hcells]; done)) | (refine permToE 2 rfl ?hq ?_; (case hq => simp [setL, hcells]; done)) | (refine permToE 3 rfl ?hq ?_; (case hq => simp [setL, hcells]; done)) | fail)
          · try simp at h6
            refine hw_skip ?_
            refine seqQ_n ?_
            have hLl : out.length < (freeP r ks ss).length := by omega
            have hln := left_ne hof hLl
            have hlm : (leftL r ks out).length ≤ r.Players.length := List.length_filter_le _ _
            refine hw_reg ?_
            refine dp rfl (pop_move rfl) ?_
            refine dp rfl (pop_move rfl) ?_
            refine dp rfl (pop_buildSlice (hs := [_, _, _]) ty22 ty3 rfl rfl (by decide) (by decide) rfl) ?_
            first
            | refine de rfl (eop_callx (i := 0) ca10 rfl (WeakL.refl _) rfl (c_benchmake_Stream_Pick (L := [_, _, _]) (by first | assumption | omega | (simp; omega) | simp_all) (by first | assumption | omega | (simp; omega) | simp_all) (by first | assumption | omega | (simp; omega) | simp_all)) ?_)
            | refine de rfl (eop_callx (i := 1) ca10 rfl (WeakL.refl _) rfl (c_benchmake_Stream_Pick (L := [_, _, _]) (by first | assumption | omega | (simp; omega) | simp_all) (by first | assumption | omega | (simp; omega) | simp_all) (by first | assumption | omega | (simp; omega) | simp_all)) ?_)
            | refine de rfl (eop_callx (i := 2) ca10 rfl (WeakL.refl _) rfl (c_benchmake_Stream_Pick (L := [_, _, _]) (by first | assumption | omega | (simp; omega) | simp_all) (by first | assumption | omega | (simp; omega) | simp_all) (by first | assumption | omega | (simp; omega) | simp_all)) ?_)
            | refine de rfl (eop_callx (i := 3) ca10 rfl (WeakL.refl _) rfl (c_benchmake_Stream_Pick (L := [_, _, _]) (by first | assumption | omega | (simp; omega) | simp_all) (by first | assumption | omega | (simp; omega) | simp_all) (by first | assumption | omega | (simp; omega) | simp_all)) ?_)
            rintro _ _ ⟨y38, rfl, hy38, rfl⟩
            refine dp rfl (pop_add rfl rfl) ?_
            refine dp rfl (pop_assign rfl) ?_
            refine dn ?_
            refine hw_reg ?_
            refine dp rfl (pop_move rfl) ?_
            refine dp rfl (pop_loadw ty28 rfl rfl rfl rfl) ?_
            refine dp rfl (pop_move rfl) ?_
            refine dp rfl (pop_move rfl) ?_
            refine de rfl (EOp.fz (eop_callba (hs' := [eRoom r, eKeeps ks, ePicks out]) ca35 rfl ⟨.weak (Weak.refl _), .weak (Weak.refl _), .arr (i := 2) rfl, trivial⟩ (c_benchref1_LeftOf_a (by omega) hk0 (by omega)) (fun y hy => by obtain ⟨z, _, rfl⟩ := List.mem_map.1 hy; rfl) fun v => ⟨v, rfl, rfl⟩) ?_)
            first
            | refine de rfl (eop_callx (i := 0) ca43 rfl (WeakL.refl _) rfl (c_benchmake_Stream_Some (by first | assumption | omega | (simp; omega) | simp_all) (by first | assumption | omega | (simp; omega) | simp_all) (by first | assumption | omega | (simp; omega) | simp_all)) ?_)
            | refine de rfl (eop_callx (i := 1) ca43 rfl (WeakL.refl _) rfl (c_benchmake_Stream_Some (by first | assumption | omega | (simp; omega) | simp_all) (by first | assumption | omega | (simp; omega) | simp_all) (by first | assumption | omega | (simp; omega) | simp_all)) ?_)
            | refine de rfl (eop_callx (i := 2) ca43 rfl (WeakL.refl _) rfl (c_benchmake_Stream_Some (by first | assumption | omega | (simp; omega) | simp_all) (by first | assumption | omega | (simp; omega) | simp_all) (by first | assumption | omega | (simp; omega) | simp_all)) ?_)
            | refine de rfl (eop_callx (i := 3) ca43 rfl (WeakL.refl _) rfl (c_benchmake_Stream_Some (by first | assumption | omega | (simp; omega) | simp_all) (by first | assumption | omega | (simp; omega) | simp_all) (by first | assumption | omega | (simp; omega) | simp_all)) ?_)
            rintro _ _ ⟨y45, rfl, hy45, rfl⟩
            refine dp rfl (pop_move rfl) ?_
            refine dp rfl (pop_move rfl) ?_
            first
            | refine de rfl (eop_callx (i := 0) ca11 rfl (WeakL.refl _) rfl (c_benchmake_Stream_Flip (by first | assumption | omega | (simp; omega) | simp_all) (by first | assumption | omega | (simp; omega) | simp_all)) ?_)
            | refine de rfl (eop_callx (i := 1) ca11 rfl (WeakL.refl _) rfl (c_benchmake_Stream_Flip (by first | assumption | omega | (simp; omega) | simp_all) (by first | assumption | omega | (simp; omega) | simp_all)) ?_)
            | refine de rfl (eop_callx (i := 2) ca11 rfl (WeakL.refl _) rfl (c_benchmake_Stream_Flip (by first | assumption | omega | (simp; omega) | simp_all) (by first | assumption | omega | (simp; omega) | simp_all)) ?_)
            | refine de rfl (eop_callx (i := 3) ca11 rfl (WeakL.refl _) rfl (c_benchmake_Stream_Flip (by first | assumption | omega | (simp; omega) | simp_all) (by first | assumption | omega | (simp; omega) | simp_all)) ?_)
            rintro _ _ ⟨y48, rfl, rfl⟩
            refine dp rfl (pop_fieldAddr_raw ty55 rfl ty9 (by decide) rfl) ?_
            first
            | refine de0 (eop_store (i := 0) ty9 rfl rfl rfl rfl rfl (Nat.le_of_ble_eq_true rfl) ?_)
            | refine de0 (eop_store (i := 1) ty9 rfl rfl rfl rfl rfl (Nat.le_of_ble_eq_true rfl) ?_)
            | refine de0 (eop_store (i := 2) ty9 rfl rfl rfl rfl rfl (Nat.le_of_ble_eq_true rfl) ?_)
            | refine de0 (eop_store (i := 3) ty9 rfl rfl rfl rfl rfl (Nat.le_of_ble_eq_true rfl) ?_)
            refine dp rfl (pop_fieldAddr_raw ty55 rfl ty3 (by decide) rfl) ?_
            first
            | refine de0 (eop_store (i := 0) ty3 rfl rfl rfl rfl rfl (Nat.le_of_ble_eq_true rfl) ?_)
            | refine de0 (eop_store (i := 1) ty3 rfl rfl rfl rfl rfl (Nat.le_of_ble_eq_true rfl) ?_)
            | refine de0 (eop_store (i := 2) ty3 rfl rfl rfl rfl rfl (Nat.le_of_ble_eq_true rfl) ?_)
            | refine de0 (eop_store (i := 3) ty3 rfl rfl rfl rfl rfl (Nat.le_of_ble_eq_true rfl) ?_)
            refine dp rfl (pop_fieldAddr_raw ty55 rfl ty4 (by decide) rfl) ?_
            first
            | refine de0 (eop_store (i := 0) ty4 rfl rfl rfl rfl rfl (Nat.le_of_ble_eq_true rfl) ?_)
            | refine de0 (eop_store (i := 1) ty4 rfl rfl rfl rfl rfl (Nat.le_of_ble_eq_true rfl) ?_)
            | refine de0 (eop_store (i := 2) ty4 rfl rfl rfl rfl rfl (Nat.le_of_ble_eq_true rfl) ?_)
            | refine de0 (eop_store (i := 3) ty4 rfl rfl rfl rfl rfl (Nat.le_of_ble_eq_true rfl) ?_)
            refine dn ?_
            refine hw_ghost (Ghost.of_eq (M' := [St b l (a2 + 1 + 1 + 1), .cells b11 (hcells (ePick ⟨(nextP r ks ss out).No, (nextP r ks ss out).Team, y45, IntKind.wrap .i64 (at1 + y38), y48⟩)), .arr u 5 (out.map ePick)]) rfl) ?_
            refine hw_ghost (Ghost.fc 11 (i := 1) rfl rfl) ?_
            refine hw_reg1 ?_
            refine dp rfl (pop_move rfl) ?_
            refine dp rfl (pop_loadw ty55 rfl rfl rfl rfl) ?_
            refine dp rfl (pop_buildSlice (hs := [_]) ty36 ty55 rfl rfl (by decide) (by decide) rfl) ?_
            refine de rfl (eop_append (i := 1) ty36 ty55 rfl rfl rfl rfl rfl (by simp [flat, hcells]) (by simp; omega) fun v55 => ?_)
            refine dp rfl (pop_assign rfl) ?_
            refine dn ?_
            refine blockQ_n ?_
            refine seqQ_n ?_
            refine hw_reg1 ?_
            refine dp rfl (pop_add64 rfl rfl (by omega) (by omega)) ?_
            refine dp rfl (pop_move rfl) ?_
            refine dn ?_
            exact ⟨k + 1, IntKind.wrap .i64 (at1 + y38), ⟨v55, out ++ [⟨(nextP r ks ss out).No, (nextP r ks ss out).Team, y45, IntKind.wrap .i64 (at1 + y38), y48⟩], a2 + 3⟩, ⟨by omega, ⟨by simp; omega, by simp; omega⟩, by dsimp only; omega⟩, by dsimp only; omega, ⟨rfl, rfl, rfl, trivial⟩, (by repeat (first | exact keeps_refl | refine keeps_upd rfl ?_ | refine keeps_loop rfl rfl ?_)), by repeat (first | exact List.Perm.nil | refine permTo 0 rfl ?_ | refine permTo 1 rfl ?_ | refine permTo 2 rfl ?_ | refine permTo 3 rfl ?_ | (refine permToE 0 rfl ?hq ?_; (case hq => simp [setL, hcells]; done)) | (refine permToE 1 rfl ?hq ?_; (case hq => simp [setL, hcells]; done)) | (refine permToE 2 rfl ?hq ?_; (case hq => simp [setL, hcells]; done)) | (refine permToE 3 rfl ?hq ?_; (case hq => simp [setL, hcells]; done)) | fail)⟩
        · try simp at h4
          refine hw_exit ?_
          refine seqQ_x ?_
          refine loopQ3_x ?_
          refine blockQ_eq ?_
          refine joinG_z ⟨u, out, a2⟩ ⟨by dsimp only; omega, by dsimp only; omega⟩ ⟨rfl, trivial⟩ (by repeat (first | exact keeps_refl | refine keeps_upd rfl ?_ | refine keeps_loop rfl rfl ?_)) ?_
          repeat (first | exact List.Perm.nil | refine permTo 0 rfl ?_ | refine permTo 1 rfl ?_ | refine permTo 2 rfl ?_ | refine permTo 3 rfl ?_ | (refine permToE 0 rfl ?hq ?_; (case hq => simp [setL, hcells]; done)) | (refine permToE 1 rfl ?hq ?_; (case hq => simp [setL, hcells]; done)) | (refine permToE 2 rfl ?hq ?_; (case hq => simp [setL, hcells]; done)) | (refine permToE 3 rfl ?hq ?_; (case hq => simp [setL, hcells]; done)) | fail)
    · intro q hq3
      obtain ⟨u, out, a2⟩ := q
      dsimp only at hq3
      obtain ⟨g1, g3⟩ := hq3
      refine hw_join (13 :: 57 :: 58 :: 59 :: 60 :: 61 :: 62 :: 63 :: 64 :: 65 :: 66 :: 67 :: 68 :: 69 :: 70 :: 71 :: 72 :: 73 :: 74 :: 75 :: 76 :: 77 :: 78 :: 79 :: 80 :: 81 :: 82 :: 83 :: 84 :: 85 :: 86 :: 87 :: 88 :: 89 :: 90 :: 91 :: 92 :: 93 :: 94 :: 95 :: 96 :: 97 :: 98 :: 99 :: 100 :: 101 :: 102 :: 103 :: 104 :: 105 :: 106 :: 107 :: 108 :: 109 :: 110 :: 111 :: 112 :: 113 :: 114 :: 115 :: 116 :: 117 :: 118 :: 119 :: 120 :: 121 :: 122 :: 123 :: 124 :: 125 :: []) (fun (q : List Pick × Nat) => []) (fun (q : List Pick × Nat) => [St b l q.2, .arr u 5 (q.1.map ePick)]) (fun (q : List Pick × Nat) => q.1.length ≤ 8 ∧ q.2 ≤ a + 100) ?_ ?_
      · skip
        refine hw_reg ?_
        refine dp rfl (pop_move rfl) ?_
        first
        | refine de rfl (eop_lenm (i := 0) ty36 rfl rfl ?_)
        | refine de rfl (eop_lenm (i := 1) ty36 rfl rfl ?_)
        | refine de rfl (eop_lenm (i := 2) ty36 rfl rfl ?_)
        | refine de rfl (eop_lenm (i := 3) ty36 rfl rfl ?_)
        refine dp rfl (pop_gtr rfl rfl) ?_
        refine dp rfl (pop_move rfl) ?_
        refine dg rfl rfl (fun hc => ⟨_, OpenTo.refl _, pop_move rfl⟩) ?_
        refine dgx (fun x M' => ∃ (y : Bool) (a3 : Nat), x = .bool y ∧ a3 ≤ a2 + 1 ∧ M' = [St b l a3, .arr u 5 (out.map ePick)]) rfl rfl (fun hc => ⟨_, false, a2, rfl, by omega, rfl⟩) (fun hc => ⟨_, OpenTo.upd (t := 61) rfl (by first | exact hc | simp_all) (OpenTo.refl _), eop_callx (i := 0) ca11 rfl (WeakL.refl _) rfl (c_benchmake_Stream_Flip (a := a2) (by omega) (by omega)) (fun h M' hh => by
          obtain ⟨y, h1, h2⟩ := hh
          exact ⟨y, a2 + 1, h1, by omega, by rw [h2]; rfl⟩)⟩) ?_
        rintro _ _ ⟨y, a3, rfl, ha3, rfl⟩
        refine dp rfl (pop_picko rfl (.inr ⟨_, rfl, fun h => by simp_all⟩) (.inl rfl)) ?_
        refine dn ?_
        refine hw_cond rfl (fun h7 => ?_) (fun h8 => ?_)
        · try simp at h7
          have ho0 : 0 < out.length := by simp_all
          refine hw_arrc (i := 1) rfl (fun h0 he => ?_) (fun ob off cap hv hcap => ?_)
          · exfalso; have := congrArg List.length he; simp at this; subst this; simp at ho0
          subst hv
          refine hw_reg ?_
          refine dp rfl (pop_move rfl) ?_
          refine dp rfl (pop_move rfl) ?_
          refine dp rfl (pop_move rfl) ?_
          first
          | refine de rfl (eop_lenm (i := 0) ty36 rfl rfl ?_)
          | refine de rfl (eop_lenm (i := 1) ty36 rfl rfl ?_)
          | refine de rfl (eop_lenm (i := 2) ty36 rfl rfl ?_)
          | refine de rfl (eop_lenm (i := 3) ty36 rfl rfl ?_)
          first
          | refine de rfl (eop_callx (i := 0) ca41 rfl (WeakL.refl _) rfl (c_benchmake_Stream_Next (by first | assumption | omega | (simp; omega) | simp_all) (by first | assumption | omega | (simp; omega) | simp_all)) ?_)
          | refine de rfl (eop_callx (i := 1) ca41 rfl (WeakL.refl _) rfl (c_benchmake_Stream_Next (by first | assumption | omega | (simp; omega) | simp_all) (by first | assumption | omega | (simp; omega) | simp_all)) ?_)
          | refine de rfl (eop_callx (i := 2) ca41 rfl (WeakL.refl _) rfl (c_benchmake_Stream_Next (by first | assumption | omega | (simp; omega) | simp_all) (by first | assumption | omega | (simp; omega) | simp_all)) ?_)
          | refine de rfl (eop_callx (i := 3) ca41 rfl (WeakL.refl _) rfl (c_benchmake_Stream_Next (by first | assumption | omega | (simp; omega) | simp_all) (by first | assumption | omega | (simp; omega) | simp_all)) ?_)
          rintro _ _ ⟨y68, rfl, hy68, rfl⟩
          refine dp rfl (pop_idxraw (j := y68) ty36 ty55 rfl rfl rfl (by simp; omega)) ?_
          refine dp rfl (pop_assign rfl) ?_
          refine dn ?_
          obtain ⟨x, hx⟩ : ∃ x, out[y68]? = some x := ⟨_, List.getElem?_eq_getElem (by omega)⟩
          obtain ⟨x0, hx0⟩ : ∃ x, out[0]? = some x := ⟨_, List.getElem?_eq_getElem (by omega)⟩
          refine hw_reg ?_
          refine dp rfl (pop_move rfl) ?_
          first
          | refine de rfl (eop_callx (i := 0) ca41 rfl (WeakL.refl _) rfl (c_benchmake_Stream_Next (by first | assumption | omega | (simp; omega) | simp_all) (by first | assumption | omega | (simp; omega) | simp_all)) ?_)
          | refine de rfl (eop_callx (i := 1) ca41 rfl (WeakL.refl _) rfl (c_benchmake_Stream_Next (by first | assumption | omega | (simp; omega) | simp_all) (by first | assumption | omega | (simp; omega) | simp_all)) ?_)
          | refine de rfl (eop_callx (i := 2) ca41 rfl (WeakL.refl _) rfl (c_benchmake_Stream_Next (by first | assumption | omega | (simp; omega) | simp_all) (by first | assumption | omega | (simp; omega) | simp_all)) ?_)
          | refine de rfl (eop_callx (i := 3) ca41 rfl (WeakL.refl _) rfl (c_benchmake_Stream_Next (by first | assumption | omega | (simp; omega) | simp_all) (by first | assumption | omega | (simp; omega) | simp_all)) ?_)
          rintro _ _ ⟨y71, rfl, hy71, rfl⟩
          refine dn ?_
          refine hw_block ?_
          refine hw_reg ?_
          refine dp rfl (pop_eql rfl rfl) ?_
          refine dp rfl (pop_assign rfl) ?_
          refine dn ?_
          refine hw_cond rfl (fun h9 => ?_) (fun h10 => ?_)
          · try simp at h9
            refine hw_draw1 (fun M => ∃ i : Nat, M[i]? = some (.arr (.slice (some ⟨ob, off, none⟩) (out.map ePick).length cap) 5 (out.map ePick))) [6, 10, 18] mixed ?_
            refine ahp 0 rfl rfl (by kernel_rfl) (by kernel_rfl) (pop_move rfl) ?_
            refine ahp 1 rfl rfl (by kernel_rfl) (by kernel_rfl) (pop_move rfl) ?_
            refine ahp 2 rfl rfl (by kernel_rfl) (by kernel_rfl) (pop_move rfl) ?_
            refine ahp 3 rfl rfl (by kernel_rfl) (by kernel_rfl) (pop_move rfl) ?_
            refine ahp 4 rfl rfl (by kernel_rfl) (by kernel_rfl) ((by first | exact pop_nilCheck rfl | exact pop_nilCheck_raw rfl)) ?_
            refine ahp 5 rfl rfl (by kernel_rfl) (by kernel_rfl) ((by first | exact pop_fieldAddr ty55 rfl ty3 (by decide) rfl | exact pop_fieldAddr_raw ty55 rfl ty3 (by decide) rfl)) ?_
            refine ahl 6 rfl rfl (by kernel_rfl) (by kernel_rfl) (by simp) ⟨1, rfl⟩ (fun M hM => by obtain ⟨i, hi⟩ := hM; exact eop_load_el (i := i) (j := y68) 0 ty3 rfl (by omega) hi hx rfl rfl ⟨rfl, rfl⟩) ?_
            refine ahp 7 rfl rfl (by kernel_rfl) (by kernel_rfl) (pop_move rfl) ?_
            refine ahp 8 rfl rfl (by kernel_rfl) (by kernel_rfl) ((by first | exact pop_nilCheck rfl | exact pop_nilCheck_raw rfl)) ?_
            refine ahp 9 rfl rfl (by kernel_rfl) (by kernel_rfl) ((by first | exact pop_fieldAddr ty55 rfl ty3 (by decide) rfl | exact pop_fieldAddr_raw ty55 rfl ty3 (by decide) rfl)) ?_
            refine ahl 10 rfl rfl (by kernel_rfl) (by kernel_rfl) (by simp) ⟨1, rfl⟩ (fun M hM => by obtain ⟨i, hi⟩ := hM; exact eop_load_el (i := i) (j := y68) 0 ty3 rfl (by omega) hi hx rfl rfl ⟨rfl, rfl⟩) ?_
            refine ahp 11 rfl rfl (by kernel_rfl) (by kernel_rfl) (pop_add rfl rfl) ?_
            refine ahp 12 rfl rfl (by kernel_rfl) (by kernel_rfl) (pop_buildSlice (hs := [_, _, _]) ty22 ty3 rfl rfl (by decide) (by decide) rfl) ?_
            refine ahp 14 rfl rfl (by kernel_rfl) (by kernel_rfl) (pop_move rfl) ?_
            refine ahp 15 rfl rfl (by kernel_rfl) (by kernel_rfl) (pop_move rfl) ?_
            refine ahp 16 rfl rfl (by kernel_rfl) (by kernel_rfl) ((by first | exact pop_nilCheck rfl | exact pop_nilCheck_raw rfl)) ?_
            refine ahp 17 rfl rfl (by kernel_rfl) (by kernel_rfl) ((by first | exact pop_fieldAddr ty55 rfl ty9 (by decide) rfl | exact pop_fieldAddr_raw ty55 rfl ty9 (by decide) rfl)) ?_
            refine ahl 18 rfl rfl (by kernel_rfl) (by kernel_rfl) (by simp) ⟨1, rfl⟩ (fun M hM => by obtain ⟨i, hi⟩ := hM; exact eop_load_el (i := i) (j := y68) 1 ty9 rfl (by omega) hi hx rfl rfl ⟨rfl, rfl⟩) ?_
            refine ahp 19 rfl rfl (by kernel_rfl) (by kernel_rfl) (pop_buildSlice (hs := [_, _, _]) ty26 ty9 rfl rfl (by decide) (by decide) rfl) ?_
            refine ahe 13 rfl (by kernel_rfl) ?_
            first
            | refine hop_e rfl (eop_callx (i := 0) ca10 rfl (WeakL.refl _) rfl (c_benchmake_Stream_Pick (L := [_, _, _]) (by first | assumption | omega | (simp; omega) | simp_all) (by first | assumption | omega | (simp; omega) | simp_all) (by first | assumption | omega | (simp; omega) | simp_all)) ?_)
            | refine hop_e rfl (eop_callx (i := 1) ca10 rfl (WeakL.refl _) rfl (c_benchmake_Stream_Pick (L := [_, _, _]) (by first | assumption | omega | (simp; omega) | simp_all) (by first | assumption | omega | (simp; omega) | simp_all) (by first | assumption | omega | (simp; omega) | simp_all)) ?_)
            | refine hop_e rfl (eop_callx (i := 2) ca10 rfl (WeakL.refl _) rfl (c_benchmake_Stream_Pick (L := [_, _, _]) (by first | assumption | omega | (simp; omega) | simp_all) (by first | assumption | omega | (simp; omega) | simp_all) (by first | assumption | omega | (simp; omega) | simp_all)) ?_)
            | refine hop_e rfl (eop_callx (i := 3) ca10 rfl (WeakL.refl _) rfl (c_benchmake_Stream_Pick (L := [_, _, _]) (by first | assumption | omega | (simp; omega) | simp_all) (by first | assumption | omega | (simp; omega) | simp_all) (by first | assumption | omega | (simp; omega) | simp_all)) ?_)
            rintro _ _ ⟨y102, rfl, hy102, rfl⟩
            refine ⟨fun _ => by first | exact .inl ⟨0, rfl⟩ | exact .inl ⟨1, rfl⟩ | exact .inl ⟨2, rfl⟩ | exact .inr (by simp [Before, Region.binds]), ?_⟩
            refine ahe 20 rfl (by kernel_rfl) ?_
            first
            | refine hop_e rfl (eop_callx (i := 0) ca43 rfl (WeakL.refl _) rfl (c_benchmake_Stream_Some (L := [_, _, _]) (by first | assumption | omega | (simp; omega) | simp_all) (by first | assumption | omega | (simp; omega) | simp_all) (by first | assumption | omega | (simp; omega) | simp_all)) ?_)
            | refine hop_e rfl (eop_callx (i := 1) ca43 rfl (WeakL.refl _) rfl (c_benchmake_Stream_Some (L := [_, _, _]) (by first | assumption | omega | (simp; omega) | simp_all) (by first | assumption | omega | (simp; omega) | simp_all) (by first | assumption | omega | (simp; omega) | simp_all)) ?_)
            | refine hop_e rfl (eop_callx (i := 2) ca43 rfl (WeakL.refl _) rfl (c_benchmake_Stream_Some (L := [_, _, _]) (by first | assumption | omega | (simp; omega) | simp_all) (by first | assumption | omega | (simp; omega) | simp_all) (by first | assumption | omega | (simp; omega) | simp_all)) ?_)
            | refine hop_e rfl (eop_callx (i := 3) ca43 rfl (WeakL.refl _) rfl (c_benchmake_Stream_Some (L := [_, _, _]) (by first | assumption | omega | (simp; omega) | simp_all) (by first | assumption | omega | (simp; omega) | simp_all) (by first | assumption | omega | (simp; omega) | simp_all)) ?_)
            rintro _ _ ⟨y109, rfl, hy109, rfl⟩
            refine ⟨fun _ => by first | exact .inl ⟨0, rfl⟩ | exact .inl ⟨1, rfl⟩ | exact .inl ⟨2, rfl⟩ | exact .inr (by simp [Before, Region.binds]), ?_⟩
            refine ahp 21 rfl rfl (by kernel_rfl) (by kernel_rfl) ((by first | exact pop_nilCheck rfl | exact pop_nilCheck_raw rfl)) ?_
            refine ahp 22 rfl rfl (by kernel_rfl) (by kernel_rfl) ((by first | exact pop_fieldAddr ty55 rfl ty3 (by decide) rfl | exact pop_fieldAddr_raw ty55 rfl ty3 (by decide) rfl)) ?_
            refine ahe 23 rfl (by kernel_rfl) ?_
            refine hop_e0 (eop_store_arr (i := 1) (j := y68) (f := 0) (y := ePick x) (y' := ePick ⟨y102, x.Team, x.Player, x.At, x.Auto⟩) ty3 rfl (by omega) rfl rfl (map_get hx) rfl rfl (by simp [hcells]) rfl ?_)
            refine ⟨fun _ => .inr (by simp [Before, Region.binds]), ?_⟩
            refine ahp 24 rfl rfl (by kernel_rfl) (by kernel_rfl) ((by first | exact pop_nilCheck rfl | exact pop_nilCheck_raw rfl)) ?_
            refine ahp 25 rfl rfl (by kernel_rfl) (by kernel_rfl) ((by first | exact pop_fieldAddr ty55 rfl ty9 (by decide) rfl | exact pop_fieldAddr_raw ty55 rfl ty9 (by decide) rfl)) ?_
            refine ahe 26 rfl (by kernel_rfl) ?_
            refine hop_e0 (eop_store_arr (i := 1) (j := y68) (f := 1) (y := ePick ⟨y102, x.Team, x.Player, x.At, x.Auto⟩) (y' := ePick ⟨y102, y109, x.Player, x.At, x.Auto⟩) ty9 rfl (by omega) rfl rfl (set_self (map_get hx)) rfl rfl (by simp [hcells]) rfl ?_)
            refine ⟨fun _ => .inr (by simp [Before, Region.binds]), ?_⟩
            refine ahz (by kernel_rfl) ?_
            refine blockQ_n ?_
            exact ⟨(out.set y68 ⟨y102, y109, x.Player, x.At, x.Auto⟩, a3 + 4), ⟨by simp; omega, by dsimp only; omega⟩, trivial, (by repeat (first | exact keeps_refl | refine keeps_upd rfl ?_ | refine keeps_loop rfl rfl ?_)), by repeat (first | exact List.Perm.nil | refine permTo 0 rfl ?_ | refine permTo 1 rfl ?_ | refine permTo 2 rfl ?_ | refine permTo 3 rfl ?_ | (refine permToE 0 rfl ?hq ?_; (case hq => simp [setL, hcells]; done)) | (refine permToE 1 rfl ?hq ?_; (case hq => simp [setL, hcells]; done)) | (refine permToE 2 rfl ?hq ?_; (case hq => simp [setL, hcells]; done)) | (refine permToE 3 rfl ?hq ?_; (case hq => simp [setL, hcells]; done)) | fail)⟩
          · try simp at h10
            refine hw_reg ?_
            refine dp rfl (pop_eql rfl rfl) ?_
            refine dp rfl (pop_assign rfl) ?_
            refine dn ?_
            refine hw_cond rfl (fun h11 => ?_) (fun h12 => ?_)
            · try simp at h11
              refine hw_reg1 ?_
              refine dp rfl (pop_move rfl) ?_
              refine dp rfl (pop_move rfl) ?_
              refine dp rfl (pop_move rfl) ?_
              refine dp rfl (pop_idxraw (j := 0) ty36 ty55 rfl rfl rfl (by simp; omega)) ?_
              refine dp rfl ((by first | exact pop_fieldAddr ty55 rfl ty9 (by decide) rfl | exact pop_fieldAddr_raw ty55 rfl ty9 (by decide) rfl)) ?_
              refine de rfl (eop_load_el (i := 1) (j := 0) 2 ty9 rfl (by omega) rfl hx0 rfl rfl ?_)
              refine dp rfl (pop_buildSlice (hs := [_, _]) ty26 ty9 rfl rfl (by decide) (by decide) rfl) ?_
              first
              | refine de rfl (eop_callx (i := 0) ca43 rfl (WeakL.refl _) rfl (c_benchmake_Stream_Some (L := [_, _]) (by first | assumption | omega | (simp; omega) | simp_all) (by first | assumption | omega | (simp; omega) | simp_all) (by first | assumption | omega | (simp; omega) | simp_all)) ?_)
              | refine de rfl (eop_callx (i := 1) ca43 rfl (WeakL.refl _) rfl (c_benchmake_Stream_Some (L := [_, _]) (by first | assumption | omega | (simp; omega) | simp_all) (by first | assumption | omega | (simp; omega) | simp_all) (by first | assumption | omega | (simp; omega) | simp_all)) ?_)
              | refine de rfl (eop_callx (i := 2) ca43 rfl (WeakL.refl _) rfl (c_benchmake_Stream_Some (L := [_, _]) (by first | assumption | omega | (simp; omega) | simp_all) (by first | assumption | omega | (simp; omega) | simp_all) (by first | assumption | omega | (simp; omega) | simp_all)) ?_)
              | refine de rfl (eop_callx (i := 3) ca43 rfl (WeakL.refl _) rfl (c_benchmake_Stream_Some (L := [_, _]) (by first | assumption | omega | (simp; omega) | simp_all) (by first | assumption | omega | (simp; omega) | simp_all) (by first | assumption | omega | (simp; omega) | simp_all)) ?_)
              rintro _ _ ⟨y123, rfl, hy123, rfl⟩
              refine dp rfl ((by first | exact pop_nilCheck rfl | exact pop_nilCheck_raw rfl)) ?_
              refine dp rfl ((by first | exact pop_fieldAddr ty55 rfl ty9 (by decide) rfl | exact pop_fieldAddr_raw ty55 rfl ty9 (by decide) rfl)) ?_
              refine de0 (eop_store_arr (i := 1) (j := y68) (f := 2) (y := ePick x) (y' := ePick ⟨x.No, x.Team, y123, x.At, x.Auto⟩) ty9 rfl (by omega) rfl rfl (map_get hx) rfl rfl (by simp [hcells]) rfl ?_)
              refine dn ?_
              refine blockQ_n ?_
              exact ⟨(out.set y68 ⟨x.No, x.Team, y123, x.At, x.Auto⟩, a3 + 3), ⟨by simp; omega, by dsimp only; omega⟩, trivial, (by repeat (first | exact keeps_refl | refine keeps_upd rfl ?_ | refine keeps_loop rfl rfl ?_)), by repeat (first | exact List.Perm.nil | refine permTo 0 rfl ?_ | refine permTo 1 rfl ?_ | refine permTo 2 rfl ?_ | refine permTo 3 rfl ?_ | (refine permToE 0 rfl ?hq ?_; (case hq => simp [setL, hcells]; done)) | (refine permToE 1 rfl ?hq ?_; (case hq => simp [setL, hcells]; done)) | (refine permToE 2 rfl ?hq ?_; (case hq => simp [setL, hcells]; done)) | (refine permToE 3 rfl ?hq ?_; (case hq => simp [setL, hcells]; done)) | fail)⟩
            · try simp at h12
              refine hw_draw1 (fun M => ∃ i : Nat, M[i]? = some (.arr (.slice (some ⟨ob, off, none⟩) (out.map ePick).length cap) 5 (out.map ePick))) [5, 10] mixed ?_
              refine ahp 0 rfl rfl (by kernel_rfl) (by kernel_rfl) (pop_move rfl) ?_
              refine ahp 1 rfl rfl (by kernel_rfl) (by kernel_rfl) (pop_move rfl) ?_
              refine ahp 2 rfl rfl (by kernel_rfl) (by kernel_rfl) (pop_move rfl) ?_
              refine ahp 3 rfl rfl (by kernel_rfl) (by kernel_rfl) ((by first | exact pop_nilCheck rfl | exact pop_nilCheck_raw rfl)) ?_
              refine ahp 4 rfl rfl (by kernel_rfl) (by kernel_rfl) ((by first | exact pop_fieldAddr ty55 rfl ty3 (by decide) rfl | exact pop_fieldAddr_raw ty55 rfl ty3 (by decide) rfl)) ?_
              refine ahl 5 rfl rfl (by kernel_rfl) (by kernel_rfl) (by simp) ⟨1, rfl⟩ (fun M hM => by obtain ⟨i, hi⟩ := hM; exact eop_load_el (i := i) (j := y68) 3 ty3 rfl (by omega) hi hx rfl rfl ⟨rfl, rfl⟩) ?_
              refine ahp 6 rfl rfl (by kernel_rfl) (by kernel_rfl) (pop_sub rfl rfl) ?_
              refine ahp 7 rfl rfl (by kernel_rfl) (by kernel_rfl) (pop_move rfl) ?_
              refine ahp 8 rfl rfl (by kernel_rfl) (by kernel_rfl) ((by first | exact pop_nilCheck rfl | exact pop_nilCheck_raw rfl)) ?_
              refine ahp 9 rfl rfl (by kernel_rfl) (by kernel_rfl) ((by first | exact pop_fieldAddr ty55 rfl ty3 (by decide) rfl | exact pop_fieldAddr_raw ty55 rfl ty3 (by decide) rfl)) ?_
              refine ahl 10 rfl rfl (by kernel_rfl) (by kernel_rfl) (by simp) ⟨1, rfl⟩ (fun M hM => by obtain ⟨i, hi⟩ := hM; exact eop_load_el (i := i) (j := y68) 3 ty3 rfl (by omega) hi hx rfl rfl ⟨rfl, rfl⟩) ?_
              refine ahp 11 rfl rfl (by kernel_rfl) (by kernel_rfl) (pop_buildSlice (hs := [_, _, _]) ty22 ty3 rfl rfl (by decide) (by decide) rfl) ?_
              refine ahe 12 rfl (by kernel_rfl) ?_
              first
              | refine hop_e rfl (eop_callx (i := 0) ca10 rfl (WeakL.refl _) rfl (c_benchmake_Stream_Pick (L := [_, _, _]) (by first | assumption | omega | (simp; omega) | simp_all) (by first | assumption | omega | (simp; omega) | simp_all) (by first | assumption | omega | (simp; omega) | simp_all)) ?_)
              | refine hop_e rfl (eop_callx (i := 1) ca10 rfl (WeakL.refl _) rfl (c_benchmake_Stream_Pick (L := [_, _, _]) (by first | assumption | omega | (simp; omega) | simp_all) (by first | assumption | omega | (simp; omega) | simp_all) (by first | assumption | omega | (simp; omega) | simp_all)) ?_)
              | refine hop_e rfl (eop_callx (i := 2) ca10 rfl (WeakL.refl _) rfl (c_benchmake_Stream_Pick (L := [_, _, _]) (by first | assumption | omega | (simp; omega) | simp_all) (by first | assumption | omega | (simp; omega) | simp_all) (by first | assumption | omega | (simp; omega) | simp_all)) ?_)
              | refine hop_e rfl (eop_callx (i := 3) ca10 rfl (WeakL.refl _) rfl (c_benchmake_Stream_Pick (L := [_, _, _]) (by first | assumption | omega | (simp; omega) | simp_all) (by first | assumption | omega | (simp; omega) | simp_all) (by first | assumption | omega | (simp; omega) | simp_all)) ?_)
              rintro _ _ ⟨y84, rfl, hy84, rfl⟩
              refine ⟨fun _ => by first | exact .inl ⟨0, rfl⟩ | exact .inl ⟨1, rfl⟩ | exact .inl ⟨2, rfl⟩ | exact .inr (by simp [Before, Region.binds]), ?_⟩
              refine ahp 13 rfl rfl (by kernel_rfl) (by kernel_rfl) ((by first | exact pop_nilCheck rfl | exact pop_nilCheck_raw rfl)) ?_
              refine ahp 14 rfl rfl (by kernel_rfl) (by kernel_rfl) ((by first | exact pop_fieldAddr ty55 rfl ty3 (by decide) rfl | exact pop_fieldAddr_raw ty55 rfl ty3 (by decide) rfl)) ?_
              refine ahe 15 rfl (by kernel_rfl) ?_
              refine hop_e0 (eop_store_arr (i := 1) (j := y68) (f := 3) (y := ePick x) (y' := ePick ⟨x.No, x.Team, x.Player, y84, x.Auto⟩) ty3 rfl (by omega) rfl rfl (map_get hx) rfl rfl (by simp [hcells]) rfl ?_)
              refine ⟨fun _ => .inr (by simp [Before, Region.binds]), ?_⟩
              refine ahz (by kernel_rfl) ?_
              refine blockQ_n ?_
              exact ⟨(out.set y68 ⟨x.No, x.Team, x.Player, y84, x.Auto⟩, a3 + 3), ⟨by simp; omega, by dsimp only; omega⟩, trivial, (by repeat (first | exact keeps_refl | refine keeps_upd rfl ?_ | refine keeps_loop rfl rfl ?_)), by repeat (first | exact List.Perm.nil | refine permTo 0 rfl ?_ | refine permTo 1 rfl ?_ | refine permTo 2 rfl ?_ | refine permTo 3 rfl ?_ | (refine permToE 0 rfl ?hq ?_; (case hq => simp [setL, hcells]; done)) | (refine permToE 1 rfl ?hq ?_; (case hq => simp [setL, hcells]; done)) | (refine permToE 2 rfl ?hq ?_; (case hq => simp [setL, hcells]; done)) | (refine permToE 3 rfl ?hq ?_; (case hq => simp [setL, hcells]; done)) | fail)⟩
        · try simp at h8
          refine hw_skip ?_
          exact ⟨(out, a3), ⟨by dsimp only; omega, by dsimp only; omega⟩, trivial, (by repeat (first | exact keeps_refl | refine keeps_upd rfl ?_ | refine keeps_loop rfl rfl ?_)), by repeat (first | exact List.Perm.nil | refine permTo 0 rfl ?_ | refine permTo 1 rfl ?_ | refine permTo 2 rfl ?_ | refine permTo 3 rfl ?_ | (refine permToE 0 rfl ?hq ?_; (case hq => simp [setL, hcells]; done)) | (refine permToE 1 rfl ?hq ?_; (case hq => simp [setL, hcells]; done)) | (refine permToE 2 rfl ?hq ?_; (case hq => simp [setL, hcells]; done)) | (refine permToE 3 rfl ?hq ?_; (case hq => simp [setL, hcells]; done)) | fail)⟩
      · intro q hq3
        obtain ⟨k1, a4⟩ := q
        dsimp only at hq3
        obtain ⟨q1, q3⟩ := hq3
        refine hw_reg ?_
        refine dp rfl (pop_move rfl) ?_
        refine dp rfl (pop_assign rfl) ?_
        refine dn ?_
        refine hw_ret ?_
        first
        | exact ⟨_, _, Ghost.sub (Sub.refl _), _, .slice 5 [], rfl, weak_nil 5, [], a, rfl, ⟨by simp⟩, by omega, rfl⟩
        | refine ret_g (Ghost.fa 8 (i := 1) rfl rfl) rfl ⟨k1, a4, rfl, ⟨by omega⟩, by omega, rfl⟩
end Go.Proofs.YtoomadfbldcioaaGreatDoor
end
section
namespace Go.HL
section
variable {r : Room} {k : List Keep} {s : List Swap} {l : List Pick} {w : List Wish} {n : Int}
end
end Go.HL
end
section
namespace Go.HL
def ptrB : Value → Nat
  | .pointer (some a) => a.block
  | _ => 0
section
variable {r : Room} {k : List Keep} {s : List Swap} {l : List Pick}
def nxA (r : Room) (k : List Keep) (s : List Swap) (l : List Pick) : Pick := if picksE r k s l != 0 then pick0 else nextP r k s l
def nxB (r : Room) (k : List Keep) (s : List Swap) (l : List Pick) : Bool := if picksE r k s l != 0 then false else decide (l.length < (freeP r k s).length)
def duA (r : Room) (k : List Keep) (s : List Swap) (l : List Pick) : Int := if picksE r k s l != 0 then 0 else dueI r ((freeP r k s).drop l.length) l
def duB (r : Room) (k : List Keep) (s : List Swap) (l : List Pick) : Bool := if picksE r k s l != 0 then false else dueD r ((freeP r k s).drop l.length) l
def leA (r : Room) (k : List Keep) (s : List Swap) (l : List Pick) : List Str := if picksE r k s l != 0 then [] else leftL r k l
def putNo (A : List Pick) (p : Pick) : List Pick := A.set p.No.toNat p
def allP (A l : List Pick) : List Pick := l.foldl putNo A
def teamsA (r : Room) (A : List Pick) : List Wish := r.Teams.map fun t => ⟨t, (A.filter fun p => p.Team == t && !(p.Player == [])).map (·.Player)⟩
def teamsB (r : Room) (A : List Pick) : List Wish := r.Teams.map fun t => ⟨t, (A.filter fun p => p.Team == t).map (·.Player)⟩
def teA (r : Room) (k : List Keep) (s : List Swap) (l : List Pick) : List Wish := if picksE r k s l != 0 then [] else teamsA r (allP (open1 r k s) l)
theorem nx_none (h : ¬ picksE r k s l = 0 ∨ (freeP r k s).length ≤ l.length) : nxA r k s l = pick0 ∧ nxB r k s l = false := by
  unfold nxA nxB nextP
  by_cases e : picksE r k s l = 0
  · have h1 : ¬ l.length < (freeP r k s).length := by rcases h with h | h; (exact absurd e h); omega
    simp [e, h1]
  · simp [e]
theorem nx_some (h : picksE r k s l = 0) (h2 : l.length < (freeP r k s).length) : nxA r k s l = (freeP r k s).getD l.length pick0 ∧ nxB r k s l = true := by
  unfold nxA nxB nextP; simp [h, h2]
theorem nx_ref (h : picksE r k s l = 0) : nxA r k s l = nextP r k s l ∧ nxB r k s l = decide (l.length < (freeP r k s).length) := by
  unfold nxA nxB; simp [h]
theorem du_ref (h : picksE r k s l = 0) : duB r k s l = decide (0 ≤ dueN r k s l) ∧ duA r k s l = (if dueN r k s l < 0 then 0 else dueN r k s l) := by
  have h1 : duB r k s l = dueD r ((freeP r k s).drop l.length) l := by simp [duB, h]
  have h2 : duA r k s l = dueI r ((freeP r k s).drop l.length) l := by simp [duA, h]
  rw [h1, h2]
  unfold dueN dueI dueD
  by_cases e : l.length < (freeP r k s).length
  · have hT : ((freeP r k s).drop l.length).isEmpty = false := by
      cases hd : (freeP r k s).drop l.length with
      | nil => have := List.drop_eq_nil_iff.1 hd; omega
      | cons a b => rfl
    rw [hT]
    by_cases e2 : moment (lastAt r l + r.Clock) = true
    · have := out_f (n := lastAt r l + r.Clock) (lo := 0) (hi := 345686399999) (by simpa [moment] using e2)
      rw [if_pos ⟨e, e2⟩, e2]
      simp; omega
    · have e2' : moment (lastAt r l + r.Clock) = false := by simpa using e2
      rw [if_neg (fun q => e2 q.2), e2']; simp
  · have hT : ((freeP r k s).drop l.length).isEmpty = true := by rw [List.drop_eq_nil_of_le (by omega)]; rfl
    rw [hT, if_neg (fun q => e q.1)]; simp
theorem le_ref (h : picksE r k s l = 0) : leA r k s l = leftL r k l := by simp [leA, h]
theorem leA_len : (leA r k s l).length ≤ r.Players.length := by
  unfold leA leftL; split
  · simp
  · exact List.length_filter_le _ _
theorem left_run {S : List Str} (ok : RunOk r k s l S) : (r.Players.filter fun p => !(S.contains p)) = leftL r k l := by
  unfold leftL
  exact List.filter_congr fun x hx => by rw [ok.gone x hx]
/-! all turns, and who was picked in them -/
def NoInc (A : List Pick) : Prop := ∀ (i : Nat) (p : Pick), A[i]? = some p → p.No = (i : Int)
theorem openFrom_no : ∀ (t : List Turn) (i j : Nat) (p : Pick), (openFrom r k i t)[j]? = some p → p.No = ((i + j : Nat) : Int)
  | [], i, j, p, h => by simp [openFrom] at h
  | x :: t, i, 0, p, h => by
    simp only [openFrom, List.getElem?_cons_zero, Option.some.injEq] at h
    subst h; rw [(keepIn_fix r x k _).1]; rfl
  | x :: t, i, j + 1, p, h => by
    simp only [openFrom, List.getElem?_cons_succ] at h
    rw [openFrom_no t (i + 1) j p h]; congr 1; omega
theorem open_no : NoInc (open1 r k s) := fun i p h => by
  have := openFrom_no _ 0 i p h
  rw [this]; congr 1; omega
theorem NoInc.pw {A : List Pick} (h : NoInc A) : A.Pairwise fun a b => a.No < b.No :=
  List.pairwise_iff_getElem.2 fun i j hi hj hij => by
    rw [h i _ (List.getElem?_eq_getElem hi), h j _ (List.getElem?_eq_getElem hj)]; omega
theorem NoInc.put {A : List Pick} (h : NoInc A) {p : Pick} (hp : 0 ≤ p.No) : NoInc (putNo A p) := fun i x hx => by
  unfold putNo at hx
  by_cases e : p.No.toNat = i
  · subst e
    have hlt := lt_of_get hx
    rw [List.length_set] at hlt
    rw [List.getElem?_set_self hlt] at hx; cases hx; omega
  · rw [List.getElem?_set_ne e] at hx; exact h i x hx
theorem filter_set {α : Type} (q : α → Bool) {x y : α} (hx : q x = true) (hy : q y = false) : ∀ {A : List α} {j : Nat}, A[j]? = some y → ((A.set j x).filter q).Perm (A.filter q ++ [x])
  | [], j, h => by simp at h
  | a :: A, 0, h => by
    simp at h; subst h
    simp only [List.set_cons_zero, List.filter_cons, hx, hy, if_true, Bool.false_eq_true, if_false]
    exact (List.perm_append_comm (l₁ := [x]))
  | a :: A, j + 1, h => by
    simp only [List.getElem?_cons_succ] at h
    have := filter_set q hx hy h
    simp only [List.set_cons_succ, List.filter_cons]
    split
    · exact this.cons a
    · exact this
def isP (p : Pick) : Bool := !(p.Player == [])
structure AllOk (r : Room) (k : List Keep) (s : List Swap) (l : List Pick) (i : Nat) (A : List Pick) : Prop where
  inc : NoInc A
  len : A.length = (open1 r k s).length
  free : ∀ (j : Nat) (p : Pick), i ≤ j → (freeP r k s)[j]? = some p → A[p.No.toNat]? = some p
  perm : (A.filter isP).Perm ((open1 r k s).filter isP ++ l.take i)
theorem free_mem {j : Nat} {p : Pick} (h : (freeP r k s)[j]? = some p) : p ∈ open1 r k s ∧ p.Player = [] := by
  have := List.mem_filter.1 (List.mem_of_getElem? h)
  exact ⟨this.1, by simpa using this.2⟩
theorem free_at {j : Nat} {p : Pick} (h : (freeP r k s)[j]? = some p) : 0 ≤ p.No ∧ (open1 r k s)[p.No.toNat]? = some p := by
  obtain ⟨m, hm⟩ := List.getElem?_of_mem (free_mem h).1
  have := open_no m p hm
  exact ⟨by omega, by rw [this]; simpa using hm⟩
theorem all_start : AllOk r k s l 0 (open1 r k s) := ⟨open_no, rfl, fun j p _ h => (free_at h).2, by simp⟩
theorem pick_at (h : picksE r k s l = 0) {i : Nat} {x : Pick} (hx : l[i]? = some x) : ∃ p, (freeP r k s)[i]? = some p ∧ x.No = p.No ∧ x.Player ≠ [] := by
  obtain ⟨h1, h2, h3⟩ := picksE_ok h
  have hi := lt_of_get hx
  obtain ⟨_, a2, _, a4, _⟩ := pkF_ok (pksGo_at l 0 rfl h3 i x (Nat.zero_le _) hx)
  have hg := getD_some (d := pick0) (show i < (freeP r k s).length by omega)
  refine ⟨_, hg, ?_, (room_ok (openFault_ok h1).1).ne _ a4⟩
  rw [a2]; congr 2; simp; omega
theorem AllOk.step (h : picksE r k s l = 0) {i : Nat} {x : Pick} (hx : l[i]? = some x) {A : List Pick} (ok : AllOk r k s l i A) : AllOk r k s l (i + 1) (putNo A x) ∧ 0 ≤ x.No ∧ x.No.toNat < A.length ∧ ∃ y, A[x.No.toNat]? = some y := by
  obtain ⟨p, hp, hn, hpl⟩ := pick_at h hx
  obtain ⟨n0, _⟩ := free_at hp
  have hA := ok.free i p (Nat.le_refl _) hp
  have hlt := lt_of_get hA
  refine ⟨⟨ok.inc.put (by omega), by unfold putNo; rw [List.length_set]; exact ok.len, fun j q hj hq => ?_, ?_⟩, by omega, by rw [hn]; exact hlt, p, by rw [hn]; exact hA⟩
  · have hq1 := ok.free j q (by omega) hq
    have hne : p.No < q.No := by
      have hpw : (freeP r k s).Pairwise fun a b => a.No < b.No := (open_no (r := r) (k := k) (s := s)).pw.sublist List.filter_sublist
      obtain ⟨hi', e1⟩ := List.getElem?_eq_some_iff.1 hp
      obtain ⟨hj', e2⟩ := List.getElem?_eq_some_iff.1 hq
      have := List.pairwise_iff_getElem.1 hpw i j hi' hj' (by omega)
      rw [e1, e2] at this; exact this
    unfold putNo
    rw [List.getElem?_set_ne (by omega)]; exact hq1
  · have hf := filter_set isP (x := x) (y := p) (by unfold isP; simpa using hpl) (by unfold isP; simp [(free_mem hp).2]) hA
    unfold putNo
    rw [hn, take_snoc' hx, ← List.append_assoc]
    exact hf.trans (ok.perm.append_right _)
theorem allP_snoc {A : List Pick} {i : Nat} {x : Pick} (hx : l[i]? = some x) : allP A (l.take (i + 1)) = putNo (allP A (l.take i)) x := by
  unfold allP; rw [take_snoc' hx, List.foldl_append]; rfl
theorem all_ok (h : picksE r k s l = 0) : ∀ i, i ≤ l.length → AllOk r k s l i (allP (open1 r k s) (l.take i))
  | 0, _ => by simpa [allP] using all_start
  | i + 1, hi => by
    have hx := List.getElem?_eq_getElem (l := l) (i := i) (by omega)
    rw [allP_snoc hx]
    exact ((all_ok h i (by omega)).step h hx).1
theorem sorted_eq {α : Type} {lt : α → α → Prop} : ∀ {X Y : List α}, X.Pairwise lt → Y.Pairwise (fun a b => ¬ lt b a) → Y.Perm X → Y = X
  | [], Y, _, _, h => h.eq_nil
  | x :: X, [], _, _, h => by have := h.length_eq; simp at this
  | x :: X, y :: Y, h1, h2, h => by
    have hxy : y = x := by
      have hy := h.subset (List.mem_cons_self (a := y) (l := Y))
      rcases List.mem_cons.1 hy with e | hy
      · exact e
      · have hx := h.symm.subset (List.mem_cons_self (a := x) (l := X))
        rcases List.mem_cons.1 hx with e | hx
        · exact e.symm
        · exact absurd ((List.pairwise_cons.1 h1).1 y hy) ((List.pairwise_cons.1 h2).1 x hx)
    subst hxy
    rw [sorted_eq (List.pairwise_cons.1 h1).2 (List.pairwise_cons.1 h2).2 h.cons_inv]
theorem teams_ref (h : picksE r k s l = 0) {Y : List Pick} (hp : Y.Perm ((open1 r k s).filter isP ++ l)) (hs : Y.Pairwise fun a b => ¬ b.No < a.No) : teamsB r Y = teA r k s l := by
  have ok := all_ok h l.length (Nat.le_refl _)
  rw [List.take_length] at ok
  have e : Y = (allP (open1 r k s) l).filter isP := sorted_eq (lt := fun a b : Pick => a.No < b.No) (ok.inc.pw.sublist List.filter_sublist) hs (hp.trans (by have := ok.perm; rw [List.take_length] at this; exact this.symm))
  unfold teA teamsB teamsA
  rw [if_neg (by simp [h]), e]
  refine List.map_congr_left fun t _ => ?_
  rw [List.filter_filter]; rfl
def sameW (a b : Wish) : Bool := a.Team == b.Team && a.Players == b.Players
def sameWs : List Wish → List Wish → Bool
  | [], [] => true
  | a :: l, b :: m => sameW a b && sameWs l m
  | _, _ => false
theorem sameWs_len : ∀ {l m : List Wish}, l.length ≠ m.length → sameWs l m = false
  | [], [], h => absurd rfl h
  | [], _ :: _, _ => rfl
  | _ :: _, [], _ => rfl
  | a :: l, b :: m, h => by rw [sameWs, sameWs_len (by intro q; apply h; simp [q])]; simp
theorem sameWs_refl : ∀ l : List Wish, sameWs l l = true
  | [] => rfl
  | a :: l => by simp [sameWs, sameW, sameWs_refl l]
theorem teA_len : (teA r k s l).length ≤ r.Teams.length := by
  unfold teA teamsA; split <;> simp
theorem teA_all (h : picksE r k s l = 0) : ∀ y ∈ teA r k s l, y.Players.length ≤ 600 := fun y hy => by
  unfold teA teamsA at hy
  rw [if_neg (by simp [h])] at hy
  obtain ⟨t, _, rfl⟩ := List.mem_map.1 hy
  have ok := all_ok h l.length (Nat.le_refl _)
  rw [List.take_length] at ok
  have h1 := ok.len
  have h2 : (open1 r k s).length ≤ 600 := by unfold open1; rw [openFrom_len]; exact turns_len (openFault_ok (picksE_ok h).1).1
  rw [List.length_map]
  exact Nat.le_trans (List.length_filter_le _ _) (by omega)
theorem teA_n (h : ¬ picksE r k s l = 0) : teA r k s l = [] ∧ leA r k s l = [] ∧ nxA r k s l = pick0 ∧ nxB r k s l = false ∧ duA r k s l = 0 ∧ duB r k s l = false := by
  simp [teA, leA, nxA, nxB, duA, duB, h]
end
end Go.HL
end
section
namespace Go.HL
section
variable {P : Program} {e : Env} {dst : Option Tmp} {ty : TypeId} {pos : String} {af : Array Edge} {g : Option (Nat × Bool)} {M : List MObj} {K : HVal → List MObj → Prop}
theorem pop_capraw {x : Operand} {t el : TypeId} {size bytes : Nat} {zero : Value} {p : Option Addr} {n c : Nat} (hf : Fits P t (.slice el) size bytes zero) (hx : evalO e x = some (.raw (.slice p n c))) :
    POp P e ⟨dst, .call ⟨.builtin .cap, #[x], #[t]⟩, ty, pos, af, g⟩ (.int .i64 c) :=
  POp.of_val fun I a w ho => by
    have h1 := (ho.one (x := x) (by simp [Op.operands, Call.operands]) hx).raw_inv
    exact ⟨_, by simp [execOp, resolve, invoke, builtin, Builtin.cap_, h1, run_underlying hf.slice, goInt], .int _ _⟩
theorem pop_slnil {x y : Operand} {t el : TypeId} {size bytes s2 b2 : Nat} {zero z2 : Value} {d : TD} (hf : Fits P t (.slice el) size bytes zero) (hel : Fits P el d s2 b2 z2) (hx : evalO e x = some (.raw (.slice none 0 0))) (hy : evalO e y = some (.int .i64 0)) :
    POp P e ⟨dst, .slice t x none (some y) none, ty, pos, af, g⟩ (.raw (.slice none 0 0)) :=
  POp.of_val fun I a w ho => by
    have h1 := (ho.one (x := x) (by simp [Op.operands]) hx).raw_inv
    have h2 := (ho.one (x := y) (by simp [Op.operands]) hy).int_inv
    exact ⟨_, by simp [execOp, h1, h2, Instr.sliceAt, Instr.slice, Instr.sliceBounds, Instr.sliceBound, asIntOf, run_underlying hf.slice, hel.run_sizeOf], .raw _ rfl⟩
/-- append(nil, make([]T, n)...). -/
theorem eop_appendmk {x y : Operand} {t el it : TypeId} {size bytes sz b2 s3 b3 n : Nat} {zero z2 z3 : Value} {d : TD} {q : Int}
    (hf : Fits P t (.slice el) size bytes zero) (hel : Fits P el d sz b2 z2) (hit : Fits P it (.int .i64) s3 b3 z3) (hz : z2.cells.size = sz) (hby : Nat.ble b2 100000 = true)
    (hx : evalO e x = some (.raw (.slice none 0 0))) (hy : evalO e y = some (.int .i64 q)) (hq : q = (n : Int)) (hn : n ≤ 1000000) (h0 : 0 < n)
    (hk : ∀ b nc cells, n ≤ nc → nc ≤ 9223372036854775807 → cells.size = nc * sz → K (.raw (.slice (some ⟨b, 0, none⟩) n nc)) (.obj b (.cells cells el (0, 0)) :: M)) :
    EOp P e M ⟨dst, .call ⟨.builtin .append, #[x, y], #[t, it]⟩, ty, pos, af, g⟩ K :=
  EOp.of_run fun I F a w ho hs => by
    subst hq
    have h1 := (ho.one (x := x) (by simp [Op.operands, Call.operands]) hx).raw_inv
    have h2 := (ho.one (x := y) (by simp [Op.operands, Call.operands]) hy).int_inv
    let nc := (Question.appendCap n 0 el).cut (w.tape w.drawn (.appendCap n 0 el))
    have hnc : n ≤ nc := by simp only [nc, Question.cut]; omega
    have hnm : nc ≤ 9223372036854775807 := by
      simp only [nc, Question.cut]
      have := Nat.mod_lt (w.tape w.drawn (.appendCap n 0 el)) (show 0 < 2 ^ 63 - n by omega)
      omega
    let cells : Array Value := #[] ++ Builtin.zeroCells z2.cells n ++ Builtin.zeroCells z2.cells (nc - n)
    have hcs : cells.size = nc * sz := by
      simp only [cells, Array.size_append, zeroCells_size, hz, List.size_toArray, List.length_nil]
      rw [Nat.zero_add, ← Nat.add_mul]; congr 1; omega
    have hsz0 : ¬ n * sz = 0 ∨ Builtin.zeroCells z2.cells n = #[] := by
      by_cases h : n * sz = 0
      · right; apply Array.eq_empty_of_size_eq_zero; rw [zeroCells_size, hz, h]
      · exact .inl h
    obtain ⟨ti, t1, t2, t3, t4⟩ := hel.typeInfo
    have hti : ∀ w1, (Go.typeInfo el).run P w1 = .ok ti w1 := fun w1 => by simp [Go.typeInfo, t1]
    have hwr : IntKind.i64.wrap (n : Int) = (n : Int) := wrap64 (by omega) (by omega)
    have hb0 : ¬ ((n : Int) * (b2 : Int) > 2 ^ 48) := by
      have e2 : b2 ≤ 100000 := Nat.le_of_ble_eq_true hby
      have : n * b2 ≤ 1000000 * 100000 := Nat.mul_le_mul hn e2
      have h9 : ((n * b2 : Nat) : Int) = (n : Int) * (b2 : Int) := Int.natCast_mul _ _
      omega
    have hb2 : ¬ ((n : Int) > IntKind.i64.max) := by
      have : IntKind.i64.max = 9223372036854775807 := by decide
      rw [this]; omega
    have hb3 : ¬ Builtin.nextslicecap n 0 * b2 > 2 ^ 48 := by
      have e1 := nextslicecap_le (need := n) (cap := 0) h0
      have e2 : b2 ≤ 100000 := Nat.le_of_ble_eq_true hby
      have : Builtin.nextslicecap n 0 * b2 ≤ (2 * 1000000 + 192) * 100000 := Nat.mul_le_mul (by omega) e2
      omega
    have hch : (choose (.appendCap n 0 el)).run P w = .ok nc { w with drawn := w.drawn + 1 } := by simp [Question.forced, nc]
    refine ⟨.slice (some ⟨w.heap.size, 0, none⟩) n nc, _, _, { w with heap := w.heap.push (.cells cells el (0, 0)), drawn := w.drawn + 1 }, I, ?_, .refl I, hk w.heap.size nc cells hnc hnm hcs, .raw _ rfl, ?_⟩
    · have hap : ∀ w1 : World, ((if n * sz = 0 then pure #[] else do pure (Builtin.zeroCells (← zeroValue el).cells n) : Sem (Array Value))).run P w1 = .ok (Builtin.zeroCells z2.cells n) w1 := fun w1 => by
        rcases hsz0 with h | h
        · rw [if_neg h]; simp [hel.run_zero]
        · by_cases h' : n * sz = 0
          · rw [if_pos h', h]; simp
          · rw [if_neg h']; simp [hel.run_zero]
      rw [run_append]
      simp only [List.map_toArray, List.map_cons, List.map_nil, h1, h2, Builtin.append_, List.getElem?_toArray, List.getElem?_cons_zero, List.getElem?_cons_succ, Sem.run_bind, run_underlying hf.slice, run_underlying hit.intD, Result.andThen_ok,
        hel.run_sizeOf, Sem.run_pure, if_true, asInt, hwr, hti, t3]
      have hai : ∀ w1 : World, (asIntOf (Value.int IntKind.i64 (n : Int))).run P w1 = .ok (.i64, (n : Int)) w1 := fun w1 => by simp [asIntOf]
      simp only [hai, Result.andThen_ok, hwr]
      rw [if_neg (show ¬ (n : Int) < 0 by omega)]
      simp only [Sem.run_bind, hti, Result.andThen_ok, t3, Sem.run_pure]
      rw [if_neg hb0]
      simp only [Sem.run_bind, hti, Result.andThen_ok, t3, Sem.run_pure, Int.toNat_natCast, Nat.zero_add]
      rw [if_neg (show ¬ n ≤ 0 by omega)]
      simp only [Sem.run_bind, hti, Result.andThen_ok, t3, Sem.run_pure]
      rw [if_neg (fun h => hb2 h.1)]
      simp only [Sem.run_bind, hti, Result.andThen_ok, t3, Sem.run_pure]
      rw [if_neg hb3]
      simp only [Sem.run_bind, Sem.run_pure, hch, Result.andThen_ok, hti, run_askRoom, Builtin.firstCells, Bool.not_true, Bool.false_eq_true, if_false, hap, hel.run_zero, newRow, run_newObj]
      rfl
    · have hs1 : Sat P I (M ++ F) { w with drawn := w.drawn + 1 } := hs.of_same (fun _ _ => rfl) (fun _ _ => rfl) rfl rfl rfl
      exact hs1.new_own (.cells cells el (0, 0)) (.obj w.heap.size (.cells cells el (0, 0))) rfl (by simp [MSat, push])
end
/-- New cells of which none is in use. -/
theorem Ghost.objarr {e : Env} {M : List MObj} {b nc sz : Nat} {cells : Array Value} {el : TypeId} (hc : cells.size = nc * sz) (hn : nc ≤ 9223372036854775807) : Ghost e (.obj b (.cells cells el (0, 0)) :: M) e (.arr (.slice (some ⟨b, 0, none⟩) 0 nc) sz [] :: M) := fun _ I F tmps w h1 hs => by
  refine ⟨I, .refl I, h1, Sat.change (m := .obj b (.cells cells el (0, 0))) hs (fun _ _ _ => rfl) (fun x hx => .inl hx) (by simp [MObj.blocks]) ?_ rfl rfl rfl⟩
  have := hs.obj (.obj b (.cells cells el (0, 0))) (by simp)
  exact .inr ⟨b, 0, nc, cells, el, (0, 0), rfl, this, Free.zero _, by simp, ⟨Nat.zero_le _, hn⟩, by omega, by simp⟩
/-- The variable whose address is in a cell of an owned variable. -/
theorem Ghost.fpcell {e : Env} {M : List MObj} {i k b b' off j : Nat} {cs cs' : List HVal} (hm : M[i]? = some (.cells b' cs')) (hc : (M.eraseIdx i)[k]? = some (.cells b cs)) (hj : cs[j]? = some (.raw (.pointer (some ⟨b', off, none⟩)))) :
    Ghost e M e ((M.eraseIdx i).set k (.cells b (cs.set j (.vptr cs' off)))) := fun _ I F tmps w h1 hs => by
  obtain ⟨J, hl, hs', hv⟩ := (hs.pull hm).freeze_cells
  refine ⟨J, hl, h1.mono hl, Sat.unpull hc ((hs'.pull hc).change (m' := .cells b (cs.set j (.vptr cs' off))) (fun _ _ _ => rfl) (fun x hx => .inl hx) (by simp [MObj.blocks]) ?_ rfl rfl rfl)⟩
  obtain ⟨rc, el, fr, a1, a2, a3⟩ := (hs'.pull hc).obj _ List.mem_cons_self
  refine ⟨rc, el, fr, a1, a2, by rw [a3.1]; simp, fun n c u b1 b2 => ?_⟩
  by_cases hn : n = j
  · subst hn
    have hlt := lt_of_get hj
    simp [hlt] at b1
    subst b1
    have := a3.2 n _ u hj b2
    rw [this.raw_inv]; exact hv off
  · rw [List.getElem?_set_ne (Ne.symm hn)] at b1
    exact a3.2 n c u b1 b2
theorem flat_take_snoc {α : Type} {LL : List (List α)} {i : Nat} {x : List α} (hx : LL[i]? = some x) : (LL.take (i + 1)).flatten.length = (LL.take i).flatten.length + x.length := by
  rw [List.take_add_one, hx]; simp
theorem flat_take_app {α : Type} {LL : List (List α)} {i : Nat} {x : List α} (hx : LL[i]? = some x) : (LL.take (i + 1)).flatten = (LL.take i).flatten ++ x := by
  rw [List.take_add_one, hx]; simp
theorem flat_take_le {α : Type} (LL : List (List α)) (i : Nat) : (LL.take i).flatten.length ≤ LL.flatten.length := by
  have := congrArg (fun q => q.flatten.length) (List.take_append_drop i LL)
  simp only [List.flatten_append, List.length_append] at this
  omega
end Go.HL
end
section
namespace Go.Proofs.YtoomadfbldcioaaGreatDoor
open Go.HL
set_option maxRecDepth 100000
set_option linter.unusedVariables false
set_option linter.unusedSimpArgs false
/-- benchwarmer/draft.CheckPicks -/
theorem c_draft_CheckPicks {r : Room} {k : List Keep} {s : List Swap} {l : List Pick}  (ht : r.Teams.length ≤ 1000000) (hp : r.Players.length ≤ 1000000) (hk0 : k.length ≤ 1000000) (hl : s.length ≤ 1000000) (hll : l.length ≤ 1000) : ConP Tryz.prog 27 [eRoom r, eKeeps k, eSwaps s, ePicks l] (.int .i64 (picksE r k s l)) := by
  refine Con.of_body Tryz.func27 rfl Tryz.ntmps27 rfl rfl ?_
  refine hw_reg ?_
  refine dp rfl (pop_box rfl rfl) ?_
  refine dp rfl (pop_assign rfl) ?_
  refine dn ?_
  refine hw_reg ?_
  refine dp rfl (pop_move rfl) ?_
  refine dp rfl (pop_move rfl) ?_
  refine dp rfl (pop_move rfl) ?_
  refine de rfl (eop_callf (M1 := []) (R := []) ca73 rfl (WeakL.refl _) (List.Perm.refl _) (c_draft_follow ht hp hk0 hl hll) ?_)
  rintro _ M15 ⟨v15, rfl, hv15⟩
  refine dp rfl (pop_move rfl) ?_
  refine dp rfl (pop_extract rfl rfl) ?_
  refine dp rfl (pop_extract rfl rfl) ?_
  refine dp rfl (pop_assign rfl) ?_
  refine dp rfl (pop_assign rfl) ?_
  refine dn ?_
  refine hw_reg ?_
  refine dp rfl (pop_move rfl) ?_
  refine dp rfl (pop_assign rfl) ?_
  refine dn ?_
  refine hw_ret ?_
  exact ret_g Ghost.clear rfl ⟨rfl, rfl⟩

/-- benchwarmer/draft.Next -/
theorem c_draft_Next {r : Room} {k : List Keep} {s : List Swap} {l : List Pick}  (ht : r.Teams.length ≤ 1000000) (hp : r.Players.length ≤ 1000000) (hk0 : k.length ≤ 1000000) (hl : s.length ≤ 1000000) (hll : l.length ≤ 1000) : ConP Tryz.prog 28 [eRoom r, eKeeps k, eSwaps s, ePicks l] (.tup [ePick (nxA r k s l), .bool (nxB r k s l), .int .i64 (picksE r k s l)]) := by
  refine Con.of_bodyc Tryz.func28 rfl Tryz.ntmps28 rfl rfl ?_
  refine hw_reg ?_
  refine dp rfl (pop_box rfl rfl) ?_
  refine de rfl (eop_alloc ty55 rfl fun b8 => ?_)
  refine dp rfl (pop_assign rfl) ?_
  refine dp rfl (pop_assign rfl) ?_
  refine dn ?_
  refine hw_reg ?_
  refine dp rfl (pop_move rfl) ?_
  refine dp rfl (pop_move rfl) ?_
  refine dp rfl (pop_move rfl) ?_
  refine de rfl (eop_callf (M1 := []) (R := [_]) ca73 rfl (WeakL.refl _) (List.Perm.refl _) (c_draft_follow ht hp hk0 hl hll) ?_)
  rintro _ M17 ⟨v17, rfl, hv17⟩
  refine dp rfl (pop_move rfl) ?_
  refine dp rfl (pop_extract rfl rfl) ?_
  refine dp rfl (pop_extract rfl rfl) ?_
  refine dp rfl (pop_assign rfl) ?_
  refine dp rfl (pop_assign rfl) ?_
  refine dn ?_
  refine hw_seq ?_
  refine hw_reg ?_
  refine dp rfl (pop_move rfl) ?_
  refine dp rfl (pop_neq rfl rfl) ?_
  refine dp rfl (pop_move rfl) ?_
  refine dg rfl rfl (fun hc => ⟨_, OpenTo.refl _, pop_move rfl⟩) ?_
  refine dg (h := .raw v17) rfl rfl (fun hc => by
    obtain ⟨b, m, va, u, S, rfl, ok, rfl⟩ := hv17 (by simpa using hc)
    exact ⟨_, OpenTo.upd (t := 23) rfl (by first | exact hc | simp_all) (OpenTo.refl _), pop_nilCheck_raw rfl⟩) ?_
  refine dg (h := .raw (.pointer (some ⟨ptrB v17, 0 + 2, none⟩))) rfl rfl (fun hc => by
    obtain ⟨b, m, va, u, S, rfl, ok, rfl⟩ := hv17 (by simpa using hc)
    exact ⟨_, OpenTo.upd (t := 24) rfl (by first | exact hc | simp_all) (OpenTo.refl _), pop_fieldAddr_raw ty113 rfl ty36 (by decide) rfl⟩) ?_
  refine dgl (h := ePicks ((freeP r k s).drop l.length)) rfl rfl (fun hc => by
    obtain ⟨b, m, va, u, S, rfl, ok, rfl⟩ := hv17 (by simpa using hc)
    exact ⟨_, OpenTo.upd (t := 25) rfl (by first | exact hc | simp_all) (OpenTo.refl _), eop_load (i := 0) ty36 rfl rfl (.inl ⟨rfl, rfl⟩) ⟨rfl, rfl⟩⟩) ?_
  refine dg rfl rfl (fun hc => ⟨_, OpenTo.upd (t := 26) rfl (by first | exact hc | simp_all) (OpenTo.refl _), pop_lenm ty36 rfl⟩) ?_
  refine dg rfl rfl (fun hc => ⟨_, OpenTo.upd (t := 27) rfl (by first | exact hc | simp_all) (OpenTo.refl _), pop_eql rfl rfl⟩) ?_
  refine dp rfl (pop_picko rfl (.inl rfl) (.inr ⟨_, rfl, fun h => by simp_all⟩)) ?_
  refine dn ?_
  refine hw_cond rfl (fun h1 => ?_) (fun h2 => ?_)
  · try simp at h1
    refine hw_ghost (Ghost.suffix (R := M17)) ?_
    refine hw_reg ?_
    refine dp rfl (pop_build (cs := [_, _, _, _, _]) ty55 pl55 rfl) ?_
    refine dp rfl (pop_move rfl) ?_
    first
    | refine de0 (eop_store (i := 0) ty55 rfl rfl rfl rfl rfl (Nat.le_of_ble_eq_true rfl) ?_)
    | refine de0 (eop_store (i := 1) ty55 rfl rfl rfl rfl rfl (Nat.le_of_ble_eq_true rfl) ?_)
    | refine de0 (eop_store (i := 2) ty55 rfl rfl rfl rfl rfl (Nat.le_of_ble_eq_true rfl) ?_)
    | refine de0 (eop_store (i := 3) ty55 rfl rfl rfl rfl rfl (Nat.le_of_ble_eq_true rfl) ?_)
    refine dp rfl (pop_assign rfl) ?_
    refine dp rfl (pop_assign rfl) ?_
    refine dn ?_
    refine hw_ret ?_
    first
    | (refine ⟨_, _, Ghost.fc0 8 rfl, [_, _, _], _, ⟨⟨_, _, _, _, _, rfl, ty55, .inr ⟨rfl, rfl, rfl⟩⟩, ⟨rfl, ⟨rfl, trivial⟩⟩⟩, Weak.refl _, ?_, rfl⟩
       obtain ⟨q1, q2⟩ := nx_none (r := r) (k := k) (s := s) (l := l) (by by_cases e : picksE r k s l = 0; (right; rcases h1 with h1 | h1; exact absurd e h1; omega); exact .inl e)
       show HVal.tup _ = _
       rw [q1, q2]; rfl)
    | (refine ⟨_, _, (Ghost.fc 8 (i := 4) rfl rfl).trans Ghost.clear, [_, _, _], _, ⟨⟨_, _, _, _, _, rfl, ty55, .inr ⟨rfl, rfl, rfl⟩⟩, ⟨rfl, ⟨rfl, trivial⟩⟩⟩, Weak.refl _, ?_, rfl⟩
       obtain ⟨q1, q2⟩ := nx_some hz hlf
       show HVal.tup _ = _
       rw [q1, q2, hz]; rfl)
  · try simp at h2
    refine hw_skip ?_
    refine seqQ_n ?_
    have hz : picksE r k s l = 0 := by simpa using h2.1
    obtain ⟨b, m, va, u, S, rfl, ok, rfl⟩ := hv17 hz
    have hlf : l.length < (freeP r k s).length := by have := h2.2; omega
    refine hw_reg ?_
    refine dp rfl (pop_move rfl) ?_
    refine dp rfl ((by first | exact pop_nilCheck rfl | exact pop_nilCheck_raw rfl)) ?_
    refine dp rfl (pop_fieldAddr_raw ty113 rfl ty36 (by decide) rfl) ?_
    refine de rfl (eop_load (i := 0) ty36 rfl rfl (.inl ⟨rfl, rfl⟩) ?_)
    refine dp rfl (pop_idx (j := 0) (a := (freeP r k s).getD l.length pick0) ty36 ty55 rfl rfl rfl (drop_get hlf)) ?_
    refine dp rfl (pop_loadw ty55 rfl rfl rfl rfl) ?_
    refine de0 (eop_store (i := 4) ty55 rfl rfl rfl rfl rfl (Nat.le_of_ble_eq_true rfl) ?_)
    refine dp rfl (pop_assign rfl) ?_
    refine dp rfl (pop_assign rfl) ?_
    refine dn ?_
    refine hw_ret ?_
    first
    | (refine ⟨_, _, Ghost.fc0 8 rfl, [_, _, _], _, ⟨⟨_, _, _, _, _, rfl, ty55, .inr ⟨rfl, rfl, rfl⟩⟩, ⟨rfl, ⟨rfl, trivial⟩⟩⟩, Weak.refl _, ?_, rfl⟩
       obtain ⟨q1, q2⟩ := nx_none (r := r) (k := k) (s := s) (l := l) (by by_cases e : picksE r k s l = 0; (right; rcases h1 with h1 | h1; exact absurd e h1; omega); exact .inl e)
       show HVal.tup _ = _
       rw [q1, q2]; rfl)
    | (refine ⟨_, _, (Ghost.fc 8 (i := 4) rfl rfl).trans Ghost.clear, [_, _, _], _, ⟨⟨_, _, _, _, _, rfl, ty55, .inr ⟨rfl, rfl, rfl⟩⟩, ⟨rfl, ⟨rfl, trivial⟩⟩⟩, Weak.refl _, ?_, rfl⟩
       obtain ⟨q1, q2⟩ := nx_some hz hlf
       show HVal.tup _ = _
       rw [q1, q2, hz]; rfl)

/-- benchwarmer/draft.Due -/
theorem c_draft_Due {r : Room} {k : List Keep} {s : List Swap} {l : List Pick}  (ht : r.Teams.length ≤ 1000000) (hp : r.Players.length ≤ 1000000) (hk0 : k.length ≤ 1000000) (hl : s.length ≤ 1000000) (hll : l.length ≤ 1000) : ConP Tryz.prog 29 [eRoom r, eKeeps k, eSwaps s, ePicks l] (.tup [.int .i64 (duA r k s l), .bool (duB r k s l), .int .i64 (picksE r k s l)]) := by
  refine Con.of_body Tryz.func29 rfl Tryz.ntmps29 rfl rfl ?_
  refine hw_reg ?_
  refine dp rfl (pop_box rfl rfl) ?_
  refine dp rfl (pop_assign rfl) ?_
  refine dp rfl (pop_assign rfl) ?_
  refine dp rfl (pop_assign rfl) ?_
  refine dn ?_
  refine hw_reg ?_
  refine dp rfl (pop_move rfl) ?_
  refine dp rfl (pop_move rfl) ?_
  refine dp rfl (pop_move rfl) ?_
  refine de rfl (eop_callf (M1 := []) (R := []) ca73 rfl (WeakL.refl _) (List.Perm.refl _) (c_draft_follow ht hp hk0 hl hll) ?_)
  rintro _ M19 ⟨v19, rfl, hv19⟩
  refine dp rfl (pop_move rfl) ?_
  refine dp rfl (pop_extract rfl rfl) ?_
  refine dp rfl (pop_extract rfl rfl) ?_
  refine dp rfl (pop_assign rfl) ?_
  refine dp rfl (pop_assign rfl) ?_
  refine dn ?_
  refine hw_seq ?_
  refine hw_reg ?_
  refine dp rfl (pop_move rfl) ?_
  refine dp rfl (pop_neq rfl rfl) ?_
  refine dn ?_
  refine hw_cond rfl (fun h1 => ?_) (fun h2 => ?_)
  · try simp at h1
    refine hw_reg ?_
    refine dp rfl (pop_move rfl) ?_
    refine dp rfl (pop_assign rfl) ?_
    refine dp rfl (pop_assign rfl) ?_
    refine dp rfl (pop_assign rfl) ?_
    refine dn ?_
    refine hw_ret ?_
    first
    | (refine ret_g Ghost.clear rfl ⟨?_, rfl⟩
       show HVal.tup _ = _
       rw [show duA r k s l = 0 by simp [duA, h1], show duB r k s l = false by simp [duB, h1]]; rfl)
    | (refine ret_g Ghost.clear rfl ⟨?_, rfl⟩
       show HVal.tup _ = _
       rw [hz, show duA r k s l = dueI r ((freeP r k s).drop l.length) l by simp [duA, hz], show duB r k s l = dueD r ((freeP r k s).drop l.length) l by simp [duB, hz]]; rfl)
  · try simp at h2
    refine hw_skip ?_
    refine seqQ_n ?_
    have hz : picksE r k s l = 0 := by simpa using h2
    obtain ⟨b, m, va, u, S, rfl, ok, rfl⟩ := hv19 hz
    have hm := last_moment hz
    have hcl := (room_ok (openFault_ok (picksE_ok hz).1).1).clock
    refine hw_reg ?_
    refine dp rfl (pop_move rfl) ?_
    refine de rfl (eop_callw (hs' := [.vptr (RunH r (open1 r k s) ((freeP r k s).drop l.length) l S) 0]) ca62 rfl ⟨bowRun0, trivial⟩ (c_draft_run_due (by omega) hm hcl.2 (by omega)) rfl ?_)
    refine dp rfl (pop_move rfl) ?_
    refine dp rfl (pop_extract rfl rfl) ?_
    refine dp rfl (pop_extract rfl rfl) ?_
    refine dp rfl (pop_assign rfl) ?_
    refine dp rfl (pop_assign rfl) ?_
    refine dn ?_
    refine hw_reg ?_
    refine dp rfl (pop_move rfl) ?_
    refine dp rfl (pop_move rfl) ?_
    refine dp rfl (pop_assign rfl) ?_
    refine dp rfl (pop_assign rfl) ?_
    refine dp rfl (pop_assign rfl) ?_
    refine dn ?_
    refine hw_ret ?_
    first
    | (refine ret_g Ghost.clear rfl ⟨?_, rfl⟩
       show HVal.tup _ = _
       rw [show duA r k s l = 0 by simp [duA, h1], show duB r k s l = false by simp [duB, h1]]; rfl)
    | (refine ret_g Ghost.clear rfl ⟨?_, rfl⟩
       show HVal.tup _ = _
       rw [hz, show duA r k s l = dueI r ((freeP r k s).drop l.length) l by simp [duA, hz], show duB r k s l = dueD r ((freeP r k s).drop l.length) l by simp [duB, hz]]; rfl)

/-- benchwarmer/draft.Left$1 -/
theorem c_draft_Left_1 {r : Room} {A T l : List Pick} {S : List Str} {p : Str}  : ConP Tryz.prog 75 [.str p, .vptr [.vptr (RunH r A T l S) 0] 0] (.bool (S.contains p)) := by
  refine Con.of_body Tryz.func75 rfl Tryz.ntmps75 rfl rfl ?_
  refine hw_reg ?_
  refine dp rfl (pop_assign rfl) ?_
  refine dn ?_
  refine hw_reg ?_
  refine dp rfl (pop_load ty107 rfl rfl rfl) ?_
  refine dp rfl ((by first | exact pop_nilCheck rfl | exact pop_nilCheck_raw rfl)) ?_
  refine dp rfl (pop_fieldAddr ty113 rfl ty104 (by decide) rfl) ?_
  refine dp rfl (pop_load ty104 rfl rfl rfl) ?_
  refine dp rfl (pop_move rfl) ?_
  refine dp rfl (pop_lookup_h ty104 ty9 ty4 rfl rfl) ?_
  refine dp rfl (pop_assign rfl) ?_
  refine dn ?_
  refine hw_ret ?_
  refine ret_p rfl ?_
  rfl

/-- benchwarmer/draft.Left -/
theorem c_draft_Left {r : Room} {k : List Keep} {s : List Swap} {l : List Pick}  (ht : r.Teams.length ≤ 1000000) (hp : r.Players.length ≤ 1000000) (hk0 : k.length ≤ 1000000) (hl : s.length ≤ 1000000) (hll : l.length ≤ 1000) : ConP Tryz.prog 30 [eRoom r, eKeeps k, eSwaps s, ePicks l] (.tup [eSs (leA r k s l), .int .i64 (picksE r k s l)]) := by
  refine Con.of_body Tryz.func30 rfl Tryz.ntmps30 rfl rfl ?_
  refine hw_reg ?_
  refine dp rfl (pop_box rfl rfl) ?_
  refine dp rfl (pop_assign rfl) ?_
  refine dp rfl (pop_assign rfl) ?_
  refine dn ?_
  refine hw_reg ?_
  refine dp rfl (pop_move rfl) ?_
  refine dp rfl (pop_move rfl) ?_
  refine dp rfl (pop_move rfl) ?_
  refine de rfl (eop_callf (M1 := []) (R := []) ca73 rfl (WeakL.refl _) (List.Perm.refl _) (c_draft_follow ht hp hk0 hl hll) ?_)
  rintro _ M16 ⟨v16, rfl, hv16⟩
  refine dp rfl (pop_move rfl) ?_
  refine dp rfl (pop_extract rfl rfl) ?_
  refine dp rfl (pop_extract rfl rfl) ?_
  refine de rfl (eop_alloc ty107 rfl fun b10 => ?_)
  first
  | refine de0 (eop_store (i := 0) ty107 rfl rfl rfl rfl rfl (Nat.le_of_ble_eq_true rfl) ?_)
  | refine de0 (eop_store (i := 1) ty107 rfl rfl rfl rfl rfl (Nat.le_of_ble_eq_true rfl) ?_)
  | refine de0 (eop_store (i := 2) ty107 rfl rfl rfl rfl rfl (Nat.le_of_ble_eq_true rfl) ?_)
  | refine de0 (eop_store (i := 3) ty107 rfl rfl rfl rfl rfl (Nat.le_of_ble_eq_true rfl) ?_)
  refine dp rfl (pop_assign rfl) ?_
  refine dn ?_
  refine hw_seq ?_
  refine hw_reg ?_
  refine dp rfl (pop_move rfl) ?_
  refine dp rfl (pop_neq rfl rfl) ?_
  refine dn ?_
  refine hw_cond rfl (fun h1 => ?_) (fun h2 => ?_)
  · try simp at h1
    refine hw_reg ?_
    refine dp rfl (pop_move rfl) ?_
    refine dp rfl (pop_assign rfl) ?_
    refine dp rfl (pop_assign rfl) ?_
    refine dn ?_
    refine hw_ret ?_
    first
    | exact ⟨_, [], Ghost.clear, _, _, rfl, weak_tup2 (weak_nil 1) (Weak.refl _), by rw [show leA r k s l = [] by simp [leA, h1]]; rfl, rfl⟩
    | (refine ret_g (Ghost.fa0 8 rfl) rfl ⟨?_, rfl⟩
       rw [hz, le_ref hz, ← left_run ok]; rfl)
  · try simp at h2
    refine hw_skip ?_
    refine seqQ_n ?_
    have hz : picksE r k s l = 0 := by simpa using h2
    obtain ⟨b, m, va, u, S, rfl, ok, rfl⟩ := hv16 hz
    refine hw_ghost (Ghost.fcell (i := 2) (k := 1) (j := 1) rfl rfl rfl) ?_
    refine hw_ghost (Ghost.fcell (i := 2) (k := 1) (j := 3) rfl rfl rfl) ?_
    refine hw_ghost (Ghost.fmcell (i := 2) (k := 1) (j := 4) (L := mset S) rfl rfl rfl) ?_
    refine hw_ghost (Ghost.fpcell (i := 1) (k := 0) (j := 0) rfl rfl rfl) ?_
    refine hw_ghost (Ghost.fc 10 (i := 0) rfl rfl) ?_
    refine hw_reg ?_
    refine dp rfl ((by first | exact pop_fieldAddr ty28 rfl ty26 (by decide) rfl | exact pop_fieldAddr_raw ty28 rfl ty26 (by decide) rfl)) ?_
    refine dp rfl (pop_load ty26 rfl rfl rfl) ?_
    refine de rfl (eop_calla ca42 rfl (WeakL.refl _) (c_slices_Clone_string_string (by first | assumption | omega | (simp; omega) | simp_all)) fun v24 => ?_)
    refine dp rfl (pop_makeFunc rfl rfl) ?_
    first
    | refine de rfl (eop_callx (i := 0) ca74 rfl (WeakL.refl _) rfl (c_slices_DeleteFunc_string_string (l := r.Players) (p := fun p => S.contains p) ca75 (fun _ => c_draft_Left_1) hp) ?_)
    | refine de rfl (eop_callx (i := 1) ca74 rfl (WeakL.refl _) rfl (c_slices_DeleteFunc_string_string (l := r.Players) (p := fun p => S.contains p) ca75 (fun _ => c_draft_Left_1) hp) ?_)
    | refine de rfl (eop_callx (i := 2) ca74 rfl (WeakL.refl _) rfl (c_slices_DeleteFunc_string_string (l := r.Players) (p := fun p => S.contains p) ca75 (fun _ => c_draft_Left_1) hp) ?_)
    | refine de rfl (eop_callx (i := 3) ca74 rfl (WeakL.refl _) rfl (c_slices_DeleteFunc_string_string (l := r.Players) (p := fun p => S.contains p) ca75 (fun _ => c_draft_Left_1) hp) ?_)
    rintro _ _ ⟨u26, rfl, rfl⟩
    refine dp rfl (pop_assign rfl) ?_
    refine dp rfl (pop_assign rfl) ?_
    refine dn ?_
    refine hw_ret ?_
    first
    | exact ⟨_, [], Ghost.clear, _, _, rfl, weak_tup2 (weak_nil 1) (Weak.refl _), by rw [show leA r k s l = [] by simp [leA, h1]]; rfl, rfl⟩
    | (refine ret_g (Ghost.fa0 8 rfl) rfl ⟨?_, rfl⟩
       rw [hz, le_ref hz, ← left_run ok]; rfl)

set_option maxHeartbeats 1000000 in
/-- benchwarmer/draft.Teams -/
theorem c_draft_Teams {r : Room} {k : List Keep} {s : List Swap} {l : List Pick}  (ht : r.Teams.length ≤ 1000000) (hp : r.Players.length ≤ 1000000) (hk0 : k.length ≤ 1000000) (hl : s.length ≤ 1000000) (hll : l.length ≤ 1000) : ConP Tryz.prog 31 [eRoom r, eKeeps k, eSwaps s, ePicks l] (.tup [eWishes (teA r k s l), .int .i64 (picksE r k s l)]) := by
  refine Con.of_body Tryz.func31 rfl Tryz.ntmps31 rfl rfl ?_
  refine hw_reg ?_
  refine dp rfl (pop_box rfl rfl) ?_
  refine dp rfl (pop_assign rfl) ?_
  refine dp rfl (pop_assign rfl) ?_
  refine dn ?_
  refine hw_reg ?_
  refine dp rfl (pop_move rfl) ?_
  refine dp rfl (pop_move rfl) ?_
  refine dp rfl (pop_move rfl) ?_
  refine de rfl (eop_callf (M1 := []) (R := []) ca73 rfl (WeakL.refl _) (List.Perm.refl _) (c_draft_follow ht hp hk0 hl hll) ?_)
  rintro _ M25 ⟨v25, rfl, hv25⟩
  refine dp rfl (pop_move rfl) ?_
  refine dp rfl (pop_extract rfl rfl) ?_
  refine dp rfl (pop_extract rfl rfl) ?_
  refine dp rfl (pop_assign rfl) ?_
  refine dp rfl (pop_assign rfl) ?_
  refine dn ?_
  refine hw_seq ?_
  refine hw_reg ?_
  refine dp rfl (pop_move rfl) ?_
  refine dp rfl (pop_neq rfl rfl) ?_
  refine dn ?_
  refine hw_cond rfl (fun h1 => ?_) (fun h2 => ?_)
  · try simp at h1
    refine hw_reg ?_
    refine dp rfl (pop_move rfl) ?_
    refine dp rfl (pop_assign rfl) ?_
    refine dp rfl (pop_assign rfl) ?_
    refine dn ?_
    refine hw_ret ?_
    first
    | exact ⟨_, [], Ghost.clear, _, _, rfl, weak_tup2 (weak_nil 2) (Weak.refl _), by rw [show teA r k s l = [] by simp [teA, h1]]; rfl, rfl⟩
    | (refine ret_g (Ghost.fa0 8 rfl) rfl ⟨?_, rfl⟩
       rw [hz, show teA r k s l = teamsA r (allP (open1 r k s) l) by simp [teA, hz], List.take_length]; rfl)
  · try simp at h2
    refine hw_skip ?_
    refine seqQ_n ?_
    have hz : picksE r k s l = 0 := by simpa using h2
    obtain ⟨b, m, va, u, S, rfl, ok, rfl⟩ := hv25 hz
    have hof := (picksE_ok hz).1
    have hro := room_ok (openFault_ok hof).1
    have hop := open_pos (k := k) (s := s) hro
    have hol : (open1 r k s).length ≤ 600 := by unfold open1; rw [openFrom_len]; exact turns_len (openFault_ok hof).1
    have htm := hro.t20
    refine hw_reg ?_
    refine dp rfl (pop_move rfl) ?_
    refine dp rfl ((by first | exact pop_nilCheck rfl | exact pop_nilCheck_raw rfl)) ?_
    refine dp rfl (pop_fieldAddr_raw ty113 rfl ty36 (by decide) rfl) ?_
    refine de rfl (eop_load (i := 0) ty36 rfl rfl (.inl ⟨rfl, rfl⟩) ?_)
    refine dp rfl (pop_assign rfl) ?_
    refine dn ?_
    refine hw_seq ?_
    refine hw_ghost (Ghost.fcell (i := 2) (k := 0) (j := 3) rfl rfl rfl) ?_
    refine hw_reg ?_
    refine dp rfl (pop_move rfl) ?_
    refine dp rfl ((by first | exact pop_nilCheck rfl | exact pop_nilCheck_raw rfl)) ?_
    refine dp rfl (pop_fieldAddr_raw ty113 rfl ty36 (by decide) rfl) ?_
    refine de rfl (eop_load (i := 0) ty36 rfl rfl (.inl ⟨rfl, rfl⟩) ?_)
    refine dp rfl (pop_lenm ty36 rfl) ?_
    refine dp rfl (pop_move rfl) ?_
    refine dn ?_
    refine hw_ghost (Ghost.only (i := 1) rfl) ?_
    refine hw_arrc (i := 0) rfl (fun h0 he => ?_) (fun ob off cap hv hcap => ?_)
    · exfalso; have := congrArg List.length he; simp at this; rw [this] at hop; simp at hop
    rw [List.length_map] at hv hcap
    subst hv
    generalize hn0 : (open1 r k s).length = n0 at *
    refine hw_block ?_
    refine hw_loopw [14, 40, 41, 42, 43, 44, 45, 46, 47, 48, 49] (fun (i : Nat) => [(40, .int .i64 i)]) (fun (i : Nat) => [.arr (.slice (some ⟨ob, off, none⟩) n0 cap) 5 ((allP (open1 r k s) (l.take i)).map ePick)]) (fun (i : Nat) => i ≤ l.length ∧ (True)) (fun (i : Nat) => l.length - i) (0) ?_ ?_ ?_ ?_
    · exact ⟨Nat.zero_le _, trivial⟩
    · exact ⟨rfl, trivial⟩
    · exact perm_eq (by simp [allP])
    · intro i hinv
      obtain ⟨hi, -⟩ := hinv
      refine hw_reg ?_
      refine dp rfl (pop_lss rfl rfl) ?_
      refine dn ?_
      refine hw_seq ?_
      refine hw_cond rfl (fun h3 => ?_) (fun h4 => ?_)
      · try simp at h3
        obtain ⟨x, hx⟩ : ∃ x, l[i]? = some x := ⟨_, List.getElem?_eq_getElem h3⟩
        have hdx := drop_cons hx
        refine hw_skip ?_
        refine seqQ_n ?_
        refine hw_seq ?_
        refine hw_block ?_
        refine hw_reg ?_
        refine dp rfl (pop_idx ty36 ty55 rfl rfl rfl (by first | assumption | simp_all)) ?_
        refine dp rfl (pop_loadw ty55 rfl rfl rfl rfl) ?_
        refine de rfl (eop_alloc ty55 rfl fun b14 => ?_)
        refine de0 (eop_storew ty55 rfl rfl rfl rfl rfl ?_)
        refine dn ?_
        refine hw_ghost (Ghost.fc0 14 rfl) ?_
        refine hw_reg1 ?_
        refine dp rfl (pop_move rfl) ?_
        refine dp rfl ((by first | exact pop_fieldAddr ty55 rfl ty3 (by decide) rfl | exact pop_fieldAddr_raw ty55 rfl ty3 (by decide) rfl)) ?_
        refine dp rfl (pop_load ty3 rfl rfl rfl) ?_
        refine dp rfl (pop_loadw ty55 rfl rfl rfl rfl) ?_
        obtain ⟨okn, n1, n2, y, hy⟩ := (all_ok hz i hi).step hz hx
        have hAl := (all_ok hz i hi).len
        refine dp rfl (pop_idxraw (j := x.No.toNat) ty36 ty55 rfl rfl (by omega) (by omega)) ?_
        refine de0 (eop_store_elw (i := 0) (f := ePick) (es := allP (open1 r k s) (l.take i)) (j := x.No.toNat) (y := y) (y' := x) ty55 rfl rfl rfl rfl hy rfl rfl rfl ?_)
        refine dn ?_
        refine blockQ_n ?_
        refine seqQ_n ?_
        refine hw_reg1 ?_
        refine dp rfl (pop_add64 rfl rfl (by omega) (by omega)) ?_
        refine dp rfl (pop_move rfl) ?_
        refine dn ?_
        exact ⟨i + 1, ⟨by omega, trivial⟩, by dsimp only; omega, ⟨rfl, trivial⟩, (by repeat (first | exact keeps_refl | refine keeps_upd rfl ?_ | refine keeps_loop rfl rfl ?_)), perm_eq (by dsimp only; rw [allP_snoc hx]; rfl)⟩
      · try simp at h4
        have hni : l.length ≤ i := by omega
        obtain rfl : i = l.length := by omega
        refine hw_exit ?_
        refine seqQ_x ?_
        refine loopQ_x ?_
        refine blockQ_eq ?_
        refine seqQ_n ?_
        have hAlln := (all_ok hz l.length (Nat.le_refl _)).len
        rw [List.take_length] at hAlln ⊢
        refine hw_ghost (Ghost.fa 12 (i := 0) rfl rfl) ?_
        refine hw_reg ?_
        refine dp rfl (pop_assign rfl) ?_
        refine dn ?_
        refine hw_ghost (Ghost.arr_nil 2) ?_
        refine hw_seq ?_
        refine hw_reg ?_
        refine dp rfl ((by first | exact pop_fieldAddr ty28 rfl ty26 (by decide) rfl | exact pop_fieldAddr_raw ty28 rfl ty26 (by decide) rfl)) ?_
        refine dp rfl (pop_load ty26 rfl rfl rfl) ?_
        refine dp rfl (pop_lenm ty26 rfl) ?_
        refine dp rfl (pop_move rfl) ?_
        refine dn ?_
        refine hw_block ?_
        refine hw_loopw2 [15, 17, 18, 20, 53, 54, 55, 56, 57, 58, 59, 60, 61, 62, 63, 64, 65, 66, 67, 68, 69, 70, 71, 72, 73, 74, 75, 76, 77, 78, 79, 80, 81, 82, 83, 84, 85, 86] (fun (j : Nat) (u : Value) => [(53, .int .i64 j), (15, .raw u)]) (fun (j : Nat) (u : Value) => [.arr u 2 (((r.Teams.take j).map fun t => (⟨t, ((allP (open1 r k s) l).filter fun p => p.Team == t && !(p.Player == [])).map (·.Player)⟩ : Wish)).map eWish)]) (fun (j : Nat) (u : Value) => j ≤ r.Teams.length ∧ (True)) (fun (j : Nat) (u : Value) => r.Teams.length - j) (0) (.slice none 0 0) ?_ ?_ ?_ ?_
        · exact ⟨Nat.zero_le _, by simp_all⟩
        · exact ⟨rfl, rfl, trivial⟩
        · exact perm_eq (by simp)
        · intro j u hinv
          obtain ⟨hj, -⟩ := hinv
          refine hw_reg ?_
          refine dp rfl (pop_lss rfl rfl) ?_
          refine dn ?_
          refine hw_seq ?_
          refine hw_cond rfl (fun h5 => ?_) (fun h6 => ?_)
          · try simp at h5
            obtain ⟨x, hx⟩ : ∃ x, r.Teams[j]? = some x := ⟨_, List.getElem?_eq_getElem h5⟩
            have hdx := drop_cons hx
            refine hw_skip ?_
            refine seqQ_n ?_
            refine hw_seq ?_
            refine hw_block ?_
            refine hw_reg ?_
            refine dp rfl (pop_idx ty26 ty9 rfl rfl rfl (by first | assumption | simp_all)) ?_
            refine dp rfl (pop_load ty9 rfl rfl rfl) ?_
            refine dp rfl (pop_assign rfl) ?_
            refine dn ?_
            refine hw_reg ?_
            refine dp rfl (pop_move rfl) ?_
            refine dp rfl (pop_build (cs := [_, _]) ty78 pl78 rfl) ?_
            refine de rfl (eop_alloc ty78 rfl fun b18 => ?_)
            first
            | refine de0 (eop_store (i := 0) ty78 rfl rfl rfl rfl rfl (Nat.le_of_ble_eq_true rfl) ?_)
            | refine de0 (eop_store (i := 1) ty78 rfl rfl rfl rfl rfl (Nat.le_of_ble_eq_true rfl) ?_)
            | refine de0 (eop_store (i := 2) ty78 rfl rfl rfl rfl rfl (Nat.le_of_ble_eq_true rfl) ?_)
            | refine de0 (eop_store (i := 3) ty78 rfl rfl rfl rfl rfl (Nat.le_of_ble_eq_true rfl) ?_)
            refine dn ?_
            refine hw_ghost (Ghost.arr_nil 1) ?_
            refine hw_seq ?_
            refine hw_reg ?_
            refine dp rfl (pop_move rfl) ?_
            refine dp rfl (pop_lenm ty36 rfl) ?_
            refine dp rfl (pop_move rfl) ?_
            refine dn ?_
            refine hw_block ?_
            refine hw_loopw2 [20, 61, 62, 63, 64, 65, 66, 67, 68, 69, 70, 71, 72, 73, 74, 75, 76, 77, 78, 79, 80, 81] (fun (n : Nat) (v : Value) => [(61, .int .i64 n)]) (fun (n : Nat) (v : Value) => [.arr v 1 (((((allP (open1 r k s) l).take n).filter fun p => p.Team == x && !(p.Player == [])).map (·.Player)).map .str), .cells b18 [.str x, .raw v], .arr u 2 (((r.Teams.take j).map fun t => (⟨t, ((allP (open1 r k s) l).filter fun p => p.Team == t && !(p.Player == [])).map (·.Player)⟩ : Wish)).map eWish)]) (fun (n : Nat) (v : Value) => n ≤ (allP (open1 r k s) l).length ∧ (True)) (fun (n : Nat) (v : Value) => (allP (open1 r k s) l).length - n) (0) (.slice none 0 0) ?_ ?_ ?_ ?_
            · exact ⟨Nat.zero_le _, trivial⟩
            · exact ⟨rfl, trivial⟩
            · exact perm_eq (by first | (simp; done) | (simp; rfl))
            · intro n v hinv
              obtain ⟨hn, -⟩ := hinv
              refine hw_reg ?_
              refine dp rfl (pop_lss rfl rfl) ?_
              refine dn ?_
              refine hw_seq ?_
              refine hw_cond rfl (fun h7 => ?_) (fun h8 => ?_)
              · try simp at h7
                obtain ⟨y, hy⟩ : ∃ y, (allP (open1 r k s) l)[n]? = some y := ⟨_, List.getElem?_eq_getElem h7⟩
                have hdy := drop_cons hy
                refine hw_skip ?_
                refine seqQ_n ?_
                refine hw_seq ?_
                refine hw_block ?_
                refine hw_reg ?_
                refine dp rfl (pop_idx ty36 ty55 rfl rfl rfl (by first | assumption | simp_all)) ?_
                refine dp rfl (pop_loadw ty55 rfl rfl rfl rfl) ?_
                refine de rfl (eop_alloc ty55 rfl fun b20 => ?_)
                refine de0 (eop_storew ty55 rfl rfl rfl rfl rfl ?_)
                refine dn ?_
                refine hw_ghost (Ghost.fc0 20 rfl) ?_
                refine hw_reg ?_
                refine dp rfl ((by first | exact pop_fieldAddr ty55 rfl ty9 (by decide) rfl | exact pop_fieldAddr_raw ty55 rfl ty9 (by decide) rfl)) ?_
                refine dp rfl (pop_load ty9 rfl rfl rfl) ?_
                refine dp rfl (pop_move rfl) ?_
                refine dp rfl (pop_eqls rfl rfl) ?_
                refine dp rfl (pop_move rfl) ?_
                refine dg rfl rfl (fun hc => ⟨_, OpenTo.refl _, (by first | exact pop_fieldAddr ty55 rfl ty9 (by decide) rfl | exact pop_fieldAddr_raw ty55 rfl ty9 (by decide) rfl)⟩) ?_
                refine dg rfl rfl (fun hc => ⟨_, OpenTo.upd (t := 70) rfl (by first | exact hc | simp_all) (OpenTo.refl _), pop_load ty9 rfl rfl rfl⟩) ?_
                refine dg rfl rfl (fun hc => ⟨_, OpenTo.upd (t := 71) rfl (by first | exact hc | simp_all) (OpenTo.refl _), pop_neqs rfl rfl⟩) ?_
                refine dp rfl (pop_picko rfl (.inr ⟨_, rfl, fun h => by simp_all⟩) (.inl rfl)) ?_
                refine dn ?_
                refine hw_cond rfl (fun h9 => ?_) (fun h10 => ?_)
                · try simp at h9
                  refine hw_reg1 ?_
                  refine dp rfl (pop_fieldAddr_raw ty78 rfl ty26 (by decide) rfl) ?_
                  first
                  | refine de rfl (eop_load (i := 0) ty26 rfl rfl (.inl ⟨rfl, rfl⟩) ?_)
                  | refine de rfl (eop_load (i := 1) ty26 rfl rfl (.inl ⟨rfl, rfl⟩) ?_)
                  | refine de rfl (eop_load (i := 2) ty26 rfl rfl (.inl ⟨rfl, rfl⟩) ?_)
                  | refine de rfl (eop_load (i := 3) ty26 rfl rfl (.inl ⟨rfl, rfl⟩) ?_)
                  refine dp rfl ((by first | exact pop_fieldAddr ty55 rfl ty9 (by decide) rfl | exact pop_fieldAddr_raw ty55 rfl ty9 (by decide) rfl)) ?_
                  refine dp rfl (pop_load ty9 rfl rfl rfl) ?_
                  refine dp rfl (pop_buildSlice (hs := [_]) ty26 ty9 rfl rfl (by decide) (by decide) rfl) ?_
                  refine de rfl (eop_append (i := 0) ty26 ty9 rfl rfl rfl rfl rfl (by simp [flat, hcells]) (by have h1 := List.length_filter_le (fun p : Pick => p.Team == x && !(p.Player == [])) ((allP (open1 r k s) l).take n); have h2 : ((allP (open1 r k s) l).take n).length ≤ (allP (open1 r k s) l).length := (by rw [List.length_take]; omega); simp only [List.length_map, List.length_cons, List.length_nil]; omega) fun v79 => ?_)
                  refine dp rfl (pop_fieldAddr_raw ty78 rfl ty26 (by decide) rfl) ?_
                  first
                  | refine de0 (eop_store (i := 0) ty26 rfl rfl rfl rfl rfl (Nat.le_of_ble_eq_true rfl) ?_)
                  | refine de0 (eop_store (i := 1) ty26 rfl rfl rfl rfl rfl (Nat.le_of_ble_eq_true rfl) ?_)
                  | refine de0 (eop_store (i := 2) ty26 rfl rfl rfl rfl rfl (Nat.le_of_ble_eq_true rfl) ?_)
                  | refine de0 (eop_store (i := 3) ty26 rfl rfl rfl rfl rfl (Nat.le_of_ble_eq_true rfl) ?_)
                  refine dn ?_
                  refine blockQ_n ?_
                  refine seqQ_n ?_
                  refine hw_reg1 ?_
                  refine dp rfl (pop_add64 rfl rfl (by omega) (by omega)) ?_
                  refine dp rfl (pop_move rfl) ?_
                  refine dn ?_
                  exact ⟨n + 1, v79, ⟨by omega, trivial⟩, by dsimp only; omega, ⟨rfl, trivial⟩, (by repeat (first | exact keeps_refl | refine keeps_upd rfl ?_ | refine keeps_loop rfl rfl ?_)), perm_eq (by dsimp only; rw [filter_snoc1 _ hy, if_pos (by simpa using h9)]; simp [setL, hcells])⟩
                · try simp at h10
                  refine hw_skip ?_
                  refine blockQ_n ?_
                  refine seqQ_n ?_
                  refine hw_reg1 ?_
                  refine dp rfl (pop_add64 rfl rfl (by omega) (by omega)) ?_
                  refine dp rfl (pop_move rfl) ?_
                  refine dn ?_
                  exact ⟨n + 1, v, ⟨by omega, trivial⟩, by dsimp only; omega, ⟨rfl, trivial⟩, (by repeat (first | exact keeps_refl | refine keeps_upd rfl ?_ | refine keeps_loop rfl rfl ?_)), perm_eq (by dsimp only; rw [filter_snoc1 _ hy, if_neg (by simpa using h10)]; simp)⟩
              · try simp at h8
                have hnn : (allP (open1 r k s) l).length ≤ n := by omega
                obtain rfl : n = (allP (open1 r k s) l).length := by omega
                refine hw_exit ?_
                refine seqQ_x ?_
                refine loopQ2_x ?_
                refine blockQ_eq ?_
                refine seqQ_n ?_
                refine hw_ghost (Ghost.fcell (i := 0) (k := 0) (j := 1) rfl rfl rfl) ?_
                refine hw_ghost (Ghost.of_eq (M' := [.cells b18 (hcells (eWish ⟨x, (((allP (open1 r k s) l).take (allP (open1 r k s) l).length).filter fun p => p.Team == x && !(p.Player == [])).map (·.Player)⟩)), .arr u 2 (((r.Teams.take j).map fun t => (⟨t, ((allP (open1 r k s) l).filter fun p => p.Team == t && !(p.Player == [])).map (·.Player)⟩ : Wish)).map eWish)]) rfl) ?_
                refine hw_ghost (Ghost.fc 18 (i := 0) rfl rfl) ?_
                refine hw_reg1 ?_
                refine dp rfl (pop_move rfl) ?_
                refine dp rfl (pop_loadw ty78 rfl rfl rfl rfl) ?_
                refine dp rfl (pop_buildSlice (hs := [_]) ty34 ty78 rfl rfl (by decide) (by decide) rfl) ?_
                refine de rfl (eop_append (i := 0) ty34 ty78 rfl rfl rfl rfl rfl (by simp [flat, hcells]) (by simp; omega) fun v85 => ?_)
                refine dp rfl (pop_assign rfl) ?_
                refine dn ?_
                refine blockQ_n ?_
                refine seqQ_n ?_
                refine hw_reg1 ?_
                refine dp rfl (pop_add64 rfl rfl (by omega) (by omega)) ?_
                refine dp rfl (pop_move rfl) ?_
                refine dn ?_
                exact ⟨j + 1, v85, ⟨by omega, trivial⟩, by dsimp only; omega, ⟨rfl, rfl, trivial⟩, (by repeat (first | exact keeps_refl | refine keeps_upd rfl ?_ | refine keeps_loop rfl rfl ?_)), perm_eq (by simp [List.take_add_one, hx])⟩
          · try simp at h6
            have hnj : r.Teams.length ≤ j := by omega
            obtain rfl : j = r.Teams.length := by omega
            refine hw_exit ?_
            refine seqQ_x ?_
            refine loopQ2_x ?_
            refine blockQ_eq ?_
            refine seqQ_n ?_
            refine hw_reg ?_
            refine dp rfl (pop_move rfl) ?_
            refine dp rfl (pop_assign rfl) ?_
            refine dp rfl (pop_assign rfl) ?_
            refine dn ?_
            refine hw_ret ?_
            first
            | exact ⟨_, [], Ghost.clear, _, _, rfl, weak_tup2 (weak_nil 2) (Weak.refl _), by rw [show teA r k s l = [] by simp [teA, h1]]; rfl, rfl⟩
            | (refine ret_g (Ghost.fa0 8 rfl) rfl ⟨?_, rfl⟩
               rw [hz, show teA r k s l = teamsA r (allP (open1 r k s) l) by simp [teA, hz], List.take_length]; rfl)
end Go.Proofs.YtoomadfbldcioaaGreatDoor
end
