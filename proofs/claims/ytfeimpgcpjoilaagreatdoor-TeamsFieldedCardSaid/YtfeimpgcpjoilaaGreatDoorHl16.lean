/- Owned slices whose elements are read, written and cut as a whole; over any program; no conditions. -/
import Derived.Test.YtfeimpgcpjoilaaGreatDoorHl14
namespace Go.HL
section
variable {P : Program} {e : Env} {dst : Option Tmp} {ty : TypeId} {pos : String} {af : Array Edge} {g : Option (Nat × Bool)} {M : List MObj} {K : HVal → List MObj → Prop}
/-- A whole element of an owned slice is loaded. -/
theorem eop_load_elw {α : Type} {f : α → HVal} {x : Operand} {t : TypeId} {d : TD} {size bytes : Nat} {zero : Value} {i b off cap n sz j o : Nat} {es : List α} {y : α} (hf : Fits P t d size bytes zero)
    (hx : evalO e x = some (.raw (.pointer (some ⟨b, o, none⟩)))) (ho' : o = off + j * sz) (hm : M[i]? = some (.arr (.slice (some ⟨b, off, none⟩) n cap) sz (es.map f))) (hj : es[j]? = some y)
    (hd : d.isAgg = true) (hs : size = (hcells (f y)).length) (hv : f y = .agg (hcells (f y))) (hk : K (f y) M) : EOp P e M ⟨dst, .load t x, ty, pos, af, g⟩ K :=
  eop_load_arr (j := j) (f := 0) (y := f y) hf hx (by omega) hm (by rw [List.getElem?_map, hj]; rfl) (.inr ⟨hd, by omega, by rw [List.drop_zero, hs, List.take_length]; exact hv⟩) hk
/-- A whole element of an owned slice is stored. -/
theorem eop_store_elw {α : Type} {f : α → HVal} {x z : Operand} {t : TypeId} {d : TD} {size bytes : Nat} {zero : Value} {i b off cap n sz j o : Nat} {es : List α} {y y' : α} (hf : Fits P t d size bytes zero)
    (hx : evalO e x = some (.raw (.pointer (some ⟨b, o, none⟩)))) (ho' : o = off + j * sz) (hz : evalO e z = some (f y')) (hm : M[i]? = some (.arr (.slice (some ⟨b, off, none⟩) n cap) sz (es.map f))) (hj : es[j]? = some y)
    (hok : okElem size (f y') = true) (hfl : flat (hcells (f y')) = true) (hle : (hcells (f y')).length = (hcells (f y)).length)
    (hk : K .junk (M.set i (.arr (.slice (some ⟨b, off, none⟩) n cap) sz ((es.set j y').map f)))) : EOp P e M ⟨dst, .store t x z, ty, pos, af, g⟩ K := by
  have h0 := (okElem_cells hok).1
  refine eop_store_arr (j := j) (f := 0) (y := f y) (y' := f y') hf hx (by omega) hz hm (by rw [List.getElem?_map, hj]; rfl) hok hfl (by omega) ?_ ?_
  · rw [setL_all hle]
  · rw [List.map_set] at hk; exact hk
end
theorem flat_get : ∀ {cs : List HVal} {j : Nat} {c : HVal}, flat cs = true → cs[j]? = some c → flat [c] = true
  | [], j, c, _, h => by simp at h
  | x :: r, 0, c, hf, h => by
    simp at h; subst h
    cases x <;> simp_all [flat]
  | x :: r, j + 1, c, hf, h => by
    refine flat_get (cs := r) (j := j) ?_ (by simpa using h)
    cases x <;> simp_all [flat]
theorem Sat.arr_take {I : Imm} {F : List MObj} {w : World} {b off n cap sz m : Nat} {es : List HVal} (hm : m ≤ es.length) (h : Sat I (.arr (.slice (some ⟨b, off, none⟩) n cap) sz es :: F) w) :
    Sat I (.arr (.slice (some ⟨b, off, none⟩) m cap) sz (es.take m) :: F) w := by
  obtain ⟨_, rc, el, fr, h2, h3, h4, h5, h6, h7⟩ := arr_some h
  refine h.change (m' := .arr (.slice (some ⟨b, off, none⟩) m cap) sz (es.take m)) (fun _ _ _ => rfl) (fun c hc => .inl hc) (by simp [MObj.blocks]) ?_ rfl rfl rfl
  have hl : (es.take m).length = m := by simp; omega
  refine .inr ⟨b, off, cap, rc, el, fr, by rw [hl], h2, h3, fun e he => h4 e (List.mem_of_mem_take he), by omega, h6, fun i j e c v a1 a2 a3 => ?_⟩
  have hi := lt_of_get a1
  rw [List.getElem?_take_of_lt (by omega)] at a1
  exact h7 i j e c v a1 a2 a3
theorem Ghost.take {e : Env} {M : List MObj} {b off n cap sz m : Nat} {es : List HVal} (hm : m ≤ es.length) : Ghost e (.arr (.slice (some ⟨b, off, none⟩) n cap) sz es :: M) e (.arr (.slice (some ⟨b, off, none⟩) m cap) sz (es.take m) :: M) :=
  fun I F tmps w h1 h2 => ⟨I, .refl I, h1, h2.arr_take hm⟩
def slOff (cap off sz lo : Nat) : Nat := if cap = lo then off else off + lo * sz
section
variable {P : Program} {e : Env} {dst : Option Tmp} {ty : TypeId} {pos : String} {af : Array Edge} {g : Option (Nat × Bool)} {M : List MObj} {K : HVal → List MObj → Prop}
/-- A slice whose header is known is cut. -/
theorem pop_slraw {x : Operand} {lo hi : Option Operand} {t el : TypeId} {size bytes sz b2 : Nat} {zero z2 : Value} {d : TD} {b off n cap l h : Nat}
    (hf : Fits P t (.slice el) size bytes zero) (hel : Fits P el d sz b2 z2) (hx : evalO e x = some (.raw (.slice (some ⟨b, off, none⟩) n cap))) (hlo : BoundIs e lo 0 l) (hhi : BoundIs e hi n h) (h1 : l ≤ h) (h2 : h ≤ n) (hc : n ≤ cap) :
    POp P e ⟨dst, .slice t x lo hi none, ty, pos, af, g⟩ (.raw (.slice (some ⟨b, slOff cap off sz l, none⟩) (h - l) (cap - l))) :=
  POp.of_val fun I a w ho => by
    have h3 := (ho.one (x := x) (by simp [Op.operands]) hx).raw_inv
    have hb : (Instr.sliceBounds true n cap (Option.map a.eval lo) (Option.map a.eval hi) none).run P w = .ok (l, h, cap) w :=
      run_bounds (P := P) (e := e) (lo := lo) (hi := hi) (l := l) (h := h) (len := n) (cap := cap) ho (by intro y hy; simp [Op.operands, hy]) (by intro y hy; simp [Op.operands, hy]) hlo hhi h1 h2 hc true w
    refine ⟨_, ?_, .raw _ rfl⟩
    simp [execOp, Instr.sliceAt, run_underlying hf.slice, h3, Instr.slice, hb, hel.run_sizeOf, slOff]
    try (split <;> simp_all [addr_add])
    try omega
/-- Cells of an owned slice behind the first m' elements are cleared: what stays are these. -/
theorem eop_clear_at {x : Operand} {t el : TypeId} {size bytes sz b2 : Nat} {zero z2 : Value} {d : TD} {i b off n cap m q o c2 : Nat} {es : List HVal} (m' : Nat)
    (hf : Fits P t (.slice el) size bytes zero) (hel : Fits P el d sz b2 z2) (hz : z2.cells.size = sz) (hz1 : z2.cells.toList.all Value.oneCell' = true)
    (hx : evalO e x = some (.raw (.slice (some ⟨b, o, none⟩) q c2))) (ho' : q = 0 ∨ o = off + m * sz) (hm : M[i]? = some (.arr (.slice (some ⟨b, off, none⟩) n cap) sz es)) (hmq : m + q ≤ cap) (hmm : m' ≤ m) (hme : m' ≤ es.length)
    (hk : K .junk (M.set i (.arr (.slice (some ⟨b, off, none⟩) m' cap) sz (es.take m')))) : EOp P e M ⟨dst, .call ⟨.builtin .clear, #[x], #[t]⟩, ty, pos, af, g⟩ K :=
  EOp.of_run fun I F a w ho hs => by
    have h1 := (ho.one (x := x) (by simp [Op.operands, Call.operands]) hx).raw_inv
    have hp := hs.pull hm
    obtain ⟨_, rc, el', fr, h2, h3, h4, h5, h6, h7⟩ := arr_some hp
    have hrun : (execOp a.eval ⟨dst, .call ⟨.builtin .clear, #[x], #[t]⟩, ty, pos, af, g⟩).run P w = ((Builtin.clear_ #[t] ty #[a.eval x]).run P w).andThen fun v w => .ok (.value v) w := by
      simp [execOp, resolve, invoke, builtin]
    rcases Nat.eq_zero_or_pos q with h0 | h0
    · refine ⟨.tuple #[], .junk, _, w, I, ?_, .refl I, hk, .junk _, ?_⟩
      · rw [hrun, h1, h0]
        simp [Builtin.clear_, run_underlying hf.slice]
      · exact Sat.unpull hm (hp.arr_take hme)
    · have hso : o = off + m * sz := by rcases ho' with h | h; omega; exact h
      have hmul : (m + q) * sz ≤ cap * sz := Nat.mul_le_mul_right _ hmq
      rw [Nat.add_mul] at hmul
      have hlen : (Builtin.zeroCells z2.cells q).toList.length = q * sz := by rw [Array.length_toList, zeroCells_size, hz]
      have hone : ∀ v ∈ (Builtin.zeroCells z2.cells q).toList, v.oneCell' = true := fun v hv => by
        simp only [Builtin.zeroCells, Array.toList_map, List.mem_map] at hv
        obtain ⟨r, hr, rfl⟩ := hv
        have hq' : r < q * z2.cells.size := by simpa using hr
        have hpos : 0 < z2.cells.size := by
          rcases Nat.eq_zero_or_pos z2.cells.size with h | h
          · rw [h] at hq'; simp at hq'
          · exact h
        have hlt : r % z2.cells.size < z2.cells.size := Nat.mod_lt _ hpos
        rw [getElem!_pos z2.cells _ hlt]
        exact List.all_eq_true.1 hz1 _ (by simp)
      obtain ⟨w', rc', g1, g2, g3, g4, g5, g6, g7, g8, g9⟩ := run_storeCells (P := P) b el' fr (off + m * sz) (Builtin.zeroCells z2.cells q).toList 0 w rc h2 h3 hone (by rw [hlen]; omega)
      refine ⟨.tuple #[], .junk, _, w', I, ?_, .refl I, hk, .junk _, ?_⟩
      · rw [hrun, h1, hso]
        obtain ⟨r, rfl⟩ : ∃ r, q = r + 1 := ⟨q - 1, by omega⟩
        simp [Builtin.clear_, run_underlying hf.slice, hel.run_zero, g1]
      · refine Sat.unpull hm (hp.change (m' := .arr (.slice (some ⟨b, off, none⟩) m' cap) sz (es.take m')) (fun k hk hnk => g5 k (by simpa [MObj.blocks] using hnk)) (fun k hk => .inl hk) (by simp [MObj.blocks]) ?_ g7 g8 g9)
        have hl : (es.take m').length = m' := by simp; omega
        refine .inr ⟨b, off, cap, rc', el', fr, by rw [hl], g2, by rw [g3]; exact h3, fun e he => h4 e (List.mem_of_mem_take he), by omega, by rw [g3]; exact h6, fun p q' y c v a1 a2 a3 => ?_⟩
        have hi := lt_of_get a1
        rw [List.getElem?_take_of_lt (by omega)] at a1
        have hq := lt_of_get a2
        rw [h4 y (List.mem_of_getElem? a1)] at hq
        have hpm : (p + 1) * sz ≤ m * sz := Nat.mul_le_mul_right _ (by omega)
        rw [Nat.add_mul] at hpm
        rw [g4, if_neg (by omega)] at a3
        exact h7 p q' y c v a1 a2 a3
theorem run_boundsc {I : Imm} {a : Act} {o : Oper} (ho : Opds I e a o) {lo hi : Option Operand} (hlo : ∀ x, lo = some x → x ∈ o.op.operands) (hhi : ∀ x, hi = some x → x ∈ o.op.operands)
    {len cap l h : Nat} (h1 : BoundIs e lo 0 l) (h2 : BoundIs e hi len h) (h3 : l ≤ h) (h4 : h ≤ cap) (b : Bool) (w : World) :
    (Instr.sliceBounds b len cap (lo.map a.eval) (hi.map a.eval) none).run P w = .ok (l, h, cap) w := by
  unfold Instr.sliceBounds
  cases lo with
  | none =>
    simp only [BoundIs] at h1
    subst h1
    cases hi with
    | none => simp only [BoundIs] at h2; subst h2; simp
    | some y =>
      obtain ⟨k, i, h6, rfl⟩ := h2
      have h7 := (ho.one (hhi y rfl) h6).int_inv
      simp [h7, run_sliceBound h4]
  | some x =>
    obtain ⟨k', i', h8, rfl⟩ := h1
    have h9 := (ho.one (hlo x rfl) h8).int_inv
    cases hi with
    | none => simp only [BoundIs] at h2; subst h2; simp [h9, run_sliceBound h3]
    | some y =>
      obtain ⟨k, i, h6, rfl⟩ := h2
      have h7 := (ho.one (hhi y rfl) h6).int_inv
      simp [h7, h9, run_sliceBound h4, run_sliceBound h3]
/-- A slice whose header is known is cut, within its capacity. -/
theorem pop_slrawc {x : Operand} {lo hi : Option Operand} {t el : TypeId} {size bytes sz b2 : Nat} {zero z2 : Value} {d : TD} {b off n cap l h : Nat}
    (hf : Fits P t (.slice el) size bytes zero) (hel : Fits P el d sz b2 z2) (hx : evalO e x = some (.raw (.slice (some ⟨b, off, none⟩) n cap))) (hlo : BoundIs e lo 0 l) (hhi : BoundIs e hi n h) (h1 : l ≤ h) (h2 : h ≤ cap) :
    POp P e ⟨dst, .slice t x lo hi none, ty, pos, af, g⟩ (.raw (.slice (some ⟨b, slOff cap off sz l, none⟩) (h - l) (cap - l))) :=
  POp.of_val fun I a w ho => by
    have h3 := (ho.one (x := x) (by simp [Op.operands]) hx).raw_inv
    have hb : (Instr.sliceBounds true n cap (Option.map a.eval lo) (Option.map a.eval hi) none).run P w = .ok (l, h, cap) w :=
      run_boundsc (P := P) (e := e) (lo := lo) (hi := hi) (l := l) (h := h) (len := n) (cap := cap) ho (by intro y hy; simp [Op.operands, hy]) (by intro y hy; simp [Op.operands, hy]) hlo hhi h1 h2 true w
    refine ⟨_, ?_, .raw _ rfl⟩
    simp [execOp, Instr.sliceAt, run_underlying hf.slice, h3, Instr.slice, hb, hel.run_sizeOf, slOff]
    try (split <;> simp_all [addr_add])
    try omega
/-- s[:h] -/
theorem pop_slraw0 {x : Operand} {hi : Option Operand} {t el : TypeId} {size bytes sz b2 : Nat} {zero z2 : Value} {d : TD} {b off n cap h : Nat}
    (hf : Fits P t (.slice el) size bytes zero) (hel : Fits P el d sz b2 z2) (hx : evalO e x = some (.raw (.slice (some ⟨b, off, none⟩) n cap))) (hhi : BoundIs e hi n h) (h2 : h ≤ cap) :
    POp P e ⟨dst, .slice t x none hi none, ty, pos, af, g⟩ (.raw (.slice (some ⟨b, off, none⟩) h cap)) := by
  have := pop_slrawc (P := P) (dst := dst) (ty := ty) (pos := pos) (af := af) (g := g) (lo := none) (l := 0) hf hel hx rfl hhi (Nat.zero_le _) h2
  have e1 : slOff cap off sz 0 = off := by unfold slOff; split <;> omega
  rwa [e1, Nat.sub_zero, Nat.sub_zero] at this
/-- A cut with three bounds of which only the check matters. -/
theorem pop_sl3 {x lo hi mx : Operand} {t el : TypeId} {size bytes sz b2 : Nat} {zero z2 : Value} {d : TD} {b off n cap l h m : Nat} {k1 k2 k3 : IntKind}
    (hf : Fits P t (.slice el) size bytes zero) (hel : Fits P el d sz b2 z2) (hx : evalO e x = some (.raw (.slice (some ⟨b, off, none⟩) n cap))) (hl : evalO e lo = some (.int k1 (l : Int))) (hh : evalO e hi = some (.int k2 (h : Int))) (hm : evalO e mx = some (.int k3 (m : Int)))
    (h1 : l ≤ h) (h2 : h ≤ m) (h3 : m ≤ cap) : POp P e ⟨dst, .slice t x (some lo) (some hi) (some mx), ty, pos, af, g⟩ .junk :=
  POp.of_val fun I a w ho => by
    have a1 := (ho.one (x := x) (by simp [Op.operands]) hx).raw_inv
    have a2 := (ho.one (x := lo) (by simp [Op.operands]) hl).int_inv
    have a3 := (ho.one (x := hi) (by simp [Op.operands]) hh).int_inv
    have a4 := (ho.one (x := mx) (by simp [Op.operands]) hm).int_inv
    refine ⟨.slice (if m = l then some ⟨b, off, none⟩ else some ((⟨b, off, none⟩ : Addr).add (l * sz))) (h - l) (m - l), ?_, .junk _⟩
    · simp [execOp, Instr.sliceAt, run_underlying hf.slice, a1, a2, a3, a4, Instr.slice, Instr.sliceBounds, run_sliceBound h1, run_sliceBound h2, run_sliceBound h3, hel.run_sizeOf]
      try (split <;> rfl)
/-- append(s[:i], s[j:]...): the elements from j on move to place i. -/
theorem eop_append_self {x y : Operand} {t el : TypeId} {size bytes sz b2 : Nat} {zero z2 : Value} {d : TD} {k b off n cap i j c2 : Nat} {es : List HVal}
    (hf : Fits P t (.slice el) size bytes zero) (hel : Fits P el d sz b2 z2) (hx : evalO e x = some (.raw (.slice (some ⟨b, off, none⟩) i cap))) (hy : evalO e y = some (.raw (.slice (some ⟨b, slOff cap off sz j, none⟩) (n - j) c2)))
    (hm : M[k]? = some (.arr (.slice (some ⟨b, off, none⟩) n cap) sz es)) (hn : n = es.length) (hij : i ≤ j) (hjn : j ≤ n) (hfl : ∀ y ∈ es, flat (hcells y) = true)
    (hk : K (.raw (.slice (some ⟨b, off, none⟩) (i + (n - j)) cap)) (M.set k (.arr (.slice (some ⟨b, off, none⟩) (i + (n - j)) cap) sz (es.take i ++ es.drop j)))) :
    EOp P e M ⟨dst, .call ⟨.builtin .append, #[x, y], #[t, t]⟩, ty, pos, af, g⟩ K :=
  EOp.of_run fun I F a w ho hs => by
    have h1 := (ho.one (x := x) (by simp [Op.operands, Call.operands]) hx).raw_inv
    have h1y := (ho.one (x := y) (by simp [Op.operands, Call.operands]) hy).raw_inv
    have hp := hs.pull hm
    subst hn
    obtain ⟨_, rc, el', fr, h2, h3, h4, h5, h6, h7⟩ := arr_some hp
    have hmc : es.length * sz ≤ cap * sz := Nat.mul_le_mul_right _ h5.1
    have hmul : (es.length - j) * sz + j * sz = es.length * sz := by rw [← Nat.add_mul]; congr 1; omega
    have hijz : i * sz ≤ j * sz := Nat.mul_le_mul_right _ hij
    have hnl : ((rc.toList.drop (off + j * sz)).take ((es.length - j) * sz)).length = (es.length - j) * sz := by simp; omega
    have hfirst : (Builtin.firstCells sz (es.length - j) (a.eval y)).run P w = .ok ((rc.toList.drop (off + j * sz)).take ((es.length - j) * sz)).toArray w := by
      rw [h1y]
      simp only [Builtin.firstCells]
      have := run_loadCells_list (P := P) w ⟨b, slOff cap off sz j, none⟩ ((rc.toList.drop (off + j * sz)).take ((es.length - j) * sz)) fun q u hq => by
        have hlt := lt_of_get hq
        rw [hnl] at hlt
        have hne : es.length - j ≠ 0 := fun h0 => by rw [h0] at hlt; simp at hlt
        have hso : slOff cap off sz j = off + j * sz := by unfold slOff; rw [if_neg (by omega)]
        rw [addr_add, cell_of h2, hso]
        rw [List.getElem?_take_of_lt hlt, List.getElem?_drop] at hq
        simpa using hq
      rw [hnl] at this
      exact this
    have hone : ∀ v ∈ (rc.toList.drop (off + j * sz)).take ((es.length - j) * sz), v.oneCell' = true := fun v hv => by
      obtain ⟨q, hq⟩ := List.getElem?_of_mem hv
      have hlt := lt_of_get hq
      rw [hnl] at hlt
      rw [List.getElem?_take_of_lt hlt, List.getElem?_drop] at hq
      have hsz : 0 < sz := by
        rcases Nat.eq_zero_or_pos sz with h | h
        · subst h; simp at hlt
        · exact h
      have hp1 : q / sz < es.length - j := (Nat.div_lt_iff_lt_mul hsz).2 hlt
      have hy := List.getElem?_eq_getElem (l := es) (i := j + q / sz) (by omega)
      have hcl := h4 _ (List.getElem_mem (l := es) (n := j + q / sz) (by omega))
      have hc := List.getElem?_eq_getElem (l := hcells (es[j + q / sz]'(by omega))) (i := q % sz) (by rw [hcl]; exact Nat.mod_lt _ hsz)
      have e1 : off + (j + q / sz) * sz + q % sz = off + j * sz + q := by
        rw [Nat.add_mul]; have := Nat.div_add_mod q sz; rw [Nat.mul_comm] at this; omega
      have hv' := h7 (j + q / sz) (q % sz) _ _ v hy hc (by rw [e1]; simpa using hq)
      exact flat_one (VL.cons hv' VL.nil) (flat_get (hfl _ (List.getElem_mem (by omega))) hc) v (by simp)
    obtain ⟨w', rc', g1, g2, g3, g4, g5, g6, g7, g8, g9⟩ := run_storeCells (P := P) b el' fr (off + i * sz) ((rc.toList.drop (off + j * sz)).take ((es.length - j) * sz)) 0 w rc h2 h3 hone (by rw [hnl]; omega)
    refine ⟨.slice (some ⟨b, off, none⟩) (i + (es.length - j)) cap, .raw _, _, w', I, ?_, .refl I, hk, .raw _ rfl, ?_⟩
    · rw [run_append]
      have hb1 : i + (es.length - j) ≤ cap := by omega
      have hlenof : (Builtin.lenOf (a.eval y)).run P w = .ok (es.length - j) w := by rw [h1y]; simp [Builtin.lenOf]
      simp only [List.map_toArray, List.map_cons, List.map_nil, h1, Builtin.append_, List.getElem?_toArray, List.getElem?_cons_zero, List.getElem?_cons_succ, Sem.run_bind, run_underlying hf.slice, Result.andThen_ok,
        hel.run_sizeOf, Sem.run_pure, Bool.false_eq_true, if_false, hlenof, hb1, if_true, Bool.not_false, hfirst, addr_add, g1]
    · refine Sat.unpull hm (hp.change (m' := .arr (.slice (some ⟨b, off, none⟩) (i + (es.length - j)) cap) sz (es.take i ++ es.drop j)) (fun k hk hnk => g5 k (by simpa [MObj.blocks] using hnk)) (fun k hk => .inl hk) (by simp [MObj.blocks]) ?_ g7 g8 g9)
      have hl : (es.take i ++ es.drop j).length = i + (es.length - j) := by simp; omega
      refine .inr ⟨b, off, cap, rc', el', fr, by rw [hl], g2, by rw [g3]; exact h3, fun e he => ?_, by rw [hl]; omega, by rw [g3]; exact h6, fun p q y c v a1 a2 a3 => ?_⟩
      · rcases List.mem_append.1 he with h | h
        · exact h4 e (List.mem_of_mem_take h)
        · exact h4 e (List.mem_of_mem_drop h)
      · rw [g4, hnl] at a3
        have hti : (es.take i).length = i := by simp; omega
        by_cases hpi : p < i
        · rw [List.getElem?_append_left (by omega), List.getElem?_take_of_lt hpi] at a1
          have hq := lt_of_get a2
          rw [h4 y (List.mem_of_getElem? a1)] at hq
          have hpm : (p + 1) * sz ≤ i * sz := Nat.mul_le_mul_right _ (by omega)
          rw [Nat.add_mul] at hpm
          rw [if_neg (by omega)] at a3
          exact h7 p q y c v a1 a2 a3
        · rw [List.getElem?_append_right (by omega), hti, List.getElem?_drop] at a1
          have hlt := lt_of_get a1
          have hq := lt_of_get a2
          rw [h4 y (List.mem_of_getElem? a1)] at hq
          have e1 : (p - i) * sz + i * sz = p * sz := by rw [← Nat.add_mul]; congr 1; omega
          have hpm : (p - i + 1) * sz ≤ (es.length - j) * sz := Nat.mul_le_mul_right _ (by omega)
          rw [Nat.add_mul] at hpm
          rw [if_pos (by omega), List.getElem?_take_of_lt (by omega), List.getElem?_drop] at a3
          refine h7 (j + (p - i)) q y c v a1 a2 ?_
          have e2 : off + (j + (p - i)) * sz + q = off + j * sz + (off + p * sz + q - (off + i * sz) - 0) := by rw [Nat.add_mul]; omega
          rw [e2]; simpa using a3
end
end Go.HL
