/- Part 5 of the proof: a program logic, contracts of functions and plain facts; no conditions. -/
import Derived.Test.YtoomadfbldcioaaGreatDoorPWishesFollowed4
section
namespace Go.HL
variable {P : Program}
section
variable {P : Program} {e : Env} {dst : Option Tmp} {ty : TypeId} {pos : String} {af : Array Edge} {g : Option (Nat × Bool)} {M : List MObj} {K : HVal → List MObj → Prop}
/-- A whole element of an owned slice is loaded. -/
theorem eop_load_elw {α : Type} {f : α → HVal} {x : Operand} {t : TypeId} {d : TD} {size bytes : Nat} {zero : Value} {i b off cap n sz j o : Nat} {es : List α} {y : α} (hf : Fits P t d size bytes zero)
    (hx : evalO e x = some (.raw (.pointer (some ⟨b, o, none⟩)))) (ho' : o = off + j * sz) (hm : M[i]? = some (.arr (.slice (some ⟨b, off, none⟩) n cap) sz (es.map f))) (hj : es[j]? = some y)
    (hd : d.isAgg = true) (hs : size = (hcells (f y)).length) (hv : f y = .agg (hcells (f y))) (hk : K (f y) M) : EOp P e M ⟨dst, .load t x, ty, pos, af, g⟩ K :=
  eop_load_arr (j := j) (f := 0) (y := f y) hf hx (by omega) hm (by rw [List.getElem?_map, hj]; rfl) (.inr ⟨hd, by omega, by rw [List.drop_zero, hs, List.take_length]; exact hv⟩) hk
/-- A whole element of an owned slice is stored. -/
theorem eop_store_elw {α : Type} {f : α → HVal} {x z : Operand} {t : TypeId} {d : TD} {size bytes : Nat} {zero : Value} {i b off cap n sz j o : Nat} {es : List α} {y y' : α} (hf : Fits P t d size bytes zero)
    (hx : evalO e x = some (.raw (.pointer (some ⟨b, o, none⟩)))) (ho' : o = off + j * sz) (hz : evalO e z = some (f y')) (hm : M[i]? = some (.arr (.slice (some ⟨b, off, none⟩) n cap) sz (es.map f))) (hj : es[j]? = some y)
    (hok : okElem size (f y') = true) (hfl : flat (hcells (f y')) = true) (hle : (hcells (f y')).length = (hcells (f y)).length)
    (hk : K .junk (M.set i (.arr (.slice (some ⟨b, off, none⟩) n cap) sz ((es.set j y').map f)))) : EOp P e M ⟨dst, .store t x z, ty, pos, af, g⟩ K := by
  have h0 := (okElem_cells hok).1
  refine eop_store_arr (j := j) (f := 0) (y := f y) (y' := f y') hf hx (by omega) hz hm (by rw [List.getElem?_map, hj]; rfl) hok hfl (by omega) ?_ ?_
  · rw [setL_all hle]
  · rw [List.map_set] at hk; exact hk
end
theorem flat_get : ∀ {cs : List HVal} {j : Nat} {c : HVal}, flat cs = true → cs[j]? = some c → flat [c] = true
  | [], j, c, _, h => by simp at h
  | x :: r, 0, c, hf, h => by
    simp at h; subst h
    cases x <;> simp_all [flat]
  | x :: r, j + 1, c, hf, h => by
    refine flat_get (cs := r) (j := j) ?_ (by simpa using h)
    cases x <;> simp_all [flat]
theorem Sat.arr_take {I : Imm} {F : List MObj} {w : World} {b off n cap sz m : Nat} {es : List HVal} (hm : m ≤ es.length) (h : Sat P I (.arr (.slice (some ⟨b, off, none⟩) n cap) sz es :: F) w) :
    Sat P I (.arr (.slice (some ⟨b, off, none⟩) m cap) sz (es.take m) :: F) w := by
  obtain ⟨_, rc, el, fr, h2, h3, h4, h5, h6, h7⟩ := arr_some h
  refine h.change (m' := .arr (.slice (some ⟨b, off, none⟩) m cap) sz (es.take m)) (fun _ _ _ => rfl) (fun c hc => .inl hc) (by simp [MObj.blocks]) ?_ rfl rfl rfl
  have hl : (es.take m).length = m := by simp; omega
  refine .inr ⟨b, off, cap, rc, el, fr, by rw [hl], h2, h3, fun e he => h4 e (List.mem_of_mem_take he), by omega, h6, fun i j e c v a1 a2 a3 => ?_⟩
  have hi := lt_of_get a1
  rw [List.getElem?_take_of_lt (by omega)] at a1
  exact h7 i j e c v a1 a2 a3
theorem Ghost.take {e : Env} {M : List MObj} {b off n cap sz m : Nat} {es : List HVal} (hm : m ≤ es.length) : Ghost e (.arr (.slice (some ⟨b, off, none⟩) n cap) sz es :: M) e (.arr (.slice (some ⟨b, off, none⟩) m cap) sz (es.take m) :: M) :=
  fun _ I F tmps w h1 h2 => ⟨I, .refl I, h1, h2.arr_take hm⟩
def slOff (cap off sz lo : Nat) : Nat := if cap = lo then off else off + lo * sz
section
variable {P : Program} {e : Env} {dst : Option Tmp} {ty : TypeId} {pos : String} {af : Array Edge} {g : Option (Nat × Bool)} {M : List MObj} {K : HVal → List MObj → Prop}
/-- A slice whose header is known is cut. -/
theorem pop_slraw {x : Operand} {lo hi : Option Operand} {t el : TypeId} {size bytes sz b2 : Nat} {zero z2 : Value} {d : TD} {b off n cap l h : Nat}
    (hf : Fits P t (.slice el) size bytes zero) (hel : Fits P el d sz b2 z2) (hx : evalO e x = some (.raw (.slice (some ⟨b, off, none⟩) n cap))) (hlo : BoundIs e lo 0 l) (hhi : BoundIs e hi n h) (h1 : l ≤ h) (h2 : h ≤ n) (hc : n ≤ cap) :
    POp P e ⟨dst, .slice t x lo hi none, ty, pos, af, g⟩ (.raw (.slice (some ⟨b, slOff cap off sz l, none⟩) (h - l) (cap - l))) :=
  POp.of_val fun I a w ho => by
    have h3 := (ho.one (x := x) (by simp [Op.operands]) hx).raw_inv
    have hb : (Instr.sliceBounds true n cap (Option.map a.eval lo) (Option.map a.eval hi) none).run P w = .ok (l, h, cap) w :=
      run_bounds (P := P) (e := e) (lo := lo) (hi := hi) (l := l) (h := h) (len := n) (cap := cap) ho (by intro y hy; simp [Op.operands, hy]) (by intro y hy; simp [Op.operands, hy]) hlo hhi h1 h2 hc true w
    refine ⟨_, ?_, .raw _ rfl⟩
    simp [execOp, Instr.sliceAt, run_underlying hf.slice, h3, Instr.slice, hb, hel.run_sizeOf, slOff]
    try (split <;> simp_all [addr_add])
    try omega
/-- Cells of an owned slice behind the first m' elements are cleared: what stays are these. -/
theorem eop_clear_at {x : Operand} {t el : TypeId} {size bytes sz b2 : Nat} {zero z2 : Value} {d : TD} {i b off n cap m q o c2 : Nat} {es : List HVal} (m' : Nat)
    (hf : Fits P t (.slice el) size bytes zero) (hel : Fits P el d sz b2 z2) (hz : z2.cells.size = sz) (hz1 : z2.cells.toList.all Value.oneCell' = true)
    (hx : evalO e x = some (.raw (.slice (some ⟨b, o, none⟩) q c2))) (ho' : q = 0 ∨ o = off + m * sz) (hm : M[i]? = some (.arr (.slice (some ⟨b, off, none⟩) n cap) sz es)) (hmq : m + q ≤ cap) (hmm : m' ≤ m) (hme : m' ≤ es.length)
    (hk : K .junk (M.set i (.arr (.slice (some ⟨b, off, none⟩) m' cap) sz (es.take m')))) : EOp P e M ⟨dst, .call ⟨.builtin .clear, #[x], #[t]⟩, ty, pos, af, g⟩ K :=
  EOp.of_run fun I F a w ho hs => by
    have h1 := (ho.one (x := x) (by simp [Op.operands, Call.operands]) hx).raw_inv
    have hp := hs.pull hm
    obtain ⟨_, rc, el', fr, h2, h3, h4, h5, h6, h7⟩ := arr_some hp
    have hrun : (execOp a.eval ⟨dst, .call ⟨.builtin .clear, #[x], #[t]⟩, ty, pos, af, g⟩).run P w = ((Builtin.clear_ #[t] ty #[a.eval x]).run P w).andThen fun v w => .ok (.value v) w := by
      simp [execOp, resolve, invoke, builtin]
    rcases Nat.eq_zero_or_pos q with h0 | h0
    · refine ⟨.tuple #[], .junk, _, w, I, ?_, .refl I, hk, .junk _, ?_⟩
      · rw [hrun, h1, h0]
        simp [Builtin.clear_, run_underlying hf.slice]
      · exact Sat.unpull hm (hp.arr_take hme)
    · have hso : o = off + m * sz := by rcases ho' with h | h; omega; exact h
      have hmul : (m + q) * sz ≤ cap * sz := Nat.mul_le_mul_right _ hmq
      rw [Nat.add_mul] at hmul
      have hlen : (Builtin.zeroCells z2.cells q).toList.length = q * sz := by rw [Array.length_toList, zeroCells_size, hz]
      have hone : ∀ v ∈ (Builtin.zeroCells z2.cells q).toList, v.oneCell' = true := fun v hv => by
        simp only [Builtin.zeroCells, Array.toList_map, List.mem_map] at hv
        obtain ⟨r, hr, rfl⟩ := hv
        have hq' : r < q * z2.cells.size := by simpa using hr
        have hpos : 0 < z2.cells.size := by
          rcases Nat.eq_zero_or_pos z2.cells.size with h | h
          · rw [h] at hq'; simp at hq'
          · exact h
        have hlt : r % z2.cells.size < z2.cells.size := Nat.mod_lt _ hpos
        rw [getElem!_pos z2.cells _ hlt]
        exact List.all_eq_true.1 hz1 _ (by simp)
      obtain ⟨w', rc', g1, g2, g3, g4, g5, g6, g7, g8, g9⟩ := run_storeCells (P := P) b el' fr (off + m * sz) (Builtin.zeroCells z2.cells q).toList 0 w rc h2 h3 hone (by rw [hlen]; omega)
      refine ⟨.tuple #[], .junk, _, w', I, ?_, .refl I, hk, .junk _, ?_⟩
      · rw [hrun, h1, hso]
        obtain ⟨r, rfl⟩ : ∃ r, q = r + 1 := ⟨q - 1, by omega⟩
        simp [Builtin.clear_, run_underlying hf.slice, hel.run_zero, g1]
      · refine Sat.unpull hm (hp.change (m' := .arr (.slice (some ⟨b, off, none⟩) m' cap) sz (es.take m')) (fun k hk hnk => g5 k (by simpa [MObj.blocks] using hnk)) (fun k hk => .inl hk) (by simp [MObj.blocks]) ?_ g7 g8 g9)
        have hl : (es.take m').length = m' := by simp; omega
        refine .inr ⟨b, off, cap, rc', el', fr, by rw [hl], g2, by rw [g3]; exact h3, fun e he => h4 e (List.mem_of_mem_take he), by omega, by rw [g3]; exact h6, fun p q' y c v a1 a2 a3 => ?_⟩
        have hi := lt_of_get a1
        rw [List.getElem?_take_of_lt (by omega)] at a1
        have hq := lt_of_get a2
        rw [h4 y (List.mem_of_getElem? a1)] at hq
        have hpm : (p + 1) * sz ≤ m * sz := Nat.mul_le_mul_right _ (by omega)
        rw [Nat.add_mul] at hpm
        rw [g4, if_neg (by omega)] at a3
        exact h7 p q' y c v a1 a2 a3
theorem run_boundsc {I : Imm} {a : Act} {o : Oper} (ho : Opds I e a o) {lo hi : Option Operand} (hlo : ∀ x, lo = some x → x ∈ o.op.operands) (hhi : ∀ x, hi = some x → x ∈ o.op.operands)
    {len cap l h : Nat} (h1 : BoundIs e lo 0 l) (h2 : BoundIs e hi len h) (h3 : l ≤ h) (h4 : h ≤ cap) (b : Bool) (w : World) :
    (Instr.sliceBounds b len cap (lo.map a.eval) (hi.map a.eval) none).run P w = .ok (l, h, cap) w := by
  unfold Instr.sliceBounds
  cases lo with
  | none =>
    simp only [BoundIs] at h1
    subst h1
    cases hi with
    | none => simp only [BoundIs] at h2; subst h2; simp
    | some y =>
      obtain ⟨k, i, h6, rfl⟩ := h2
      have h7 := (ho.one (hhi y rfl) h6).int_inv
      simp [h7, run_sliceBound h4]
  | some x =>
    obtain ⟨k', i', h8, rfl⟩ := h1
    have h9 := (ho.one (hlo x rfl) h8).int_inv
    cases hi with
    | none => simp only [BoundIs] at h2; subst h2; simp [h9, run_sliceBound h3]
    | some y =>
      obtain ⟨k, i, h6, rfl⟩ := h2
      have h7 := (ho.one (hhi y rfl) h6).int_inv
      simp [h7, h9, run_sliceBound h4, run_sliceBound h3]
/-- A slice whose header is known is cut, within its capacity. -/
theorem pop_slrawc {x : Operand} {lo hi : Option Operand} {t el : TypeId} {size bytes sz b2 : Nat} {zero z2 : Value} {d : TD} {b off n cap l h : Nat}
    (hf : Fits P t (.slice el) size bytes zero) (hel : Fits P el d sz b2 z2) (hx : evalO e x = some (.raw (.slice (some ⟨b, off, none⟩) n cap))) (hlo : BoundIs e lo 0 l) (hhi : BoundIs e hi n h) (h1 : l ≤ h) (h2 : h ≤ cap) :
    POp P e ⟨dst, .slice t x lo hi none, ty, pos, af, g⟩ (.raw (.slice (some ⟨b, slOff cap off sz l, none⟩) (h - l) (cap - l))) :=
  POp.of_val fun I a w ho => by
    have h3 := (ho.one (x := x) (by simp [Op.operands]) hx).raw_inv
    have hb : (Instr.sliceBounds true n cap (Option.map a.eval lo) (Option.map a.eval hi) none).run P w = .ok (l, h, cap) w :=
      run_boundsc (P := P) (e := e) (lo := lo) (hi := hi) (l := l) (h := h) (len := n) (cap := cap) ho (by intro y hy; simp [Op.operands, hy]) (by intro y hy; simp [Op.operands, hy]) hlo hhi h1 h2 true w
    refine ⟨_, ?_, .raw _ rfl⟩
    simp [execOp, Instr.sliceAt, run_underlying hf.slice, h3, Instr.slice, hb, hel.run_sizeOf, slOff]
    try (split <;> simp_all [addr_add])
    try omega
/-- s[:h] -/
theorem pop_slraw0 {x : Operand} {hi : Option Operand} {t el : TypeId} {size bytes sz b2 : Nat} {zero z2 : Value} {d : TD} {b off n cap h : Nat}
    (hf : Fits P t (.slice el) size bytes zero) (hel : Fits P el d sz b2 z2) (hx : evalO e x = some (.raw (.slice (some ⟨b, off, none⟩) n cap))) (hhi : BoundIs e hi n h) (h2 : h ≤ cap) :
    POp P e ⟨dst, .slice t x none hi none, ty, pos, af, g⟩ (.raw (.slice (some ⟨b, off, none⟩) h cap)) := by
  have := pop_slrawc (P := P) (dst := dst) (ty := ty) (pos := pos) (af := af) (g := g) (lo := none) (l := 0) hf hel hx rfl hhi (Nat.zero_le _) h2
  have e1 : slOff cap off sz 0 = off := by unfold slOff; split <;> omega
  rwa [e1, Nat.sub_zero, Nat.sub_zero] at this
/-- A cut with three bounds of which only the check matters. -/
theorem pop_sl3 {x lo hi mx : Operand} {t el : TypeId} {size bytes sz b2 : Nat} {zero z2 : Value} {d : TD} {b off n cap l h m : Nat} {k1 k2 k3 : IntKind}
    (hf : Fits P t (.slice el) size bytes zero) (hel : Fits P el d sz b2 z2) (hx : evalO e x = some (.raw (.slice (some ⟨b, off, none⟩) n cap))) (hl : evalO e lo = some (.int k1 (l : Int))) (hh : evalO e hi = some (.int k2 (h : Int))) (hm : evalO e mx = some (.int k3 (m : Int)))
    (h1 : l ≤ h) (h2 : h ≤ m) (h3 : m ≤ cap) : POp P e ⟨dst, .slice t x (some lo) (some hi) (some mx), ty, pos, af, g⟩ .junk :=
  POp.of_val fun I a w ho => by
    have a1 := (ho.one (x := x) (by simp [Op.operands]) hx).raw_inv
    have a2 := (ho.one (x := lo) (by simp [Op.operands]) hl).int_inv
    have a3 := (ho.one (x := hi) (by simp [Op.operands]) hh).int_inv
    have a4 := (ho.one (x := mx) (by simp [Op.operands]) hm).int_inv
    refine ⟨.slice (if m = l then some ⟨b, off, none⟩ else some ((⟨b, off, none⟩ : Addr).add (l * sz))) (h - l) (m - l), ?_, .junk _⟩
    · simp [execOp, Instr.sliceAt, run_underlying hf.slice, a1, a2, a3, a4, Instr.slice, Instr.sliceBounds, run_sliceBound h1, run_sliceBound h2, run_sliceBound h3, hel.run_sizeOf]
      try (split <;> rfl)
/-- append(s[:i], s[j:]...): the elements from j on move to place i. -/
theorem eop_append_self {x y : Operand} {t el : TypeId} {size bytes sz b2 : Nat} {zero z2 : Value} {d : TD} {k b off n cap i j c2 : Nat} {es : List HVal}
    (hf : Fits P t (.slice el) size bytes zero) (hel : Fits P el d sz b2 z2) (hx : evalO e x = some (.raw (.slice (some ⟨b, off, none⟩) i cap))) (hy : evalO e y = some (.raw (.slice (some ⟨b, slOff cap off sz j, none⟩) (n - j) c2)))
    (hm : M[k]? = some (.arr (.slice (some ⟨b, off, none⟩) n cap) sz es)) (hn : n = es.length) (hij : i ≤ j) (hjn : j ≤ n) (hfl : ∀ y ∈ es, flat (hcells y) = true)
    (hk : K (.raw (.slice (some ⟨b, off, none⟩) (i + (n - j)) cap)) (M.set k (.arr (.slice (some ⟨b, off, none⟩) (i + (n - j)) cap) sz (es.take i ++ es.drop j)))) :
    EOp P e M ⟨dst, .call ⟨.builtin .append, #[x, y], #[t, t]⟩, ty, pos, af, g⟩ K :=
  EOp.of_run fun I F a w ho hs => by
    have h1 := (ho.one (x := x) (by simp [Op.operands, Call.operands]) hx).raw_inv
    have h1y := (ho.one (x := y) (by simp [Op.operands, Call.operands]) hy).raw_inv
    have hp := hs.pull hm
    subst hn
    obtain ⟨_, rc, el', fr, h2, h3, h4, h5, h6, h7⟩ := arr_some hp
    have hmc : es.length * sz ≤ cap * sz := Nat.mul_le_mul_right _ h5.1
    have hmul : (es.length - j) * sz + j * sz = es.length * sz := by rw [← Nat.add_mul]; congr 1; omega
    have hijz : i * sz ≤ j * sz := Nat.mul_le_mul_right _ hij
    have hnl : ((rc.toList.drop (off + j * sz)).take ((es.length - j) * sz)).length = (es.length - j) * sz := by simp; omega
    have hfirst : (Builtin.firstCells sz (es.length - j) (a.eval y)).run P w = .ok ((rc.toList.drop (off + j * sz)).take ((es.length - j) * sz)).toArray w := by
      rw [h1y]
      simp only [Builtin.firstCells]
      have := run_loadCells_list (P := P) w ⟨b, slOff cap off sz j, none⟩ ((rc.toList.drop (off + j * sz)).take ((es.length - j) * sz)) fun q u hq => by
        have hlt := lt_of_get hq
        rw [hnl] at hlt
        have hne : es.length - j ≠ 0 := fun h0 => by rw [h0] at hlt; simp at hlt
        have hso : slOff cap off sz j = off + j * sz := by unfold slOff; rw [if_neg (by omega)]
        rw [addr_add, cell_of h2, hso]
        rw [List.getElem?_take_of_lt hlt, List.getElem?_drop] at hq
        simpa using hq
      rw [hnl] at this
      exact this
    have hone : ∀ v ∈ (rc.toList.drop (off + j * sz)).take ((es.length - j) * sz), v.oneCell' = true := fun v hv => by
      obtain ⟨q, hq⟩ := List.getElem?_of_mem hv
      have hlt := lt_of_get hq
      rw [hnl] at hlt
      rw [List.getElem?_take_of_lt hlt, List.getElem?_drop] at hq
      have hsz : 0 < sz := by
        rcases Nat.eq_zero_or_pos sz with h | h
        · subst h; simp at hlt
        · exact h
      have hp1 : q / sz < es.length - j := (Nat.div_lt_iff_lt_mul hsz).2 hlt
      have hy := List.getElem?_eq_getElem (l := es) (i := j + q / sz) (by omega)
      have hcl := h4 _ (List.getElem_mem (l := es) (n := j + q / sz) (by omega))
      have hc := List.getElem?_eq_getElem (l := hcells (es[j + q / sz]'(by omega))) (i := q % sz) (by rw [hcl]; exact Nat.mod_lt _ hsz)
      have e1 : off + (j + q / sz) * sz + q % sz = off + j * sz + q := by
        rw [Nat.add_mul]; have := Nat.div_add_mod q sz; rw [Nat.mul_comm] at this; omega
      have hv' := h7 (j + q / sz) (q % sz) _ _ v hy hc (by rw [e1]; simpa using hq)
      exact flat_one (VL.cons hv' VL.nil) (flat_get (hfl _ (List.getElem_mem (by omega))) hc) v (by simp)
    obtain ⟨w', rc', g1, g2, g3, g4, g5, g6, g7, g8, g9⟩ := run_storeCells (P := P) b el' fr (off + i * sz) ((rc.toList.drop (off + j * sz)).take ((es.length - j) * sz)) 0 w rc h2 h3 hone (by rw [hnl]; omega)
    refine ⟨.slice (some ⟨b, off, none⟩) (i + (es.length - j)) cap, .raw _, _, w', I, ?_, .refl I, hk, .raw _ rfl, ?_⟩
    · rw [run_append]
      have hb1 : i + (es.length - j) ≤ cap := by omega
      have hlenof : (Builtin.lenOf (a.eval y)).run P w = .ok (es.length - j) w := by rw [h1y]; simp [Builtin.lenOf]
      simp only [List.map_toArray, List.map_cons, List.map_nil, h1, Builtin.append_, List.getElem?_toArray, List.getElem?_cons_zero, List.getElem?_cons_succ, Sem.run_bind, run_underlying hf.slice, Result.andThen_ok,
        hel.run_sizeOf, Sem.run_pure, Bool.false_eq_true, if_false, hlenof, hb1, if_true, Bool.not_false, hfirst, addr_add, g1]
    · refine Sat.unpull hm (hp.change (m' := .arr (.slice (some ⟨b, off, none⟩) (i + (es.length - j)) cap) sz (es.take i ++ es.drop j)) (fun k hk hnk => g5 k (by simpa [MObj.blocks] using hnk)) (fun k hk => .inl hk) (by simp [MObj.blocks]) ?_ g7 g8 g9)
      have hl : (es.take i ++ es.drop j).length = i + (es.length - j) := by simp; omega
      refine .inr ⟨b, off, cap, rc', el', fr, by rw [hl], g2, by rw [g3]; exact h3, fun e he => ?_, by rw [hl]; omega, by rw [g3]; exact h6, fun p q y c v a1 a2 a3 => ?_⟩
      · rcases List.mem_append.1 he with h | h
        · exact h4 e (List.mem_of_mem_take h)
        · exact h4 e (List.mem_of_mem_drop h)
      · rw [g4, hnl] at a3
        have hti : (es.take i).length = i := by simp; omega
        by_cases hpi : p < i
        · rw [List.getElem?_append_left (by omega), List.getElem?_take_of_lt hpi] at a1
          have hq := lt_of_get a2
          rw [h4 y (List.mem_of_getElem? a1)] at hq
          have hpm : (p + 1) * sz ≤ i * sz := Nat.mul_le_mul_right _ (by omega)
          rw [Nat.add_mul] at hpm
          rw [if_neg (by omega)] at a3
          exact h7 p q y c v a1 a2 a3
        · rw [List.getElem?_append_right (by omega), hti, List.getElem?_drop] at a1
          have hlt := lt_of_get a1
          have hq := lt_of_get a2
          rw [h4 y (List.mem_of_getElem? a1)] at hq
          have e1 : (p - i) * sz + i * sz = p * sz := by rw [← Nat.add_mul]; congr 1; omega
          have hpm : (p - i + 1) * sz ≤ (es.length - j) * sz := Nat.mul_le_mul_right _ (by omega)
          rw [Nat.add_mul] at hpm
          rw [if_pos (by omega), List.getElem?_take_of_lt (by omega), List.getElem?_drop] at a3
          refine h7 (j + (p - i)) q y c v a1 a2 ?_
          have e2 : off + (j + (p - i)) * sz + q = off + j * sz + (off + p * sz + q - (off + i * sz) - 0) := by rw [Nat.add_mul]; omega
          rw [e2]; simpa using a3
end
end Go.HL
end
section
namespace Go.HL
section
variable {P : Program} {ops : Array Oper} {n : Nat} {S : List MObj → Prop} {ld : List Nat} {K : Env → List MObj → Prop} {e : Env} {M : List MObj} {listed : Array Bool} {fuel : Nat} {d : Nat} {op : Op} {ty : TypeId} {pos : String} {af : Array Edge} {h : HVal}
/-- A load under a guard out of owned objects of which S knows enough is taken first. -/
theorem ahgl (i : Nat) {j : Nat} {want c : Bool} (hi : ops[i]? = some ⟨some d, op, ty, pos, af, some (j, want)⟩) (hd : Nat.blt d n = true) (hf : Region.free .any ops listed i = true) (hr : (Region.ready .any ops listed).contains i = true) (hl : i ∈ ld) (hS : S M)
    (hg : guardC ops e j want = some c) (hp : c = true → ∃ e2, OpenTo e e2 ∧ ∀ M, S M → EOp P e2 M ⟨some d, op, ty, pos, af, some (j, want)⟩ fun x M' => x = h ∧ M' = M)
    (k : HAny P ops n S ld K fuel (listed.setIfInBounds i true) (upd e d (.opt c h)) M) : HAny P ops n S ld K (fuel + 1) listed e M :=
  HAny.first (T := S) hi (fun t ht => by simp at ht; subst ht; exact blt_lt hd) (.inr ⟨rfl, hl⟩) fuel listed e M (Region.free_spec hi hf) (by simpa using hr)
    ⟨c, hg, fun hc M hM => by
      obtain ⟨e2, h1, h2⟩ := hp hc
      intro I F a w ho hs
      exact Oper.wp_noQ (fun _ _ ⟨v, x, M', J, h3, h4, ⟨e1, e3⟩, h5, h6⟩ => ⟨v, .opt c h, M, J, h3, h4, ⟨rfl, rfl⟩, .opt (fun _ => e1 ▸ h5) (fun hf => by rw [hc] at hf; cases hf), e3 ▸ h6⟩) (h2 M hM I F a w (ho.open h1) hs),
     fun hc => ⟨h, by rw [hc]⟩⟩ hS k
end
theorem wrap8 {x : Nat} (h : x < 16) : IntKind.wrap .u8 (x : Int) = (x : Int) := by
  have : (List.range 16).all (fun x => IntKind.wrap .u8 (x : Int) == (x : Int)) = true := by decide
  simpa using List.all_eq_true.1 this x (List.mem_range.2 h)
theorem wrapu64 {x : Nat} (h : x < 16) : IntKind.wrap .u64 (x : Int) = (x : Int) := by
  have : (List.range 16).all (fun x => IntKind.wrap .u64 (x : Int) == (x : Int)) = true := by decide
  simpa using List.all_eq_true.1 this x (List.mem_range.2 h)
theorem some_int {k : IntKind} {a b : Int} (h : a = b) : some (HVal.int k a) = some (.int k b) := by rw [h]
section
variable {α : Type} {c : α → α → Int}
theorem isort_take1 (l : List α) : isort c (l.take 1) ++ l.drop 1 = l := by
  cases l with
  | nil => rfl
  | cons x r => simp [isort, insB, insF]
theorem get_mid {A R : List α} {x : α} : (A ++ x :: R)[A.length]? = some x := by simp
theorem get_before {A R : List α} {x : α} (h : 0 < A.length) : (A ++ x :: R)[A.length - 1]? = some ((A[A.length - 1]?).getD x) := by
  rw [List.getElem?_append_left (by omega), List.getElem?_eq_getElem (by omega)]
  simp [List.getElem?_eq_getElem (show A.length - 1 < A.length by omega)]
theorem snoc_of {A : List α} (h : 0 < A.length) : ∃ B y, A = B ++ [y] := by
  have hne : A ≠ [] := fun e => by subst e; simp at h
  exact ⟨_, _, (List.dropLast_concat_getLast hne).symm⟩
theorem getD_snoc {A : List α} {y d : α} : ((A ++ [y])[(A ++ [y]).length - 1]?).getD d = y := by simp
theorem swap_mid {A R : List α} {x y : α} : (((A ++ [y]) ++ x :: R).set (A ++ [y]).length y).set ((A ++ [y]).length - 1) x = A ++ x :: y :: R := by
  have e1 : ((A ++ [y]) ++ x :: R).set (A ++ [y]).length y = (A ++ [y]) ++ y :: R := by rw [List.set_append_right _ _ (Nat.le_refl _)]; simp
  rw [e1, List.append_assoc]
  have e2 : (A ++ [y]).length - 1 = A.length := by simp
  rw [e2, List.set_append_right _ _ (Nat.le_refl _)]
  simp
/-- The inner loop ends. -/
theorem ins_exit {l A B : List α} {x : α} {k : Nat} (hx : l[k]? = some x) (hB : insB c x (isort c (l.take k)) = insB c x A ++ B) (h : 0 < A.length → ¬ c x ((A[A.length - 1]?).getD x) < 0) : A ++ x :: (B ++ l.drop (k + 1)) = isort c (l.take (k + 1)) ++ l.drop (k + 1) := by
  rw [take_snoc' hx, isort_snoc, hB]
  rcases Nat.eq_zero_or_pos A.length with h0 | h0
  · obtain rfl := List.length_eq_zero_iff.1 h0
    simp [insB_nil]
  · obtain ⟨A', y, rfl⟩ := snoc_of h0
    have := h h0
    rw [getD_snoc] at this
    rw [insB_snoc, if_neg this]; simp
theorem ins_step {A B : List α} {x y : α} {S : List α} (hB : insB c x S = insB c x (A ++ [y]) ++ B) (h : c x y < 0) : insB c x S = insB c x A ++ (y :: B) := by
  rw [hB, insB_snoc, if_pos h]; simp
end
end Go.HL
namespace Go.HL
section
variable {α : Type} {p : α → Bool}
/-- What slices.DeleteFunc has done when it looks at place j. -/
structure DelInv (p : α → Bool) (l : List α) (j : Nat) (D : List α) : Prop where
  len : D.length = l.length
  jle : j ≤ l.length
  lt : ((l.take j).filter (fun x => !p x)).length < j
  kept : D.take ((l.take j).filter (fun x => !p x)).length = (l.take j).filter (fun x => !p x)
  rest : D.drop j = l.drop j
theorem filter_snoc {l : List α} {j : Nat} {x : α} (hx : l[j]? = some x) : (l.take (j + 1)).filter (fun x => !p x) = (l.take j).filter (fun x => !p x) ++ if p x then [] else [x] := by
  rw [take_snoc' hx, List.filter_append]
  by_cases h : p x <;> simp [h]
theorem DelInv.get {l D : List α} {j : Nat} {x : α} (h : DelInv p l j D) (hx : l[j]? = some x) : D[j]? = some x := by
  have h1 := congrArg (fun t => t[0]?) h.rest
  simp only [List.getElem?_drop, Nat.add_zero] at h1
  rw [h1]; exact hx
theorem DelInv.drop1 {l D : List α} {j : Nat} (h : DelInv p l j D) : D.drop (j + 1) = l.drop (j + 1) := by
  have := congrArg (List.drop 1) h.rest
  simpa [List.drop_drop] using this
theorem DelInv.skip {l D : List α} {j : Nat} {x : α} (h : DelInv p l j D) (hx : l[j]? = some x) (hp : p x = true) : DelInv p l (j + 1) D ∧ ((l.take (j + 1)).filter (fun x => !p x)).length = ((l.take j).filter (fun x => !p x)).length := by
  have e := filter_snoc (p := p) hx
  rw [if_pos hp, List.append_nil] at e
  refine ⟨⟨h.len, by have := lt_of_get hx; omega, by rw [e]; have := h.lt; omega, by rw [e]; exact h.kept, h.drop1⟩, by rw [e]⟩
theorem DelInv.keep {l D : List α} {j : Nat} {x : α} (h : DelInv p l j D) (hx : l[j]? = some x) (hp : p x = false) :
    DelInv p l (j + 1) (D.set ((l.take j).filter (fun x => !p x)).length x) ∧ ((l.take (j + 1)).filter (fun x => !p x)).length = ((l.take j).filter (fun x => !p x)).length + 1 := by
  have e := filter_snoc (p := p) hx
  rw [if_neg (by simp [hp])] at e
  have hlt := h.lt
  have hj := lt_of_get hx
  have hl := h.len
  have el : ((l.take (j + 1)).filter (fun x => !p x)).length = ((l.take j).filter (fun x => !p x)).length + 1 := by rw [e]; simp
  refine ⟨⟨by simp [hl], by omega, by omega, ?_, ?_⟩, el⟩
  · rw [el, e]
    have hk := h.kept
    generalize ((l.take j).filter (fun x => !p x)) = F at *
    rw [take_snoc' (List.getElem?_set_self (by omega)), List.take_set_of_le (Nat.le_refl _), hk]
  · rw [List.drop_set_of_lt (by omega)]; exact h.drop1
theorem idxF_found (p : α → Bool) : ∀ (l : List α) (k : Int), 0 ≤ k → idxF p l k ≠ -1 → ∃ i : Nat, idxF p l k = k + i ∧ i < l.length ∧ (∃ x, l[i]? = some x ∧ p x = true) ∧ ∀ y ∈ l.take i, p y = false
  | [], k, _, h => by simp [idxF] at h
  | x :: r, k, h0, h => by
    by_cases hx : p x = true
    · exact ⟨0, by simp [idxF, hx], by simp, ⟨x, rfl, hx⟩, by simp⟩
    · have e : idxF p (x :: r) k = idxF p r (k + 1) := by simp [idxF, hx]
      rw [e] at h ⊢
      obtain ⟨i, h1, h2, ⟨y, h3, h4⟩, h5⟩ := idxF_found p r (k + 1) (by omega) h
      refine ⟨i + 1, by rw [h1]; simp; omega, by simp; omega, ⟨y, by simpa using h3, h4⟩, fun z hz => ?_⟩
      simp only [List.take_succ_cons, List.mem_cons] at hz
      rcases hz with rfl | hz
      · simpa using hx
      · exact h5 z hz
theorem idxF_none (p : α → Bool) : ∀ (l : List α) (k : Int), 0 ≤ k → idxF p l k = -1 → l.filter (fun x => !p x) = l
  | [], _, _, _ => rfl
  | x :: r, k, h0, h => by
    by_cases hx : p x = true
    · simp [idxF, hx] at h; omega
    · have e : idxF p (x :: r) k = idxF p r (k + 1) := by simp [idxF, hx]
      rw [e] at h
      rw [List.filter_cons, if_pos (by simp [hx]), idxF_none p r (k + 1) (by omega) h]
theorem DelInv.start {l : List α} {i : Nat} {x : α} (hi : i < l.length) (hx : l[i]? = some x) (hp : p x = true) (hb : ∀ y ∈ l.take i, p y = false) : DelInv p l (i + 1) l ∧ ((l.take (i + 1)).filter (fun x => !p x)).length = i := by
  have e := filter_snoc (p := p) hx
  rw [if_pos hp, List.append_nil, (List.filter_eq_self (l := l.take i) (p := fun x => !p x)).2 (fun y hy => by simp [hb y hy])] at e
  have hl : (l.take i).length = i := by simp; omega
  refine ⟨⟨rfl, by omega, by rw [e]; omega, by rw [e, hl], rfl⟩, by rw [e, hl]⟩
theorem DelInv.done {l D : List α} (h : DelInv p l l.length D) : D.take (l.filter (fun x => !p x)).length = l.filter (fun x => !p x) := by
  have := h.kept
  rwa [List.take_length] at this
end
theorem slOff_or {cap off sz m n : Nat} (h1 : m ≤ n) (h2 : n ≤ cap) : n - m = 0 ∨ slOff cap off sz m = off + m * sz := by
  unfold slOff
  by_cases h : cap = m
  · exact .inl (by omega)
  · exact .inr (by rw [if_neg h])
end Go.HL
namespace Go.HL
/-- A function that only reads is handed an owned slice for good. -/
theorem con_fz0 {P : Program} {f : FuncId} {v : Value} {sz : Nat} {es rest : List HVal} {h : HVal} (hp : ConP P f (.slice sz es :: rest) h) : Con P f (.raw v :: rest) [.arr v sz es] fun x M' => x = h ∧ M' = [] := by
  intro I F w args ha hs
  obtain ⟨J, hl, hs', hv⟩ := hs.freeze_arr
  cases args with
  | nil => have := ha.1; simp at this
  | cons a args =>
    have h1 := ha.head.raw_inv
    subst h1
    refine (hp J F w (a :: args) (VL.cons hv (ha.tail.mono hl)) hs').mono ?_
    rintro e w' ⟨u, x, M', K, rfl, hk, ⟨rfl, rfl⟩, h3, h4⟩
    exact ⟨u, x, [], K, rfl, hl.trans hk, ⟨rfl, rfl⟩, h3, h4⟩
end Go.HL
end
section
namespace Go.HL
abbrev RunH (r : Room) (A T l : List Pick) (S : List Str) : List HVal := [.vptr (hcells (eRoom r)) 0, ePicks A, ePicks T, ePicks l, hset S]
abbrev RunM (b m : Nat) (va v : Value) (r : Room) (A T l : List Pick) (S : List Str) : List MObj :=
  [.cells b [.vptr (hcells (eRoom r)) 0, .raw va, ePicks T, .raw v, .raw (.map (some m))], .arr va 5 (A.map ePick), .arr v 5 (l.map ePick), .map m (sk (mset S))]
theorem bowRun {b m : Nat} {va v : Value} {r : Room} {A T l : List Pick} {S : List Str} {R : List MObj} : Bow (RunM b m va v r A T l S ++ R) (pAt b) (.vptr (RunH r A T l S) 0) :=
  .cellsL (i := 0) rfl ⟨.refl, .arr (i := 1) rfl, .refl, .arr (i := 2) rfl, .map (i := 3) (L := mset S) rfl, trivial⟩
theorem bowRun0 {b m : Nat} {va v : Value} {r : Room} {A T l : List Pick} {S : List Str} : Bow (RunM b m va v r A T l S) (pAt b) (.vptr (RunH r A T l S) 0) :=
  .cellsL (i := 0) rfl ⟨.refl, .arr (i := 1) rfl, .refl, .arr (i := 2) rfl, .map (i := 3) (L := mset S) rfl, trivial⟩
theorem bowRun1 {x : MObj} {b m : Nat} {va v : Value} {r : Room} {A T l : List Pick} {S : List Str} {R : List MObj} : Bow (x :: (RunM b m va v r A T l S ++ R)) (pAt b) (.vptr (RunH r A T l S) 0) :=
  .cellsL (i := 1) rfl ⟨.refl, .arr (i := 2) rfl, .refl, .arr (i := 3) rfl, .map (i := 4) (L := mset S) rfl, trivial⟩
theorem lastAt_z {r : Room} {l : List Pick} (h : l = []) : lastAt r l = r.Start := by subst h; rfl
theorem lastAt_n {r : Room} {l : List Pick} (h : ¬ l = []) : lastAt r l = (l.getD (l.length - 1) pick0).At := by
  have h0 : 0 < l.length := List.length_pos_iff.2 h
  have e : l.getLast? = some (l.getD (l.length - 1) pick0) := by rw [List.getLast?_eq_getElem?, getD_some (d := pick0) (by omega)]
  simp only [lastAt, e]
theorem drop_get {α : Type} {l : List α} {n : Nat} {d : α} (h : n < l.length) : (l.drop n)[0]? = some (l.getD n d) := by
  rw [List.getElem?_drop]; exact getD_some h
theorem idxF_find {α : Type} {p : α → Bool} {l : List α} (h : 0 ≤ idxF p l 0) : ∃ (i : Nat) (x : α), idxF p l 0 = (i : Int) ∧ l[i]? = some x ∧ l.find? p = some x := by
  obtain ⟨i, h1, h2, ⟨x, hx, hp⟩, hb⟩ := idxF_found p l 0 (by omega) (by omega)
  refine ⟨i, x, by omega, hx, ?_⟩
  have e : l = l.take i ++ x :: l.drop (i + 1) := by rw [← drop_cons hx, List.take_append_drop]
  rw [e, List.find?_append, List.find?_eq_none.2 (by simpa using hb)]
  simp [hp]
theorem idxF_miss {α : Type} {p : α → Bool} {l : List α} (h : idxF p l 0 < 0) : l.find? p = none := by
  have := idxF_nonneg p l 0 (by omega)
  rw [List.find?_eq_none]
  intro x hx hp
  have h1 : l.any p = true := List.any_eq_true.2 ⟨x, hx, hp⟩
  rw [← this] at h1
  simp at h1; omega
theorem wish_1 {g : Str → Bool} {team : Str} {y : Wish} {r : List Wish} {s : Str} (h : y.Team = team) (hf : y.Players.find? (fun s => !(g s)) = some s) : wishGo g team (y :: r) = some s := by
  simp [wishGo, h, hf]
theorem wish_2 {g : Str → Bool} {team : Str} {y : Wish} {r : List Wish} (h : y.Team = team) (hf : y.Players.find? (fun s => !(g s)) = none) : wishGo g team (y :: r) = wishGo g team r := by
  simp [wishGo, h, hf]
theorem wish_3 {g : Str → Bool} {team : Str} {y : Wish} {r : List Wish} (h : ¬ y.Team = team) : wishGo g team (y :: r) = wishGo g team r := by
  simp [wishGo, h]
theorem idxF_pos {α : Type} {p : α → Bool} {l : List α} (h : ∃ x ∈ l, p x = true) : 0 ≤ idxF p l 0 := by
  have h1 : l.any p = true := List.any_eq_true.2 h
  rw [← idxF_nonneg p l 0 (by omega)] at h1
  simpa using h1
theorem bowRunC {x : MObj} {b m : Nat} {va v : Value} {r : Room} {A T l : List Pick} {S : List Str} : Bow (x :: RunM b m va v r A T l S) (pAt b) (.vptr (RunH r A T l S) 0) :=
  .cellsL (i := 1) rfl ⟨.refl, .arr (i := 2) rfl, .refl, .arr (i := 3) rfl, .map (i := 4) (L := mset S) rfl, trivial⟩
theorem open_pos {r : Room} {k : List Keep} {s : List Swap} (h : RoomOk r) : 0 < (open1 r k s).length := by
  unfold open1; rw [openFrom_len]; unfold turns; rw [turnsFrom_len]
  exact Nat.mul_pos (by have := h.r1; omega) h.t0
theorem run_start {r : Room} {k : List Keep} {s : List Swap} {S : List Str} (h : openFault r k s = 0) (hS : ∀ x, S.contains x = (open1 r k s).any fun p => !(p.Player == []) && p.Player == x) : RunOk r k s [] S := ⟨fun x hx => by
  have hne := (room_ok (openFault_ok h).1).ne x hx
  rw [hS x, goneB, ← open_any h hne]
  simp only [List.any_nil, Bool.or_false]
  congr 1; funext p
  by_cases e : p.Player = x
  · subst e; simp [hne]
  · have : (p.Player == x) = false := by simpa using e
    rw [this]; simp⟩
theorem any_snoc {α : Type} (q : α → Bool) {l : List α} {i : Nat} {x : α} (hx : l[i]? = some x) : (l.take (i + 1)).any q = ((l.take i).any q || q x) := by
  rw [take_snoc' hx]; simp
theorem filter_snoc1 {α : Type} (q : α → Bool) {l : List α} {i : Nat} {x : α} (hx : l[i]? = some x) : (l.take (i + 1)).filter q = (l.take i).filter q ++ if q x then [x] else [] := by
  rw [take_snoc' hx, List.filter_append]; congr 1; simp [List.filter_cons]
def dueI (r : Room) (T l : List Pick) : Int := if T.isEmpty || !(moment (lastAt r l + r.Clock)) then 0 else lastAt r l + r.Clock
def dueD (r : Room) (T l : List Pick) : Bool := !(T.isEmpty || !(moment (lastAt r l + r.Clock)))
theorem auto_stop {r : Room} {k : List Keep} {fr : List Pick} {w : List Wish} {n : Int} {L : List Pick} (h : dueD r (fr.drop L.length) L = false ∨ n < dueI r (fr.drop L.length) L) : autoGo r k fr w n (fr.length - L.length) L = L := by
  by_cases e : fr.length ≤ L.length
  · rw [show fr.length - L.length = 0 by omega]; rfl
  · obtain ⟨q, hq⟩ : ∃ q, fr.length - L.length = q + 1 := ⟨fr.length - L.length - 1, by omega⟩
    have hT : (fr.drop L.length).isEmpty = false := by
      cases hd : fr.drop L.length with
      | nil => exact absurd (List.drop_eq_nil_iff.1 hd) e
      | cons a b => rfl
    rw [hq, autoGo]
    unfold dueD dueI at h
    rw [hT] at h
    rw [if_neg]
    intro hc
    simp only [dueB, Bool.and_eq_true, decide_eq_true_eq] at hc
    rw [hc.1] at h
    simp at h; omega
theorem auto_go {r : Room} {k : List Keep} {fr : List Pick} {w : List Wish} {n : Int} {L : List Pick} (h1 : dueD r (fr.drop L.length) L = true) (h2 : dueI r (fr.drop L.length) L ≤ n) :
    L.length < fr.length ∧ dueI r (fr.drop L.length) L = lastAt r L + r.Clock ∧ moment (lastAt r L + r.Clock) = true ∧
    autoGo r k fr w n (fr.length - L.length) L = autoGo r k fr w n (fr.length - (L.length + 1)) (L ++ [autoP r k fr w L (lastAt r L + r.Clock)]) := by
  unfold dueD at h1
  simp only [Bool.not_eq_true', Bool.or_eq_false_iff, Bool.not_eq_false'] at h1
  obtain ⟨hT, hm⟩ := h1
  have hl : L.length < fr.length := by
    rcases Nat.lt_or_ge L.length fr.length with h | h
    · exact h
    · rw [List.drop_eq_nil_of_le h] at hT; cases hT
  have hd : dueI r (fr.drop L.length) L = lastAt r L + r.Clock := by unfold dueI; rw [hT, hm]; rfl
  refine ⟨hl, hd, hm, ?_⟩
  obtain ⟨q, hq⟩ : ∃ q, fr.length - L.length = q + 1 := ⟨fr.length - L.length - 1, by omega⟩
  rw [hq, autoGo, if_pos (by simp [dueB, hm]; omega), show fr.length - (L.length + 1) = q by omega]
theorem fin_go {r : Room} {k : List Keep} {fr : List Pick} {w : List Wish} {L : List Pick} (h : L.length < fr.length) :
    finGo r k fr w (fr.length - L.length) L = finGo r k fr w (fr.length - (L.length + 1)) (L ++ [autoP r k fr w L (lastAt r L)]) := by
  obtain ⟨q, hq⟩ : ∃ q, fr.length - L.length = q + 1 := ⟨fr.length - L.length - 1, by omega⟩
  rw [hq, finGo, show fr.length - (L.length + 1) = q by omega]
theorem fin_stop {r : Room} {k : List Keep} {fr : List Pick} {w : List Wish} {L : List Pick} (h : fr.length ≤ L.length) : finGo r k fr w (fr.length - L.length) L = L := by
  rw [show fr.length - L.length = 0 by omega]; rfl
theorem left_ex {r : Room} {k : List Keep} {s : List Swap} {L : List Pick} {S : List Str} (h : openFault r k s = 0) (hl : L.length < (freeP r k s).length) (ok : RunOk r k s L S) : ∃ x ∈ r.Players, (fun y => S.contains y) x = false := by
  have := left_ne h hl
  obtain ⟨x, hx⟩ := List.exists_mem_of_length_pos this
  obtain ⟨h1, h2⟩ := List.mem_filter.1 hx
  exact ⟨x, h1, by show S.contains x = false; rw [ok.gone x h1]; simpa using h2⟩
theorem wish_ok {r : Room} {k : List Keep} {s : List Swap} {L : List Pick} {S : List Str} {w : List Wish} (ok : RunOk r k s L S) (hw : ∀ y ∈ w, ∀ x ∈ y.Players, x ∈ r.Players) (t : Str) : wishOf r (fun y => S.contains y) w t = wishOf r (goneB k L) w t := wishOf_congr ok.gone hw
def wishedE (r : Room) (k : List Keep) (s : List Swap) (l : List Pick) (w : List Wish) : Int := if picksE r k s l != 0 then picksE r k s l else wishesE r w
def autoE (r : Room) (k : List Keep) (s : List Swap) (l : List Pick) (w : List Wish) (n : Int) : Int := if wishedE r k s l w != 0 then wishedE r k s l w else if !(moment n) then 1 else 0
theorem wishedE_ok {r : Room} {k : List Keep} {s : List Swap} {l : List Pick} {w : List Wish} (h : wishedE r k s l w = 0) : picksE r k s l = 0 ∧ wishesE r w = 0 := by
  unfold wishedE at h
  split at h
  · rename_i hc; simp [h] at hc
  · rename_i hc; exact ⟨by simpa using hc, h⟩
section
variable {r : Room} {w : List Wish} {k : Nat} {x : Wish} {t : List Wish}
theorem ws8 (h : ¬ x.Team ∈ r.Teams) : wsGo r w k (x :: t) = 8 := by simp [wsGo, h]
theorem ws6 (h : x.Team ∈ r.Teams) (h9 : (w.take k).any (fun y => y.Team == x.Team) = true) : wsGo r w k (x :: t) = 6 := by
  simp only [wsGo]; rw [if_neg (by simp [h]), if_pos h9]
theorem ws2 (h : x.Team ∈ r.Teams) (h9 : (w.take k).any (fun y => y.Team == x.Team) = false) (h11 : 500 < x.Players.length) : wsGo r w k (x :: t) = 2 := by
  simp only [wsGo]; rw [if_neg (by simp [h]), if_neg (by simp [h9]), if_pos h11]
theorem wsP {c : Int} (h : x.Team ∈ r.Teams) (h9 : (w.take k).any (fun y => y.Team == x.Team) = false) (h11 : ¬ 500 < x.Players.length) (hp : wpGo r x.Players 0 x.Players = c) (hc : c ≠ 0) : wsGo r w k (x :: t) = c := by
  simp only [wsGo]; rw [if_neg (by simp [h]), if_neg (by simp [h9]), if_neg h11, hp, if_pos (by simpa using hc)]
theorem ws0 (h : x.Team ∈ r.Teams) (h9 : (w.take k).any (fun y => y.Team == x.Team) = false) (h11 : ¬ 500 < x.Players.length) (hp : wpGo r x.Players 0 x.Players = 0) : wsGo r w k (x :: t) = wsGo r w (k + 1) t := by
  simp only [wsGo]; rw [if_neg (by simp [h]), if_neg (by simp [h9]), if_neg h11, hp, if_neg (by simp)]
end
theorem wp8 {r : Room} {l : List Str} {j : Nat} {y : Str} {t : List Str} (h : ¬ y ∈ r.Players) : wpGo r l j (y :: t) = 8 := by simp [wpGo, h]
theorem wp6 {r : Room} {l : List Str} {j : Nat} {y : Str} {t : List Str} (h : y ∈ r.Players) (h2 : (l.take j).contains y = true) : wpGo r l j (y :: t) = 6 := by
  simp only [wpGo]; rw [if_neg (by simp [h]), if_pos h2]
theorem wp0 {r : Room} {l : List Str} {j : Nat} {y : Str} {t : List Str} (h : y ∈ r.Players) (h2 : (l.take j).contains y = false) : wpGo r l j (y :: t) = wpGo r l (j + 1) t := by
  simp only [wpGo]; rw [if_neg (by simp [h]), if_neg (by rw [h2]; simp)]
theorem regN_succ {r : Room} {k : List Keep} {w : List Wish} {l : List Pick} {t : Str} {n : Nat} {p : Pick} (hp : l[n]? = some p) : regN r k w l t (n + 1) = regN r k w l t n + if p.Team = t ∧ wishOf r (goneB k (l.take n)) w t ≠ p.Player then 1 else 0 := by
  simp only [regN, hp]
theorem set_snoc {l : List Str} {j : Nat} {y z : Str} (hy : l[j]? = some y) : ((l.take j).contains z || y == z) = (l.take (j + 1)).contains z := by
  rw [take_snoc' hy, Bool.eq_iff_iff]
  simp only [Bool.or_eq_true, beq_iff_eq, List.contains_iff_mem, List.mem_append, List.mem_singleton]
  exact ⟨fun h => h.imp id Eq.symm, fun h => h.imp id Eq.symm⟩
theorem reg_yes {r : Room} {k : List Keep} {w : List Wish} {l : List Pick} {i : Nat} {x : Pick} {H : SMap} (hH : ∀ t, lkI H t = .int .i64 (regN r k w l t i)) (hx : l[i]? = some x) (h5 : ¬ wishOf r (goneB k (l.take i)) w x.Team = x.Player) :
    ∀ t, lkI (sput x.Team (.int .i64 (regN r k w l x.Team i + 1)) H) t = .int .i64 (regN r k w l t (i + 1)) := fun t => by
  rw [lkI_put, regN_succ hx]
  by_cases e : t = x.Team
  · subst e; rw [if_pos rfl, if_pos ⟨rfl, h5⟩]
  · rw [if_neg e, hH t, if_neg (fun q => e q.1.symm)]; simp
theorem reg_no {r : Room} {k : List Keep} {w : List Wish} {l : List Pick} {i : Nat} {x : Pick} {H : SMap} (hH : ∀ t, lkI H t = .int .i64 (regN r k w l t i)) (hx : l[i]? = some x) (h6 : wishOf r (goneB k (l.take i)) w x.Team = x.Player) :
    ∀ t, lkI H t = .int .i64 (regN r k w l t (i + 1)) := fun t => by
  rw [hH t, regN_succ hx, if_neg (fun q => q.2 (by rw [← q.1]; exact h6))]; simp
theorem left_mem {r : Room} {k : List Keep} {l : List Pick} {s : Str} (h : s ∈ r.Players) : s ∈ leftL r k l ↔ goneB k l s = false := by
  simp [leftL, h]
theorem left_head {r : Room} {k : List Keep} {l : List Pick} (h : 0 < (leftL r k l).length) : (leftL r k l)[0]? = some ((r.Players.find? (fun s => !(goneB k l s))).getD []) := by
  unfold leftL at *
  generalize r.Players = q at *
  induction q with
  | nil => simp at h
  | cons a q ih =>
    simp only [List.filter_cons, List.find?_cons] at h ⊢
    cases hg : goneB k l a with
    | true => simp only [hg, Bool.not_true, Bool.false_eq_true, if_false] at h ⊢; exact ih h
    | false => simp
def nextP (r : Room) (k : List Keep) (s : List Swap) (l : List Pick) : Pick := if l.length < (freeP r k s).length then (freeP r k s).getD l.length pick0 else pick0
def dueN (r : Room) (k : List Keep) (s : List Swap) (l : List Pick) : Int := if l.length < (freeP r k s).length ∧ moment (lastAt r l + r.Clock) = true then lastAt r l + r.Clock else -1
theorem b_true {b : Bool} (h : ¬ b = false) : b = true := by cases b <;> simp_all
theorem auto_stopN {r : Room} {k : List Keep} {s : List Swap} {w : List Wish} {n : Int} {L : List Pick} (h : dueN r k s L < 0 ∨ n < dueN r k s L) : autoGo r k (freeP r k s) w n ((freeP r k s).length - L.length) L = L := by
  by_cases e : (freeP r k s).length ≤ L.length
  · rw [show (freeP r k s).length - L.length = 0 by omega]; rfl
  · obtain ⟨q, hq⟩ : ∃ q, (freeP r k s).length - L.length = q + 1 := ⟨(freeP r k s).length - L.length - 1, by omega⟩
    rw [hq, autoGo, if_neg]
    intro hc
    simp only [dueB, Bool.and_eq_true, decide_eq_true_eq] at hc
    unfold dueN at h
    rw [if_pos ⟨by omega, hc.1⟩] at h
    have := out_f (n := lastAt r L + r.Clock) (lo := 0) (hi := 345686399999) (by simpa [moment] using hc.1)
    omega
theorem auto_goN {r : Room} {k : List Keep} {s : List Swap} {w : List Wish} {n : Int} {L : List Pick} (h1 : 0 ≤ dueN r k s L) (h2 : dueN r k s L ≤ n) :
    L.length < (freeP r k s).length ∧ dueN r k s L = lastAt r L + r.Clock ∧ moment (lastAt r L + r.Clock) = true ∧ nextP r k s L = (freeP r k s).getD L.length pick0 ∧
    autoGo r k (freeP r k s) w n ((freeP r k s).length - L.length) L = autoGo r k (freeP r k s) w n ((freeP r k s).length - (L.length + 1)) (L ++ [autoP r k (freeP r k s) w L (lastAt r L + r.Clock)]) := by
  by_cases hc : L.length < (freeP r k s).length ∧ moment (lastAt r L + r.Clock) = true
  · have hd : dueN r k s L = lastAt r L + r.Clock := by unfold dueN; rw [if_pos hc]
    refine ⟨hc.1, hd, hc.2, by unfold nextP; rw [if_pos hc.1], ?_⟩
    obtain ⟨q, hq⟩ : ∃ q, (freeP r k s).length - L.length = q + 1 := ⟨(freeP r k s).length - L.length - 1, by omega⟩
    rw [hq, autoGo, if_pos (by simp [dueB, hc.2]; omega), show (freeP r k s).length - (L.length + 1) = q by omega]
  · unfold dueN at h1; rw [if_neg hc] at h1; omega
structure GoodPicks (l : List Pick) : Prop where
  len : l.length ≤ 10
structure GoodWishes (w : List Wish) : Prop where
  len : w.length ≤ 4
  all : ∀ y ∈ w, y.Players.length ≤ 100
abbrev GoodW (w : Wish) : Prop := w.Players.length ≤ 60
end Go.HL
end
section
namespace Go.Proofs.YtoomadfbldcioaaGreatDoor
open Go.HL
set_option maxRecDepth 100000
set_option linter.unusedVariables false
set_option linter.unusedSimpArgs false
/-- slices.IndexFunc[[]string,string] -/
theorem c_slices_IndexFunc_string_string {l : List Str} {fid : FuncId} {caps : List HVal} {p : Str → Bool} (hca : Callable Tryz.prog fid) (hp : ∀ x, ConP Tryz.prog fid ([HVal.str x] ++ caps) (.bool (p x))) (hl : l.length ≤ 1000000) : ConP Tryz.prog 104 [.slice 1 (l.map HVal.str), .fn (.func fid) [] caps] (.int .i64 (idxF p l 0)) := by
  refine Con.of_body Tryz.func104 rfl Tryz.ntmps104 rfl rfl ?_
  refine hw_reg ?_
  refine dp rfl (pop_assign rfl) ?_
  refine dn ?_
  refine hw_seq ?_
  refine hw_reg ?_
  refine dp rfl (pop_move rfl) ?_
  refine dp rfl (pop_lenm ty26 rfl) ?_
  refine dp rfl (pop_move rfl) ?_
  refine dn ?_
  refine hw_block ?_
  refine hw_loopw [4, 5, 8, 9, 10, 11, 12, 13, 14, 15, 16, 17, 18] (fun (k : Nat) => [(8, .int .i64 k)]) (fun (k : Nat) => []) (fun (k : Nat) => k ≤ l.length ∧ (idxF p l 0 = idxF p (l.drop k) k)) (fun (k : Nat) => l.length - k) (0) ?_ ?_ ?_ ?_
  · exact ⟨Nat.zero_le _, rfl⟩
  · exact ⟨rfl, trivial⟩
  · exact List.Perm.refl _
  · intro k hinv
    obtain ⟨hk, hg⟩ := hinv
    refine hw_reg ?_
    refine dp rfl (pop_lss rfl rfl) ?_
    refine dn ?_
    refine hw_seq ?_
    refine hw_cond rfl (fun h1 => ?_) (fun h2 => ?_)
    · try simp at h1
      obtain ⟨x, hx⟩ : ∃ x, l[k]? = some x := ⟨_, List.getElem?_eq_getElem h1⟩
      have hdx := drop_cons hx
      rw [hdx] at hg
      refine hw_skip ?_
      refine seqQ_n ?_
      refine hw_seq ?_
      refine hw_block ?_
      refine hw_reg ?_
      refine dp rfl (pop_move rfl) ?_
      refine dp rfl (pop_assign rfl) ?_
      refine dn ?_
      refine hw_reg ?_
      refine dp rfl (pop_move rfl) ?_
      refine dp rfl (pop_move rfl) ?_
      refine dp rfl (pop_move rfl) ?_
      refine dp rfl (pop_idx ty26 ty9 rfl rfl rfl (by first | assumption | simp_all)) ?_
      refine dp rfl (pop_load ty9 rfl rfl rfl) ?_
      refine dp rfl (pop_callv hca rfl rfl (WeakL.refl _) (hp _)) ?_
      refine dn ?_
      refine hw_cond rfl (fun h3 => ?_) (fun h4 => ?_)
      · try simp at h3
        refine hw_reg ?_
        refine dp rfl (pop_move rfl) ?_
        refine dp rfl (pop_assign rfl) ?_
        refine dn ?_
        refine hw_ret ?_
        refine ret_p rfl ?_
        show HVal.int .i64 _ = _
        first | (rw [hg]; rfl) | (rw [hg]; simp_all [idxF])
      · try simp at h4
        refine hw_skip ?_
        refine blockQ_n ?_
        refine seqQ_n ?_
        refine hw_reg1 ?_
        refine dp rfl (pop_add64 rfl rfl (by omega) (by omega)) ?_
        refine dp rfl (pop_move rfl) ?_
        refine dn ?_
        refine ⟨k + 1, ?_, ?_, ⟨rfl, trivial⟩, (by repeat (first | exact keeps_refl | refine keeps_upd rfl ?_ | refine keeps_loop rfl rfl ?_)), List.Perm.refl _⟩
        · refine ⟨by omega, ?_⟩
          rw [hg, idxF, if_neg (by simp_all)]; rfl
        · dsimp only; omega
    · try simp at h2
      have hnk : l.length ≤ k := by omega
      obtain rfl : k = l.length := by omega
      rw [drop_all (Nat.le_refl _)] at hg
      refine hw_exit ?_
      refine seqQ_x ?_
      refine loopQ_x ?_
      refine blockQ_eq ?_
      refine seqQ_n ?_
      refine hw_reg ?_
      refine dp rfl (pop_assign rfl) ?_
      refine dn ?_
      refine hw_ret ?_
      refine ret_p rfl ?_
      show HVal.int .i64 _ = _
      first | (rw [hg]; rfl) | (rw [hg]; simp_all [idxF])

/-- slices.DeleteFunc[[]string,string] -/
theorem c_slices_DeleteFunc_string_string {l : List Str} {fid : FuncId} {caps : List HVal} {p : Str → Bool} {v : Value} (hca : Callable Tryz.prog fid) (hp : ∀ x, ConP Tryz.prog fid ([HVal.str x] ++ caps) (.bool (p x))) (hl : l.length ≤ 1000000) : Con Tryz.prog 74 [.raw v, .fn (.func fid) [] caps] [.arr v 1 (l.map HVal.str)] (fun x M' => ∃ u, x = .raw u ∧ M' = [.arr u 1 ((l.filter (fun x => !p x)).map HVal.str)]) := by
  refine Con.of_body Tryz.func74 rfl Tryz.ntmps74 rfl rfl ?_
  refine hw_reg ?_
  refine dp rfl (pop_assign rfl) ?_
  refine dn ?_
  refine hw_reg ?_
  refine dp rfl (pop_move rfl) ?_
  refine dp rfl (pop_move rfl) ?_
  refine de rfl (eop_callb (hs' := [.slice 1 (l.map HVal.str), .fn (.func fid) [] caps]) ca104 rfl ⟨.arr (i := 0) rfl, .weak (Weak.refl _), trivial⟩ (c_slices_IndexFunc_string_string (p := p) hca hp hl) rfl ?_)
  refine dp rfl (pop_assign rfl) ?_
  refine dn ?_
  refine hw_seq ?_
  refine hw_reg ?_
  refine dp rfl (pop_move rfl) ?_
  refine dp rfl (pop_eql rfl rfl) ?_
  refine dn ?_
  refine hw_cond rfl (fun h1 => ?_) (fun h2 => ?_)
  · try simp at h1
    refine hw_reg ?_
    refine dp rfl (pop_move rfl) ?_
    refine dp rfl (pop_assign rfl) ?_
    refine dn ?_
    refine hw_ret ?_
    first
    | (refine ret_q rfl ⟨_, rfl, ?_⟩
       rw [idxF_none p l 0 (by omega) h1]
       done)
    | (refine ret_q rfl ⟨_, rfl, ?_⟩
       rw [List.take_length, ← List.map_take, hend]; rfl)
  · try simp at h2
    refine hw_skip ?_
    refine seqQ_n ?_
    refine hw_seq ?_
    obtain ⟨i0, hi0, hil, ⟨x0, hx0, hp0⟩, hb0⟩ := idxF_found p l 0 (by omega) h2
    rw [Int.zero_add] at hi0
    obtain ⟨hD0, hn0⟩ := DelInv.start (p := p) hil hx0 hp0 hb0
    refine hw_arrc (i := 0) rfl (fun h0 he => ?_) (fun b off cap hv hcap => ?_)
    · exfalso; have := congrArg List.length he; simp at this; subst this; simp at hil
    rw [List.length_map] at hv hcap
    subst hv
    refine hw_reg ?_
    refine dp rfl (pop_move rfl) ?_
    refine dp rfl (pop_eq (pop_add64 rfl rfl (by rw [hi0]; omega) (by rw [hi0]; omega)) (congrArg _ (by rw [hi0]))) ?_
    refine dp rfl (pop_assign rfl) ?_
    refine dn ?_
    refine hw_block ?_
    refine hw_loopw2 [5, 6, 7, 16, 17, 18, 19, 20, 21, 22, 23, 24, 25, 26, 27, 28, 29, 30, 31, 32, 33, 34, 35] (fun (j : Nat) (D : List Str) => [(6, .int .i64 (j : Int)), (5, .int .i64 (((l.take j).filter (fun x => !p x)).length : Int))]) (fun (j : Nat) (D : List Str) => [.arr (.slice (some ⟨b, off, none⟩) l.length cap) 1 (D.map HVal.str)]) (fun (j : Nat) (D : List Str) => DelInv p l j D) (fun (j : Nat) (D : List Str) => l.length - j) (i0 + 1) (l) ?_ ?_ ?_ ?_
    · exact hD0
    · exact ⟨rfl, some_int (by rw [hn0, hi0]), trivial⟩
    · exact List.Perm.refl _
    · intro j D hD
      have hlt0 := hD.lt
      have hle0 := hD.len
      refine hw_seq ?_
      refine hw_reg ?_
      refine dp rfl (pop_move rfl) ?_
      refine dp rfl (pop_move rfl) ?_
      first
      | refine de rfl (eop_lenm (i := 0) ty26 rfl rfl ?_)
      | refine de rfl (eop_lenm (i := 1) ty26 rfl rfl ?_)
      | refine de rfl (eop_lenm (i := 2) ty26 rfl rfl ?_)
      | refine de rfl (eop_lenm (i := 3) ty26 rfl rfl ?_)
      refine dp rfl (pop_lss rfl rfl) ?_
      refine dn ?_
      refine hw_cond rfl (fun h3 => ?_) (fun h4 => ?_)
      · try simp at h3
        obtain ⟨x, hx⟩ : ∃ x, l[j]? = some x := ⟨_, List.getElem?_eq_getElem (by omega)⟩
        refine hw_skip ?_
        refine seqQ_n ?_
        refine hw_seq ?_
        refine hw_block ?_
        refine hw_reg ?_
        refine dp rfl (pop_move rfl) ?_
        refine dp rfl (pop_move rfl) ?_
        refine dp rfl (pop_idxraw (j := j) ty26 ty9 rfl rfl rfl (by omega)) ?_
        refine de rfl (eop_load_el (i := 0) (j := j) 0 ty9 rfl rfl rfl (hD.get hx) rfl rfl ?_)
        refine dp rfl (pop_assign rfl) ?_
        refine dn ?_
        refine hw_reg ?_
        refine dp rfl (pop_move rfl) ?_
        refine dp rfl (pop_move rfl) ?_
        refine dp rfl (pop_callv hca rfl rfl (WeakL.refl _) (hp _)) ?_
        refine dp rfl (pop_not rfl) ?_
        refine dn ?_
        refine hw_cond rfl (fun h5 => ?_) (fun h6 => ?_)
        · try simp at h5
          refine hw_reg ?_
          refine dp rfl (pop_move rfl) ?_
          refine dp rfl (pop_move rfl) ?_
          refine dp rfl (pop_move rfl) ?_
          refine dp rfl (pop_idxraw (j := ((l.take j).filter (fun x => !p x)).length) ty26 ty9 rfl rfl rfl (by have := hD.lt; omega)) ?_
          refine de0 (eop_store_elw (i := 0) (j := ((l.take j).filter (fun x => !p x)).length) (y := D[((l.take j).filter (fun x => !p x)).length]'(by have := hD.lt; have := hD.len; omega)) (y' := x) ty9 rfl rfl rfl rfl (List.getElem?_eq_getElem _) rfl rfl rfl ?_)
          refine dn ?_
          refine hw_reg1 ?_
          refine dp rfl (pop_move rfl) ?_
          refine dp rfl (pop_add64 rfl rfl (by omega) (by have := hD.lt; omega)) ?_
          refine dp rfl (pop_assign rfl) ?_
          refine dn ?_
          refine blockQ_n ?_
          refine seqQ_n ?_
          refine hw_reg1 ?_
          refine dp rfl (pop_move rfl) ?_
          refine dp rfl (pop_add64 rfl rfl (by omega) (by omega)) ?_
          refine dp rfl (pop_assign rfl) ?_
          refine dn ?_
          first
          | exact ⟨j + 1, _, (hD.keep hx (by simp_all)).1, by dsimp only; omega, ⟨rfl, some_int (by rw [(hD.keep hx (by simp_all)).2]; rfl), trivial⟩, (by repeat (first | exact keeps_refl | refine keeps_upd rfl ?_ | refine keeps_loop rfl rfl ?_)), List.Perm.refl _⟩
          | exact ⟨j + 1, _, (hD.skip hx (by simp_all)).1, by dsimp only; omega, ⟨rfl, some_int (by rw [(hD.skip hx (by simp_all)).2]), trivial⟩, (by repeat (first | exact keeps_refl | refine keeps_upd rfl ?_ | refine keeps_loop rfl rfl ?_)), List.Perm.refl _⟩
        · try simp at h6
          refine hw_skip ?_
          refine blockQ_n ?_
          refine seqQ_n ?_
          refine hw_reg1 ?_
          refine dp rfl (pop_move rfl) ?_
          refine dp rfl (pop_add64 rfl rfl (by omega) (by omega)) ?_
          refine dp rfl (pop_assign rfl) ?_
          refine dn ?_
          first
          | exact ⟨j + 1, _, (hD.keep hx (by simp_all)).1, by dsimp only; omega, ⟨rfl, some_int (by rw [(hD.keep hx (by simp_all)).2]; rfl), trivial⟩, (by repeat (first | exact keeps_refl | refine keeps_upd rfl ?_ | refine keeps_loop rfl rfl ?_)), List.Perm.refl _⟩
          | exact ⟨j + 1, _, (hD.skip hx (by simp_all)).1, by dsimp only; omega, ⟨rfl, some_int (by rw [(hD.skip hx (by simp_all)).2]), trivial⟩, (by repeat (first | exact keeps_refl | refine keeps_upd rfl ?_ | refine keeps_loop rfl rfl ?_)), List.Perm.refl _⟩
      · try simp at h4
        obtain rfl : j = l.length := by have := hD.jle; omega
        have hend := hD.done
        refine hw_exit ?_
        refine seqQ_x ?_
        refine loopQ2_x ?_
        refine blockQ_eq ?_
        refine seqQ_n ?_
        refine hw_reg ?_
        refine dp rfl (pop_move rfl) ?_
        refine dp rfl (pop_move rfl) ?_
        refine dp rfl (pop_slraw (l := ((l.take l.length).filter (fun x => !p x)).length) ty26 ty9 rfl ⟨_, _, rfl, rfl⟩ rfl (by omega) (by omega) hcap) ?_
        refine de0 (eop_clear_at (i := 0) (m := ((l.take l.length).filter (fun x => !p x)).length) (((l.take l.length).filter (fun x => !p x)).length) ty26 ty9 rfl rfl rfl (slOff_or (by omega) hcap) rfl (by omega) (Nat.le_refl _) (by rw [List.length_map, hD.len]; omega) ?_)
        refine dn ?_
        refine hw_reg ?_
        refine dp rfl (pop_move rfl) ?_
        refine dp rfl (pop_move rfl) ?_
        refine dp rfl (pop_slraw0 (h := ((l.take l.length).filter (fun x => !p x)).length) ty26 ty9 rfl ⟨_, _, rfl, rfl⟩ (by omega)) ?_
        refine dp rfl (pop_assign rfl) ?_
        refine dn ?_
        refine hw_ret ?_
        first
        | (refine ret_q rfl ⟨_, rfl, ?_⟩
           rw [idxF_none p l 0 (by omega) h1]
           done)
        | (refine ret_q rfl ⟨_, rfl, ?_⟩
           rw [List.take_length, ← List.map_take, hend]; rfl)

/-- (*benchwarmer/draft.run).last -/
theorem c_draft_run_last {r : Room} {A T l : List Pick} {S : List Str}  (hl : l.length ≤ 1000000) : ConP Tryz.prog 64 [.vptr (RunH r A T l S) 0] (.int .i64 (lastAt r l)) := by
  refine Con.of_body Tryz.func64 rfl Tryz.ntmps64 rfl rfl ?_
  refine hw_reg ?_
  refine dp rfl (pop_assign rfl) ?_
  refine dn ?_
  refine hw_seq ?_
  refine hw_reg ?_
  refine dp rfl (pop_move rfl) ?_
  refine dp rfl ((by first | exact pop_nilCheck rfl | exact pop_nilCheck_raw rfl)) ?_
  refine dp rfl (pop_fieldAddr ty113 rfl ty36 (by decide) rfl) ?_
  refine dp rfl (pop_load ty36 rfl rfl rfl) ?_
  refine dp rfl (pop_lenm ty36 rfl) ?_
  refine dp rfl (pop_eql rfl rfl) ?_
  refine dn ?_
  refine hw_cond rfl (fun h1 => ?_) (fun h2 => ?_)
  · try simp at h1
    refine hw_reg ?_
    refine dp rfl (pop_move rfl) ?_
    refine dp rfl ((by first | exact pop_nilCheck rfl | exact pop_nilCheck_raw rfl)) ?_
    refine dp rfl (pop_fieldAddr ty113 rfl ty106 (by decide) rfl) ?_
    refine dp rfl (pop_load ty106 rfl rfl rfl) ?_
    refine dp rfl ((by first | exact pop_nilCheck rfl | exact pop_nilCheck_raw rfl)) ?_
    refine dp rfl (pop_fieldAddr ty28 rfl ty3 (by decide) rfl) ?_
    refine dp rfl (pop_load ty3 rfl rfl rfl) ?_
    refine dp rfl (pop_assign rfl) ?_
    refine dn ?_
    refine hw_ret ?_
    refine ret_p rfl ?_
    show HVal.int .i64 _ = _
    first | (rw [lastAt_z h1]; done) | (rw [lastAt_n h2])
  · try simp at h2
    refine hw_skip ?_
    refine seqQ_n ?_
    have hl0 : 0 < l.length := List.length_pos_iff.2 h2
    refine hw_draw (fun _ => True) [] mixed ?_
    refine ahp 0 rfl rfl (by kernel_rfl) (by kernel_rfl) (pop_move rfl) ?_
    refine ahp 1 rfl rfl (by kernel_rfl) (by kernel_rfl) ((by first | exact pop_nilCheck rfl | exact pop_nilCheck_raw rfl)) ?_
    refine ahp 2 rfl rfl (by kernel_rfl) (by kernel_rfl) (pop_fieldAddr ty113 rfl ty36 (by decide) rfl) ?_
    refine ahp 3 rfl rfl (by kernel_rfl) (by kernel_rfl) (pop_load ty36 rfl rfl rfl) ?_
    refine ahp 4 rfl rfl (by kernel_rfl) (by kernel_rfl) (pop_move rfl) ?_
    refine ahp 5 rfl rfl (by kernel_rfl) (by kernel_rfl) ((by first | exact pop_nilCheck rfl | exact pop_nilCheck_raw rfl)) ?_
    refine ahp 6 rfl rfl (by kernel_rfl) (by kernel_rfl) (pop_fieldAddr ty113 rfl ty36 (by decide) rfl) ?_
    refine ahp 7 rfl rfl (by kernel_rfl) (by kernel_rfl) (pop_load ty36 rfl rfl rfl) ?_
    refine ahp 8 rfl rfl (by kernel_rfl) (by kernel_rfl) (pop_lenm ty36 rfl) ?_
    refine ahp 9 rfl rfl (by kernel_rfl) (by kernel_rfl) (pop_sub64 rfl rfl (by omega) (by omega)) ?_
    refine ahp 10 rfl rfl (by kernel_rfl) (by kernel_rfl) (pop_idx (j := l.length - 1) (a := l.getD (l.length - 1) pick0) ty36 ty55 rfl rfl (by omega) (getD_some (by omega))) ?_
    refine ahp 11 rfl rfl (by kernel_rfl) (by kernel_rfl) (pop_fieldAddr ty55 rfl ty3 (by decide) rfl) ?_
    refine ahp 12 rfl rfl (by kernel_rfl) (by kernel_rfl) (pop_load ty3 rfl rfl rfl) ?_
    refine ahp 13 rfl rfl (by kernel_rfl) (by kernel_rfl) (pop_assign rfl) ?_
    refine ahz (by kernel_rfl) ?_
    refine hw_ret ?_
    refine ret_p rfl ?_
    show HVal.int .i64 _ = _
    first | (rw [lastAt_z h1]; done) | (rw [lastAt_n h2])

/-- (*benchwarmer/draft.run).fault -/
theorem c_draft_run_fault {r : Room} {k : List Keep} {s : List Swap} {A T l : List Pick} {S : List Str} {fr : List Pick} {p : Pick} (hl : l.length ≤ 1000000) (hT : T = fr.drop l.length) (h0 : l.length < fr.length) (ok : RunOk r k s l S) (hpl : r.Players.length ≤ 1000000) (hso : SortedS r.Players) : ConP Tryz.prog 108 [.vptr (RunH r A T l S) 0, ePick p] (.int .i64 (pkF r k fr l p)) := by
  subst hT
  refine Con.of_body Tryz.func108 rfl Tryz.ntmps108 rfl rfl ?_
  refine hw_reg ?_
  refine dp rfl (pop_box rfl rfl) ?_
  refine dp rfl (pop_assign rfl) ?_
  refine dn ?_
  refine hw_seq ?_
  refine hw_reg ?_
  refine dp rfl (pop_move rfl) ?_
  refine dp rfl ((by first | exact pop_nilCheck rfl | exact pop_nilCheck_raw rfl)) ?_
  refine dp rfl (pop_fieldAddr ty113 rfl ty36 (by decide) rfl) ?_
  refine dp rfl (pop_load ty36 rfl rfl rfl) ?_
  refine dp rfl (pop_idx (j := 0) (a := fr.getD l.length pick0) ty36 ty55 rfl rfl rfl (drop_get h0)) ?_
  refine dp rfl (pop_loadw ty55 rfl rfl rfl rfl) ?_
  refine de rfl (eop_alloc ty55 rfl fun b5 => ?_)
  refine de0 (eop_storew ty55 rfl rfl rfl rfl rfl ?_)
  refine dn ?_
  refine hw_ghost (Ghost.fc0 5 rfl) ?_
  refine hw_block ?_
  refine hw_reg ?_
  refine dp rfl (pop_fieldAddr ty55 rfl ty3 (by decide) rfl) ?_
  refine dp rfl (pop_load ty3 rfl rfl rfl) ?_
  refine dp rfl (pop_call ca61 rfl (WeakL.refl _) c_base_Moment) ?_
  refine dp rfl (pop_not rfl) ?_
  refine dp rfl (pop_assign rfl) ?_
  refine dn ?_
  refine hw_cond rfl (fun h1 => ?_) (fun h2 => ?_)
  · try simp at h1
    refine hw_reg ?_
    refine dp rfl (pop_assign rfl) ?_
    refine dn ?_
    refine hw_ret ?_
    refine ret_p rfl ?_
    show HVal.int .i64 _ = _
    first | (rw [pf1 h1]; done) | (rw [pf2 h2 h3]; done) | (rw [pf3 h2 h4 h5]; done) | (rw [pf4 h2 h4 h6 h7]; done) | (rw [pf5 h2 h4 h6 h8 h9]; done) | (rw [pf6 h2 h4 h6 h8 h10 h11]; done) | (rw [pf0 h2 h4 h6 h8 h10 (by omega)]; done)
  · try simp at h2
    refine hw_reg ?_
    refine dp rfl (pop_fieldAddr ty55 rfl ty3 (by decide) rfl) ?_
    refine dp rfl (pop_load ty3 rfl rfl rfl) ?_
    refine dp rfl (pop_fieldAddr ty55 rfl ty3 (by decide) rfl) ?_
    refine dp rfl (pop_load ty3 rfl rfl rfl) ?_
    refine dp rfl (pop_neq rfl rfl) ?_
    refine dp rfl (pop_assign rfl) ?_
    refine dn ?_
    refine hw_cond rfl (fun h3 => ?_) (fun h4 => ?_)
    · try simp at h3
      refine hw_reg ?_
      refine dp rfl (pop_assign rfl) ?_
      refine dn ?_
      refine hw_ret ?_
      refine ret_p rfl ?_
      show HVal.int .i64 _ = _
      first | (rw [pf1 h1]; done) | (rw [pf2 h2 h3]; done) | (rw [pf3 h2 h4 h5]; done) | (rw [pf4 h2 h4 h6 h7]; done) | (rw [pf5 h2 h4 h6 h8 h9]; done) | (rw [pf6 h2 h4 h6 h8 h10 h11]; done) | (rw [pf0 h2 h4 h6 h8 h10 (by omega)]; done)
    · try simp at h4
      refine hw_reg ?_
      refine dp rfl (pop_fieldAddr ty55 rfl ty9 (by decide) rfl) ?_
      refine dp rfl (pop_load ty9 rfl rfl rfl) ?_
      refine dp rfl (pop_fieldAddr ty55 rfl ty9 (by decide) rfl) ?_
      refine dp rfl (pop_load ty9 rfl rfl rfl) ?_
      refine dp rfl (pop_neqs rfl rfl) ?_
      refine dp rfl (pop_assign rfl) ?_
      refine dn ?_
      refine hw_cond rfl (fun h5 => ?_) (fun h6 => ?_)
      · try simp at h5
        refine hw_reg ?_
        refine dp rfl (pop_assign rfl) ?_
        refine dn ?_
        refine hw_ret ?_
        refine ret_p rfl ?_
        show HVal.int .i64 _ = _
        first | (rw [pf1 h1]; done) | (rw [pf2 h2 h3]; done) | (rw [pf3 h2 h4 h5]; done) | (rw [pf4 h2 h4 h6 h7]; done) | (rw [pf5 h2 h4 h6 h8 h9]; done) | (rw [pf6 h2 h4 h6 h8 h10 h11]; done) | (rw [pf0 h2 h4 h6 h8 h10 (by omega)]; done)
      · try simp at h6
        refine hw_draw (fun _ => True) [] mixed ?_
        refine ahp 0 rfl rfl (by kernel_rfl) (by kernel_rfl) (pop_move rfl) ?_
        refine ahp 1 rfl rfl (by kernel_rfl) (by kernel_rfl) ((by first | exact pop_nilCheck rfl | exact pop_nilCheck_raw rfl)) ?_
        refine ahp 2 rfl rfl (by kernel_rfl) (by kernel_rfl) (pop_fieldAddr ty113 rfl ty106 (by decide) rfl) ?_
        refine ahp 3 rfl rfl (by kernel_rfl) (by kernel_rfl) (pop_load ty106 rfl rfl rfl) ?_
        refine ahp 4 rfl rfl (by kernel_rfl) (by kernel_rfl) (pop_fieldAddr ty55 rfl ty9 (by decide) rfl) ?_
        refine ahp 5 rfl rfl (by kernel_rfl) (by kernel_rfl) (pop_load ty9 rfl rfl rfl) ?_
        refine ahp 6 rfl rfl (by kernel_rfl) (by kernel_rfl) (pop_call ca59 rfl (WeakL.refl _) (c_draft_has (by first | assumption | omega | (simp; omega) | simp_all) (by first | assumption | omega | (simp; omega) | simp_all))) ?_
        refine ahp 7 rfl rfl (by kernel_rfl) (by kernel_rfl) (pop_not rfl) ?_
        refine ahp 8 rfl rfl (by kernel_rfl) (by kernel_rfl) (pop_assign rfl) ?_
        refine ahz (by kernel_rfl) ?_
        refine hw_cond rfl (fun h7 => ?_) (fun h8 => ?_)
        · try simp at h7
          refine hw_reg ?_
          refine dp rfl (pop_assign rfl) ?_
          refine dn ?_
          refine hw_ret ?_
          refine ret_p rfl ?_
          show HVal.int .i64 _ = _
          first | (rw [pf1 h1]; done) | (rw [pf2 h2 h3]; done) | (rw [pf3 h2 h4 h5]; done) | (rw [pf4 h2 h4 h6 h7]; done) | (rw [pf5 h2 h4 h6 h8 h9]; done) | (rw [pf6 h2 h4 h6 h8 h10 h11]; done) | (rw [pf0 h2 h4 h6 h8 h10 (by omega)]; done)
        · try simp at h8
          refine hw_draw (fun _ => True) [] mixed ?_
          refine ahp 0 rfl rfl (by kernel_rfl) (by kernel_rfl) (pop_move rfl) ?_
          refine ahp 1 rfl rfl (by kernel_rfl) (by kernel_rfl) ((by first | exact pop_nilCheck rfl | exact pop_nilCheck_raw rfl)) ?_
          refine ahp 2 rfl rfl (by kernel_rfl) (by kernel_rfl) (pop_fieldAddr ty113 rfl ty104 (by decide) rfl) ?_
          refine ahp 3 rfl rfl (by kernel_rfl) (by kernel_rfl) (pop_load ty104 rfl rfl rfl) ?_
          refine ahp 4 rfl rfl (by kernel_rfl) (by kernel_rfl) (pop_fieldAddr ty55 rfl ty9 (by decide) rfl) ?_
          refine ahp 5 rfl rfl (by kernel_rfl) (by kernel_rfl) (pop_load ty9 rfl rfl rfl) ?_
          refine ahp 6 rfl rfl (by kernel_rfl) (by kernel_rfl) (pop_eq (pop_lookup_h ty104 ty9 ty4 rfl rfl) (congrArg HVal.bool (ok.gone p.Player h8))) ?_
          refine ahp 7 rfl rfl (by kernel_rfl) (by kernel_rfl) (pop_assign rfl) ?_
          refine ahz (by kernel_rfl) ?_
          refine hw_cond rfl (fun h9 => ?_) (fun h10 => ?_)
          · try simp at h9
            refine hw_reg ?_
            refine dp rfl (pop_assign rfl) ?_
            refine dn ?_
            refine hw_ret ?_
            refine ret_p rfl ?_
            show HVal.int .i64 _ = _
            first | (rw [pf1 h1]; done) | (rw [pf2 h2 h3]; done) | (rw [pf3 h2 h4 h5]; done) | (rw [pf4 h2 h4 h6 h7]; done) | (rw [pf5 h2 h4 h6 h8 h9]; done) | (rw [pf6 h2 h4 h6 h8 h10 h11]; done) | (rw [pf0 h2 h4 h6 h8 h10 (by omega)]; done)
          · try simp at h10
            refine hw_draw (fun _ => True) [] mixed ?_
            refine ahp 0 rfl rfl (by kernel_rfl) (by kernel_rfl) (pop_fieldAddr ty55 rfl ty3 (by decide) rfl) ?_
            refine ahp 1 rfl rfl (by kernel_rfl) (by kernel_rfl) (pop_load ty3 rfl rfl rfl) ?_
            refine ahp 2 rfl rfl (by kernel_rfl) (by kernel_rfl) (pop_move rfl) ?_
            refine ahp 3 rfl rfl (by kernel_rfl) (by kernel_rfl) (pop_call ca64 rfl (WeakL.refl _) (c_draft_run_last (by first | assumption | omega | (simp; omega) | simp_all))) ?_
            refine ahp 4 rfl rfl (by kernel_rfl) (by kernel_rfl) (pop_lss rfl rfl) ?_
            refine ahp 5 rfl rfl (by kernel_rfl) (by kernel_rfl) (pop_assign rfl) ?_
            refine ahz (by kernel_rfl) ?_
            refine hw_cond rfl (fun h11 => ?_) (fun h12 => ?_)
            · try simp at h11
              refine hw_reg ?_
              refine dp rfl (pop_assign rfl) ?_
              refine dn ?_
              refine hw_ret ?_
              refine ret_p rfl ?_
              show HVal.int .i64 _ = _
              first | (rw [pf1 h1]; done) | (rw [pf2 h2 h3]; done) | (rw [pf3 h2 h4 h5]; done) | (rw [pf4 h2 h4 h6 h7]; done) | (rw [pf5 h2 h4 h6 h8 h9]; done) | (rw [pf6 h2 h4 h6 h8 h10 h11]; done) | (rw [pf0 h2 h4 h6 h8 h10 (by omega)]; done)
            · try simp at h12
              refine hw_skip ?_
              refine blockQ_n ?_
              refine seqQ_n ?_
              refine hw_reg ?_
              refine dp rfl (pop_assign rfl) ?_
              refine dn ?_
              refine hw_ret ?_
              refine ret_p rfl ?_
              show HVal.int .i64 _ = _
              first | (rw [pf1 h1]; done) | (rw [pf2 h2 h3]; done) | (rw [pf3 h2 h4 h5]; done) | (rw [pf4 h2 h4 h6 h7]; done) | (rw [pf5 h2 h4 h6 h8 h9]; done) | (rw [pf6 h2 h4 h6 h8 h10 h11]; done) | (rw [pf0 h2 h4 h6 h8 h10 (by omega)]; done)

/-- (*benchwarmer/draft.run).wish$1 -/
theorem c_draft_run_wish_1 {r : Room} {A T l : List Pick} {S : List Str} {p : Str} {g : Str → Bool} (hS : ∀ x, S.contains x = g x) : ConP Tryz.prog 103 [.str p, .vptr [.vptr (RunH r A T l S) 0] 0] (.bool (!(g p))) := by
  refine Con.of_body Tryz.func103 rfl Tryz.ntmps103 rfl rfl ?_
  refine hw_reg ?_
  refine dp rfl (pop_assign rfl) ?_
  refine dn ?_
  refine hw_reg ?_
  refine dp rfl (pop_load ty107 rfl rfl rfl) ?_
  refine dp rfl ((by first | exact pop_nilCheck rfl | exact pop_nilCheck_raw rfl)) ?_
  refine dp rfl (pop_fieldAddr ty113 rfl ty104 (by decide) rfl) ?_
  refine dp rfl (pop_load ty104 rfl rfl rfl) ?_
  refine dp rfl (pop_move rfl) ?_
  refine dp rfl (pop_eq (pop_lookup_h ty104 ty9 ty4 rfl rfl) (congrArg HVal.bool (hS p))) ?_
  refine dp rfl (pop_not rfl) ?_
  refine dp rfl (pop_assign rfl) ?_
  refine dn ?_
  refine hw_ret ?_
  refine ret_p rfl ?_
  rfl

/-- (*benchwarmer/draft.run).wish -/
theorem c_draft_run_wish {r : Room} {A T l : List Pick} {S : List Str} {w : List Wish} {team : Str} {g : Str → Bool} (hw : w.length ≤ 1000000) (hwp : ∀ y ∈ w, y.Players.length ≤ 1000000) (hpl : r.Players.length ≤ 1000000) (hf : ∃ s ∈ r.Players, g s = false) (hS : ∀ x, S.contains x = g x) : ConP Tryz.prog 66 [.vptr (RunH r A T l S) 0, eWishes w, .str team] (.str (wishOf r g w team)) := by
  refine Con.of_body Tryz.func66 rfl Tryz.ntmps66 rfl rfl ?_
  refine hw_reg ?_
  refine dp rfl (pop_box rfl rfl) ?_
  refine dp rfl (pop_assign rfl) ?_
  refine dn ?_
  refine hw_reg ?_
  refine dp rfl (pop_makeFunc rfl rfl) ?_
  refine dp rfl (pop_assign rfl) ?_
  refine dn ?_
  refine hw_seq ?_
  refine hw_reg ?_
  refine dp rfl (pop_move rfl) ?_
  refine dp rfl (pop_lenm ty34 rfl) ?_
  refine dp rfl (pop_move rfl) ?_
  refine dn ?_
  refine hw_block ?_
  refine hw_loopw [6, 9, 10, 14, 15, 16, 17, 18, 19, 20, 21, 22, 23, 24, 25, 26, 27, 28, 29, 30, 31, 32, 33] (fun (k : Nat) => [(14, .int .i64 k)]) (fun (k : Nat) => []) (fun (k : Nat) => k ≤ w.length ∧ (wishGo g team w = wishGo g team (w.drop k))) (fun (k : Nat) => w.length - k) (0) ?_ ?_ ?_ ?_
  · exact ⟨Nat.zero_le _, rfl⟩
  · exact ⟨rfl, trivial⟩
  · exact List.Perm.refl _
  · intro k hinv
    obtain ⟨hk, hg⟩ := hinv
    refine hw_reg ?_
    refine dp rfl (pop_lss rfl rfl) ?_
    refine dn ?_
    refine hw_seq ?_
    refine hw_cond rfl (fun h1 => ?_) (fun h2 => ?_)
    · try simp at h1
      obtain ⟨y, hy⟩ : ∃ y, w[k]? = some y := ⟨_, List.getElem?_eq_getElem h1⟩
      have hdy := drop_cons hy
      rw [hdy] at hg
      refine hw_skip ?_
      refine seqQ_n ?_
      refine hw_seq ?_
      refine hw_block ?_
      refine hw_reg ?_
      refine dp rfl (pop_idx ty34 ty78 rfl rfl rfl (by first | assumption | simp_all)) ?_
      refine dp rfl (pop_loadw ty78 rfl rfl rfl rfl) ?_
      refine de rfl (eop_alloc ty78 rfl fun b9 => ?_)
      refine de0 (eop_storew ty78 rfl rfl rfl rfl rfl ?_)
      refine dn ?_
      refine hw_ghost (Ghost.fc0 9 rfl) ?_
      refine hw_seq ?_
      refine hw_reg ?_
      refine dp rfl (pop_fieldAddr ty78 rfl ty9 (by decide) rfl) ?_
      refine dp rfl (pop_load ty9 rfl rfl rfl) ?_
      refine dp rfl (pop_move rfl) ?_
      refine dp rfl (pop_neqs rfl rfl) ?_
      refine dn ?_
      refine hw_cond rfl (fun h3 => ?_) (fun h4 => ?_)
      · try simp at h3
        refine hw_exit ?_
        refine seqQ_x ?_
        refine blockQ_eq ?_
        refine seqQ_n ?_
        refine hw_reg1 ?_
        refine dp rfl (pop_add64 rfl rfl (by omega) (by omega)) ?_
        refine dp rfl (pop_move rfl) ?_
        refine dn ?_
        refine ⟨k + 1, ?_, ?_, ⟨rfl, trivial⟩, (by repeat (first | exact keeps_refl | refine keeps_upd rfl ?_ | refine keeps_loop rfl rfl ?_)), List.Perm.refl _⟩
        · refine ⟨by omega, ?_⟩
          first | (rw [hg, wish_3 h3]; done) | (rw [hg, wish_2 h4 (idxF_miss h6)])
        · dsimp only; omega
      · try simp at h4
        refine hw_skip ?_
        refine seqQ_n ?_
        refine hw_reg ?_
        refine dp rfl (pop_fieldAddr ty78 rfl ty26 (by decide) rfl) ?_
        refine dp rfl (pop_load ty26 rfl rfl rfl) ?_
        refine dp rfl (pop_move rfl) ?_
        refine dp rfl (pop_call ca104 rfl (WeakL.refl _) (c_slices_IndexFunc_string_string (p := fun s => !(g s)) ca103 (fun _ => c_draft_run_wish_1 hS) (by first | exact hpl | exact hwp y (List.mem_of_getElem? hy)))) ?_
        refine dp rfl (pop_assign rfl) ?_
        refine dn ?_
        refine hw_reg ?_
        refine dp rfl (pop_move rfl) ?_
        refine dp rfl (pop_geq rfl rfl) ?_
        refine dn ?_
        refine hw_cond rfl (fun h5 => ?_) (fun h6 => ?_)
        · try simp at h5
          obtain ⟨i, z, hi, hz, hfz⟩ := idxF_find h5
          refine hw_reg ?_
          refine dp rfl (pop_fieldAddr ty78 rfl ty26 (by decide) rfl) ?_
          refine dp rfl (pop_load ty26 rfl rfl rfl) ?_
          refine dp rfl (pop_move rfl) ?_
          refine dp rfl (pop_idx (j := i) (a := z) ty26 ty9 rfl rfl hi hz) ?_
          refine dp rfl (pop_load ty9 rfl rfl rfl) ?_
          refine dp rfl (pop_assign rfl) ?_
          refine dn ?_
          refine hw_ret ?_
          refine ret_p rfl ?_
          show HVal.str _ = _
          first | (rw [wishOf, hg, wish_1 h4 hfz]; done) | (rw [wishOf, hg]; simp only [wishGo]; rw [hfz]; rfl)
        · try simp at h6
          refine hw_skip ?_
          refine blockQ_n ?_
          refine seqQ_n ?_
          refine hw_reg1 ?_
          refine dp rfl (pop_add64 rfl rfl (by omega) (by omega)) ?_
          refine dp rfl (pop_move rfl) ?_
          refine dn ?_
          refine ⟨k + 1, ?_, ?_, ⟨rfl, trivial⟩, (by repeat (first | exact keeps_refl | refine keeps_upd rfl ?_ | refine keeps_loop rfl rfl ?_)), List.Perm.refl _⟩
          · refine ⟨by omega, ?_⟩
            first | (rw [hg, wish_3 h3]; done) | (rw [hg, wish_2 h4 (idxF_miss h6)])
          · dsimp only; omega
    · try simp at h2
      have hnk : w.length ≤ k := by omega
      obtain rfl : k = w.length := by omega
      rw [drop_all (Nat.le_refl _)] at hg
      refine hw_exit ?_
      refine seqQ_x ?_
      refine loopQ_x ?_
      refine blockQ_eq ?_
      refine seqQ_n ?_
      obtain ⟨s0, hs0, hs1⟩ := hf
      obtain ⟨i, z, hi, hz, hfz⟩ := idxF_find (p := fun s => !(g s)) (l := r.Players) (idxF_pos ⟨s0, hs0, by rw [hs1]; rfl⟩)
      refine hw_draw (fun _ => True) [] mixed ?_
      refine ahp 0 rfl rfl (by kernel_rfl) (by kernel_rfl) (pop_load ty107 rfl rfl rfl) ?_
      refine ahp 1 rfl rfl (by kernel_rfl) (by kernel_rfl) ((by first | exact pop_nilCheck rfl | exact pop_nilCheck_raw rfl)) ?_
      refine ahp 2 rfl rfl (by kernel_rfl) (by kernel_rfl) (pop_fieldAddr ty113 rfl ty106 (by decide) rfl) ?_
      refine ahp 3 rfl rfl (by kernel_rfl) (by kernel_rfl) (pop_load ty106 rfl rfl rfl) ?_
      refine ahp 4 rfl rfl (by kernel_rfl) (by kernel_rfl) ((by first | exact pop_nilCheck rfl | exact pop_nilCheck_raw rfl)) ?_
      refine ahp 5 rfl rfl (by kernel_rfl) (by kernel_rfl) (pop_fieldAddr ty28 rfl ty26 (by decide) rfl) ?_
      refine ahp 6 rfl rfl (by kernel_rfl) (by kernel_rfl) (pop_load ty26 rfl rfl rfl) ?_
      refine ahp 7 rfl rfl (by kernel_rfl) (by kernel_rfl) (pop_load ty107 rfl rfl rfl) ?_
      refine ahp 8 rfl rfl (by kernel_rfl) (by kernel_rfl) ((by first | exact pop_nilCheck rfl | exact pop_nilCheck_raw rfl)) ?_
      refine ahp 9 rfl rfl (by kernel_rfl) (by kernel_rfl) (pop_fieldAddr ty113 rfl ty106 (by decide) rfl) ?_
      refine ahp 10 rfl rfl (by kernel_rfl) (by kernel_rfl) (pop_load ty106 rfl rfl rfl) ?_
      refine ahp 11 rfl rfl (by kernel_rfl) (by kernel_rfl) ((by first | exact pop_nilCheck rfl | exact pop_nilCheck_raw rfl)) ?_
      refine ahp 12 rfl rfl (by kernel_rfl) (by kernel_rfl) (pop_fieldAddr ty28 rfl ty26 (by decide) rfl) ?_
      refine ahp 13 rfl rfl (by kernel_rfl) (by kernel_rfl) (pop_load ty26 rfl rfl rfl) ?_
      refine ahp 14 rfl rfl (by kernel_rfl) (by kernel_rfl) (pop_move rfl) ?_
      refine ahp 15 rfl rfl (by kernel_rfl) (by kernel_rfl) (pop_call ca104 rfl (WeakL.refl _) (c_slices_IndexFunc_string_string (p := fun s => !(g s)) ca103 (fun _ => c_draft_run_wish_1 hS) (by first | exact hpl | exact hwp y (List.mem_of_getElem? hy)))) ?_
      refine ahp 16 rfl rfl (by kernel_rfl) (by kernel_rfl) (pop_idx (j := i) (a := z) ty26 ty9 rfl rfl hi hz) ?_
      refine ahp 17 rfl rfl (by kernel_rfl) (by kernel_rfl) (pop_load ty9 rfl rfl rfl) ?_
      refine ahp 18 rfl rfl (by kernel_rfl) (by kernel_rfl) (pop_assign rfl) ?_
      refine ahz (by kernel_rfl) ?_
      refine hw_ret ?_
      refine ret_p rfl ?_
      show HVal.str _ = _
      first | (rw [wishOf, hg, wish_1 h4 hfz]; done) | (rw [wishOf, hg]; simp only [wishGo]; rw [hfz]; rfl)

/-- (*benchwarmer/draft.run).due -/
theorem c_draft_run_due {r : Room} {A T l : List Pick} {S : List Str}  (hl : l.length ≤ 1000000) (hm : moment (lastAt r l) = true) (hc : r.Clock ≤ 86400000) (hc0 : 0 ≤ r.Clock) : ConP Tryz.prog 62 [.vptr (RunH r A T l S) 0] (.tup [.int .i64 (dueI r T l), .bool (dueD r T l)]) := by
  have hmb := out_f (n := lastAt r l) (lo := 0) (hi := 345686399999) (by simpa [moment] using hm)
  refine Con.of_body Tryz.func62 rfl Tryz.ntmps62 rfl rfl ?_
  refine hw_reg ?_
  refine dp rfl (pop_assign rfl) ?_
  refine dp rfl (pop_assign rfl) ?_
  refine dn ?_
  refine hw_draw (fun _ => True) [] mixed ?_
  refine ahp 0 rfl rfl (by kernel_rfl) (by kernel_rfl) (pop_move rfl) ?_
  refine ahp 1 rfl rfl (by kernel_rfl) (by kernel_rfl) (pop_call ca64 rfl (WeakL.refl _) (c_draft_run_last (by first | assumption | omega | (simp; omega) | simp_all))) ?_
  refine ahp 2 rfl rfl (by kernel_rfl) (by kernel_rfl) (pop_move rfl) ?_
  refine ahp 3 rfl rfl (by kernel_rfl) (by kernel_rfl) ((by first | exact pop_nilCheck rfl | exact pop_nilCheck_raw rfl)) ?_
  refine ahp 4 rfl rfl (by kernel_rfl) (by kernel_rfl) (pop_fieldAddr ty113 rfl ty106 (by decide) rfl) ?_
  refine ahp 5 rfl rfl (by kernel_rfl) (by kernel_rfl) (pop_load ty106 rfl rfl rfl) ?_
  refine ahp 6 rfl rfl (by kernel_rfl) (by kernel_rfl) ((by first | exact pop_nilCheck rfl | exact pop_nilCheck_raw rfl)) ?_
  refine ahp 7 rfl rfl (by kernel_rfl) (by kernel_rfl) (pop_fieldAddr ty28 rfl ty3 (by decide) rfl) ?_
  refine ahp 8 rfl rfl (by kernel_rfl) (by kernel_rfl) (pop_load ty3 rfl rfl rfl) ?_
  refine ahp 9 rfl rfl (by kernel_rfl) (by kernel_rfl) (pop_add64 rfl rfl (by omega) (by omega)) ?_
  refine ahp 10 rfl rfl (by kernel_rfl) (by kernel_rfl) (pop_assign rfl) ?_
  refine ahz (by kernel_rfl) ?_
  refine hw_seq ?_
  refine hw_reg ?_
  refine dp rfl (pop_move rfl) ?_
  refine dp rfl ((by first | exact pop_nilCheck rfl | exact pop_nilCheck_raw rfl)) ?_
  refine dp rfl (pop_fieldAddr ty113 rfl ty36 (by decide) rfl) ?_
  refine dp rfl (pop_load ty36 rfl rfl rfl) ?_
  refine dp rfl (pop_lenm ty36 rfl) ?_
  refine dp rfl (pop_eql rfl rfl) ?_
  refine dp rfl (pop_move rfl) ?_
  refine dg rfl rfl (fun hc => ⟨_, OpenTo.refl _, pop_move rfl⟩) ?_
  refine dg rfl rfl (fun hc => ⟨_, OpenTo.upd (t := 22) rfl (by first | exact hc | simp_all) (OpenTo.refl _), pop_call ca61 rfl (WeakL.refl _) c_base_Moment⟩) ?_
  refine dg rfl rfl (fun hc => ⟨_, OpenTo.upd (t := 23) rfl (by first | exact hc | simp_all) (OpenTo.refl _), pop_not rfl⟩) ?_
  refine dp rfl (pop_picko rfl (.inl rfl) (.inr ⟨_, rfl, fun h => by simp_all⟩)) ?_
  refine dn ?_
  refine hw_cond rfl (fun h1 => ?_) (fun h2 => ?_)
  · try simp at h1
    refine hw_reg ?_
    refine dp rfl (pop_assign rfl) ?_
    refine dp rfl (pop_assign rfl) ?_
    refine dn ?_
    refine hw_ret ?_
    refine ret_p rfl ?_
    show HVal.tup _ = _
    first | (rcases h1 with h1 | h1 <;> simp [h1, dueI, dueD, ofVal, ofVal1]; done) | (obtain ⟨h2a, h2b⟩ := h2; simp [h2a, h2b, dueI, dueD, ofVal, ofVal1])
  · try simp at h2
    refine hw_skip ?_
    refine seqQ_n ?_
    refine hw_reg ?_
    refine dp rfl (pop_move rfl) ?_
    refine dp rfl (pop_assign rfl) ?_
    refine dp rfl (pop_assign rfl) ?_
    refine dn ?_
    refine hw_ret ?_
    refine ret_p rfl ?_
    show HVal.tup _ = _
    first | (rcases h1 with h1 | h1 <;> simp [h1, dueI, dueD, ofVal, ofVal1]; done) | (obtain ⟨h2a, h2b⟩ := h2; simp [h2a, h2b, dueI, dueD, ofVal, ofVal1])

/-- (*benchwarmer/draft.run).pick -/
theorem c_draft_run_pick {b m : Nat} {va v : Value} {r : Room} {A T l : List Pick} {S : List Str} {p : Pick} (h0 : 0 < T.length) (hl : l.length ≤ 1000) : Con Tryz.prog 67 [pAt b, ePick p] (RunM b m va v r A T l S) (fun x M' => ∃ v', x = .tup [] ∧ M' = RunM b m va v' r A (T.drop 1) (l ++ [p]) (sadd p.Player S)) := by
  refine Con.of_body Tryz.func67 rfl Tryz.ntmps67 rfl rfl ?_
  refine hw_reg ?_
  refine dp rfl (pop_box rfl rfl) ?_
  refine dn ?_
  refine hw_draw (fun M => ∃ i : Nat, M[i]? = some (.cells b [.vptr (hcells (eRoom r)) 0, .raw va, ePicks T, .raw v, .raw (.map (some m))])) [5, 12] mixed ?_
  refine ahp 0 rfl rfl (by kernel_rfl) (by kernel_rfl) (pop_move rfl) ?_
  refine ahp 1 rfl rfl (by kernel_rfl) (by kernel_rfl) (pop_move rfl) ?_
  refine ahp 2 rfl rfl (by kernel_rfl) (by kernel_rfl) (pop_move rfl) ?_
  refine ahp 3 rfl rfl (by kernel_rfl) (by kernel_rfl) ((by first | exact pop_nilCheck rfl | exact pop_nilCheck_raw rfl)) ?_
  refine ahp 4 rfl rfl (by kernel_rfl) (by kernel_rfl) (pop_fieldAddr_raw ty113 rfl ty36 (by decide) rfl) ?_
  refine ahl 5 rfl rfl (by kernel_rfl) (by kernel_rfl) (by simp) (by first | exact ⟨0, rfl⟩ | exact ⟨1, rfl⟩ | exact ⟨2, rfl⟩) (fun M hM => by obtain ⟨i, hi⟩ := hM; exact eop_load (i := i) ty36 rfl hi (.inl ⟨rfl, rfl⟩) ⟨rfl, rfl⟩) ?_
  refine ahp 6 rfl rfl (by kernel_rfl) (by kernel_rfl) (pop_loadw ty55 rfl rfl rfl rfl) ?_
  refine ahp 7 rfl rfl (by kernel_rfl) (by kernel_rfl) (pop_buildSlice (hs := [_]) ty36 ty55 rfl rfl (by decide) (by decide) rfl) ?_
  refine ahp 9 rfl rfl (by kernel_rfl) (by kernel_rfl) (pop_move rfl) ?_
  refine ahp 10 rfl rfl (by kernel_rfl) (by kernel_rfl) ((by first | exact pop_nilCheck rfl | exact pop_nilCheck_raw rfl)) ?_
  refine ahp 11 rfl rfl (by kernel_rfl) (by kernel_rfl) (pop_fieldAddr_raw ty113 rfl ty36 (by decide) rfl) ?_
  refine ahl 12 rfl rfl (by kernel_rfl) (by kernel_rfl) (by simp) (by first | exact ⟨0, rfl⟩ | exact ⟨1, rfl⟩ | exact ⟨2, rfl⟩) (fun M hM => by obtain ⟨i, hi⟩ := hM; exact eop_load (i := i) ty36 rfl hi (.inl ⟨rfl, rfl⟩) ⟨rfl, rfl⟩) ?_
  refine ahp 13 rfl rfl (by kernel_rfl) (by kernel_rfl) (pop_slicem (l := 1) ty36 ty55 rfl ⟨_, _, rfl, rfl⟩ rfl (by omega) (by omega)) ?_
  refine ahe 8 rfl (by kernel_rfl) ?_
  first
  | refine hop_e rfl (eop_append (i := 0) ty36 ty55 rfl rfl rfl rfl rfl (by simp [flat, hcells]) (by first | omega | (simp; omega)) fun v12 => ?_)
  | refine hop_e rfl (eop_append (i := 1) ty36 ty55 rfl rfl rfl rfl rfl (by simp [flat, hcells]) (by first | omega | (simp; omega)) fun v12 => ?_)
  | refine hop_e rfl (eop_append (i := 2) ty36 ty55 rfl rfl rfl rfl rfl (by simp [flat, hcells]) (by first | omega | (simp; omega)) fun v12 => ?_)
  | refine hop_e rfl (eop_append (i := 3) ty36 ty55 rfl rfl rfl rfl rfl (by simp [flat, hcells]) (by first | omega | (simp; omega)) fun v12 => ?_)
  refine ⟨fun _ => by first | exact .inl ⟨0, rfl⟩ | exact .inl ⟨1, rfl⟩ | exact .inl ⟨2, rfl⟩ | exact .inr (by simp [Before, Region.binds]), ?_⟩
  refine ahp 14 rfl rfl (by kernel_rfl) (by kernel_rfl) ((by first | exact pop_nilCheck rfl | exact pop_nilCheck_raw rfl)) ?_
  refine ahp 15 rfl rfl (by kernel_rfl) (by kernel_rfl) (pop_fieldAddr_raw ty113 rfl ty36 (by decide) rfl) ?_
  refine ahe 16 rfl (by kernel_rfl) ?_
  first
  | refine hop_e0 (eop_store (i := 0) ty36 rfl rfl rfl rfl rfl (Nat.le_of_ble_eq_true rfl) ?_)
  | refine hop_e0 (eop_store (i := 1) ty36 rfl rfl rfl rfl rfl (Nat.le_of_ble_eq_true rfl) ?_)
  | refine hop_e0 (eop_store (i := 2) ty36 rfl rfl rfl rfl rfl (Nat.le_of_ble_eq_true rfl) ?_)
  | refine hop_e0 (eop_store (i := 3) ty36 rfl rfl rfl rfl rfl (Nat.le_of_ble_eq_true rfl) ?_)
  refine ⟨fun _ => by first | exact .inl ⟨0, rfl⟩ | exact .inl ⟨1, rfl⟩ | exact .inl ⟨2, rfl⟩ | exact .inr (by simp [Before, Region.binds]), ?_⟩
  refine ahp 17 rfl rfl (by kernel_rfl) (by kernel_rfl) ((by first | exact pop_nilCheck rfl | exact pop_nilCheck_raw rfl)) ?_
  refine ahp 18 rfl rfl (by kernel_rfl) (by kernel_rfl) (pop_fieldAddr_raw ty113 rfl ty36 (by decide) rfl) ?_
  refine ahe 19 rfl (by kernel_rfl) ?_
  first
  | refine hop_e0 (eop_store (i := 0) ty36 rfl rfl rfl rfl rfl (Nat.le_of_ble_eq_true rfl) ?_)
  | refine hop_e0 (eop_store (i := 1) ty36 rfl rfl rfl rfl rfl (Nat.le_of_ble_eq_true rfl) ?_)
  | refine hop_e0 (eop_store (i := 2) ty36 rfl rfl rfl rfl rfl (Nat.le_of_ble_eq_true rfl) ?_)
  | refine hop_e0 (eop_store (i := 3) ty36 rfl rfl rfl rfl rfl (Nat.le_of_ble_eq_true rfl) ?_)
  refine ⟨fun _ => by first | exact .inl ⟨0, rfl⟩ | exact .inl ⟨1, rfl⟩ | exact .inl ⟨2, rfl⟩ | exact .inr (by simp [Before, Region.binds]), ?_⟩
  refine ahz (by kernel_rfl) ?_
  refine hw_ghost (Ghost.perm (M' := RunM b m va v12 r A (T.drop 1) (l ++ [p]) S) (perm_eq (by first | (simp [setL, hcells]; done) | rfl))) ?_
  refine hw_draw1 (fun _ => True) [] mixed ?_
  refine ahp 0 rfl rfl (by kernel_rfl) (by kernel_rfl) (pop_move rfl) ?_
  refine ahp 1 rfl rfl (by kernel_rfl) (by kernel_rfl) ((by first | exact pop_nilCheck rfl | exact pop_nilCheck_raw rfl)) ?_
  refine ahp 2 rfl rfl (by kernel_rfl) (by kernel_rfl) (pop_fieldAddr_raw ty113 rfl ty104 (by decide) rfl) ?_
  refine ahp 4 rfl rfl (by kernel_rfl) (by kernel_rfl) ((by first | exact pop_fieldAddr ty55 rfl ty9 (by decide) rfl | exact pop_fieldAddr_raw ty55 rfl ty9 (by decide) rfl)) ?_
  refine ahp 5 rfl rfl (by kernel_rfl) (by kernel_rfl) (pop_load ty9 rfl rfl rfl) ?_
  refine ahe 3 rfl (by kernel_rfl) ?_
  first
  | refine hop_e rfl (eop_load (i := 0) ty104 rfl rfl (.inl ⟨rfl, rfl⟩) ?_)
  | refine hop_e rfl (eop_load (i := 1) ty104 rfl rfl (.inl ⟨rfl, rfl⟩) ?_)
  | refine hop_e rfl (eop_load (i := 2) ty104 rfl rfl (.inl ⟨rfl, rfl⟩) ?_)
  | refine hop_e rfl (eop_load (i := 3) ty104 rfl rfl (.inl ⟨rfl, rfl⟩) ?_)
  refine ⟨fun _ => .inl trivial, ?_⟩
  refine ahe 6 rfl (by kernel_rfl) ?_
  first
  | refine hop_e0 (eop_update_set (i := 0) ty104 ty9 rfl rfl rfl rfl ?_)
  | refine hop_e0 (eop_update_set (i := 1) ty104 ty9 rfl rfl rfl rfl ?_)
  | refine hop_e0 (eop_update_set (i := 2) ty104 ty9 rfl rfl rfl rfl ?_)
  | refine hop_e0 (eop_update_set (i := 3) ty104 ty9 rfl rfl rfl rfl ?_)
  refine ⟨fun _ => .inl trivial, ?_⟩
  refine ahz (by kernel_rfl) ?_
  exact ret_q rfl ⟨v12, rfl, rfl⟩

/-- benchwarmer/draft.open -/
theorem c_draft_open_a {r : Room} {l : List Keep} {s : List Swap} (ht : r.Teams.length ≤ 20) (hr0 : 1 ≤ r.Rounds) (hr : r.Rounds ≤ 30) (hk0 : l.length ≤ 1000000) (hl : s.length ≤ 1000000) (hlen : (turns r s).length ≤ 600) : ConA Tryz.prog 102 [.vptr (hcells (eRoom r)) 0, eKeeps l, eSwaps s] 5 ((open1 r l s).map ePick) := by
  refine Con.of_body Tryz.func102 rfl Tryz.ntmps102 rfl rfl ?_
  refine hw_reg ?_
  refine dp rfl (pop_assign rfl) ?_
  refine dn ?_
  refine hw_reg ?_
  refine dp rfl (pop_assign rfl) ?_
  refine dn ?_
  refine hw_ghost (Ghost.arr_nil 5) ?_
  refine hw_seq ?_
  refine hw_reg ?_
  refine dp rfl (pop_move rfl) ?_
  refine dp rfl (pop_move rfl) ?_
  refine dp rfl (pop_call ca106 rfl (WeakL.refl _) (c_draft_turns (by first | assumption | omega | (simp; omega) | simp_all) (by first | assumption | omega | (simp; omega) | simp_all) (by first | assumption | omega | (simp; omega) | simp_all) (by first | assumption | omega | (simp; omega) | simp_all))) ?_
  refine dp rfl (pop_lenm ty147 rfl) ?_
  refine dp rfl (pop_move rfl) ?_
  refine dn ?_
  refine hw_block ?_
  refine hw_loopw2 [7, 8, 9, 10, 12, 17, 18, 19, 20, 21, 22, 23, 24, 25, 26, 27, 28, 29, 30, 31, 32, 33, 34, 35, 36, 37, 38, 39, 40, 41, 42, 43, 44, 45, 46, 47, 48, 49, 50, 51, 52, 53, 54, 55, 56, 57] (fun (i : Nat) (u : Value) => [(17, .int .i64 i), (7, .raw u)]) (fun (i : Nat) (u : Value) => [.arr u 5 ((openFrom r l 0 ((turns r s).take i)).map ePick)]) (fun (i : Nat) (u : Value) => i ≤ (turns r s).length ∧ (True)) (fun (i : Nat) (u : Value) => (turns r s).length - i) (0) (.slice none 0 0) ?_ ?_ ?_ ?_
  · exact ⟨Nat.zero_le _, by simp_all⟩
  · exact ⟨rfl, rfl, trivial⟩
  · exact perm_eq (by simp [openFrom])
  · intro i u hinv
    obtain ⟨hi, -⟩ := hinv
    refine hw_reg ?_
    refine dp rfl (pop_lss rfl rfl) ?_
    refine dn ?_
    refine hw_seq ?_
    refine hw_cond rfl (fun h1 => ?_) (fun h2 => ?_)
    · try simp at h1
      obtain ⟨t, ht⟩ : ∃ t, (turns r s)[i]? = some t := ⟨_, List.getElem?_eq_getElem h1⟩
      have hdt := drop_cons ht
      refine hw_skip ?_
      refine seqQ_n ?_
      refine hw_seq ?_
      refine hw_block ?_
      refine hw_reg ?_
      refine dp rfl (pop_move rfl) ?_
      refine dp rfl (pop_idx ty147 ty150 rfl rfl rfl (by first | assumption | simp_all)) ?_
      refine dp rfl (pop_loadw ty150 rfl rfl rfl rfl) ?_
      refine de rfl (eop_alloc ty150 rfl fun b9 => ?_)
      refine dp rfl (pop_assign rfl) ?_
      refine de0 (eop_storew ty150 rfl rfl rfl rfl rfl ?_)
      refine dn ?_
      refine hw_ghost (Ghost.fc0 9 rfl) ?_
      refine hw_reg ?_
      refine dp rfl (pop_move rfl) ?_
      refine dp rfl (pop_fieldAddr ty150 rfl ty9 (by decide) rfl) ?_
      refine dp rfl (pop_load ty9 rfl rfl rfl) ?_
      refine dp rfl (pop_build (cs := [_, _, _, _, _]) ty55 pl55 rfl) ?_
      refine de rfl (eop_alloc ty55 rfl fun b10 => ?_)
      refine de0 (eop_storew ty55 rfl rfl rfl rfl rfl ?_)
      refine dn ?_
      refine hw_seq ?_
      refine hw_reg ?_
      refine dp rfl (pop_move rfl) ?_
      refine dp rfl (pop_lenm ty30 rfl) ?_
      refine dp rfl (pop_move rfl) ?_
      refine dn ?_
      refine hw_block ?_
      refine hw_loopw2 [12, 28, 29, 30, 31, 32, 33, 34, 35, 36, 37, 38, 39, 40, 41, 42, 43, 44, 45, 46, 47, 48, 49, 50, 51, 52] (fun (k : Nat) (p : Pick) => [(28, .int .i64 k)]) (fun (k : Nat) (p : Pick) => [.cells b10 (hcells (ePick p)), .arr u 5 ((openFrom r l 0 ((turns r s).take i)).map ePick)]) (fun (k : Nat) (p : Pick) => k ≤ l.length ∧ (p = keepIn r t ⟨i, t.team, [], 0, false⟩ (l.take k))) (fun (k : Nat) (p : Pick) => l.length - k) (0) (⟨i, t.team, [], 0, false⟩) ?_ ?_ ?_ ?_
      · exact ⟨Nat.zero_le _, by simp [keepIn]⟩
      · exact ⟨rfl, trivial⟩
      · exact List.Perm.refl _
      · intro k p hinv
        obtain ⟨hk, hp⟩ := hinv
        refine hw_reg ?_
        refine dp rfl (pop_lss rfl rfl) ?_
        refine dn ?_
        refine hw_seq ?_
        refine hw_cond rfl (fun h3 => ?_) (fun h4 => ?_)
        · try simp at h3
          obtain ⟨x, hx⟩ : ∃ x, l[k]? = some x := ⟨_, List.getElem?_eq_getElem h3⟩
          have hdx := drop_cons hx
          refine hw_skip ?_
          refine seqQ_n ?_
          refine hw_seq ?_
          refine hw_block ?_
          refine hw_reg ?_
          refine dp rfl (pop_idx ty30 ty88 rfl rfl rfl (by first | assumption | simp_all)) ?_
          refine dp rfl (pop_loadw ty88 rfl rfl rfl rfl) ?_
          refine de rfl (eop_alloc ty88 rfl fun b12 => ?_)
          refine de0 (eop_storew ty88 rfl rfl rfl rfl rfl ?_)
          refine dn ?_
          refine hw_ghost (Ghost.fc0 12 rfl) ?_
          refine hw_reg ?_
          refine dp rfl (pop_fieldAddr ty88 rfl ty9 (by decide) rfl) ?_
          refine dp rfl (pop_load ty9 rfl rfl rfl) ?_
          refine dp rfl (pop_fieldAddr ty150 rfl ty9 (by decide) rfl) ?_
          refine dp rfl (pop_load ty9 rfl rfl rfl) ?_
          refine dp rfl (pop_eqls rfl rfl) ?_
          refine dp rfl (pop_move rfl) ?_
          refine dg rfl rfl (fun hc => ⟨_, OpenTo.refl _, pop_fieldAddr ty88 rfl ty3 (by decide) rfl⟩) ?_
          refine dg rfl rfl (fun hc => ⟨_, OpenTo.upd (t := 38) rfl (by first | exact hc | simp_all) (OpenTo.refl _), pop_load ty3 rfl rfl rfl⟩) ?_
          refine dg rfl rfl (fun hc => ⟨_, OpenTo.refl _, pop_fieldAddr ty150 rfl ty3 (by decide) rfl⟩) ?_
          refine dg rfl rfl (fun hc => ⟨_, OpenTo.upd (t := 40) rfl (by first | exact hc | simp_all) (OpenTo.refl _), pop_load ty3 rfl rfl rfl⟩) ?_
          refine dg rfl rfl (fun hc => ⟨_, OpenTo.upd (t := 41) rfl (by first | exact hc | simp_all) (OpenTo.upd (t := 39) rfl (by first | exact hc | simp_all) (OpenTo.refl _)), pop_eql rfl rfl⟩) ?_
          refine dp rfl (pop_picko rfl (.inr ⟨_, rfl, fun h => by simp_all⟩) (.inl rfl)) ?_
          refine dn ?_
          refine hw_cond rfl (fun h5 => ?_) (fun h6 => ?_)
          · try simp at h5
            refine hw_draw1 (fun _ => True) [] mixed ?_
            refine ahp 0 rfl rfl (by kernel_rfl) (by kernel_rfl) (pop_fieldAddr ty88 rfl ty9 (by decide) rfl) ?_
            refine ahp 1 rfl rfl (by kernel_rfl) (by kernel_rfl) (pop_load ty9 rfl rfl rfl) ?_
            refine ahp 2 rfl rfl (by kernel_rfl) (by kernel_rfl) (pop_move rfl) ?_
            refine ahp 3 rfl rfl (by kernel_rfl) (by kernel_rfl) ((by first | exact pop_nilCheck rfl | exact pop_nilCheck_raw rfl)) ?_
            refine ahp 4 rfl rfl (by kernel_rfl) (by kernel_rfl) (pop_fieldAddr ty28 rfl ty3 (by decide) rfl) ?_
            refine ahp 5 rfl rfl (by kernel_rfl) (by kernel_rfl) (pop_load ty3 rfl rfl rfl) ?_
            refine ahp 6 rfl rfl (by kernel_rfl) (by kernel_rfl) (pop_fieldAddr_raw ty55 rfl ty9 (by decide) rfl) ?_
            refine ahe 7 rfl (by kernel_rfl) ?_
            refine hop_e0 (eop_store (i := 0) ty9 rfl rfl rfl rfl rfl (Nat.le_of_ble_eq_true rfl) ?_)
            refine ⟨fun _ => .inl trivial, ?_⟩
            refine ahp 8 rfl rfl (by kernel_rfl) (by kernel_rfl) (pop_fieldAddr_raw ty55 rfl ty3 (by decide) rfl) ?_
            refine ahe 9 rfl (by kernel_rfl) ?_
            refine hop_e0 (eop_store (i := 0) ty3 rfl rfl rfl rfl rfl (Nat.le_of_ble_eq_true rfl) ?_)
            refine ⟨fun _ => .inl trivial, ?_⟩
            refine ahz (by kernel_rfl) ?_
            refine blockQ_n ?_
            refine seqQ_n ?_
            refine hw_reg1 ?_
            refine dp rfl (pop_add64 rfl rfl (by omega) (by omega)) ?_
            refine dp rfl (pop_move rfl) ?_
            refine dn ?_
            first
            | exact ⟨k + 1, { p with Player := x.Player, At := r.Start }, ⟨by omega, by rw [List.take_add_one, hx, hp]; exact (keepIn_snoc r t _ x _).symm ▸ (by simp_all)⟩, by dsimp only; omega, ⟨rfl, trivial⟩, (by repeat (first | exact keeps_refl | refine keeps_upd rfl ?_ | refine keeps_loop rfl rfl ?_)), List.Perm.refl _⟩
            | exact ⟨k + 1, p, ⟨by omega, by rw [List.take_add_one, hx, hp]; exact (keepIn_snoc r t _ x _).symm ▸ (by simp_all)⟩, by dsimp only; omega, ⟨rfl, trivial⟩, (by repeat (first | exact keeps_refl | refine keeps_upd rfl ?_ | refine keeps_loop rfl rfl ?_)), List.Perm.refl _⟩
          · try simp at h6
            refine hw_skip ?_
            refine blockQ_n ?_
            refine seqQ_n ?_
            refine hw_reg1 ?_
            refine dp rfl (pop_add64 rfl rfl (by omega) (by omega)) ?_
            refine dp rfl (pop_move rfl) ?_
            refine dn ?_
            first
            | exact ⟨k + 1, { p with Player := x.Player, At := r.Start }, ⟨by omega, by rw [List.take_add_one, hx, hp]; exact (keepIn_snoc r t _ x _).symm ▸ (by simp_all)⟩, by dsimp only; omega, ⟨rfl, trivial⟩, (by repeat (first | exact keeps_refl | refine keeps_upd rfl ?_ | refine keeps_loop rfl rfl ?_)), List.Perm.refl _⟩
            | exact ⟨k + 1, p, ⟨by omega, by rw [List.take_add_one, hx, hp]; exact (keepIn_snoc r t _ x _).symm ▸ (by simp_all)⟩, by dsimp only; omega, ⟨rfl, trivial⟩, (by repeat (first | exact keeps_refl | refine keeps_upd rfl ?_ | refine keeps_loop rfl rfl ?_)), List.Perm.refl _⟩
        · try simp at h4
          have hnk : l.length ≤ k := by omega
          obtain rfl : k = l.length := by omega
          rw [List.take_length] at hp
          subst hp
          refine hw_exit ?_
          refine seqQ_x ?_
          refine loopQ2_x ?_
          refine blockQ_eq ?_
          refine seqQ_n ?_
          have ho : (openFrom r l 0 ((turns r s).take i)).length ≤ 600 := by rw [openFrom_len]; simp; omega
          refine hw_reg1 ?_
          refine dp rfl (pop_move rfl) ?_
          refine de rfl (eop_loadw (i := 0) ty55 rfl rfl rfl rfl rfl ?_)
          refine dp rfl (pop_buildSlice (hs := [_]) ty36 ty55 rfl rfl (by decide) (by decide) rfl) ?_
          refine de rfl (eop_append (i := 1) ty36 ty55 rfl rfl rfl rfl rfl (by simp [flat, hcells]) (by first | omega | (simp; omega)) fun v56 => ?_)
          refine dp rfl (pop_assign rfl) ?_
          refine dn ?_
          refine blockQ_n ?_
          refine seqQ_n ?_
          refine hw_ghost Ghost.drop ?_
          refine hw_reg1 ?_
          refine dp rfl (pop_add64 rfl rfl (by omega) (by omega)) ?_
          refine dp rfl (pop_move rfl) ?_
          refine dn ?_
          refine ⟨i + 1, _, ?_, ?_, ⟨rfl, rfl, trivial⟩, (by repeat (first | exact keeps_refl | refine keeps_upd rfl ?_ | refine keeps_loop rfl rfl ?_)), perm_eq (by simp [List.take_add_one, ht, openFrom_snoc, Nat.min_eq_left hi])⟩
          · exact ⟨by omega, trivial⟩
          · dsimp only; omega
    · try simp at h2
      have hni : (turns r s).length ≤ i := by omega
      obtain rfl : i = (turns r s).length := by omega
      refine hw_exit ?_
      refine seqQ_x ?_
      refine loopQ2_x ?_
      refine blockQ_eq ?_
      refine seqQ_n ?_
      refine hw_reg ?_
      refine dp rfl (pop_move rfl) ?_
      refine dp rfl (pop_assign rfl) ?_
      refine dn ?_
      refine hw_ret ?_
      exact ret_a rfl (by simp [open1])

/-- benchwarmer/draft.newRun -/
theorem c_draft_newRun {r : Room} {k : List Keep} {s : List Swap} (h : openFault r k s = 0) (hk0 : k.length ≤ 1000000) (hl : s.length ≤ 1000000) : Con Tryz.prog 65 [.vptr (hcells (eRoom r)) 0, eKeeps k, eSwaps s] [] (fun x M' => ∃ b m va v S, x = pAt b ∧ RunOk r k s [] S ∧ M' = RunM b m va v r (open1 r k s) (freeP r k s) [] S) := by
  have hro := room_ok (openFault_ok h).1
  have ht := hro.t20
  have hr0 := hro.r1
  have hr := hro.r30
  have hlen := turns_len (r := r) (s := s) (openFault_ok h).1
  have hop := open_pos (k := k) (s := s) hro
  have hol : (open1 r k s).length ≤ 600 := by unfold open1; rw [openFrom_len]; exact hlen
  refine Con.of_body Tryz.func65 rfl Tryz.ntmps65 rfl rfl ?_
  refine hw_reg ?_
  refine dp rfl (pop_assign rfl) ?_
  refine dn ?_
  refine hw_reg ?_
  refine dp rfl (pop_move rfl) ?_
  refine dp rfl (pop_move rfl) ?_
  refine dp rfl (pop_move rfl) ?_
  refine dp rfl (pop_move rfl) ?_
  refine de rfl (eop_calla ca102 rfl (WeakL.refl _) (c_draft_open_a (by first | assumption | omega | (simp; omega) | simp_all) (by first | assumption | omega | (simp; omega) | simp_all) (by first | assumption | omega | (simp; omega) | simp_all) (by first | assumption | omega | (simp; omega) | simp_all) (by first | assumption | omega | (simp; omega) | simp_all) (by first | assumption | omega | (simp; omega) | simp_all)) fun v14 => ?_)
  refine de rfl (eop_makeMap fun m15 => ?_)
  refine dp rfl (pop_build (cs := [_, _, _, _, _]) ty113 pl113 rfl) ?_
  refine de rfl (eop_box rfl rfl fun b => ?_)
  refine dp rfl (pop_assign rfl) ?_
  refine dn ?_
  refine hw_ghost (Ghost.perm (M' := [.arr v14 5 ((open1 r k s).map ePick), .cells b [.vptr (hcells (eRoom r)) 0, .raw v14, .raw (.slice none 0 0), .raw (.slice none 0 0), .raw (.map (some m15))], .map m15 (sk (mset []))]) (by repeat (first | exact List.Perm.nil | refine permTo 0 rfl ?_ | refine permTo 1 rfl ?_ | refine permTo 2 rfl ?_ | refine permTo 3 rfl ?_ | (refine permToE 0 rfl ?hq ?_; (case hq => simp [setL, hcells]; done)) | (refine permToE 1 rfl ?hq ?_; (case hq => simp [setL, hcells]; done)) | (refine permToE 2 rfl ?hq ?_; (case hq => simp [setL, hcells]; done)) | (refine permToE 3 rfl ?hq ?_; (case hq => simp [setL, hcells]; done)) | fail))) ?_
  refine hw_arrc (i := 0) rfl (fun h0 he => ?_) (fun ob off cap hv hcap => ?_)
  · exfalso; have := congrArg List.length he; simp at this; rw [this] at hop; simp at hop
  rw [List.length_map] at hv hcap
  subst hv
  refine hw_seq ?_
  refine hw_reg ?_
  refine dp rfl (pop_move rfl) ?_
  refine dp rfl ((by first | exact pop_nilCheck rfl | exact pop_nilCheck_raw rfl)) ?_
  refine dp rfl (pop_fieldAddr_raw ty113 rfl ty36 (by decide) rfl) ?_
  first
  | refine de rfl (eop_load (i := 0) ty36 rfl rfl (.inl ⟨rfl, rfl⟩) ?_)
  | refine de rfl (eop_load (i := 1) ty36 rfl rfl (.inl ⟨rfl, rfl⟩) ?_)
  | refine de rfl (eop_load (i := 2) ty36 rfl rfl (.inl ⟨rfl, rfl⟩) ?_)
  | refine de rfl (eop_load (i := 3) ty36 rfl rfl (.inl ⟨rfl, rfl⟩) ?_)
  first
  | refine de rfl (eop_lenm (i := 0) ty36 rfl rfl ?_)
  | refine de rfl (eop_lenm (i := 1) ty36 rfl rfl ?_)
  | refine de rfl (eop_lenm (i := 2) ty36 rfl rfl ?_)
  | refine de rfl (eop_lenm (i := 3) ty36 rfl rfl ?_)
  refine dp rfl (pop_move rfl) ?_
  refine dn ?_
  refine hw_ghost (Ghost.arr_nil 5) ?_
  refine hw_block ?_
  refine hw_loopw3 [9, 23, 24, 25, 26, 27, 28, 29, 30, 31, 32, 33, 34, 35, 36, 37, 38, 39, 40, 41, 42, 43, 44, 45, 46] (fun (i : Nat) (u : Value) (S : List Str) => [(23, .int .i64 i)]) (fun (i : Nat) (u : Value) (S : List Str) => [.cells b [.vptr (hcells (eRoom r)) 0, .raw (.slice (some ⟨ob, off, none⟩) (open1 r k s).length cap), .raw u, .raw (.slice none 0 0), .raw (.map (some m15))], .arr (.slice (some ⟨ob, off, none⟩) (open1 r k s).length cap) 5 ((open1 r k s).map ePick), .arr u 5 ((((open1 r k s).take i).filter fun p => p.Player == []).map ePick), .map m15 (sk (mset S))]) (fun (i : Nat) (u : Value) (S : List Str) => i ≤ (open1 r k s).length ∧ (∀ x, S.contains x = ((open1 r k s).take i).any fun p => !(p.Player == []) && p.Player == x)) (fun (i : Nat) (u : Value) (S : List Str) => (open1 r k s).length - i) (0) (.slice none 0 0) ([]) ?_ ?_ ?_ ?_
  · exact ⟨Nat.zero_le _, by simp⟩
  · exact ⟨rfl, trivial⟩
  · repeat (first | exact List.Perm.nil | refine permTo 0 rfl ?_ | refine permTo 1 rfl ?_ | refine permTo 2 rfl ?_ | refine permTo 3 rfl ?_ | (refine permToE 0 rfl ?hq ?_; (case hq => simp [setL, hcells]; done)) | (refine permToE 1 rfl ?hq ?_; (case hq => simp [setL, hcells]; done)) | (refine permToE 2 rfl ?hq ?_; (case hq => simp [setL, hcells]; done)) | (refine permToE 3 rfl ?hq ?_; (case hq => simp [setL, hcells]; done)) | fail)
  · intro i u S hinv
    obtain ⟨hi, hS⟩ := hinv
    refine hw_reg ?_
    refine dp rfl (pop_lss rfl rfl) ?_
    refine dn ?_
    refine hw_seq ?_
    refine hw_cond rfl (fun h1 => ?_) (fun h2 => ?_)
    · try simp at h1
      obtain ⟨x, hx⟩ : ∃ x, (open1 r k s)[i]? = some x := ⟨_, List.getElem?_eq_getElem h1⟩
      have hdx := drop_cons hx
      have hfl : (((open1 r k s).take i).filter fun p => p.Player == []).length ≤ 600 := Nat.le_trans (List.length_filter_le _ _) (by simp; omega)
      refine hw_skip ?_
      refine seqQ_n ?_
      refine hw_seq ?_
      refine hw_block ?_
      refine hw_reg ?_
      refine dp rfl (pop_idxraw (j := i) ty36 ty55 rfl rfl rfl (by omega)) ?_
      refine de rfl (eop_load_elw (i := 1) (j := i) (f := ePick) (es := open1 r k s) ty55 rfl rfl rfl hx rfl rfl rfl ?_)
      refine de rfl (eop_alloc ty55 rfl fun b9 => ?_)
      refine de0 (eop_storew ty55 rfl rfl rfl rfl rfl ?_)
      refine dn ?_
      refine hw_ghost (Ghost.fc0 9 rfl) ?_
      refine hw_reg ?_
      refine dp rfl ((by first | exact pop_fieldAddr ty55 rfl ty9 (by decide) rfl | exact pop_fieldAddr_raw ty55 rfl ty9 (by decide) rfl)) ?_
      refine dp rfl (pop_load ty9 rfl rfl rfl) ?_
      refine dp rfl (pop_eqls rfl rfl) ?_
      refine dn ?_
      refine hw_cond rfl (fun h3 => ?_) (fun h4 => ?_)
      · try simp at h3
        refine hw_draw1 (fun _ => True) [] mixed ?_
        refine ahp 0 rfl rfl (by kernel_rfl) (by kernel_rfl) (pop_move rfl) ?_
        refine ahp 1 rfl rfl (by kernel_rfl) (by kernel_rfl) (pop_move rfl) ?_
        refine ahp 2 rfl rfl (by kernel_rfl) (by kernel_rfl) ((by first | exact pop_nilCheck rfl | exact pop_nilCheck_raw rfl)) ?_
        refine ahp 3 rfl rfl (by kernel_rfl) (by kernel_rfl) (pop_fieldAddr_raw ty113 rfl ty36 (by decide) rfl) ?_
        refine ahp 5 rfl rfl (by kernel_rfl) (by kernel_rfl) (pop_loadw ty55 rfl rfl rfl rfl) ?_
        refine ahp 6 rfl rfl (by kernel_rfl) (by kernel_rfl) (pop_buildSlice (hs := [_]) ty36 ty55 rfl rfl (by decide) (by decide) rfl) ?_
        refine ahe 4 rfl (by kernel_rfl) ?_
        first
        | refine hop_e rfl (eop_load (i := 0) ty36 rfl rfl (.inl ⟨rfl, rfl⟩) ?_)
        | refine hop_e rfl (eop_load (i := 1) ty36 rfl rfl (.inl ⟨rfl, rfl⟩) ?_)
        | refine hop_e rfl (eop_load (i := 2) ty36 rfl rfl (.inl ⟨rfl, rfl⟩) ?_)
        | refine hop_e rfl (eop_load (i := 3) ty36 rfl rfl (.inl ⟨rfl, rfl⟩) ?_)
        refine ⟨fun _ => .inl trivial, ?_⟩
        refine ahe 7 rfl (by kernel_rfl) ?_
        refine hop_e rfl (eop_append (i := 2) ty36 ty55 rfl rfl rfl rfl rfl (by simp [flat, hcells]) (by simp only [List.length_map, List.length_cons, List.length_nil]; omega) fun v37 => ?_)
        refine ⟨fun _ => .inl trivial, ?_⟩
        refine ahp 8 rfl rfl (by kernel_rfl) (by kernel_rfl) ((by first | exact pop_nilCheck rfl | exact pop_nilCheck_raw rfl)) ?_
        refine ahp 9 rfl rfl (by kernel_rfl) (by kernel_rfl) (pop_fieldAddr_raw ty113 rfl ty36 (by decide) rfl) ?_
        refine ahe 10 rfl (by kernel_rfl) ?_
        first
        | refine hop_e0 (eop_store (i := 0) ty36 rfl rfl rfl rfl rfl (Nat.le_of_ble_eq_true rfl) ?_)
        | refine hop_e0 (eop_store (i := 1) ty36 rfl rfl rfl rfl rfl (Nat.le_of_ble_eq_true rfl) ?_)
        | refine hop_e0 (eop_store (i := 2) ty36 rfl rfl rfl rfl rfl (Nat.le_of_ble_eq_true rfl) ?_)
        | refine hop_e0 (eop_store (i := 3) ty36 rfl rfl rfl rfl rfl (Nat.le_of_ble_eq_true rfl) ?_)
        refine ⟨fun _ => .inl trivial, ?_⟩
        refine ahz (by kernel_rfl) ?_
        refine blockQ_n ?_
        refine seqQ_n ?_
        refine hw_reg1 ?_
        refine dp rfl (pop_add64 rfl rfl (by omega) (by omega)) ?_
        refine dp rfl (pop_move rfl) ?_
        refine dn ?_
        exact ⟨i + 1, v37, S, ⟨by omega, fun y => by rw [any_snoc _ hx, hS y]; simp [h3]⟩, by dsimp only; omega, ⟨rfl, trivial⟩, (by repeat (first | exact keeps_refl | refine keeps_upd rfl ?_ | refine keeps_loop rfl rfl ?_)), perm_eq (by dsimp only; rw [filter_snoc1 _ hx]; simp [h3, setL, hcells])⟩
      · try simp at h4
        refine hw_draw1 (fun _ => True) [] mixed ?_
        refine ahp 0 rfl rfl (by kernel_rfl) (by kernel_rfl) (pop_move rfl) ?_
        refine ahp 1 rfl rfl (by kernel_rfl) (by kernel_rfl) ((by first | exact pop_nilCheck rfl | exact pop_nilCheck_raw rfl)) ?_
        refine ahp 2 rfl rfl (by kernel_rfl) (by kernel_rfl) (pop_fieldAddr_raw ty113 rfl ty104 (by decide) rfl) ?_
        refine ahp 4 rfl rfl (by kernel_rfl) (by kernel_rfl) ((by first | exact pop_fieldAddr ty55 rfl ty9 (by decide) rfl | exact pop_fieldAddr_raw ty55 rfl ty9 (by decide) rfl)) ?_
        refine ahp 5 rfl rfl (by kernel_rfl) (by kernel_rfl) (pop_load ty9 rfl rfl rfl) ?_
        refine ahe 3 rfl (by kernel_rfl) ?_
        first
        | refine hop_e rfl (eop_load (i := 0) ty104 rfl rfl (.inl ⟨rfl, rfl⟩) ?_)
        | refine hop_e rfl (eop_load (i := 1) ty104 rfl rfl (.inl ⟨rfl, rfl⟩) ?_)
        | refine hop_e rfl (eop_load (i := 2) ty104 rfl rfl (.inl ⟨rfl, rfl⟩) ?_)
        | refine hop_e rfl (eop_load (i := 3) ty104 rfl rfl (.inl ⟨rfl, rfl⟩) ?_)
        refine ⟨fun _ => .inl trivial, ?_⟩
        refine ahe 6 rfl (by kernel_rfl) ?_
        first
        | refine hop_e0 (eop_update_set (i := 0) ty104 ty9 rfl rfl rfl rfl ?_)
        | refine hop_e0 (eop_update_set (i := 1) ty104 ty9 rfl rfl rfl rfl ?_)
        | refine hop_e0 (eop_update_set (i := 2) ty104 ty9 rfl rfl rfl rfl ?_)
        | refine hop_e0 (eop_update_set (i := 3) ty104 ty9 rfl rfl rfl rfl ?_)
        refine ⟨fun _ => .inl trivial, ?_⟩
        refine ahz (by kernel_rfl) ?_
        refine blockQ_n ?_
        refine seqQ_n ?_
        refine hw_reg1 ?_
        refine dp rfl (pop_add64 rfl rfl (by omega) (by omega)) ?_
        refine dp rfl (pop_move rfl) ?_
        refine dn ?_
        have e4 : (x.Player == []) = false := by simpa using h4
        exact ⟨i + 1, u, sadd x.Player S, ⟨by omega, fun y => by simp only [any_snoc _ hx, sadd_contains, hS y, e4, Bool.not_false, Bool.true_and]⟩, by dsimp only; omega, ⟨rfl, trivial⟩, (by repeat (first | exact keeps_refl | refine keeps_upd rfl ?_ | refine keeps_loop rfl rfl ?_)), perm_eq (by dsimp only; rw [filter_snoc1 _ hx]; simp [h4])⟩
    · try simp at h2
      have hni : (open1 r k s).length ≤ i := by omega
      obtain rfl : i = (open1 r k s).length := by omega
      rw [List.take_length] at hS ⊢
      refine hw_exit ?_
      refine seqQ_x ?_
      refine loopQ3_x ?_
      refine blockQ_eq ?_
      refine seqQ_n ?_
      refine hw_ghost (Ghost.fcell (i := 2) (k := 0) (j := 2) rfl rfl rfl) ?_
      refine hw_ghost (Ghost.arr_nil 5) ?_
      refine hw_reg ?_
      refine dp rfl (pop_move rfl) ?_
      refine dp rfl (pop_assign rfl) ?_
      refine dn ?_
      refine hw_ret ?_
      refine ret_g (Ghost.perm (M' := RunM b m15 (.slice (some ⟨ob, off, none⟩) (open1 r k s).length cap) (.slice none 0 0) r (open1 r k s) (freeP r k s) [] S) (by repeat (first | exact List.Perm.nil | refine permTo 0 rfl ?_ | refine permTo 1 rfl ?_ | refine permTo 2 rfl ?_ | refine permTo 3 rfl ?_ | (refine permToE 0 rfl ?hq ?_; (case hq => simp [setL, hcells]; done)) | (refine permToE 1 rfl ?hq ?_; (case hq => simp [setL, hcells]; done)) | (refine permToE 2 rfl ?hq ?_; (case hq => simp [setL, hcells]; done)) | (refine permToE 3 rfl ?hq ?_; (case hq => simp [setL, hcells]; done)) | fail))) rfl ⟨b, m15, _, _, S, rfl, run_start h hS, rfl⟩

/-- benchwarmer/draft.follow -/
theorem c_draft_follow {r : Room} {k : List Keep} {s : List Swap} {l : List Pick}  (ht : r.Teams.length ≤ 1000000) (hp : r.Players.length ≤ 1000000) (hk0 : k.length ≤ 1000000) (hl : s.length ≤ 1000000) (hll : l.length ≤ 1000) : Con Tryz.prog 73 [.vptr (hcells (eRoom r)) 0, eKeeps k, eSwaps s, ePicks l] [] (fun res M' => ∃ v, res = .tup [.raw v, .int .i64 (picksE r k s l)] ∧ (picksE r k s l = 0 → ∃ b m va u S, v = .pointer (some ⟨b, 0, none⟩) ∧ RunOk r k s l S ∧ M' = RunM b m va u r (open1 r k s) ((freeP r k s).drop l.length) l S)) := by
  refine Con.of_body Tryz.func73 rfl Tryz.ntmps73 rfl rfl ?_
  refine hw_reg ?_
  refine dp rfl (pop_assign rfl) ?_
  refine dp rfl (pop_assign rfl) ?_
  refine dn ?_
  refine hw_seq ?_
  refine hw_reg ?_
  refine dp rfl (pop_move rfl) ?_
  refine dp rfl ((by first | exact pop_nilCheck rfl | exact pop_nilCheck_raw rfl)) ?_
  refine dp rfl (pop_loadw ty28 rfl rfl rfl rfl) ?_
  refine dp rfl (pop_move rfl) ?_
  refine dp rfl (pop_move rfl) ?_
  refine dp rfl (pop_call ca107 rfl (WeakL.refl _) (c_draft_openFault (by first | assumption | omega | (simp; omega) | simp_all) (by first | assumption | omega | (simp; omega) | simp_all) (by first | assumption | omega | (simp; omega) | simp_all) (by first | assumption | omega | (simp; omega) | simp_all))) ?_
  refine dp rfl (pop_assign rfl) ?_
  refine dn ?_
  refine hw_reg ?_
  refine dp rfl (pop_move rfl) ?_
  refine dp rfl (pop_neq rfl rfl) ?_
  refine dn ?_
  refine hw_cond rfl (fun h1 => ?_) (fun h2 => ?_)
  · try simp at h1
    refine hw_reg ?_
    refine dp rfl (pop_move rfl) ?_
    refine dp rfl (pop_assign rfl) ?_
    refine dp rfl (pop_assign rfl) ?_
    refine dn ?_
    refine hw_ret ?_
    first
    | (refine ret_g Ghost.clear rfl ⟨.pointer none, ?_, fun h0 => ?_⟩
       · show HVal.tup _ = _
         first
         | (rw [picksE, if_pos (by simpa using h1)]; rfl)
         | (rw [picksE, if_neg (by simpa using h2), pksR, if_pos (by omega)]; rfl)
         | (rw [picksE, if_neg (by simpa using h2), hg, pgo_ne (by simpa using h7)]; rfl)
       · exfalso
         first
         | (rw [picksE, if_pos (by simpa using h1)] at h0; exact absurd h0 h1)
         | (rw [picksE, if_neg (by simpa using h2), pksR, if_pos (by omega)] at h0; simp at h0; done)
         | (rw [picksE, if_neg (by simpa using h2), hg, pgo_ne (by simpa using h7)] at h0; exact absurd h0 (by simpa using h7)))
    | (have hz : picksE r k s l = 0 := by rw [picksE, if_neg (by simpa using h2), hg]; rfl
       rw [hz]
       exact ret_q rfl ⟨_, rfl, fun _ => ⟨b, m, va, v, S, rfl, ok, rfl⟩⟩)
  · try simp at h2
    refine hw_skip ?_
    refine seqQ_n ?_
    have hof : openFault r k s = 0 := by simpa using h2
    have hso := (room_ok (openFault_ok hof).1).sorted
    refine hw_reg ?_
    refine dp rfl (pop_move rfl) ?_
    refine dp rfl (pop_move rfl) ?_
    refine dp rfl (pop_move rfl) ?_
    refine de rfl (eop_callf (M1 := []) (R := []) ca65 rfl (WeakL.refl _) (List.Perm.refl _) (c_draft_newRun (k := k) (s := s) hof hk0 hl) ?_)
    rintro _ _ ⟨b, m, va, v0, S0, rfl, ok0, rfl⟩
    refine dp rfl (pop_assign rfl) ?_
    refine dn ?_
    refine hw_seq ?_
    refine hw_reg ?_
    refine dp rfl (pop_move rfl) ?_
    refine dp rfl (pop_lenm ty36 rfl) ?_
    refine dp rfl (pop_move rfl) ?_
    refine dp rfl ((by first | exact pop_nilCheck rfl | exact pop_nilCheck_raw rfl)) ?_
    refine dp rfl (pop_fieldAddr_raw ty113 rfl ty36 (by decide) rfl) ?_
    first
    | refine de rfl (eop_load (i := 0) ty36 rfl rfl (.inl ⟨rfl, rfl⟩) ?_)
    | refine de rfl (eop_load (i := 1) ty36 rfl rfl (.inl ⟨rfl, rfl⟩) ?_)
    | refine de rfl (eop_load (i := 2) ty36 rfl rfl (.inl ⟨rfl, rfl⟩) ?_)
    | refine de rfl (eop_load (i := 3) ty36 rfl rfl (.inl ⟨rfl, rfl⟩) ?_)
    refine dp rfl (pop_lenm ty36 rfl) ?_
    refine dp rfl (pop_gtr rfl rfl) ?_
    refine dn ?_
    refine hw_cond rfl (fun h3 => ?_) (fun h4 => ?_)
    · try simp at h3
      refine hw_reg ?_
      refine dp rfl (pop_assign rfl) ?_
      refine dp rfl (pop_assign rfl) ?_
      refine dn ?_
      refine hw_ret ?_
      first
      | (refine ret_g Ghost.clear rfl ⟨.pointer none, ?_, fun h0 => ?_⟩
         · show HVal.tup _ = _
           first
           | (rw [picksE, if_pos (by simpa using h1)]; rfl)
           | (rw [picksE, if_neg (by simpa using h2), pksR, if_pos (by omega)]; rfl)
           | (rw [picksE, if_neg (by simpa using h2), hg, pgo_ne (by simpa using h7)]; rfl)
         · exfalso
           first
           | (rw [picksE, if_pos (by simpa using h1)] at h0; exact absurd h0 h1)
           | (rw [picksE, if_neg (by simpa using h2), pksR, if_pos (by omega)] at h0; simp at h0; done)
           | (rw [picksE, if_neg (by simpa using h2), hg, pgo_ne (by simpa using h7)] at h0; exact absurd h0 (by simpa using h7)))
      | (have hz : picksE r k s l = 0 := by rw [picksE, if_neg (by simpa using h2), hg]; rfl
         rw [hz]
         exact ret_q rfl ⟨_, rfl, fun _ => ⟨b, m, va, v, S, rfl, ok, rfl⟩⟩)
    · try simp at h4
      refine hw_skip ?_
      refine seqQ_n ?_
      refine hw_seq ?_
      refine hw_reg ?_
      refine dp rfl (pop_move rfl) ?_
      refine dp rfl (pop_lenm ty36 rfl) ?_
      refine dp rfl (pop_move rfl) ?_
      refine dn ?_
      refine hw_block ?_
      refine hw_loopw3 [8, 9, 13, 14, 38, 39, 40, 41, 42, 43, 44, 45, 46, 47, 48, 49, 50, 51] (fun (i : Nat) (v : Value) (S : List Str) => [(38, .int .i64 i)]) (fun (i : Nat) (v : Value) (S : List Str) => (RunM b m va v r (open1 r k s) ((freeP r k s).drop i) (l.take i) S)) (fun (i : Nat) (v : Value) (S : List Str) => i ≤ l.length ∧ (RunOk r k s (l.take i) S ∧ pksR r k s l = pksGo r k (freeP r k s) l i (l.drop i))) (fun (i : Nat) (v : Value) (S : List Str) => l.length - i) (0) (v0) (S0) ?_ ?_ ?_ ?_
      · refine ⟨Nat.zero_le _, ok0, ?_⟩
        rw [pksR, if_neg (by omega)]; rfl
      · exact ⟨rfl, trivial⟩
      · exact List.Perm.refl _
      · intro i v S hinv
        obtain ⟨hi, ok, hg⟩ := hinv
        refine hw_reg ?_
        refine dp rfl (pop_lss rfl rfl) ?_
        refine dn ?_
        refine hw_seq ?_
        refine hw_cond rfl (fun h5 => ?_) (fun h6 => ?_)
        · try simp at h5
          obtain ⟨x, hx⟩ : ∃ x, l[i]? = some x := ⟨_, List.getElem?_eq_getElem h5⟩
          have hdx := drop_cons hx
          rw [hdx] at hg
          refine hw_skip ?_
          refine seqQ_n ?_
          refine hw_seq ?_
          refine hw_block ?_
          refine hw_reg ?_
          refine dp rfl (pop_idx ty36 ty55 rfl rfl rfl (by first | assumption | simp_all)) ?_
          refine dp rfl (pop_loadw ty55 rfl rfl rfl rfl) ?_
          refine de rfl (eop_alloc ty55 rfl fun b13 => ?_)
          refine de0 (eop_storew ty55 rfl rfl rfl rfl rfl ?_)
          refine dn ?_
          refine hw_ghost (Ghost.fc0 13 rfl) ?_
          refine hw_seq ?_
          refine hw_reg ?_
          refine dp rfl (pop_move rfl) ?_
          refine dp rfl (pop_loadw ty55 rfl rfl rfl rfl) ?_
          refine de rfl (eop_callw (hs' := [.vptr (RunH r (open1 r k s) ((freeP r k s).drop i) (l.take i) S) 0, ePick x]) ca108 rfl ⟨bowRun0, .refl, trivial⟩ (c_draft_run_fault (k := k) (s := s) (fr := freeP r k s) (by simp; omega) (by rw [List.length_take, Nat.min_eq_left hi]) (by simp; omega) ok hp hso) rfl ?_)
          refine dp rfl (pop_assign rfl) ?_
          refine dn ?_
          refine hw_reg ?_
          refine dp rfl (pop_move rfl) ?_
          refine dp rfl (pop_neq rfl rfl) ?_
          refine dn ?_
          refine hw_cond rfl (fun h7 => ?_) (fun h8 => ?_)
          · try simp at h7
            refine hw_reg ?_
            refine dp rfl (pop_move rfl) ?_
            refine dp rfl (pop_assign rfl) ?_
            refine dp rfl (pop_assign rfl) ?_
            refine dn ?_
            refine hw_ret ?_
            first
            | (refine ret_g Ghost.clear rfl ⟨.pointer none, ?_, fun h0 => ?_⟩
               · show HVal.tup _ = _
                 first
                 | (rw [picksE, if_pos (by simpa using h1)]; rfl)
                 | (rw [picksE, if_neg (by simpa using h2), pksR, if_pos (by omega)]; rfl)
                 | (rw [picksE, if_neg (by simpa using h2), hg, pgo_ne (by simpa using h7)]; rfl)
               · exfalso
                 first
                 | (rw [picksE, if_pos (by simpa using h1)] at h0; exact absurd h0 h1)
                 | (rw [picksE, if_neg (by simpa using h2), pksR, if_pos (by omega)] at h0; simp at h0; done)
                 | (rw [picksE, if_neg (by simpa using h2), hg, pgo_ne (by simpa using h7)] at h0; exact absurd h0 (by simpa using h7)))
            | (have hz : picksE r k s l = 0 := by rw [picksE, if_neg (by simpa using h2), hg]; rfl
               rw [hz]
               exact ret_q rfl ⟨_, rfl, fun _ => ⟨b, m, va, v, S, rfl, ok, rfl⟩⟩)
          · try simp at h8
            refine hw_skip ?_
            refine seqQ_n ?_
            refine hw_reg1 ?_
            refine dp rfl (pop_move rfl) ?_
            refine dp rfl (pop_loadw ty55 rfl rfl rfl rfl) ?_
            refine de rfl (eop_callf (M1 := (RunM b m va v r (open1 r k s) ((freeP r k s).drop i) (l.take i) S)) (R := []) ca67 rfl (WeakL.refl _) (List.Perm.refl _) (c_draft_run_pick (p := x) (by simp; omega) (by simp; omega)) ?_)
            rintro _ _ ⟨v50, rfl, rfl⟩
            refine dn ?_
            refine blockQ_n ?_
            refine seqQ_n ?_
            refine hw_reg1 ?_
            refine dp rfl (pop_add64 rfl rfl (by omega) (by omega)) ?_
            refine dp rfl (pop_move rfl) ?_
            refine dn ?_
            exact ⟨i + 1, v50, sadd x.Player S, ⟨by omega, by rw [take_snoc' hx]; exact ok.add x, by rw [hg, pgo_z (by simpa using h8)]⟩, by dsimp only; omega, ⟨rfl, trivial⟩, (by repeat (first | exact keeps_refl | refine keeps_upd rfl ?_ | refine keeps_loop rfl rfl ?_)), perm_eq (by dsimp only; rw [take_snoc' hx, List.drop_drop]; rfl)⟩
        · try simp at h6
          have hni : l.length ≤ i := by omega
          obtain rfl : i = l.length := by omega
          rw [drop_all (Nat.le_refl _)] at hg
          rw [List.take_length] at ok
          refine hw_ghost (Ghost.of_eq (M' := (RunM b m va v r (open1 r k s) ((freeP r k s).drop l.length) l S)) (by rw [List.take_length])) ?_
          refine hw_exit ?_
          refine seqQ_x ?_
          refine loopQ3_x ?_
          refine blockQ_eq ?_
          refine seqQ_n ?_
          refine hw_reg ?_
          refine dp rfl (pop_move rfl) ?_
          refine dp rfl (pop_assign rfl) ?_
          refine dp rfl (pop_assign rfl) ?_
          refine dn ?_
          refine hw_ret ?_
          first
          | (refine ret_g Ghost.clear rfl ⟨.pointer none, ?_, fun h0 => ?_⟩
             · show HVal.tup _ = _
               first
               | (rw [picksE, if_pos (by simpa using h1)]; rfl)
               | (rw [picksE, if_neg (by simpa using h2), pksR, if_pos (by omega)]; rfl)
               | (rw [picksE, if_neg (by simpa using h2), hg, pgo_ne (by simpa using h7)]; rfl)
             · exfalso
               first
               | (rw [picksE, if_pos (by simpa using h1)] at h0; exact absurd h0 h1)
               | (rw [picksE, if_neg (by simpa using h2), pksR, if_pos (by omega)] at h0; simp at h0; done)
               | (rw [picksE, if_neg (by simpa using h2), hg, pgo_ne (by simpa using h7)] at h0; exact absurd h0 (by simpa using h7)))
          | (have hz : picksE r k s l = 0 := by rw [picksE, if_neg (by simpa using h2), hg]; rfl
             rw [hz]
             exact ret_q rfl ⟨_, rfl, fun _ => ⟨b, m, va, v, S, rfl, ok, rfl⟩⟩)
end Go.Proofs.YtoomadfbldcioaaGreatDoor
end
section
namespace Go.Proofs.YtoomadfbldcioaaGreatDoor
open Go.HL
set_option maxRecDepth 100000
set_option linter.unusedVariables false
set_option linter.unusedSimpArgs false
/-- slices.IndexFunc[[]benchwarmer/api.Wishes,benchwarmer/api.Wishes] -/
theorem c_slices_IndexFunc_api_Wishes_api_Wishes {l : List Wish} {fid : FuncId} {caps : List HVal} {p : Wish → Bool} (hca : Callable Tryz.prog fid) (hp : ∀ x, ConP Tryz.prog fid ([eWish x] ++ caps) (.bool (p x))) (hl : l.length ≤ 1000000) : ConP Tryz.prog 96 [.slice 2 (l.map eWish), .fn (.func fid) [] caps] (.int .i64 (idxF p l 0)) := by
  refine Con.of_body Tryz.func96 rfl Tryz.ntmps96 rfl rfl ?_
  refine hw_reg ?_
  refine dp rfl (pop_assign rfl) ?_
  refine dn ?_
  refine hw_seq ?_
  refine hw_reg ?_
  refine dp rfl (pop_move rfl) ?_
  refine dp rfl (pop_lenm ty34 rfl) ?_
  refine dp rfl (pop_move rfl) ?_
  refine dn ?_
  refine hw_block ?_
  refine hw_loopw [4, 5, 8, 9, 10, 11, 12, 13, 14, 15, 16, 17, 18] (fun (k : Nat) => [(8, .int .i64 k)]) (fun (k : Nat) => []) (fun (k : Nat) => k ≤ l.length ∧ (idxF p l 0 = idxF p (l.drop k) k)) (fun (k : Nat) => l.length - k) (0) ?_ ?_ ?_ ?_
  · exact ⟨Nat.zero_le _, rfl⟩
  · exact ⟨rfl, trivial⟩
  · exact List.Perm.refl _
  · intro k hinv
    obtain ⟨hk, hg⟩ := hinv
    refine hw_reg ?_
    refine dp rfl (pop_lss rfl rfl) ?_
    refine dn ?_
    refine hw_seq ?_
    refine hw_cond rfl (fun h1 => ?_) (fun h2 => ?_)
    · try simp at h1
      obtain ⟨x, hx⟩ : ∃ x, l[k]? = some x := ⟨_, List.getElem?_eq_getElem h1⟩
      have hdx := drop_cons hx
      rw [hdx] at hg
      refine hw_skip ?_
      refine seqQ_n ?_
      refine hw_seq ?_
      refine hw_block ?_
      refine hw_reg ?_
      refine dp rfl (pop_move rfl) ?_
      refine dp rfl (pop_assign rfl) ?_
      refine dn ?_
      refine hw_reg ?_
      refine dp rfl (pop_move rfl) ?_
      refine dp rfl (pop_move rfl) ?_
      refine dp rfl (pop_move rfl) ?_
      refine dp rfl (pop_idx ty34 ty78 rfl rfl rfl (by first | assumption | simp_all)) ?_
      refine dp rfl (pop_loadw ty78 rfl rfl rfl rfl) ?_
      refine dp rfl (pop_callv hca rfl rfl (WeakL.refl _) (hp _)) ?_
      refine dn ?_
      refine hw_cond rfl (fun h3 => ?_) (fun h4 => ?_)
      · try simp at h3
        refine hw_reg ?_
        refine dp rfl (pop_move rfl) ?_
        refine dp rfl (pop_assign rfl) ?_
        refine dn ?_
        refine hw_ret ?_
        refine ret_p rfl ?_
        show HVal.int .i64 _ = _
        first | (rw [hg]; rfl) | (rw [hg]; simp_all [idxF])
      · try simp at h4
        refine hw_skip ?_
        refine blockQ_n ?_
        refine seqQ_n ?_
        refine hw_reg1 ?_
        refine dp rfl (pop_add64 rfl rfl (by omega) (by omega)) ?_
        refine dp rfl (pop_move rfl) ?_
        refine dn ?_
        refine ⟨k + 1, ?_, ?_, ⟨rfl, trivial⟩, (by repeat (first | exact keeps_refl | refine keeps_upd rfl ?_ | refine keeps_loop rfl rfl ?_)), List.Perm.refl _⟩
        · refine ⟨by omega, ?_⟩
          rw [hg, idxF, if_neg (by simp_all)]; rfl
        · dsimp only; omega
    · try simp at h2
      have hnk : l.length ≤ k := by omega
      obtain rfl : k = l.length := by omega
      rw [drop_all (Nat.le_refl _)] at hg
      refine hw_exit ?_
      refine seqQ_x ?_
      refine loopQ_x ?_
      refine blockQ_eq ?_
      refine seqQ_n ?_
      refine hw_reg ?_
      refine dp rfl (pop_assign rfl) ?_
      refine dn ?_
      refine hw_ret ?_
      refine ret_p rfl ?_
      show HVal.int .i64 _ = _
      first | (rw [hg]; rfl) | (rw [hg]; simp_all [idxF])

/-- slices.ContainsFunc[[]benchwarmer/api.Wishes,benchwarmer/api.Wishes] -/
theorem c_slices_ContainsFunc_api_Wishes_api_Wishes {l : List Wish} {fid : FuncId} {caps : List HVal} {p : Wish → Bool} (hca : Callable Tryz.prog fid) (hp : ∀ x, ConP Tryz.prog fid ([eWish x] ++ caps) (.bool (p x))) (hl : l.length ≤ 1000000) : ConP Tryz.prog 54 [.slice 2 (l.map eWish), .fn (.func fid) [] caps] (.bool (l.any p)) := by
  refine Con.of_body Tryz.func54 rfl Tryz.ntmps54 rfl rfl ?_
  refine hw_reg ?_
  refine dp rfl (pop_assign rfl) ?_
  refine dn ?_
  refine hw_reg ?_
  refine dp rfl (pop_move rfl) ?_
  refine dp rfl (pop_move rfl) ?_
  refine dp rfl (pop_call ca96 rfl (WeakL.refl _) (c_slices_IndexFunc_api_Wishes_api_Wishes hca hp hl)) ?_
  refine dp rfl (pop_geq rfl rfl) ?_
  refine dp rfl (pop_assign rfl) ?_
  refine dn ?_
  refine hw_ret ?_
  refine ret_p rfl ?_
  congr 1; exact idxF_nonneg p l 0 (by omega)

/-- benchwarmer/draft.CheckWishes$1 -/
theorem c_draft_CheckWishes_1 {y x : Wish}  : ConP Tryz.prog 58 [eWish y, .vptr (hcells (eWish x)) 0] (.bool (y.Team == x.Team)) := by
  refine Con.of_body Tryz.func58 rfl Tryz.ntmps58 rfl rfl ?_
  refine hw_reg ?_
  refine dp rfl (pop_box rfl rfl) ?_
  refine dp rfl (pop_assign rfl) ?_
  refine dn ?_
  refine hw_reg ?_
  refine dp rfl (pop_fieldAddr ty78 rfl ty9 (by decide) rfl) ?_
  refine dp rfl (pop_load ty9 rfl rfl rfl) ?_
  refine dp rfl (pop_fieldAddr ty78 rfl ty9 (by decide) rfl) ?_
  refine dp rfl (pop_load ty9 rfl rfl rfl) ?_
  refine dp rfl (pop_eqls rfl rfl) ?_
  refine dp rfl (pop_assign rfl) ?_
  refine dn ?_
  refine hw_ret ?_
  refine ret_p rfl ?_
  rfl

/-- benchwarmer/draft.CheckWishes -/
theorem c_draft_CheckWishes {r : Room} {w : List Wish} (ht : r.Teams.length ≤ 1000000) (hp : r.Players.length ≤ 1000000) (hw : w.length ≤ 1000000) (hwp : ∀ y ∈ w, y.Players.length ≤ 1000000) : ConP Tryz.prog 16 [eRoom r, eWishes w] (.int .i64 (wishesE r w)) := by
  refine Con.of_body Tryz.func16 rfl Tryz.ntmps16 rfl rfl ?_
  refine hw_reg ?_
  refine dp rfl (pop_box rfl rfl) ?_
  refine dp rfl (pop_assign rfl) ?_
  refine dn ?_
  refine hw_seq ?_
  refine hw_reg ?_
  refine dp rfl (pop_loadw ty28 rfl rfl rfl rfl) ?_
  refine dp rfl (pop_call ca57 rfl (WeakL.refl _) (c_draft_CheckRoom (by first | assumption | omega | (simp; omega) | simp_all) (by first | assumption | omega | (simp; omega) | simp_all))) ?_
  refine dp rfl (pop_assign rfl) ?_
  refine dn ?_
  refine hw_reg ?_
  refine dp rfl (pop_move rfl) ?_
  refine dp rfl (pop_neq rfl rfl) ?_
  refine dn ?_
  refine hw_cond rfl (fun h1 => ?_) (fun h2 => ?_)
  · try simp at h1
    refine hw_reg ?_
    refine dp rfl (pop_move rfl) ?_
    refine dp rfl (pop_assign rfl) ?_
    refine dn ?_
    refine hw_ret ?_
    first
    | (refine ret_p rfl ?_
       show HVal.int .i64 _ = _
       first
       | (rw [wishesE, if_pos (by simpa using h1)]; done)
       | (rw [wishesE, if_neg (by simpa using h2), wishesR, if_pos (by omega)]; done)
       | (rw [wishesE, if_neg (by simpa using h2), hg, ws8 h7]; done)
       | (rw [wishesE, if_neg (by simpa using h2), hg, ws6 h8 (by simpa using h9)]; done)
       | (rw [wishesE, if_neg (by simpa using h2), hg, ws2 h8 (by simpa using h10) (by omega)]; done)
       | (rw [wishesE, if_neg (by simpa using h2), hg]; rfl))
    | (refine ret_g Ghost.drop rfl ⟨?_, rfl⟩
       show HVal.int .i64 _ = _
       first
       | (rw [wishesE, if_neg (by simpa using h2), hg, wsP h8 (by simpa using h10) (by omega) (hg2.trans (wp8 h15)) (by decide)]; done)
       | (rw [wishesE, if_neg (by simpa using h2), hg, wsP h8 (by simpa using h10) (by omega) (hg2.trans (wp6 h16 (by rw [← hS y]; simpa using h17))) (by decide)]; done))
  · try simp at h2
    refine hw_skip ?_
    refine seqQ_n ?_
    refine hw_seq ?_
    have hso := (checkRoom_ok (r := r) (by simpa using h2)).1
    refine hw_reg ?_
    refine dp rfl (pop_move rfl) ?_
    refine dp rfl (pop_lenm ty34 rfl) ?_
    refine dp rfl (pop_gtr rfl rfl) ?_
    refine dn ?_
    refine hw_cond rfl (fun h3 => ?_) (fun h4 => ?_)
    · try simp at h3
      refine hw_reg ?_
      refine dp rfl (pop_assign rfl) ?_
      refine dn ?_
      refine hw_ret ?_
      first
      | (refine ret_p rfl ?_
         show HVal.int .i64 _ = _
         first
         | (rw [wishesE, if_pos (by simpa using h1)]; done)
         | (rw [wishesE, if_neg (by simpa using h2), wishesR, if_pos (by omega)]; done)
         | (rw [wishesE, if_neg (by simpa using h2), hg, ws8 h7]; done)
         | (rw [wishesE, if_neg (by simpa using h2), hg, ws6 h8 (by simpa using h9)]; done)
         | (rw [wishesE, if_neg (by simpa using h2), hg, ws2 h8 (by simpa using h10) (by omega)]; done)
         | (rw [wishesE, if_neg (by simpa using h2), hg]; rfl))
      | (refine ret_g Ghost.drop rfl ⟨?_, rfl⟩
         show HVal.int .i64 _ = _
         first
         | (rw [wishesE, if_neg (by simpa using h2), hg, wsP h8 (by simpa using h10) (by omega) (hg2.trans (wp8 h15)) (by decide)]; done)
         | (rw [wishesE, if_neg (by simpa using h2), hg, wsP h8 (by simpa using h10) (by omega) (hg2.trans (wp6 h16 (by rw [← hS y]; simpa using h17))) (by decide)]; done))
    · try simp at h4
      refine hw_skip ?_
      refine seqQ_n ?_
      refine hw_seq ?_
      refine hw_reg ?_
      refine dp rfl (pop_move rfl) ?_
      refine dp rfl (pop_lenm ty34 rfl) ?_
      refine dp rfl (pop_move rfl) ?_
      refine dn ?_
      refine hw_block ?_
      refine hw_loopw [4, 6, 7, 8, 10, 21, 22, 23, 24, 25, 26, 27, 28, 29, 30, 31, 32, 33, 34, 35, 36, 37, 38, 39, 40, 41, 42, 43, 44, 45, 46, 47, 48, 49, 50, 51, 52, 53, 54, 55, 56, 57, 58, 59, 60, 61] (fun (k : Nat) => [(21, .int .i64 k)]) (fun (k : Nat) => []) (fun (k : Nat) => k ≤ w.length ∧ (wishesR r w = wsGo r w k (w.drop k))) (fun (k : Nat) => w.length - k) (0) ?_ ?_ ?_ ?_
      · refine ⟨Nat.zero_le _, ?_⟩
        rw [wishesR, if_neg (by omega)]; rfl
      · exact ⟨rfl, trivial⟩
      · exact List.Perm.refl _
      · intro k hinv
        obtain ⟨hk, hg⟩ := hinv
        refine hw_reg ?_
        refine dp rfl (pop_lss rfl rfl) ?_
        refine dn ?_
        refine hw_seq ?_
        refine hw_cond rfl (fun h5 => ?_) (fun h6 => ?_)
        · try simp at h5
          obtain ⟨x, hx⟩ : ∃ x, w[k]? = some x := ⟨_, List.getElem?_eq_getElem h5⟩
          have hdx := drop_cons hx
          rw [hdx] at hg
          refine hw_skip ?_
          refine seqQ_n ?_
          refine hw_seq ?_
          refine hw_block ?_
          refine hw_reg ?_
          refine dp rfl (pop_move rfl) ?_
          refine dp rfl (pop_idx ty34 ty78 rfl rfl rfl (by first | assumption | simp_all)) ?_
          refine dp rfl (pop_loadw ty78 rfl rfl rfl rfl) ?_
          refine de rfl (eop_alloc ty78 rfl fun b7 => ?_)
          refine dp rfl (pop_assign rfl) ?_
          refine de0 (eop_storew ty78 rfl rfl rfl rfl rfl ?_)
          refine dn ?_
          refine hw_ghost (Ghost.fc0 7 rfl) ?_
          refine hw_seq ?_
          refine hw_block ?_
          refine hw_reg ?_
          refine dp rfl (pop_fieldAddr ty28 rfl ty26 (by decide) rfl) ?_
          refine dp rfl (pop_load ty26 rfl rfl rfl) ?_
          refine dp rfl (pop_fieldAddr ty78 rfl ty9 (by decide) rfl) ?_
          refine dp rfl (pop_load ty9 rfl rfl rfl) ?_
          refine dp rfl (pop_call ca53 rfl (WeakL.refl _) (c_slices_Contains_string_string (by first | assumption | omega | (simp; omega) | simp_all))) ?_
          refine dp rfl (pop_not rfl) ?_
          refine dp rfl (pop_assign rfl) ?_
          refine dn ?_
          refine hw_cond rfl (fun h7 => ?_) (fun h8 => ?_)
          · try simp at h7
            refine hw_reg ?_
            refine dp rfl (pop_assign rfl) ?_
            refine dn ?_
            refine hw_ret ?_
            first
            | (refine ret_p rfl ?_
               show HVal.int .i64 _ = _
               first
               | (rw [wishesE, if_pos (by simpa using h1)]; done)
               | (rw [wishesE, if_neg (by simpa using h2), wishesR, if_pos (by omega)]; done)
               | (rw [wishesE, if_neg (by simpa using h2), hg, ws8 h7]; done)
               | (rw [wishesE, if_neg (by simpa using h2), hg, ws6 h8 (by simpa using h9)]; done)
               | (rw [wishesE, if_neg (by simpa using h2), hg, ws2 h8 (by simpa using h10) (by omega)]; done)
               | (rw [wishesE, if_neg (by simpa using h2), hg]; rfl))
            | (refine ret_g Ghost.drop rfl ⟨?_, rfl⟩
               show HVal.int .i64 _ = _
               first
               | (rw [wishesE, if_neg (by simpa using h2), hg, wsP h8 (by simpa using h10) (by omega) (hg2.trans (wp8 h15)) (by decide)]; done)
               | (rw [wishesE, if_neg (by simpa using h2), hg, wsP h8 (by simpa using h10) (by omega) (hg2.trans (wp6 h16 (by rw [← hS y]; simpa using h17))) (by decide)]; done))
          · try simp at h8
            refine hw_reg ?_
            refine dp rfl (pop_move rfl) ?_
            refine dp rfl (pop_move rfl) ?_
            refine dp rfl (pop_slicem ty34 ty78 rfl rfl ⟨_, _, rfl, rfl⟩ (by omega) (by omega)) ?_
            refine dp rfl (pop_makeFunc rfl rfl) ?_
            refine dp rfl (pop_call ca54 rfl (WeakL.refl _) (c_slices_ContainsFunc_api_Wishes_api_Wishes (p := fun y => y.Team == x.Team) ca58 (fun _ => c_draft_CheckWishes_1) (by simp; omega))) ?_
            refine dp rfl (pop_assign rfl) ?_
            refine dn ?_
            refine hw_cond rfl (fun h9 => ?_) (fun h10 => ?_)
            · try simp at h9
              refine hw_reg ?_
              refine dp rfl (pop_assign rfl) ?_
              refine dn ?_
              refine hw_ret ?_
              first
              | (refine ret_p rfl ?_
                 show HVal.int .i64 _ = _
                 first
                 | (rw [wishesE, if_pos (by simpa using h1)]; done)
                 | (rw [wishesE, if_neg (by simpa using h2), wishesR, if_pos (by omega)]; done)
                 | (rw [wishesE, if_neg (by simpa using h2), hg, ws8 h7]; done)
                 | (rw [wishesE, if_neg (by simpa using h2), hg, ws6 h8 (by simpa using h9)]; done)
                 | (rw [wishesE, if_neg (by simpa using h2), hg, ws2 h8 (by simpa using h10) (by omega)]; done)
                 | (rw [wishesE, if_neg (by simpa using h2), hg]; rfl))
              | (refine ret_g Ghost.drop rfl ⟨?_, rfl⟩
                 show HVal.int .i64 _ = _
                 first
                 | (rw [wishesE, if_neg (by simpa using h2), hg, wsP h8 (by simpa using h10) (by omega) (hg2.trans (wp8 h15)) (by decide)]; done)
                 | (rw [wishesE, if_neg (by simpa using h2), hg, wsP h8 (by simpa using h10) (by omega) (hg2.trans (wp6 h16 (by rw [← hS y]; simpa using h17))) (by decide)]; done))
            · try simp at h10
              have hxp := hwp x (List.mem_of_getElem? hx)
              refine hw_reg ?_
              refine dp rfl (pop_fieldAddr ty78 rfl ty26 (by decide) rfl) ?_
              refine dp rfl (pop_load ty26 rfl rfl rfl) ?_
              refine dp rfl (pop_lenm ty26 rfl) ?_
              refine dp rfl (pop_gtr rfl rfl) ?_
              refine dp rfl (pop_assign rfl) ?_
              refine dn ?_
              refine hw_cond rfl (fun h11 => ?_) (fun h12 => ?_)
              · try simp at h11
                refine hw_reg ?_
                refine dp rfl (pop_assign rfl) ?_
                refine dn ?_
                refine hw_ret ?_
                first
                | (refine ret_p rfl ?_
                   show HVal.int .i64 _ = _
                   first
                   | (rw [wishesE, if_pos (by simpa using h1)]; done)
                   | (rw [wishesE, if_neg (by simpa using h2), wishesR, if_pos (by omega)]; done)
                   | (rw [wishesE, if_neg (by simpa using h2), hg, ws8 h7]; done)
                   | (rw [wishesE, if_neg (by simpa using h2), hg, ws6 h8 (by simpa using h9)]; done)
                   | (rw [wishesE, if_neg (by simpa using h2), hg, ws2 h8 (by simpa using h10) (by omega)]; done)
                   | (rw [wishesE, if_neg (by simpa using h2), hg]; rfl))
                | (refine ret_g Ghost.drop rfl ⟨?_, rfl⟩
                   show HVal.int .i64 _ = _
                   first
                   | (rw [wishesE, if_neg (by simpa using h2), hg, wsP h8 (by simpa using h10) (by omega) (hg2.trans (wp8 h15)) (by decide)]; done)
                   | (rw [wishesE, if_neg (by simpa using h2), hg, wsP h8 (by simpa using h10) (by omega) (hg2.trans (wp6 h16 (by rw [← hS y]; simpa using h17))) (by decide)]; done))
              · try simp at h12
                refine hw_skip ?_
                refine blockQ_n ?_
                refine seqQ_n ?_
                refine hw_reg ?_
                refine de rfl (eop_makeMap fun m44 => ?_)
                refine dp rfl (pop_assign rfl) ?_
                refine dn ?_
                refine hw_reg ?_
                refine dp rfl (pop_fieldAddr ty78 rfl ty26 (by decide) rfl) ?_
                refine dp rfl (pop_load ty26 rfl rfl rfl) ?_
                refine dp rfl (pop_lenm ty26 rfl) ?_
                refine dp rfl (pop_move rfl) ?_
                refine dn ?_
                refine hw_block ?_
                refine hw_loopw2 [4, 10, 48, 49, 50, 51, 52, 53, 54, 55, 56, 57, 58, 59, 60] (fun (j : Nat) (S : List Str) => [(48, .int .i64 j)]) (fun (j : Nat) (S : List Str) => [.map m44 (sk (mset S))]) (fun (j : Nat) (S : List Str) => j ≤ x.Players.length ∧ (wpGo r x.Players 0 x.Players = wpGo r x.Players j (x.Players.drop j) ∧ ∀ y, S.contains y = (x.Players.take j).contains y)) (fun (j : Nat) (S : List Str) => x.Players.length - j) (0) ([]) ?_ ?_ ?_ ?_
                · exact ⟨Nat.zero_le _, rfl, by simp⟩
                · exact ⟨rfl, trivial⟩
                · exact List.Perm.refl _
                · intro j S hinv
                  obtain ⟨hj, hg2, hS⟩ := hinv
                  refine hw_reg ?_
                  refine dp rfl (pop_lss rfl rfl) ?_
                  refine dn ?_
                  refine hw_seq ?_
                  refine hw_cond rfl (fun h13 => ?_) (fun h14 => ?_)
                  · try simp at h13
                    obtain ⟨y, hy⟩ : ∃ y, x.Players[j]? = some y := ⟨_, List.getElem?_eq_getElem h13⟩
                    have hdy := drop_cons hy
                    rw [hdy] at hg2
                    refine hw_skip ?_
                    refine seqQ_n ?_
                    refine hw_seq ?_
                    refine hw_block ?_
                    refine hw_reg ?_
                    refine dp rfl (pop_idx ty26 ty9 rfl rfl rfl (by first | assumption | simp_all)) ?_
                    refine dp rfl (pop_load ty9 rfl rfl rfl) ?_
                    refine dp rfl (pop_assign rfl) ?_
                    refine dn ?_
                    refine hw_seq ?_
                    refine hw_reg ?_
                    refine dp rfl (pop_move rfl) ?_
                    refine dp rfl (pop_call ca59 rfl (WeakL.refl _) (c_draft_has hp hso)) ?_
                    refine dp rfl (pop_not rfl) ?_
                    refine dn ?_
                    refine hw_cond rfl (fun h15 => ?_) (fun h16 => ?_)
                    · try simp at h15
                      refine hw_reg ?_
                      refine dp rfl (pop_assign rfl) ?_
                      refine dn ?_
                      refine hw_ret ?_
                      first
                      | (refine ret_p rfl ?_
                         show HVal.int .i64 _ = _
                         first
                         | (rw [wishesE, if_pos (by simpa using h1)]; done)
                         | (rw [wishesE, if_neg (by simpa using h2), wishesR, if_pos (by omega)]; done)
                         | (rw [wishesE, if_neg (by simpa using h2), hg, ws8 h7]; done)
                         | (rw [wishesE, if_neg (by simpa using h2), hg, ws6 h8 (by simpa using h9)]; done)
                         | (rw [wishesE, if_neg (by simpa using h2), hg, ws2 h8 (by simpa using h10) (by omega)]; done)
                         | (rw [wishesE, if_neg (by simpa using h2), hg]; rfl))
                      | (refine ret_g Ghost.drop rfl ⟨?_, rfl⟩
                         show HVal.int .i64 _ = _
                         first
                         | (rw [wishesE, if_neg (by simpa using h2), hg, wsP h8 (by simpa using h10) (by omega) (hg2.trans (wp8 h15)) (by decide)]; done)
                         | (rw [wishesE, if_neg (by simpa using h2), hg, wsP h8 (by simpa using h10) (by omega) (hg2.trans (wp6 h16 (by rw [← hS y]; simpa using h17))) (by decide)]; done))
                    · try simp at h16
                      refine hw_skip ?_
                      refine seqQ_n ?_
                      refine hw_seq ?_
                      refine hw_reg ?_
                      refine dp rfl (pop_move rfl) ?_
                      refine dp rfl (pop_move rfl) ?_
                      first
                      | refine de rfl (eop_lookup_set (i := 0) ty104 ty9 ty4 rfl rfl rfl ?_)
                      | refine de rfl (eop_lookup_set (i := 1) ty104 ty9 ty4 rfl rfl rfl ?_)
                      | refine de rfl (eop_lookup_set (i := 2) ty104 ty9 ty4 rfl rfl rfl ?_)
                      | refine de rfl (eop_lookup_set (i := 3) ty104 ty9 ty4 rfl rfl rfl ?_)
                      refine dn ?_
                      refine hw_cond rfl (fun h17 => ?_) (fun h18 => ?_)
                      · try simp at h17
                        refine hw_reg ?_
                        refine dp rfl (pop_assign rfl) ?_
                        refine dn ?_
                        refine hw_ret ?_
                        first
                        | (refine ret_p rfl ?_
                           show HVal.int .i64 _ = _
                           first
                           | (rw [wishesE, if_pos (by simpa using h1)]; done)
                           | (rw [wishesE, if_neg (by simpa using h2), wishesR, if_pos (by omega)]; done)
                           | (rw [wishesE, if_neg (by simpa using h2), hg, ws8 h7]; done)
                           | (rw [wishesE, if_neg (by simpa using h2), hg, ws6 h8 (by simpa using h9)]; done)
                           | (rw [wishesE, if_neg (by simpa using h2), hg, ws2 h8 (by simpa using h10) (by omega)]; done)
                           | (rw [wishesE, if_neg (by simpa using h2), hg]; rfl))
                        | (refine ret_g Ghost.drop rfl ⟨?_, rfl⟩
                           show HVal.int .i64 _ = _
                           first
                           | (rw [wishesE, if_neg (by simpa using h2), hg, wsP h8 (by simpa using h10) (by omega) (hg2.trans (wp8 h15)) (by decide)]; done)
                           | (rw [wishesE, if_neg (by simpa using h2), hg, wsP h8 (by simpa using h10) (by omega) (hg2.trans (wp6 h16 (by rw [← hS y]; simpa using h17))) (by decide)]; done))
                      · try simp at h18
                        refine hw_skip ?_
                        refine seqQ_n ?_
                        refine hw_reg1 ?_
                        refine dp rfl (pop_move rfl) ?_
                        refine dp rfl (pop_move rfl) ?_
                        first
                        | refine de0 (eop_update_set (i := 0) ty104 ty9 rfl rfl rfl rfl ?_)
                        | refine de0 (eop_update_set (i := 1) ty104 ty9 rfl rfl rfl rfl ?_)
                        | refine de0 (eop_update_set (i := 2) ty104 ty9 rfl rfl rfl rfl ?_)
                        | refine de0 (eop_update_set (i := 3) ty104 ty9 rfl rfl rfl rfl ?_)
                        refine dn ?_
                        refine blockQ_n ?_
                        refine seqQ_n ?_
                        refine hw_reg1 ?_
                        refine dp rfl (pop_add64 rfl rfl (by omega) (by omega)) ?_
                        refine dp rfl (pop_move rfl) ?_
                        refine dn ?_
                        refine ⟨j + 1, sadd y S, ?_, ?_, ⟨rfl, trivial⟩, (by repeat (first | exact keeps_refl | refine keeps_upd rfl ?_ | refine keeps_loop rfl rfl ?_)), List.Perm.refl _⟩
                        · refine ⟨by omega, ?_, fun z => ?_⟩
                          · rw [hg2, wp0 h16 (by rw [← hS y]; simpa using h18)]
                          · rw [sadd_contains, hS z, set_snoc hy]
                        · dsimp only; omega
                  · try simp at h14
                    have hnj : x.Players.length ≤ j := by omega
                    obtain rfl : j = x.Players.length := by omega
                    rw [drop_all (Nat.le_refl _)] at hg2
                    replace hg2 : wpGo r x.Players 0 x.Players = 0 := hg2
                    refine hw_ghost Ghost.drop ?_
                    refine hw_exit ?_
                    refine seqQ_x ?_
                    refine loopQ2_x ?_
                    refine blockQ_eq ?_
                    refine blockQ_n ?_
                    refine seqQ_n ?_
                    refine hw_reg1 ?_
                    refine dp rfl (pop_add64 rfl rfl (by omega) (by omega)) ?_
                    refine dp rfl (pop_move rfl) ?_
                    refine dn ?_
                    refine ⟨k + 1, ?_, ?_, ⟨rfl, trivial⟩, (by repeat (first | exact keeps_refl | refine keeps_upd rfl ?_ | refine keeps_loop rfl rfl ?_)), List.Perm.refl _⟩
                    · refine ⟨by omega, ?_⟩
                      rw [hg, ws0 h8 (by simpa using h10) (by omega) hg2]
                    · dsimp only; omega
        · try simp at h6
          have hnk : w.length ≤ k := by omega
          obtain rfl : k = w.length := by omega
          rw [drop_all (Nat.le_refl _)] at hg
          refine hw_exit ?_
          refine seqQ_x ?_
          refine loopQ_x ?_
          refine blockQ_eq ?_
          refine seqQ_n ?_
          refine hw_reg ?_
          refine dp rfl (pop_assign rfl) ?_
          refine dn ?_
          refine hw_ret ?_
          first
          | (refine ret_p rfl ?_
             show HVal.int .i64 _ = _
             first
             | (rw [wishesE, if_pos (by simpa using h1)]; done)
             | (rw [wishesE, if_neg (by simpa using h2), wishesR, if_pos (by omega)]; done)
             | (rw [wishesE, if_neg (by simpa using h2), hg, ws8 h7]; done)
             | (rw [wishesE, if_neg (by simpa using h2), hg, ws6 h8 (by simpa using h9)]; done)
             | (rw [wishesE, if_neg (by simpa using h2), hg, ws2 h8 (by simpa using h10) (by omega)]; done)
             | (rw [wishesE, if_neg (by simpa using h2), hg]; rfl))
          | (refine ret_g Ghost.drop rfl ⟨?_, rfl⟩
             show HVal.int .i64 _ = _
             first
             | (rw [wishesE, if_neg (by simpa using h2), hg, wsP h8 (by simpa using h10) (by omega) (hg2.trans (wp8 h15)) (by decide)]; done)
             | (rw [wishesE, if_neg (by simpa using h2), hg, wsP h8 (by simpa using h10) (by omega) (hg2.trans (wp6 h16 (by rw [← hS y]; simpa using h17))) (by decide)]; done))

/-- (*benchwarmer/draft.run).auto -/
theorem c_draft_run_auto {b m : Nat} {va v : Value} {r : Room} {A T l : List Pick} {S : List Str} {w : List Wish} {n : Int} {p : Pick} {g : Str → Bool} (hp0 : T[0]? = some p) (hl : l.length ≤ 1000) (hw : w.length ≤ 1000000) (hwp : ∀ y ∈ w, y.Players.length ≤ 1000000) (hpl : r.Players.length ≤ 1000000) (hf : ∃ s ∈ r.Players, g s = false) (hS : ∀ x, S.contains x = g x) : Con Tryz.prog 63 [pAt b, eWishes w, .int .i64 n] (RunM b m va v r A T l S) (fun x M' => ∃ v', x = .tup [] ∧ M' = RunM b m va v' r A (T.drop 1) (l ++ [⟨p.No, p.Team, wishOf r g w p.Team, n, true⟩]) (sadd (wishOf r g w p.Team) S)) := by
  refine Con.of_body Tryz.func63 rfl Tryz.ntmps63 rfl rfl ?_
  refine hw_reg ?_
  refine dp rfl (pop_move rfl) ?_
  refine dp rfl ((by first | exact pop_nilCheck rfl | exact pop_nilCheck_raw rfl)) ?_
  refine dp rfl (pop_fieldAddr_raw ty113 rfl ty36 (by decide) rfl) ?_
  first
  | refine de rfl (eop_load (i := 0) ty36 rfl rfl (.inl ⟨rfl, rfl⟩) ?_)
  | refine de rfl (eop_load (i := 1) ty36 rfl rfl (.inl ⟨rfl, rfl⟩) ?_)
  | refine de rfl (eop_load (i := 2) ty36 rfl rfl (.inl ⟨rfl, rfl⟩) ?_)
  | refine de rfl (eop_load (i := 3) ty36 rfl rfl (.inl ⟨rfl, rfl⟩) ?_)
  refine dp rfl (pop_idx (j := 0) (a := p) ty36 ty55 rfl rfl rfl hp0) ?_
  refine dp rfl (pop_loadw ty55 rfl rfl rfl rfl) ?_
  refine de rfl (eop_alloc ty55 rfl fun b6 => ?_)
  first
  | refine de0 (eop_store (i := 0) ty55 rfl rfl rfl rfl rfl (Nat.le_of_ble_eq_true rfl) ?_)
  | refine de0 (eop_store (i := 1) ty55 rfl rfl rfl rfl rfl (Nat.le_of_ble_eq_true rfl) ?_)
  | refine de0 (eop_store (i := 2) ty55 rfl rfl rfl rfl rfl (Nat.le_of_ble_eq_true rfl) ?_)
  | refine de0 (eop_store (i := 3) ty55 rfl rfl rfl rfl rfl (Nat.le_of_ble_eq_true rfl) ?_)
  refine dn ?_
  refine hw_reg ?_
  refine dp rfl (pop_move rfl) ?_
  refine dp rfl (pop_move rfl) ?_
  refine dp rfl (pop_fieldAddr_raw ty55 rfl ty9 (by decide) rfl) ?_
  first
  | refine de rfl (eop_load (i := 0) ty9 rfl rfl (.inl ⟨rfl, rfl⟩) ?_)
  | refine de rfl (eop_load (i := 1) ty9 rfl rfl (.inl ⟨rfl, rfl⟩) ?_)
  | refine de rfl (eop_load (i := 2) ty9 rfl rfl (.inl ⟨rfl, rfl⟩) ?_)
  | refine de rfl (eop_load (i := 3) ty9 rfl rfl (.inl ⟨rfl, rfl⟩) ?_)
  refine de rfl (eop_callw (hs' := [.vptr (RunH r A T l S) 0, eWishes w, .str p.Team]) ca66 rfl ⟨bowRunC, .refl, .refl, trivial⟩ (c_draft_run_wish (g := g) hw hwp hpl hf hS) rfl ?_)
  refine dp rfl (pop_move rfl) ?_
  refine dp rfl (pop_fieldAddr_raw ty55 rfl ty9 (by decide) rfl) ?_
  first
  | refine de0 (eop_store (i := 0) ty9 rfl rfl rfl rfl rfl (Nat.le_of_ble_eq_true rfl) ?_)
  | refine de0 (eop_store (i := 1) ty9 rfl rfl rfl rfl rfl (Nat.le_of_ble_eq_true rfl) ?_)
  | refine de0 (eop_store (i := 2) ty9 rfl rfl rfl rfl rfl (Nat.le_of_ble_eq_true rfl) ?_)
  | refine de0 (eop_store (i := 3) ty9 rfl rfl rfl rfl rfl (Nat.le_of_ble_eq_true rfl) ?_)
  refine dp rfl (pop_fieldAddr_raw ty55 rfl ty3 (by decide) rfl) ?_
  first
  | refine de0 (eop_store (i := 0) ty3 rfl rfl rfl rfl rfl (Nat.le_of_ble_eq_true rfl) ?_)
  | refine de0 (eop_store (i := 1) ty3 rfl rfl rfl rfl rfl (Nat.le_of_ble_eq_true rfl) ?_)
  | refine de0 (eop_store (i := 2) ty3 rfl rfl rfl rfl rfl (Nat.le_of_ble_eq_true rfl) ?_)
  | refine de0 (eop_store (i := 3) ty3 rfl rfl rfl rfl rfl (Nat.le_of_ble_eq_true rfl) ?_)
  refine dp rfl (pop_fieldAddr_raw ty55 rfl ty4 (by decide) rfl) ?_
  first
  | refine de0 (eop_store (i := 0) ty4 rfl rfl rfl rfl rfl (Nat.le_of_ble_eq_true rfl) ?_)
  | refine de0 (eop_store (i := 1) ty4 rfl rfl rfl rfl rfl (Nat.le_of_ble_eq_true rfl) ?_)
  | refine de0 (eop_store (i := 2) ty4 rfl rfl rfl rfl rfl (Nat.le_of_ble_eq_true rfl) ?_)
  | refine de0 (eop_store (i := 3) ty4 rfl rfl rfl rfl rfl (Nat.le_of_ble_eq_true rfl) ?_)
  refine dn ?_
  refine hw_reg1 ?_
  refine dp rfl (pop_move rfl) ?_
  refine de rfl (eop_loadw (i := 0) (h := ePick ⟨p.No, p.Team, wishOf r g w p.Team, n, true⟩) ty55 rfl rfl rfl rfl rfl ?_)
  refine de rfl (eop_callf (M1 := (RunM b m va v r A T l S)) (R := [_]) ca67 rfl (WeakL.refl _) (List.perm_append_comm (l₁ := [_])) (c_draft_run_pick (p := ⟨p.No, p.Team, wishOf r g w p.Team, n, true⟩) (lt_of_get hp0) hl) ?_)
  rintro _ _ ⟨v24, rfl, rfl⟩
  refine dn ?_
  exact ret_g ((Ghost.perm List.perm_append_comm).trans Ghost.drop) rfl ⟨v24, rfl, rfl⟩

/-- benchwarmer/draft.wished -/
theorem c_draft_wished {r : Room} {k : List Keep} {s : List Swap} {l : List Pick} {w : List Wish} (ht : r.Teams.length ≤ 1000000) (hp : r.Players.length ≤ 1000000) (hk0 : k.length ≤ 1000000) (hl : s.length ≤ 1000000) (hll : l.length ≤ 1000) (hw : w.length ≤ 1000000) (hwp : ∀ y ∈ w, y.Players.length ≤ 1000000) : Con Tryz.prog 60 [.vptr (hcells (eRoom r)) 0, eKeeps k, eSwaps s, ePicks l, eWishes w] [] (fun res M' => ∃ v, res = .tup [.raw v, .int .i64 (wishedE r k s l w)] ∧ (wishedE r k s l w = 0 → ∃ b m va u S, v = .pointer (some ⟨b, 0, none⟩) ∧ RunOk r k s l S ∧ M' = RunM b m va u r (open1 r k s) ((freeP r k s).drop l.length) l S)) := by
  refine Con.of_body Tryz.func60 rfl Tryz.ntmps60 rfl rfl ?_
  refine hw_reg ?_
  refine dp rfl (pop_assign rfl) ?_
  refine dp rfl (pop_assign rfl) ?_
  refine dn ?_
  refine hw_reg ?_
  refine dp rfl (pop_move rfl) ?_
  refine dp rfl (pop_move rfl) ?_
  refine dp rfl (pop_move rfl) ?_
  refine dp rfl (pop_move rfl) ?_
  refine de rfl (eop_callf (M1 := []) (R := []) ca73 rfl (WeakL.refl _) (List.Perm.refl _) (c_draft_follow ht hp hk0 hl hll) ?_)
  rintro _ M20 ⟨v20, rfl, hv20⟩
  refine dp rfl (pop_move rfl) ?_
  refine dp rfl (pop_extract rfl rfl) ?_
  refine dp rfl (pop_extract rfl rfl) ?_
  refine dp rfl (pop_assign rfl) ?_
  refine dp rfl (pop_assign rfl) ?_
  refine dn ?_
  refine hw_seq ?_
  refine hw_reg ?_
  refine dp rfl (pop_move rfl) ?_
  refine dp rfl (pop_neq rfl rfl) ?_
  refine dn ?_
  refine hw_cond rfl (fun h1 => ?_) (fun h2 => ?_)
  · try simp at h1
    refine hw_reg ?_
    refine dp rfl (pop_move rfl) ?_
    refine dp rfl (pop_assign rfl) ?_
    refine dp rfl (pop_assign rfl) ?_
    refine dn ?_
    refine hw_ret ?_
    first
    | (refine ret_g Ghost.clear rfl ⟨.pointer none, ?_, fun h0 => ?_⟩
       · show HVal.tup _ = _
         first | (rw [wishedE, if_pos (by simpa using h1)]; rfl) | (rw [wishedE, if_neg (by simpa using h2)]; rfl)
       · exfalso
         first | (rw [wishedE, if_pos (by simpa using h1)] at h0; exact h1 h0) | (rw [wishedE, if_neg (by simpa using h2)] at h0; exact h3 h0))
    | (have hz : wishedE r k s l w = 0 := by rw [wishedE, if_neg (by simpa using h2)]; exact h4
       rw [hz]
       obtain ⟨b, m, va, u, S, rfl, ok, rfl⟩ := hv20 (by simpa using h2)
       exact ret_q rfl ⟨_, rfl, fun _ => ⟨b, m, va, u, S, rfl, ok, rfl⟩⟩)
  · try simp at h2
    refine hw_skip ?_
    refine seqQ_n ?_
    refine hw_seq ?_
    refine hw_reg ?_
    refine dp rfl (pop_move rfl) ?_
    refine dp rfl ((by first | exact pop_nilCheck rfl | exact pop_nilCheck_raw rfl)) ?_
    refine dp rfl (pop_loadw ty28 rfl rfl rfl rfl) ?_
    refine dp rfl (pop_move rfl) ?_
    refine dp rfl (pop_call ca16 rfl (WeakL.refl _) (c_draft_CheckWishes (by first | assumption | omega | (simp; omega) | simp_all) (by first | assumption | omega | (simp; omega) | simp_all) (by first | assumption | omega | (simp; omega) | simp_all) (by first | assumption | omega | (simp; omega) | simp_all))) ?_
    refine dp rfl (pop_assign rfl) ?_
    refine dn ?_
    refine hw_reg ?_
    refine dp rfl (pop_move rfl) ?_
    refine dp rfl (pop_neq rfl rfl) ?_
    refine dn ?_
    refine hw_cond rfl (fun h3 => ?_) (fun h4 => ?_)
    · try simp at h3
      refine hw_reg ?_
      refine dp rfl (pop_move rfl) ?_
      refine dp rfl (pop_assign rfl) ?_
      refine dp rfl (pop_assign rfl) ?_
      refine dn ?_
      refine hw_ret ?_
      first
      | (refine ret_g Ghost.clear rfl ⟨.pointer none, ?_, fun h0 => ?_⟩
         · show HVal.tup _ = _
           first | (rw [wishedE, if_pos (by simpa using h1)]; rfl) | (rw [wishedE, if_neg (by simpa using h2)]; rfl)
         · exfalso
           first | (rw [wishedE, if_pos (by simpa using h1)] at h0; exact h1 h0) | (rw [wishedE, if_neg (by simpa using h2)] at h0; exact h3 h0))
      | (have hz : wishedE r k s l w = 0 := by rw [wishedE, if_neg (by simpa using h2)]; exact h4
         rw [hz]
         obtain ⟨b, m, va, u, S, rfl, ok, rfl⟩ := hv20 (by simpa using h2)
         exact ret_q rfl ⟨_, rfl, fun _ => ⟨b, m, va, u, S, rfl, ok, rfl⟩⟩)
    · try simp at h4
      refine hw_skip ?_
      refine seqQ_n ?_
      refine hw_reg ?_
      refine dp rfl (pop_move rfl) ?_
      refine dp rfl (pop_assign rfl) ?_
      refine dp rfl (pop_assign rfl) ?_
      refine dn ?_
      refine hw_ret ?_
      first
      | (refine ret_g Ghost.clear rfl ⟨.pointer none, ?_, fun h0 => ?_⟩
         · show HVal.tup _ = _
           first | (rw [wishedE, if_pos (by simpa using h1)]; rfl) | (rw [wishedE, if_neg (by simpa using h2)]; rfl)
         · exfalso
           first | (rw [wishedE, if_pos (by simpa using h1)] at h0; exact h1 h0) | (rw [wishedE, if_neg (by simpa using h2)] at h0; exact h3 h0))
      | (have hz : wishedE r k s l w = 0 := by rw [wishedE, if_neg (by simpa using h2)]; exact h4
         rw [hz]
         obtain ⟨b, m, va, u, S, rfl, ok, rfl⟩ := hv20 (by simpa using h2)
         exact ret_q rfl ⟨_, rfl, fun _ => ⟨b, m, va, u, S, rfl, ok, rfl⟩⟩)

/-- benchwarmer/draft.Finish -/
theorem c_draft_Finish {r : Room} {k : List Keep} {s : List Swap} {l : List Pick} {w : List Wish} (ht : r.Teams.length ≤ 1000000) (hp : r.Players.length ≤ 1000000) (hk0 : k.length ≤ 1000000) (hl : s.length ≤ 1000000) (hll : l.length ≤ 1000) (hw : w.length ≤ 1000000) (hwp : ∀ y ∈ w, y.Players.length ≤ 1000000) : ConP Tryz.prog 18 [eRoom r, eKeeps k, eSwaps s, ePicks l, eWishes w] (.tup [ePicks (if wishedE r k s l w != 0 then [] else finL r k s w l), .int .i64 (wishedE r k s l w)]) := by
  refine Con.of_body Tryz.func18 rfl Tryz.ntmps18 rfl rfl ?_
  refine hw_reg ?_
  refine dp rfl (pop_box rfl rfl) ?_
  refine dp rfl (pop_assign rfl) ?_
  refine dp rfl (pop_assign rfl) ?_
  refine dn ?_
  refine hw_reg ?_
  refine dp rfl (pop_move rfl) ?_
  refine dp rfl (pop_move rfl) ?_
  refine dp rfl (pop_move rfl) ?_
  refine dp rfl (pop_move rfl) ?_
  refine de rfl (eop_callf (M1 := []) (R := []) ca60 rfl (WeakL.refl _) (List.Perm.refl _) (c_draft_wished ht hp hk0 hl hll hw hwp) ?_)
  rintro _ M19 ⟨v19, rfl, hv19⟩
  refine dp rfl (pop_move rfl) ?_
  refine dp rfl (pop_extract rfl rfl) ?_
  refine dp rfl (pop_extract rfl rfl) ?_
  refine dp rfl (pop_assign rfl) ?_
  refine dp rfl (pop_assign rfl) ?_
  refine dn ?_
  refine hw_seq ?_
  refine hw_reg ?_
  refine dp rfl (pop_move rfl) ?_
  refine dp rfl (pop_neq rfl rfl) ?_
  refine dn ?_
  refine hw_cond rfl (fun h1 => ?_) (fun h2 => ?_)
  · try simp at h1
    refine hw_reg ?_
    refine dp rfl (pop_move rfl) ?_
    refine dp rfl (pop_assign rfl) ?_
    refine dp rfl (pop_assign rfl) ?_
    refine dn ?_
    refine hw_ret ?_
    first
    | exact ⟨_, [], Ghost.clear, _, _, rfl, weak_tup2 (weak_nil 5) (Weak.refl _), by rw [if_pos (by simpa using h1)]; rfl, rfl⟩
    | (refine ret_g ((Ghost.fa 10 (i := 2) rfl rfl).trans Ghost.clear) rfl ⟨?_, rfl⟩
       rw [if_neg (by simpa using h2), hg, h2]; rfl)
  · try simp at h2
    refine hw_skip ?_
    refine seqQ_n ?_
    refine hw_seq ?_
    refine hw_block ?_
    obtain ⟨b, m, va, u0, S0, rfl, ok0, rfl⟩ := hv19 (by simpa using h2)
    obtain ⟨hpk, hwk⟩ := wishedE_ok (by simpa using h2)
    obtain ⟨hof, hlf, _⟩ := picksE_ok hpk
    have hro := room_ok (openFault_ok hof).1
    have hwin : ∀ y ∈ w, ∀ x ∈ y.Players, x ∈ r.Players := fun y hy => (wishes_in hwk y hy).1
    have hcl := hro.clock
    have hfl : (freeP r k s).length ≤ 600 := by have h5 := free_len hof; have h6 := turns_len (r := r) (s := s) (openFault_ok hof).1; omega
    refine hw_loopw3 [25, 26, 27, 28, 29, 30, 31, 32, 33, 34, 35] (fun (v : Value) (S : List Str) (L : List Pick) => []) (fun (v : Value) (S : List Str) (L : List Pick) => (RunM b m va v r (open1 r k s) ((freeP r k s).drop L.length) L S)) (fun (v : Value) (S : List Str) (L : List Pick) => finL r k s w l = finGo r k (freeP r k s) w ((freeP r k s).length - L.length) L ∧ RunOk r k s L S ∧ L.length ≤ (freeP r k s).length) (fun (v : Value) (S : List Str) (L : List Pick) => (freeP r k s).length - L.length) (u0) (S0) (l) ?_ ?_ ?_ ?_
    · exact ⟨rfl, ok0, hlf⟩
    · exact trivial
    · exact List.Perm.refl _
    · intro v S L hinv
      obtain ⟨hg, ok, hLf⟩ := hinv
      refine hw_seq ?_
      refine hw_reg ?_
      refine dp rfl (pop_move rfl) ?_
      refine dp rfl ((by first | exact pop_nilCheck rfl | exact pop_nilCheck_raw rfl)) ?_
      refine dp rfl (pop_fieldAddr_raw ty113 rfl ty36 (by decide) rfl) ?_
      first
      | refine de rfl (eop_load (i := 0) ty36 rfl rfl (.inl ⟨rfl, rfl⟩) ?_)
      | refine de rfl (eop_load (i := 1) ty36 rfl rfl (.inl ⟨rfl, rfl⟩) ?_)
      | refine de rfl (eop_load (i := 2) ty36 rfl rfl (.inl ⟨rfl, rfl⟩) ?_)
      | refine de rfl (eop_load (i := 3) ty36 rfl rfl (.inl ⟨rfl, rfl⟩) ?_)
      refine dp rfl (pop_lenm ty36 rfl) ?_
      refine dp rfl (pop_gtr rfl rfl) ?_
      refine dn ?_
      refine hw_cond rfl (fun h3 => ?_) (fun h4 => ?_)
      · try simp at h3
        have hLl : L.length < (freeP r k s).length := by omega
        refine hw_skip ?_
        refine seqQ_n ?_
        refine hw_block ?_
        refine hw_reg1 ?_
        refine dp rfl (pop_move rfl) ?_
        refine dp rfl (pop_move rfl) ?_
        refine dp rfl (pop_move rfl) ?_
        refine de rfl (eop_callw (hs' := [.vptr (RunH r (open1 r k s) ((freeP r k s).drop L.length) L S) 0]) ca64 rfl ⟨bowRun0, trivial⟩ (c_draft_run_last (by omega)) rfl ?_)
        refine de rfl (eop_callf (M1 := (RunM b m va v r (open1 r k s) ((freeP r k s).drop L.length) L S)) (R := []) ca63 rfl (WeakL.refl _) (List.Perm.refl _) (c_draft_run_auto (p := (freeP r k s).getD L.length pick0) (g := fun y => S.contains y) (n := lastAt r L) (drop_get hLl) (by omega) hw hwp hp (left_ex hof hLl ok) (fun _ => rfl)) ?_)
        rintro _ _ ⟨v99, rfl, rfl⟩
        rw [wish_ok ok hwin]
        refine dn ?_
        refine blockQ_n ?_
        exact ⟨v99, sadd (wishOf r (goneB k L) w ((freeP r k s).getD L.length pick0).Team) S, L ++ [autoP r k (freeP r k s) w L (lastAt r L)], ⟨by rw [hg, fin_go hLl, List.length_append]; rfl, ok.add (autoP r k (freeP r k s) w L (lastAt r L)), by simp; omega⟩, by dsimp only; simp; omega, trivial, (by repeat (first | exact keeps_refl | refine keeps_upd rfl ?_ | refine keeps_loop rfl rfl ?_)), perm_eq (by dsimp only; rw [List.drop_drop, List.length_append]; rfl)⟩
      · try simp at h4
        have hLn : (freeP r k s).length ≤ L.length := by omega
        rw [fin_stop hLn] at hg
        refine hw_exit ?_
        refine seqQ_x ?_
        refine loopQ3_x ?_
        refine blockQ_eq ?_
        refine seqQ_n ?_
        refine hw_reg ?_
        refine dp rfl (pop_move rfl) ?_
        refine dp rfl ((by first | exact pop_nilCheck rfl | exact pop_nilCheck_raw rfl)) ?_
        refine dp rfl (pop_fieldAddr_raw ty113 rfl ty36 (by decide) rfl) ?_
        first
        | refine de rfl (eop_load (i := 0) ty36 rfl rfl (.inl ⟨rfl, rfl⟩) ?_)
        | refine de rfl (eop_load (i := 1) ty36 rfl rfl (.inl ⟨rfl, rfl⟩) ?_)
        | refine de rfl (eop_load (i := 2) ty36 rfl rfl (.inl ⟨rfl, rfl⟩) ?_)
        | refine de rfl (eop_load (i := 3) ty36 rfl rfl (.inl ⟨rfl, rfl⟩) ?_)
        refine dp rfl (pop_assign rfl) ?_
        refine dp rfl (pop_assign rfl) ?_
        refine dn ?_
        refine hw_ret ?_
        first
        | exact ⟨_, [], Ghost.clear, _, _, rfl, weak_tup2 (weak_nil 5) (Weak.refl _), by rw [if_pos (by simpa using h1)]; rfl, rfl⟩
        | (refine ret_g ((Ghost.fa 10 (i := 2) rfl rfl).trans Ghost.clear) rfl ⟨?_, rfl⟩
           rw [if_neg (by simpa using h2), hg, h2]; rfl)

/-- benchwarmer/draft.Auto -/
theorem c_draft_Auto {r : Room} {k : List Keep} {s : List Swap} {l : List Pick} {w : List Wish} {n : Int} (ht : r.Teams.length ≤ 1000000) (hp : r.Players.length ≤ 1000000) (hk0 : k.length ≤ 1000000) (hl : s.length ≤ 1000000) (hll : l.length ≤ 1000) (hw : w.length ≤ 1000000) (hwp : ∀ y ∈ w, y.Players.length ≤ 1000000) : ConP Tryz.prog 17 [eRoom r, eKeeps k, eSwaps s, ePicks l, eWishes w, .int .i64 n] (.tup [ePicks (if autoE r k s l w n != 0 then [] else autoL r k s w n l), .int .i64 (autoE r k s l w n)]) := by
  refine Con.of_body Tryz.func17 rfl Tryz.ntmps17 rfl rfl ?_
  refine hw_reg ?_
  refine dp rfl (pop_box rfl rfl) ?_
  refine dp rfl (pop_assign rfl) ?_
  refine dp rfl (pop_assign rfl) ?_
  refine dn ?_
  refine hw_reg ?_
  refine dp rfl (pop_move rfl) ?_
  refine dp rfl (pop_move rfl) ?_
  refine dp rfl (pop_move rfl) ?_
  refine dp rfl (pop_move rfl) ?_
  refine de rfl (eop_callf (M1 := []) (R := []) ca60 rfl (WeakL.refl _) (List.Perm.refl _) (c_draft_wished ht hp hk0 hl hll hw hwp) ?_)
  rintro _ M23 ⟨v23, rfl, hv23⟩
  refine dp rfl (pop_move rfl) ?_
  refine dp rfl (pop_extract rfl rfl) ?_
  refine dp rfl (pop_extract rfl rfl) ?_
  refine dp rfl (pop_assign rfl) ?_
  refine dp rfl (pop_assign rfl) ?_
  refine dn ?_
  refine hw_seq ?_
  refine hw_reg ?_
  refine dp rfl (pop_move rfl) ?_
  refine dp rfl (pop_neq rfl rfl) ?_
  refine dn ?_
  refine hw_cond rfl (fun h1 => ?_) (fun h2 => ?_)
  · try simp at h1
    refine hw_reg ?_
    refine dp rfl (pop_move rfl) ?_
    refine dp rfl (pop_assign rfl) ?_
    refine dp rfl (pop_assign rfl) ?_
    refine dn ?_
    refine hw_ret ?_
    first
    | exact ⟨_, [], Ghost.clear, _, _, rfl, weak_tup2 (weak_nil 5) (Weak.refl _), by rw [show autoE r k s l w n = wishedE r k s l w by rw [autoE, if_pos (by simpa using h1)], if_pos (by simpa using h1)]; rfl, rfl⟩
    | exact ⟨_, [], Ghost.clear, _, _, rfl, weak_tup2 (weak_nil 5) (Weak.refl _), by rw [show autoE r k s l w n = 1 by rw [autoE, if_neg (by simpa using h2), if_pos (by simpa using h3)]]; rfl, rfl⟩
    | (refine ret_g ((Ghost.fa 12 (i := 2) rfl rfl).trans Ghost.clear) rfl ⟨?_, rfl⟩
       rw [show autoE r k s l w n = 0 by rw [autoE, if_neg (by simpa using h2), if_neg (by simpa using h4)], if_neg (by decide), hg, auto_stop h5]; rfl)
  · try simp at h2
    refine hw_skip ?_
    refine seqQ_n ?_
    refine hw_seq ?_
    refine hw_reg ?_
    refine dp rfl (pop_move rfl) ?_
    refine dp rfl (pop_call ca61 rfl (WeakL.refl _) c_base_Moment) ?_
    refine dp rfl (pop_not rfl) ?_
    refine dn ?_
    refine hw_cond rfl (fun h3 => ?_) (fun h4 => ?_)
    · try simp at h3
      refine hw_reg ?_
      refine dp rfl (pop_assign rfl) ?_
      refine dp rfl (pop_assign rfl) ?_
      refine dn ?_
      refine hw_ret ?_
      first
      | exact ⟨_, [], Ghost.clear, _, _, rfl, weak_tup2 (weak_nil 5) (Weak.refl _), by rw [show autoE r k s l w n = wishedE r k s l w by rw [autoE, if_pos (by simpa using h1)], if_pos (by simpa using h1)]; rfl, rfl⟩
      | exact ⟨_, [], Ghost.clear, _, _, rfl, weak_tup2 (weak_nil 5) (Weak.refl _), by rw [show autoE r k s l w n = 1 by rw [autoE, if_neg (by simpa using h2), if_pos (by simpa using h3)]]; rfl, rfl⟩
      | (refine ret_g ((Ghost.fa 12 (i := 2) rfl rfl).trans Ghost.clear) rfl ⟨?_, rfl⟩
         rw [show autoE r k s l w n = 0 by rw [autoE, if_neg (by simpa using h2), if_neg (by simpa using h4)], if_neg (by decide), hg, auto_stop h5]; rfl)
    · try simp at h4
      refine hw_skip ?_
      refine seqQ_n ?_
      refine hw_block ?_
      obtain ⟨b, m, va, u0, S0, rfl, ok0, rfl⟩ := hv23 (by simpa using h2)
      obtain ⟨hpk, hwk⟩ := wishedE_ok (by simpa using h2)
      obtain ⟨hof, hlf, _⟩ := picksE_ok hpk
      have hro := room_ok (openFault_ok hof).1
      have hwin : ∀ y ∈ w, ∀ x ∈ y.Players, x ∈ r.Players := fun y hy => (wishes_in hwk y hy).1
      have hcl := hro.clock
      have hfl : (freeP r k s).length ≤ 600 := by have h5 := free_len hof; have h6 := turns_len (r := r) (s := s) (openFault_ok hof).1; omega
      refine hw_loopw3 [12, 13, 16, 17, 32, 33, 34, 35, 36, 37, 38, 39, 40, 41, 42, 43, 44, 45, 46, 47, 48, 49, 50, 51] (fun (v : Value) (S : List Str) (L : List Pick) => []) (fun (v : Value) (S : List Str) (L : List Pick) => (RunM b m va v r (open1 r k s) ((freeP r k s).drop L.length) L S)) (fun (v : Value) (S : List Str) (L : List Pick) => autoL r k s w n l = autoGo r k (freeP r k s) w n ((freeP r k s).length - L.length) L ∧ RunOk r k s L S ∧ L.length ≤ (freeP r k s).length ∧ moment (lastAt r L) = true) (fun (v : Value) (S : List Str) (L : List Pick) => (freeP r k s).length - L.length) (u0) (S0) (l) ?_ ?_ ?_ ?_
      · exact ⟨rfl, ok0, hlf, last_moment hpk⟩
      · exact trivial
      · exact List.Perm.refl _
      · intro v S L hinv
        obtain ⟨hg, ok, hLf, hm⟩ := hinv
        refine hw_block ?_
        refine hw_reg ?_
        refine dp rfl (pop_move rfl) ?_
        refine de rfl (eop_callw (hs' := [.vptr (RunH r (open1 r k s) ((freeP r k s).drop L.length) L S) 0]) ca62 rfl ⟨bowRun0, trivial⟩ (c_draft_run_due (by omega) hm hcl.2 (by omega)) rfl ?_)
        refine dp rfl (pop_move rfl) ?_
        refine dp rfl (pop_extract rfl rfl) ?_
        refine dp rfl (pop_extract rfl rfl) ?_
        refine dp rfl (pop_assign rfl) ?_
        refine dp rfl (pop_assign rfl) ?_
        refine dn ?_
        refine hw_seq ?_
        refine hw_reg ?_
        refine dp rfl (pop_move rfl) ?_
        refine dp rfl (pop_not rfl) ?_
        refine dp rfl (pop_move rfl) ?_
        refine dg rfl rfl (fun hc => ⟨_, OpenTo.refl _, pop_move rfl⟩) ?_
        refine dg rfl rfl (fun hc => ⟨_, OpenTo.refl _, pop_move rfl⟩) ?_
        refine dg rfl rfl (fun hc => ⟨_, OpenTo.upd (t := 41) rfl (by first | exact hc | simp_all) (OpenTo.upd (t := 40) rfl (by first | exact hc | simp_all) (OpenTo.refl _)), pop_gtr rfl rfl⟩) ?_
        refine dp rfl (pop_picko rfl (.inl rfl) (.inr ⟨_, rfl, fun h => by simp_all⟩)) ?_
        refine dn ?_
        refine hw_cond rfl (fun h5 => ?_) (fun h6 => ?_)
        · try simp at h5
          refine hw_reg ?_
          refine dp rfl (pop_move rfl) ?_
          refine dp rfl ((by first | exact pop_nilCheck rfl | exact pop_nilCheck_raw rfl)) ?_
          refine dp rfl (pop_fieldAddr_raw ty113 rfl ty36 (by decide) rfl) ?_
          first
          | refine de rfl (eop_load (i := 0) ty36 rfl rfl (.inl ⟨rfl, rfl⟩) ?_)
          | refine de rfl (eop_load (i := 1) ty36 rfl rfl (.inl ⟨rfl, rfl⟩) ?_)
          | refine de rfl (eop_load (i := 2) ty36 rfl rfl (.inl ⟨rfl, rfl⟩) ?_)
          | refine de rfl (eop_load (i := 3) ty36 rfl rfl (.inl ⟨rfl, rfl⟩) ?_)
          refine dp rfl (pop_assign rfl) ?_
          refine dp rfl (pop_assign rfl) ?_
          refine dn ?_
          refine hw_ret ?_
          first
          | exact ⟨_, [], Ghost.clear, _, _, rfl, weak_tup2 (weak_nil 5) (Weak.refl _), by rw [show autoE r k s l w n = wishedE r k s l w by rw [autoE, if_pos (by simpa using h1)], if_pos (by simpa using h1)]; rfl, rfl⟩
          | exact ⟨_, [], Ghost.clear, _, _, rfl, weak_tup2 (weak_nil 5) (Weak.refl _), by rw [show autoE r k s l w n = 1 by rw [autoE, if_neg (by simpa using h2), if_pos (by simpa using h3)]]; rfl, rfl⟩
          | (refine ret_g ((Ghost.fa 12 (i := 2) rfl rfl).trans Ghost.clear) rfl ⟨?_, rfl⟩
             rw [show autoE r k s l w n = 0 by rw [autoE, if_neg (by simpa using h2), if_neg (by simpa using h4)], if_neg (by decide), hg, auto_stop h5]; rfl)
        · try simp at h6
          refine hw_skip ?_
          refine seqQ_n ?_
          refine hw_reg1 ?_
          refine dp rfl (pop_move rfl) ?_
          refine dp rfl (pop_move rfl) ?_
          refine dp rfl (pop_move rfl) ?_
          obtain ⟨hLl, hdI, hmm, hgo⟩ := auto_go (k := k) (w := w) h6.1 h6.2
          refine de rfl (eop_callf (M1 := (RunM b m va v r (open1 r k s) ((freeP r k s).drop L.length) L S)) (R := []) ca63 rfl (WeakL.refl _) (List.Perm.refl _) (c_draft_run_auto (p := (freeP r k s).getD L.length pick0) (g := fun y => S.contains y) (n := dueI r ((freeP r k s).drop L.length) L) (drop_get hLl) (by omega) hw hwp hp (left_ex hof hLl ok) (fun _ => rfl)) ?_)
          rintro _ _ ⟨v99, rfl, rfl⟩
          rw [wish_ok ok hwin]
          rw [hdI]
          refine dn ?_
          refine blockQ_n ?_
          exact ⟨v99, sadd (wishOf r (goneB k L) w ((freeP r k s).getD L.length pick0).Team) S, L ++ [autoP r k (freeP r k s) w L (lastAt r L + r.Clock)], ⟨by rw [hg, hgo, List.length_append]; rfl, ok.add (autoP r k (freeP r k s) w L (lastAt r L + r.Clock)), by simp; omega, by rw [lastAt_snoc]; exact hmm⟩, by dsimp only; simp; omega, trivial, (by repeat (first | exact keeps_refl | refine keeps_upd rfl ?_ | refine keeps_loop rfl rfl ?_)), perm_eq (by dsimp only; rw [List.drop_drop, List.length_append]; rfl)⟩
end Go.Proofs.YtoomadfbldcioaaGreatDoor
end
section
namespace Go.Proofs.YtoomadfbldcioaaGreatDoor
open Go.HL
set_option maxRecDepth 100000
set_option linter.unusedVariables false
set_option linter.unusedSimpArgs false
/-- strconv.Itoa of any number -/
theorem c_Itoa {n : Int} (h0 : -9223372036854775808 ≤ n) (h1 : n ≤ 9223372036854775807) : ConP Tryz.prog 40 [.int .i64 n] (.str (Lib.itoa n)) :=
  conp_itoa (by kernel_rfl) fun w ht => Any.strconv_Itoa Tryz.laysm171 n h0 h1 w ht

set_option maxHeartbeats 1000000 in
/-- benchwarmer/draft.Regret -/
theorem c_draft_Regret {r : Room} {k : List Keep} {s : List Swap} {l : List Pick} {w : List Wish} (ht : r.Teams.length ≤ 1000000) (hp : r.Players.length ≤ 1000000) (hk0 : k.length ≤ 1000000) (hl : s.length ≤ 1000000) (hll : l.length ≤ 1000) (hw : w.length ≤ 1000000) (hwp : ∀ y ∈ w, y.Players.length ≤ 1000000) : ConP Tryz.prog 19 [eRoom r, eKeeps k, eSwaps s, ePicks l, eWishes w] (.tup [ePairs (if wishedE r k s l w != 0 then [] else regL r k w l), .int .i64 (wishedE r k s l w)]) := by
  refine Con.of_body Tryz.func19 rfl Tryz.ntmps19 rfl rfl ?_
  refine hw_reg ?_
  refine dp rfl (pop_box rfl rfl) ?_
  refine dp rfl (pop_assign rfl) ?_
  refine dp rfl (pop_assign rfl) ?_
  refine dn ?_
  refine hw_seq ?_
  refine hw_reg ?_
  refine dp rfl (pop_move rfl) ?_
  refine dp rfl (pop_move rfl) ?_
  refine dp rfl (pop_move rfl) ?_
  refine dp rfl (pop_move rfl) ?_
  refine de rfl (eop_callf (M1 := []) (R := []) ca60 rfl (WeakL.refl _) (List.Perm.refl _) (c_draft_wished ht hp hk0 hl hll hw hwp) ?_)
  rintro _ M26 ⟨v26, rfl, hv26⟩
  refine dp rfl (pop_move rfl) ?_
  refine dp rfl (pop_extract rfl rfl) ?_
  refine dp rfl (pop_extract rfl rfl) ?_
  refine dp rfl (pop_assign rfl) ?_
  refine dp rfl (pop_assign rfl) ?_
  refine dn ?_
  refine hw_reg ?_
  refine dp rfl (pop_move rfl) ?_
  refine dp rfl (pop_neq rfl rfl) ?_
  refine dn ?_
  refine hw_cond rfl (fun h1 => ?_) (fun h2 => ?_)
  · try simp at h1
    refine hw_reg ?_
    refine dp rfl (pop_move rfl) ?_
    refine dp rfl (pop_assign rfl) ?_
    refine dp rfl (pop_assign rfl) ?_
    refine dn ?_
    refine hw_ret ?_
    first
    | exact ⟨_, [], Ghost.clear, _, _, rfl, weak_tup2 (weak_nil 2) (Weak.refl _), by rw [if_pos (by simpa using h1)]; rfl, rfl⟩
    | (refine ret_g ((Ghost.fa0 10 rfl).trans Ghost.clear) rfl ⟨?_, rfl⟩
       rw [if_neg (by simpa using h2), h2, List.take_length]; rfl)
  · try simp at h2
    refine hw_skip ?_
    refine seqQ_n ?_
    obtain ⟨b0, m0, va0, u0, S0, rfl, ok0, rfl⟩ := hv26 (by simpa using h2)
    obtain ⟨hpk, hwk⟩ := wishedE_ok (by simpa using h2)
    obtain ⟨hof, hlf, _⟩ := picksE_ok hpk
    have hro := room_ok (openFault_ok hof).1
    have hwin : ∀ y ∈ w, ∀ x ∈ y.Players, x ∈ r.Players := fun y hy => (wishes_in hwk y hy).1
    have hcl := hro.clock
    have hfl : (freeP r k s).length ≤ 600 := by have h5 := free_len hof; have h6 := turns_len (r := r) (s := s) (openFault_ok hof).1; omega
    refine hw_ghost Ghost.clear ?_
    refine hw_reg ?_
    refine dp rfl (pop_move rfl) ?_
    refine dp rfl (pop_move rfl) ?_
    refine de rfl (eop_callf (M1 := []) (R := []) ca65 rfl (WeakL.refl _) (List.Perm.refl _) (c_draft_newRun (k := k) (s := s) hof hk0 hl) ?_)
    rintro _ _ ⟨b, m, va, v1, S1, rfl, ok1, rfl⟩
    refine dp rfl (pop_assign rfl) ?_
    refine dn ?_
    refine hw_reg ?_
    refine de rfl (eop_makeMap fun m35 => ?_)
    refine dp rfl (pop_assign rfl) ?_
    refine dn ?_
    refine hw_seq ?_
    refine hw_reg ?_
    refine dp rfl (pop_move rfl) ?_
    refine dp rfl (pop_lenm ty36 rfl) ?_
    refine dp rfl (pop_move rfl) ?_
    refine dn ?_
    refine hw_block ?_
    refine hw_loopw3 [17, 38, 39, 40, 41, 42, 43, 44, 45, 46, 47, 48, 49, 50, 51, 52, 53, 54, 55, 56, 57, 58] (fun (i : Nat) (v : Value) (q : List Str × SMap) => [(38, .int .i64 i)]) (fun (i : Nat) (v : Value) (q : List Str × SMap) => (.map m35 (sk q.2) :: (RunM b m va v r (open1 r k s) ((freeP r k s).drop i) (l.take i) q.1))) (fun (i : Nat) (v : Value) (q : List Str × SMap) => i ≤ l.length ∧ (RunOk r k s (l.take i) q.1 ∧ ∀ t, lkI q.2 t = .int .i64 (regN r k w l t i))) (fun (i : Nat) (v : Value) (q : List Str × SMap) => l.length - i) (0) (v1) ((S1, [])) ?_ ?_ ?_ ?_
    · exact ⟨Nat.zero_le _, ok1, fun t => rfl⟩
    · exact ⟨rfl, trivial⟩
    · exact List.Perm.refl _
    · intro i v q hinv
      obtain ⟨hi, ok, hH⟩ := hinv
      obtain ⟨S, H⟩ := q
      dsimp only at ok hH
      refine hw_reg ?_
      refine dp rfl (pop_lss rfl rfl) ?_
      refine dn ?_
      refine hw_seq ?_
      refine hw_cond rfl (fun h3 => ?_) (fun h4 => ?_)
      · try simp at h3
        obtain ⟨x, hx⟩ : ∃ x, l[i]? = some x := ⟨_, List.getElem?_eq_getElem h3⟩
        have hdx := drop_cons hx
        refine hw_skip ?_
        refine seqQ_n ?_
        refine hw_seq ?_
        refine hw_block ?_
        refine hw_reg ?_
        refine dp rfl (pop_idx ty36 ty55 rfl rfl rfl (by first | assumption | simp_all)) ?_
        refine dp rfl (pop_loadw ty55 rfl rfl rfl rfl) ?_
        refine de rfl (eop_alloc ty55 rfl fun b17 => ?_)
        refine de0 (eop_storew ty55 rfl rfl rfl rfl rfl ?_)
        refine dn ?_
        refine hw_ghost (Ghost.fc0 17 rfl) ?_
        refine hw_seq ?_
        refine hw_draw (fun _ => True) [] mixed ?_
        refine ahp 0 rfl rfl (by kernel_rfl) (by kernel_rfl) (pop_move rfl) ?_
        refine ahp 1 rfl rfl (by kernel_rfl) (by kernel_rfl) (pop_move rfl) ?_
        refine ahp 2 rfl rfl (by kernel_rfl) (by kernel_rfl) (pop_fieldAddr ty55 rfl ty9 (by decide) rfl) ?_
        refine ahp 3 rfl rfl (by kernel_rfl) (by kernel_rfl) (pop_load ty9 rfl rfl rfl) ?_
        refine ahp 5 rfl rfl (by kernel_rfl) (by kernel_rfl) (pop_fieldAddr ty55 rfl ty9 (by decide) rfl) ?_
        refine ahp 6 rfl rfl (by kernel_rfl) (by kernel_rfl) (pop_load ty9 rfl rfl rfl) ?_
        refine ahe 4 rfl (by kernel_rfl) ?_
        refine hop_e rfl (eop_callw (hs' := [.vptr (RunH r (open1 r k s) ((freeP r k s).drop i) (l.take i) S) 0, eWishes w, .str x.Team]) ca66 rfl ⟨bowRunC, .refl, .refl, trivial⟩ (c_draft_run_wish (g := fun y => S.contains y) hw hwp hp (left_ex hof (by simp; omega) ok) (fun _ => rfl)) rfl ?_)
        refine ⟨fun _ => .inl trivial, ?_⟩
        rw [wish_ok ok hwin]
        refine ahp 7 rfl rfl (by kernel_rfl) (by kernel_rfl) (pop_neqs rfl rfl) ?_
        refine ahz (by kernel_rfl) ?_
        refine hw_cond rfl (fun h5 => ?_) (fun h6 => ?_)
        · try simp at h5
          refine hw_reg1 ?_
          refine dp rfl (pop_move rfl) ?_
          refine dp rfl (pop_fieldAddr ty55 rfl ty9 (by decide) rfl) ?_
          refine dp rfl (pop_load ty9 rfl rfl rfl) ?_
          refine de rfl (eop_lookupI (i := 0) ty117 ty9 ty3 rfl rfl rfl (hH x.Team) ?_)
          have hrb := regN_bd r k w l x.Team i
          refine dp rfl (pop_add64 rfl rfl (by omega) (by omega)) ?_
          first
          | refine de0 (eop_mapUpdate (i := 0) ty117 ty9 rfl rfl rfl rfl ?_)
          | refine de0 (eop_mapUpdate (i := 1) ty117 ty9 rfl rfl rfl rfl ?_)
          | refine de0 (eop_mapUpdate (i := 2) ty117 ty9 rfl rfl rfl rfl ?_)
          | refine de0 (eop_mapUpdate (i := 3) ty117 ty9 rfl rfl rfl rfl ?_)
          refine dn ?_
          refine seqQ_n ?_
          refine hw_reg1 ?_
          refine dp rfl (pop_move rfl) ?_
          refine dp rfl (pop_loadw ty55 rfl rfl rfl rfl) ?_
          refine de rfl (eop_callf (M1 := (RunM b m va v r (open1 r k s) ((freeP r k s).drop i) (l.take i) S)) (R := [_]) ca67 rfl (WeakL.refl _) (List.perm_append_comm (l₁ := [_])) (c_draft_run_pick (p := x) (by simp; omega) (by simp; omega)) ?_)
          rintro _ _ ⟨v57, rfl, rfl⟩
          refine dn ?_
          refine blockQ_n ?_
          refine seqQ_n ?_
          refine hw_reg1 ?_
          refine dp rfl (pop_add64 rfl rfl (by omega) (by omega)) ?_
          refine dp rfl (pop_move rfl) ?_
          refine dn ?_
          exact ⟨i + 1, v57, (sadd x.Player S, sput x.Team (.int .i64 (regN r k w l x.Team i + 1)) H), ⟨by omega, by rw [take_snoc' hx]; exact ok.add x, reg_yes hH hx h5⟩, by dsimp only; omega, ⟨rfl, trivial⟩, (by repeat (first | exact keeps_refl | refine keeps_upd rfl ?_ | refine keeps_loop rfl rfl ?_)), List.perm_append_comm.trans (perm_eq (by dsimp only; rw [take_snoc' hx, List.drop_drop]; rfl))⟩
        · try simp at h6
          refine hw_skip ?_
          refine seqQ_n ?_
          refine hw_reg1 ?_
          refine dp rfl (pop_move rfl) ?_
          refine dp rfl (pop_loadw ty55 rfl rfl rfl rfl) ?_
          refine de rfl (eop_callf (M1 := (RunM b m va v r (open1 r k s) ((freeP r k s).drop i) (l.take i) S)) (R := [_]) ca67 rfl (WeakL.refl _) (List.perm_append_comm (l₁ := [_])) (c_draft_run_pick (p := x) (by simp; omega) (by simp; omega)) ?_)
          rintro _ _ ⟨v57, rfl, rfl⟩
          refine dn ?_
          refine blockQ_n ?_
          refine seqQ_n ?_
          refine hw_reg1 ?_
          refine dp rfl (pop_add64 rfl rfl (by omega) (by omega)) ?_
          refine dp rfl (pop_move rfl) ?_
          refine dn ?_
          exact ⟨i + 1, v57, (sadd x.Player S, H), ⟨by omega, by rw [take_snoc' hx]; exact ok.add x, reg_no hH hx h6⟩, by dsimp only; omega, ⟨rfl, trivial⟩, (by repeat (first | exact keeps_refl | refine keeps_upd rfl ?_ | refine keeps_loop rfl rfl ?_)), List.perm_append_comm.trans (perm_eq (by dsimp only; rw [take_snoc' hx, List.drop_drop]; rfl))⟩
      · try simp at h4
        have hni : l.length ≤ i := by omega
        obtain rfl : i = l.length := by omega
        refine hw_exit ?_
        refine seqQ_x ?_
        refine loopQ3_x ?_
        refine blockQ_eq ?_
        refine seqQ_n ?_
        refine hw_reg ?_
        refine dp rfl (pop_assign rfl) ?_
        refine dn ?_
        refine hw_ghost (Ghost.arr_nil 2) ?_
        refine hw_seq ?_
        refine hw_reg ?_
        refine dp rfl (pop_fieldAddr ty28 rfl ty26 (by decide) rfl) ?_
        refine dp rfl (pop_load ty26 rfl rfl rfl) ?_
        refine dp rfl (pop_lenm ty26 rfl) ?_
        refine dp rfl (pop_move rfl) ?_
        refine dn ?_
        refine hw_block ?_
        refine hw_loopw2 [18, 20, 62, 63, 64, 65, 66, 67, 68, 69, 70, 71, 72, 73, 74, 75] (fun (j : Nat) (u : Value) => [(62, .int .i64 j), (18, .raw u)]) (fun (j : Nat) (u : Value) => (.arr u 2 (((r.Teams.take j).map fun t => (⟨t, Lib.itoa (regN r k w l t l.length)⟩ : PairS)).map ePair) :: .map m35 (sk H) :: (RunM b m va v r (open1 r k s) ((freeP r k s).drop l.length) (l.take l.length) S))) (fun (j : Nat) (u : Value) => j ≤ r.Teams.length ∧ (True)) (fun (j : Nat) (u : Value) => r.Teams.length - j) (0) (.slice none 0 0) ?_ ?_ ?_ ?_
        · exact ⟨Nat.zero_le _, by simp_all⟩
        · exact ⟨rfl, rfl, trivial⟩
        · exact perm_eq (by simp)
        · intro j u hinv
          obtain ⟨hj, -⟩ := hinv
          refine hw_reg ?_
          refine dp rfl (pop_lss rfl rfl) ?_
          refine dn ?_
          refine hw_seq ?_
          refine hw_cond rfl (fun h7 => ?_) (fun h8 => ?_)
          · try simp at h7
            obtain ⟨x, hx⟩ : ∃ x, r.Teams[j]? = some x := ⟨_, List.getElem?_eq_getElem h7⟩
            have hdx := drop_cons hx
            refine hw_skip ?_
            refine seqQ_n ?_
            refine hw_seq ?_
            refine hw_block ?_
            refine hw_reg ?_
            refine dp rfl (pop_idx ty26 ty9 rfl rfl rfl (by first | assumption | simp_all)) ?_
            refine dp rfl (pop_load ty9 rfl rfl rfl) ?_
            refine dp rfl (pop_assign rfl) ?_
            refine dn ?_
            refine hw_reg1 ?_
            refine dp rfl (pop_move rfl) ?_
            refine dp rfl (pop_move rfl) ?_
            refine dp rfl (pop_move rfl) ?_
            refine dp rfl (pop_move rfl) ?_
            refine de rfl (eop_lookupI (i := 1) ty117 ty9 ty3 rfl rfl rfl (hH x) ?_)
            have hrb := regN_bd r k w l x l.length
            refine dp rfl (pop_call ca40 rfl (WeakL.refl _) (c_Itoa (n := regN r k w l x l.length) (by omega) (by omega))) ?_
            refine dp rfl (pop_build (cs := [_, _]) ty60 pl60 rfl) ?_
            refine dp rfl (pop_buildSlice (hs := [_]) ty48 ty60 rfl rfl (by decide) (by decide) rfl) ?_
            refine de rfl (eop_append (i := 0) ty48 ty60 rfl rfl rfl rfl rfl (by simp [flat, hcells]) (by simp; omega) fun v74 => ?_)
            refine dp rfl (pop_assign rfl) ?_
            refine dn ?_
            refine blockQ_n ?_
            refine seqQ_n ?_
            refine hw_reg1 ?_
            refine dp rfl (pop_add64 rfl rfl (by omega) (by omega)) ?_
            refine dp rfl (pop_move rfl) ?_
            refine dn ?_
            refine ⟨j + 1, _, ?_, ?_, ⟨rfl, rfl, trivial⟩, (by repeat (first | exact keeps_refl | refine keeps_upd rfl ?_ | refine keeps_loop rfl rfl ?_)), perm_eq (by simp [List.take_add_one, hx])⟩
            · exact ⟨by omega, trivial⟩
            · dsimp only; omega
          · try simp at h8
            have hnj : r.Teams.length ≤ j := by omega
            obtain rfl : j = r.Teams.length := by omega
            refine hw_exit ?_
            refine seqQ_x ?_
            refine loopQ2_x ?_
            refine blockQ_eq ?_
            refine seqQ_n ?_
            refine hw_reg ?_
            refine dp rfl (pop_move rfl) ?_
            refine dp rfl (pop_assign rfl) ?_
            refine dp rfl (pop_assign rfl) ?_
            refine dn ?_
            refine hw_ret ?_
            first
            | exact ⟨_, [], Ghost.clear, _, _, rfl, weak_tup2 (weak_nil 2) (Weak.refl _), by rw [if_pos (by simpa using h1)]; rfl, rfl⟩
            | (refine ret_g ((Ghost.fa0 10 rfl).trans Ghost.clear) rfl ⟨?_, rfl⟩
               rw [if_neg (by simpa using h2), h2, List.take_length]; rfl)
end Go.Proofs.YtoomadfbldcioaaGreatDoor
end
section
namespace Go.Proofs.YtoomadfbldcioaaGreatDoor
open Go.HL
set_option maxRecDepth 100000
set_option linter.unusedVariables false
set_option linter.unusedSimpArgs false
/-- slices.IndexFunc[[]benchwarmer/api.Pick,benchwarmer/api.Pick] -/
theorem c_slices_IndexFunc_api_Pick_api_Pick {l : List Pick} {fid : FuncId} {caps : List HVal} {p : Pick → Bool} (hca : Callable Tryz.prog fid) (hp : ∀ x, ConP Tryz.prog fid ([ePick x] ++ caps) (.bool (p x))) (hl : l.length ≤ 1000000) : ConP Tryz.prog 110 [.slice 5 (l.map ePick), .fn (.func fid) [] caps] (.int .i64 (idxF p l 0)) := by
  refine Con.of_body Tryz.func110 rfl Tryz.ntmps110 rfl rfl ?_
  refine hw_reg ?_
  refine dp rfl (pop_assign rfl) ?_
  refine dn ?_
  refine hw_seq ?_
  refine hw_reg ?_
  refine dp rfl (pop_move rfl) ?_
  refine dp rfl (pop_lenm ty36 rfl) ?_
  refine dp rfl (pop_move rfl) ?_
  refine dn ?_
  refine hw_block ?_
  refine hw_loopw [4, 5, 8, 9, 10, 11, 12, 13, 14, 15, 16, 17, 18] (fun (k : Nat) => [(8, .int .i64 k)]) (fun (k : Nat) => []) (fun (k : Nat) => k ≤ l.length ∧ (idxF p l 0 = idxF p (l.drop k) k)) (fun (k : Nat) => l.length - k) (0) ?_ ?_ ?_ ?_
  · exact ⟨Nat.zero_le _, rfl⟩
  · exact ⟨rfl, trivial⟩
  · exact List.Perm.refl _
  · intro k hinv
    obtain ⟨hk, hg⟩ := hinv
    refine hw_reg ?_
    refine dp rfl (pop_lss rfl rfl) ?_
    refine dn ?_
    refine hw_seq ?_
    refine hw_cond rfl (fun h1 => ?_) (fun h2 => ?_)
    · try simp at h1
      obtain ⟨x, hx⟩ : ∃ x, l[k]? = some x := ⟨_, List.getElem?_eq_getElem h1⟩
      have hdx := drop_cons hx
      rw [hdx] at hg
      refine hw_skip ?_
      refine seqQ_n ?_
      refine hw_seq ?_
      refine hw_block ?_
      refine hw_reg ?_
      refine dp rfl (pop_move rfl) ?_
      refine dp rfl (pop_assign rfl) ?_
      refine dn ?_
      refine hw_reg ?_
      refine dp rfl (pop_move rfl) ?_
      refine dp rfl (pop_move rfl) ?_
      refine dp rfl (pop_move rfl) ?_
      refine dp rfl (pop_idx ty36 ty55 rfl rfl rfl (by first | assumption | simp_all)) ?_
      refine dp rfl (pop_loadw ty55 rfl rfl rfl rfl) ?_
      refine dp rfl (pop_callv hca rfl rfl (WeakL.refl _) (hp _)) ?_
      refine dn ?_
      refine hw_cond rfl (fun h3 => ?_) (fun h4 => ?_)
      · try simp at h3
        refine hw_reg ?_
        refine dp rfl (pop_move rfl) ?_
        refine dp rfl (pop_assign rfl) ?_
        refine dn ?_
        refine hw_ret ?_
        refine ret_p rfl ?_
        show HVal.int .i64 _ = _
        first | (rw [hg]; rfl) | (rw [hg]; simp_all [idxF])
      · try simp at h4
        refine hw_skip ?_
        refine blockQ_n ?_
        refine seqQ_n ?_
        refine hw_reg1 ?_
        refine dp rfl (pop_add64 rfl rfl (by omega) (by omega)) ?_
        refine dp rfl (pop_move rfl) ?_
        refine dn ?_
        refine ⟨k + 1, ?_, ?_, ⟨rfl, trivial⟩, (by repeat (first | exact keeps_refl | refine keeps_upd rfl ?_ | refine keeps_loop rfl rfl ?_)), List.Perm.refl _⟩
        · refine ⟨by omega, ?_⟩
          rw [hg, idxF, if_neg (by simp_all)]; rfl
        · dsimp only; omega
    · try simp at h2
      have hnk : l.length ≤ k := by omega
      obtain rfl : k = l.length := by omega
      rw [drop_all (Nat.le_refl _)] at hg
      refine hw_exit ?_
      refine seqQ_x ?_
      refine loopQ_x ?_
      refine blockQ_eq ?_
      refine seqQ_n ?_
      refine hw_reg ?_
      refine dp rfl (pop_assign rfl) ?_
      refine dn ?_
      refine hw_ret ?_
      refine ret_p rfl ?_
      show HVal.int .i64 _ = _
      first | (rw [hg]; rfl) | (rw [hg]; simp_all [idxF])

/-- slices.ContainsFunc[[]benchwarmer/api.Pick,benchwarmer/api.Pick] -/
theorem c_slices_ContainsFunc_api_Pick_api_Pick {l : List Pick} {fid : FuncId} {caps : List HVal} {p : Pick → Bool} (hca : Callable Tryz.prog fid) (hp : ∀ x, ConP Tryz.prog fid ([ePick x] ++ caps) (.bool (p x))) (hl : l.length ≤ 1000000) : ConP Tryz.prog 79 [.slice 5 (l.map ePick), .fn (.func fid) [] caps] (.bool (l.any p)) := by
  refine Con.of_body Tryz.func79 rfl Tryz.ntmps79 rfl rfl ?_
  refine hw_reg ?_
  refine dp rfl (pop_assign rfl) ?_
  refine dn ?_
  refine hw_reg ?_
  refine dp rfl (pop_move rfl) ?_
  refine dp rfl (pop_move rfl) ?_
  refine dp rfl (pop_call ca110 rfl (WeakL.refl _) (c_slices_IndexFunc_api_Pick_api_Pick hca hp hl)) ?_
  refine dp rfl (pop_geq rfl rfl) ?_
  refine dp rfl (pop_assign rfl) ?_
  refine dn ?_
  refine hw_ret ?_
  refine ret_p rfl ?_
  congr 1; exact idxF_nonneg p l 0 (by omega)

/-- slices.Clone[[]benchwarmer/api.Pick,benchwarmer/api.Pick] -/
theorem c_slices_Clone_api_Pick_api_Pick {l : List Pick} (hl : l.length ≤ 1000000) : ConA Tryz.prog 69 [.slice 5 (l.map ePick)] 5 (l.map ePick) := by
  refine Con.of_body Tryz.func69 rfl Tryz.ntmps69 rfl rfl ?_
  refine hw_reg ?_
  refine dp rfl (pop_assign rfl) ?_
  refine dn ?_
  refine hw_seq ?_
  refine hw_reg ?_
  refine dp rfl (pop_move rfl) ?_
  refine de rfl (eop_eqnil ty36 rfl rfl fun b4 hb4 => ?_)
  refine dn ?_
  refine hw_cond rfl (fun h1 => ?_) (fun h2 => ?_)
  · try simp at h1
    refine hw_reg ?_
    refine dp rfl (pop_assign rfl) ?_
    refine dn ?_
    refine hw_ret ?_
    first | exact ret_a rfl rfl | exact ret_g (Ghost.arr_nil 5) rfl ⟨_, rfl, by simp_all⟩
  · try simp at h2
    refine hw_skip ?_
    refine seqQ_n ?_
    refine hw_reg ?_
    refine de rfl (eop_mk0 ty36 ty55 fun v5 => ?_)
    refine dp rfl (pop_move rfl) ?_
    refine de rfl (eop_append (i := 0) ty36 ty55 rfl rfl rfl rfl rfl (by simp [flat, hcells]) (by first | omega | (simp; omega)) fun v7 => ?_)
    refine dp rfl (pop_assign rfl) ?_
    refine dn ?_
    refine hw_ret ?_
    first | exact ret_a rfl rfl | exact ret_g (Ghost.arr_nil 5) rfl ⟨_, rfl, by simp_all⟩

/-- slices.DeleteFunc[[]benchwarmer/api.Pick,benchwarmer/api.Pick] -/
theorem c_slices_DeleteFunc_api_Pick_api_Pick {l : List Pick} {fid : FuncId} {caps : List HVal} {p : Pick → Bool} {v : Value} (hca : Callable Tryz.prog fid) (hp : ∀ x, ConP Tryz.prog fid ([ePick x] ++ caps) (.bool (p x))) (hl : l.length ≤ 1000000) : Con Tryz.prog 82 [.raw v, .fn (.func fid) [] caps] [.arr v 5 (l.map ePick)] (fun x M' => ∃ u, x = .raw u ∧ M' = [.arr u 5 ((l.filter (fun x => !p x)).map ePick)]) := by
  refine Con.of_body Tryz.func82 rfl Tryz.ntmps82 rfl rfl ?_
  refine hw_reg ?_
  refine dp rfl (pop_assign rfl) ?_
  refine dn ?_
  refine hw_reg ?_
  refine dp rfl (pop_move rfl) ?_
  refine dp rfl (pop_move rfl) ?_
  refine de rfl (eop_callb (hs' := [.slice 5 (l.map ePick), .fn (.func fid) [] caps]) ca110 rfl ⟨.arr (i := 0) rfl, .weak (Weak.refl _), trivial⟩ (c_slices_IndexFunc_api_Pick_api_Pick (p := p) hca hp hl) rfl ?_)
  refine dp rfl (pop_assign rfl) ?_
  refine dn ?_
  refine hw_seq ?_
  refine hw_reg ?_
  refine dp rfl (pop_move rfl) ?_
  refine dp rfl (pop_eql rfl rfl) ?_
  refine dn ?_
  refine hw_cond rfl (fun h1 => ?_) (fun h2 => ?_)
  · try simp at h1
    refine hw_reg ?_
    refine dp rfl (pop_move rfl) ?_
    refine dp rfl (pop_assign rfl) ?_
    refine dn ?_
    refine hw_ret ?_
    first
    | (refine ret_q rfl ⟨_, rfl, ?_⟩
       rw [idxF_none p l 0 (by omega) h1]
       done)
    | (refine ret_q rfl ⟨_, rfl, ?_⟩
       rw [List.take_length, ← List.map_take, hend]; rfl)
  · try simp at h2
    refine hw_skip ?_
    refine seqQ_n ?_
    refine hw_seq ?_
    obtain ⟨i0, hi0, hil, ⟨x0, hx0, hp0⟩, hb0⟩ := idxF_found p l 0 (by omega) h2
    rw [Int.zero_add] at hi0
    obtain ⟨hD0, hn0⟩ := DelInv.start (p := p) hil hx0 hp0 hb0
    refine hw_arrc (i := 0) rfl (fun h0 he => ?_) (fun b off cap hv hcap => ?_)
    · exfalso; have := congrArg List.length he; simp at this; subst this; simp at hil
    rw [List.length_map] at hv hcap
    subst hv
    refine hw_reg ?_
    refine dp rfl (pop_move rfl) ?_
    refine dp rfl (pop_eq (pop_add64 rfl rfl (by rw [hi0]; omega) (by rw [hi0]; omega)) (congrArg _ (by rw [hi0]))) ?_
    refine dp rfl (pop_assign rfl) ?_
    refine dn ?_
    refine hw_block ?_
    refine hw_loopw2 [5, 6, 7, 16, 17, 18, 19, 20, 21, 22, 23, 24, 25, 26, 27, 28, 29, 30, 31, 32, 33, 34, 35] (fun (j : Nat) (D : List Pick) => [(6, .int .i64 (j : Int)), (5, .int .i64 (((l.take j).filter (fun x => !p x)).length : Int))]) (fun (j : Nat) (D : List Pick) => [.arr (.slice (some ⟨b, off, none⟩) l.length cap) 5 (D.map ePick)]) (fun (j : Nat) (D : List Pick) => DelInv p l j D) (fun (j : Nat) (D : List Pick) => l.length - j) (i0 + 1) (l) ?_ ?_ ?_ ?_
    · exact hD0
    · exact ⟨rfl, some_int (by rw [hn0, hi0]), trivial⟩
    · exact List.Perm.refl _
    · intro j D hD
      have hlt0 := hD.lt
      have hle0 := hD.len
      refine hw_seq ?_
      refine hw_reg ?_
      refine dp rfl (pop_move rfl) ?_
      refine dp rfl (pop_move rfl) ?_
      first
      | refine de rfl (eop_lenm (i := 0) ty36 rfl rfl ?_)
      | refine de rfl (eop_lenm (i := 1) ty36 rfl rfl ?_)
      | refine de rfl (eop_lenm (i := 2) ty36 rfl rfl ?_)
      | refine de rfl (eop_lenm (i := 3) ty36 rfl rfl ?_)
      refine dp rfl (pop_lss rfl rfl) ?_
      refine dn ?_
      refine hw_cond rfl (fun h3 => ?_) (fun h4 => ?_)
      · try simp at h3
        obtain ⟨x, hx⟩ : ∃ x, l[j]? = some x := ⟨_, List.getElem?_eq_getElem (by omega)⟩
        refine hw_skip ?_
        refine seqQ_n ?_
        refine hw_seq ?_
        refine hw_block ?_
        refine hw_reg ?_
        refine dp rfl (pop_move rfl) ?_
        refine dp rfl (pop_move rfl) ?_
        refine dp rfl (pop_idxraw (j := j) ty36 ty55 rfl rfl rfl (by omega)) ?_
        refine de rfl (eop_load_elw (i := 0) (j := j) ty55 rfl rfl rfl (hD.get hx) rfl rfl rfl ?_)
        refine de rfl (eop_alloc ty55 rfl fun b7 => ?_)
        refine de0 (eop_storew ty55 rfl rfl rfl rfl rfl ?_)
        refine dn ?_
        refine hw_ghost (Ghost.fc0 7 rfl) ?_
        refine hw_reg ?_
        refine dp rfl (pop_move rfl) ?_
        refine dp rfl (pop_loadw ty55 rfl rfl rfl rfl) ?_
        refine dp rfl (pop_callv hca rfl rfl (WeakL.refl _) (hp _)) ?_
        refine dp rfl (pop_not rfl) ?_
        refine dn ?_
        refine hw_cond rfl (fun h5 => ?_) (fun h6 => ?_)
        · try simp at h5
          refine hw_reg ?_
          refine dp rfl (pop_move rfl) ?_
          refine dp rfl (pop_move rfl) ?_
          refine dp rfl (pop_loadw ty55 rfl rfl rfl rfl) ?_
          refine dp rfl (pop_idxraw (j := ((l.take j).filter (fun x => !p x)).length) ty36 ty55 rfl rfl rfl (by have := hD.lt; omega)) ?_
          refine de0 (eop_store_elw (i := 0) (j := ((l.take j).filter (fun x => !p x)).length) (y := D[((l.take j).filter (fun x => !p x)).length]'(by have := hD.lt; have := hD.len; omega)) (y' := x) ty55 rfl rfl rfl rfl (List.getElem?_eq_getElem _) rfl rfl rfl ?_)
          refine dn ?_
          refine hw_reg1 ?_
          refine dp rfl (pop_move rfl) ?_
          refine dp rfl (pop_add64 rfl rfl (by omega) (by have := hD.lt; omega)) ?_
          refine dp rfl (pop_assign rfl) ?_
          refine dn ?_
          refine blockQ_n ?_
          refine seqQ_n ?_
          refine hw_reg1 ?_
          refine dp rfl (pop_move rfl) ?_
          refine dp rfl (pop_add64 rfl rfl (by omega) (by omega)) ?_
          refine dp rfl (pop_assign rfl) ?_
          refine dn ?_
          first
          | exact ⟨j + 1, _, (hD.keep hx (by simp_all)).1, by dsimp only; omega, ⟨rfl, some_int (by rw [(hD.keep hx (by simp_all)).2]; rfl), trivial⟩, (by repeat (first | exact keeps_refl | refine keeps_upd rfl ?_ | refine keeps_loop rfl rfl ?_)), List.Perm.refl _⟩
          | exact ⟨j + 1, _, (hD.skip hx (by simp_all)).1, by dsimp only; omega, ⟨rfl, some_int (by rw [(hD.skip hx (by simp_all)).2]), trivial⟩, (by repeat (first | exact keeps_refl | refine keeps_upd rfl ?_ | refine keeps_loop rfl rfl ?_)), List.Perm.refl _⟩
        · try simp at h6
          refine hw_skip ?_
          refine blockQ_n ?_
          refine seqQ_n ?_
          refine hw_reg1 ?_
          refine dp rfl (pop_move rfl) ?_
          refine dp rfl (pop_add64 rfl rfl (by omega) (by omega)) ?_
          refine dp rfl (pop_assign rfl) ?_
          refine dn ?_
          first
          | exact ⟨j + 1, _, (hD.keep hx (by simp_all)).1, by dsimp only; omega, ⟨rfl, some_int (by rw [(hD.keep hx (by simp_all)).2]; rfl), trivial⟩, (by repeat (first | exact keeps_refl | refine keeps_upd rfl ?_ | refine keeps_loop rfl rfl ?_)), List.Perm.refl _⟩
          | exact ⟨j + 1, _, (hD.skip hx (by simp_all)).1, by dsimp only; omega, ⟨rfl, some_int (by rw [(hD.skip hx (by simp_all)).2]), trivial⟩, (by repeat (first | exact keeps_refl | refine keeps_upd rfl ?_ | refine keeps_loop rfl rfl ?_)), List.Perm.refl _⟩
      · try simp at h4
        obtain rfl : j = l.length := by have := hD.jle; omega
        have hend := hD.done
        refine hw_exit ?_
        refine seqQ_x ?_
        refine loopQ2_x ?_
        refine blockQ_eq ?_
        refine seqQ_n ?_
        refine hw_reg ?_
        refine dp rfl (pop_move rfl) ?_
        refine dp rfl (pop_move rfl) ?_
        refine dp rfl (pop_slraw (l := ((l.take l.length).filter (fun x => !p x)).length) ty36 ty55 rfl ⟨_, _, rfl, rfl⟩ rfl (by omega) (by omega) hcap) ?_
        refine de0 (eop_clear_at (i := 0) (m := ((l.take l.length).filter (fun x => !p x)).length) (((l.take l.length).filter (fun x => !p x)).length) ty36 ty55 rfl rfl rfl (slOff_or (by omega) hcap) rfl (by omega) (Nat.le_refl _) (by rw [List.length_map, hD.len]; omega) ?_)
        refine dn ?_
        refine hw_reg ?_
        refine dp rfl (pop_move rfl) ?_
        refine dp rfl (pop_move rfl) ?_
        refine dp rfl (pop_slraw0 (h := ((l.take l.length).filter (fun x => !p x)).length) ty36 ty55 rfl ⟨_, _, rfl, rfl⟩ (by omega)) ?_
        refine dp rfl (pop_assign rfl) ?_
        refine dn ?_
        refine hw_ret ?_
        first
        | (refine ret_q rfl ⟨_, rfl, ?_⟩
           rw [idxF_none p l 0 (by omega) h1]
           done)
        | (refine ret_q rfl ⟨_, rfl, ?_⟩
           rw [List.take_length, ← List.map_take, hend]; rfl)

/-- slices.IndexFunc[[]benchwarmer/api.Keep,benchwarmer/api.Keep] -/
theorem c_slices_IndexFunc_api_Keep_api_Keep {l : List Keep} {fid : FuncId} {caps : List HVal} {p : Keep → Bool} (hca : Callable Tryz.prog fid) (hp : ∀ x, ConP Tryz.prog fid ([eKeep x] ++ caps) (.bool (p x))) (hl : l.length ≤ 1000000) : ConP Tryz.prog 109 [.slice 3 (l.map eKeep), .fn (.func fid) [] caps] (.int .i64 (idxF p l 0)) := by
  refine Con.of_body Tryz.func109 rfl Tryz.ntmps109 rfl rfl ?_
  refine hw_reg ?_
  refine dp rfl (pop_assign rfl) ?_
  refine dn ?_
  refine hw_seq ?_
  refine hw_reg ?_
  refine dp rfl (pop_move rfl) ?_
  refine dp rfl (pop_lenm ty30 rfl) ?_
  refine dp rfl (pop_move rfl) ?_
  refine dn ?_
  refine hw_block ?_
  refine hw_loopw [4, 5, 8, 9, 10, 11, 12, 13, 14, 15, 16, 17, 18] (fun (k : Nat) => [(8, .int .i64 k)]) (fun (k : Nat) => []) (fun (k : Nat) => k ≤ l.length ∧ (idxF p l 0 = idxF p (l.drop k) k)) (fun (k : Nat) => l.length - k) (0) ?_ ?_ ?_ ?_
  · exact ⟨Nat.zero_le _, rfl⟩
  · exact ⟨rfl, trivial⟩
  · exact List.Perm.refl _
  · intro k hinv
    obtain ⟨hk, hg⟩ := hinv
    refine hw_reg ?_
    refine dp rfl (pop_lss rfl rfl) ?_
    refine dn ?_
    refine hw_seq ?_
    refine hw_cond rfl (fun h1 => ?_) (fun h2 => ?_)
    · try simp at h1
      obtain ⟨x, hx⟩ : ∃ x, l[k]? = some x := ⟨_, List.getElem?_eq_getElem h1⟩
      have hdx := drop_cons hx
      rw [hdx] at hg
      refine hw_skip ?_
      refine seqQ_n ?_
      refine hw_seq ?_
      refine hw_block ?_
      refine hw_reg ?_
      refine dp rfl (pop_move rfl) ?_
      refine dp rfl (pop_assign rfl) ?_
      refine dn ?_
      refine hw_reg ?_
      refine dp rfl (pop_move rfl) ?_
      refine dp rfl (pop_move rfl) ?_
      refine dp rfl (pop_move rfl) ?_
      refine dp rfl (pop_idx ty30 ty88 rfl rfl rfl (by first | assumption | simp_all)) ?_
      refine dp rfl (pop_loadw ty88 rfl rfl rfl rfl) ?_
      refine dp rfl (pop_callv hca rfl rfl (WeakL.refl _) (hp _)) ?_
      refine dn ?_
      refine hw_cond rfl (fun h3 => ?_) (fun h4 => ?_)
      · try simp at h3
        refine hw_reg ?_
        refine dp rfl (pop_move rfl) ?_
        refine dp rfl (pop_assign rfl) ?_
        refine dn ?_
        refine hw_ret ?_
        refine ret_p rfl ?_
        show HVal.int .i64 _ = _
        first | (rw [hg]; rfl) | (rw [hg]; simp_all [idxF])
      · try simp at h4
        refine hw_skip ?_
        refine blockQ_n ?_
        refine seqQ_n ?_
        refine hw_reg1 ?_
        refine dp rfl (pop_add64 rfl rfl (by omega) (by omega)) ?_
        refine dp rfl (pop_move rfl) ?_
        refine dn ?_
        refine ⟨k + 1, ?_, ?_, ⟨rfl, trivial⟩, (by repeat (first | exact keeps_refl | refine keeps_upd rfl ?_ | refine keeps_loop rfl rfl ?_)), List.Perm.refl _⟩
        · refine ⟨by omega, ?_⟩
          rw [hg, idxF, if_neg (by simp_all)]; rfl
        · dsimp only; omega
    · try simp at h2
      have hnk : l.length ≤ k := by omega
      obtain rfl : k = l.length := by omega
      rw [drop_all (Nat.le_refl _)] at hg
      refine hw_exit ?_
      refine seqQ_x ?_
      refine loopQ_x ?_
      refine blockQ_eq ?_
      refine seqQ_n ?_
      refine hw_reg ?_
      refine dp rfl (pop_assign rfl) ?_
      refine dn ?_
      refine hw_ret ?_
      refine ret_p rfl ?_
      show HVal.int .i64 _ = _
      first | (rw [hg]; rfl) | (rw [hg]; simp_all [idxF])

/-- slices.ContainsFunc[[]benchwarmer/api.Keep,benchwarmer/api.Keep] -/
theorem c_slices_ContainsFunc_api_Keep_api_Keep {l : List Keep} {fid : FuncId} {caps : List HVal} {p : Keep → Bool} (hca : Callable Tryz.prog fid) (hp : ∀ x, ConP Tryz.prog fid ([eKeep x] ++ caps) (.bool (p x))) (hl : l.length ≤ 1000000) : ConP Tryz.prog 77 [.slice 3 (l.map eKeep), .fn (.func fid) [] caps] (.bool (l.any p)) := by
  refine Con.of_body Tryz.func77 rfl Tryz.ntmps77 rfl rfl ?_
  refine hw_reg ?_
  refine dp rfl (pop_assign rfl) ?_
  refine dn ?_
  refine hw_reg ?_
  refine dp rfl (pop_move rfl) ?_
  refine dp rfl (pop_move rfl) ?_
  refine dp rfl (pop_call ca109 rfl (WeakL.refl _) (c_slices_IndexFunc_api_Keep_api_Keep hca hp hl)) ?_
  refine dp rfl (pop_geq rfl rfl) ?_
  refine dp rfl (pop_assign rfl) ?_
  refine dn ?_
  refine hw_ret ?_
  refine ret_p rfl ?_
  congr 1; exact idxF_nonneg p l 0 (by omega)

/-- benchwarmer/benchref1.OpenOf -/
theorem c_benchref1_OpenOf_a {r : Room} {l : List Keep} {s : List Swap} (ht0 : 0 < r.Teams.length) (ht : r.Teams.length ≤ 20) (hr0 : 1 ≤ r.Rounds) (hr : r.Rounds ≤ 30) (hk0 : l.length ≤ 1000000) (hl : s.length ≤ 1000000) (hlen : (turns r s).length ≤ 600) : ConA Tryz.prog 83 [eRoom r, eKeeps l, eSwaps s] 5 ((open1 r l s).map ePick) := by
  have ho := ownFrom_len r r.Rounds.toNat
  have hm := Nat.mul_le_mul (show r.Rounds.toNat ≤ 30 by omega) ht
  have ho6 : (ownTurns r).length ≤ 600 := by unfold ownTurns; omega
  have hot : (ownTurns r).length = (turns r s).length := by rw [← ref_turns, tfor_len]
  refine Con.of_body Tryz.func83 rfl Tryz.ntmps83 rfl rfl ?_
  refine hw_reg ?_
  refine dp rfl (pop_box rfl rfl) ?_
  refine dp rfl (pop_assign rfl) ?_
  refine dn ?_
  refine hw_reg ?_
  refine dp rfl (pop_loadw ty28 rfl rfl rfl rfl) ?_
  refine dp rfl (pop_call ca112 rfl (WeakL.refl _) (c_benchref1_ownTurns (by first | assumption | omega | (simp; omega) | simp_all) (by first | assumption | omega | (simp; omega) | simp_all) (by first | assumption | omega | (simp; omega) | simp_all))) ?_
  refine dp rfl (pop_assign rfl) ?_
  refine dn ?_
  refine hw_reg ?_
  refine dp rfl (pop_assign rfl) ?_
  refine dn ?_
  refine hw_ghost (Ghost.arr_nil 5) ?_
  refine hw_seq ?_
  refine hw_reg ?_
  refine dp rfl (pop_loadw ty28 rfl rfl rfl rfl) ?_
  refine dp rfl (pop_move rfl) ?_
  refine dp rfl (pop_call ca113 rfl (WeakL.refl _) (c_benchref1_TurnsFor (by first | assumption | omega | (simp; omega) | simp_all) (by first | assumption | omega | (simp; omega) | simp_all) (by first | assumption | omega | (simp; omega) | simp_all) (by first | assumption | omega | (simp; omega) | simp_all) (by first | assumption | omega | (simp; omega) | simp_all))) ?_
  refine dp rfl (pop_lenm ty26 rfl) ?_
  refine dp rfl (pop_move rfl) ?_
  refine dn ?_
  refine hw_block ?_
  refine hw_loopw2 [8, 9, 10, 11, 13, 20, 21, 22, 23, 24, 25, 26, 27, 28, 29, 30, 31, 32, 33, 34, 35, 36, 37, 38, 39, 40, 41, 42, 43, 44, 45, 46, 47, 48, 49, 50, 51, 52, 53, 54, 55, 56, 57, 58, 59, 60, 61, 62, 63] (fun (i : Nat) (u : Value) => [(20, .int .i64 i), (8, .raw u)]) (fun (i : Nat) (u : Value) => [.arr u 5 ((openFrom r l 0 ((turns r s).take i)).map ePick)]) (fun (i : Nat) (u : Value) => i ≤ (turns r s).length ∧ (True)) (fun (i : Nat) (u : Value) => (turns r s).length - i) (0) (.slice none 0 0) ?_ ?_ ?_ ?_
  · exact ⟨Nat.zero_le _, by simp_all⟩
  · exact ⟨rfl, rfl, trivial⟩
  · exact perm_eq (by simp [openFrom])
  · intro i u hinv
    obtain ⟨hi, -⟩ := hinv
    refine hw_reg ?_
    refine dp rfl (pop_lss rfl rfl) ?_
    refine dn ?_
    refine hw_seq ?_
    refine hw_cond rfl (fun h1 => ?_) (fun h2 => ?_)
    · try simp at h1
      obtain ⟨t, ht⟩ : ∃ t, (turns r s)[i]? = some t := ⟨_, List.getElem?_eq_getElem h1⟩
      have hdt := drop_cons ht
      obtain ⟨w, hw⟩ : ∃ w, (ownTurns r)[i]? = some w := ⟨_, List.getElem?_eq_getElem (by omega)⟩
      have htw := tfor_get r s _ 0 i w hw
      rw [ref_turns, ht, Nat.zero_add] at htw
      obtain rfl := Option.some.inj htw
      have hdl := Nat.div_le_self i r.Teams.length
      have hdn : (0:Int) ≤ ((i / r.Teams.length : Nat) : Int) := Int.natCast_nonneg _
      refine hw_skip ?_
      refine seqQ_n ?_
      refine hw_seq ?_
      refine hw_block ?_
      refine hw_reg ?_
      refine dp rfl (pop_move rfl) ?_
      refine dp rfl (pop_idx (j := i) (a := owner (((i / r.Teams.length : Nat) : Int) + 1) w s) ty26 ty9 rfl rfl rfl (by rw [List.getElem?_map, ht]; rfl)) ?_
      refine dp rfl (pop_load ty9 rfl rfl rfl) ?_
      refine dp rfl (pop_assign rfl) ?_
      refine dp rfl (pop_assign rfl) ?_
      refine dn ?_
      refine hw_reg ?_
      refine dp rfl (pop_move rfl) ?_
      refine dp rfl (pop_move rfl) ?_
      refine dp rfl (pop_build (cs := [_, _, _, _, _]) ty55 pl55 rfl) ?_
      refine de rfl (eop_alloc ty55 rfl fun b11 => ?_)
      refine de0 (eop_storew ty55 rfl rfl rfl rfl rfl ?_)
      refine dn ?_
      refine hw_seq ?_
      refine hw_reg ?_
      refine dp rfl (pop_move rfl) ?_
      refine dp rfl (pop_lenm ty30 rfl) ?_
      refine dp rfl (pop_move rfl) ?_
      refine dn ?_
      refine hw_block ?_
      refine hw_loopw2 [13, 30, 31, 32, 33, 34, 35, 36, 37, 38, 39, 40, 41, 42, 43, 44, 45, 46, 47, 48, 49, 50, 51, 52, 53, 54, 55, 56, 57, 58] (fun (k : Nat) (p : Pick) => [(30, .int .i64 k)]) (fun (k : Nat) (p : Pick) => [.cells b11 (hcells (ePick p)), .arr u 5 ((openFrom r l 0 ((turns r s).take i)).map ePick)]) (fun (k : Nat) (p : Pick) => k ≤ l.length ∧ (p = keepIn r (⟨((i / r.Teams.length : Nat) : Int) + 1, w, owner (((i / r.Teams.length : Nat) : Int) + 1) w s⟩ : Turn) ⟨i, (⟨((i / r.Teams.length : Nat) : Int) + 1, w, owner (((i / r.Teams.length : Nat) : Int) + 1) w s⟩ : Turn).team, [], 0, false⟩ (l.take k))) (fun (k : Nat) (p : Pick) => l.length - k) (0) (⟨i, owner (((i / r.Teams.length : Nat) : Int) + 1) w s, [], 0, false⟩) ?_ ?_ ?_ ?_
      · exact ⟨Nat.zero_le _, by simp [keepIn]⟩
      · exact ⟨rfl, trivial⟩
      · exact List.Perm.refl _
      · intro k p hinv
        obtain ⟨hk, hp⟩ := hinv
        refine hw_reg ?_
        refine dp rfl (pop_lss rfl rfl) ?_
        refine dn ?_
        refine hw_seq ?_
        refine hw_cond rfl (fun h3 => ?_) (fun h4 => ?_)
        · try simp at h3
          obtain ⟨x, hx⟩ : ∃ x, l[k]? = some x := ⟨_, List.getElem?_eq_getElem h3⟩
          have hdx := drop_cons hx
          refine hw_skip ?_
          refine seqQ_n ?_
          refine hw_seq ?_
          refine hw_block ?_
          refine hw_reg ?_
          refine dp rfl (pop_idx ty30 ty88 rfl rfl rfl (by first | assumption | simp_all)) ?_
          refine dp rfl (pop_loadw ty88 rfl rfl rfl rfl) ?_
          refine de rfl (eop_alloc ty88 rfl fun b13 => ?_)
          refine de0 (eop_storew ty88 rfl rfl rfl rfl rfl ?_)
          refine dn ?_
          refine hw_ghost (Ghost.fc0 13 rfl) ?_
          refine hw_draw (fun _ => True) [] mixed ?_
          refine ahp 0 rfl rfl (by kernel_rfl) (by kernel_rfl) (pop_fieldAddr ty88 rfl ty9 (by decide) rfl) ?_
          refine ahp 1 rfl rfl (by kernel_rfl) (by kernel_rfl) (pop_load ty9 rfl rfl rfl) ?_
          refine ahp 2 rfl rfl (by kernel_rfl) (by kernel_rfl) (pop_move rfl) ?_
          refine ahp 3 rfl rfl (by kernel_rfl) (by kernel_rfl) (pop_move rfl) ?_
          refine ahp 4 rfl rfl (by kernel_rfl) (by kernel_rfl) (pop_idx (j := i) (a := w) ty26 ty9 rfl rfl rfl hw) ?_
          refine ahp 5 rfl rfl (by kernel_rfl) (by kernel_rfl) (pop_load ty9 rfl rfl rfl) ?_
          refine ahp 6 rfl rfl (by kernel_rfl) (by kernel_rfl) (pop_eqls rfl rfl) ?_
          refine ahp 7 rfl rfl (by kernel_rfl) (by kernel_rfl) (pop_move rfl) ?_
          refine ahg 8 rfl rfl (by kernel_rfl) (by kernel_rfl) rfl (fun hc => ⟨_, OpenTo.refl _, pop_fieldAddr ty88 rfl ty3 (by decide) rfl⟩) ?_
          refine ahg 9 rfl rfl (by kernel_rfl) (by kernel_rfl) rfl (fun hc => ⟨_, OpenTo.upd (t := 42) rfl (by first | exact hc | simp_all) (OpenTo.refl _), pop_load ty3 rfl rfl rfl⟩) ?_
          refine ahg 10 rfl rfl (by kernel_rfl) (by kernel_rfl) rfl (fun hc => ⟨_, OpenTo.refl _, pop_move rfl⟩) ?_
          refine ahg 11 rfl rfl (by kernel_rfl) (by kernel_rfl) rfl (fun hc => ⟨_, OpenTo.refl _, pop_fieldAddr ty28 rfl ty26 (by decide) rfl⟩) ?_
          refine ahg 12 rfl rfl (by kernel_rfl) (by kernel_rfl) rfl (fun hc => ⟨_, OpenTo.upd (t := 45) rfl (by first | exact hc | simp_all) (OpenTo.refl _), pop_load ty26 rfl rfl rfl⟩) ?_
          refine ahg 13 rfl rfl (by kernel_rfl) (by kernel_rfl) rfl (fun hc => ⟨_, OpenTo.upd (t := 46) rfl (by first | exact hc | simp_all) (OpenTo.refl _), pop_lenm ty26 rfl⟩) ?_
          refine ahg 14 rfl rfl (by kernel_rfl) (by kernel_rfl) rfl (fun hc => by have hq := hc; (try simp at hq); exact ⟨_, OpenTo.upd (t := 47) rfl (by first | exact hc | simp_all) (OpenTo.upd (t := 44) rfl (by first | exact hc | simp_all) (OpenTo.refl _)), pop_eq (pop_quo64 rfl rfl (by omega) (by omega) (by omega)) (congrArg _ (tdiv_nat _ _))⟩) ?_
          refine ahg 15 rfl rfl (by kernel_rfl) (by kernel_rfl) rfl (fun hc => by have hq := hc; (try simp at hq); exact ⟨_, OpenTo.upd (t := 48) rfl (by first | exact hc | simp_all) (OpenTo.refl _), pop_add64 rfl rfl (by omega) (by omega)⟩) ?_
          refine ahg 16 rfl rfl (by kernel_rfl) (by kernel_rfl) rfl (fun hc => ⟨_, OpenTo.upd (t := 49) rfl (by first | exact hc | simp_all) (OpenTo.upd (t := 43) rfl (by first | exact hc | simp_all) (OpenTo.refl _)), pop_eql rfl rfl⟩) ?_
          refine ahp 17 rfl rfl (by kernel_rfl) (by kernel_rfl) (pop_picko rfl (.inr ⟨_, rfl, fun h => by simp_all⟩) (.inl rfl)) ?_
          refine ahz (by kernel_rfl) ?_
          refine hw_cond rfl (fun h5 => ?_) (fun h6 => ?_)
          · try simp at h5
            refine hw_draw1 (fun _ => True) [] mixed ?_
            refine ahp 0 rfl rfl (by kernel_rfl) (by kernel_rfl) (pop_fieldAddr ty88 rfl ty9 (by decide) rfl) ?_
            refine ahp 1 rfl rfl (by kernel_rfl) (by kernel_rfl) (pop_load ty9 rfl rfl rfl) ?_
            refine ahp 2 rfl rfl (by kernel_rfl) (by kernel_rfl) (pop_fieldAddr ty28 rfl ty3 (by decide) rfl) ?_
            refine ahp 3 rfl rfl (by kernel_rfl) (by kernel_rfl) (pop_load ty3 rfl rfl rfl) ?_
            refine ahp 4 rfl rfl (by kernel_rfl) (by kernel_rfl) (pop_fieldAddr_raw ty55 rfl ty9 (by decide) rfl) ?_
            refine ahe 5 rfl (by kernel_rfl) ?_
            refine hop_e0 (eop_store (i := 0) ty9 rfl rfl rfl rfl rfl (Nat.le_of_ble_eq_true rfl) ?_)
            refine ⟨fun _ => .inl trivial, ?_⟩
            refine ahp 6 rfl rfl (by kernel_rfl) (by kernel_rfl) (pop_fieldAddr_raw ty55 rfl ty3 (by decide) rfl) ?_
            refine ahe 7 rfl (by kernel_rfl) ?_
            refine hop_e0 (eop_store (i := 0) ty3 rfl rfl rfl rfl rfl (Nat.le_of_ble_eq_true rfl) ?_)
            refine ⟨fun _ => .inl trivial, ?_⟩
            refine ahz (by kernel_rfl) ?_
            refine blockQ_n ?_
            refine seqQ_n ?_
            refine hw_reg1 ?_
            refine dp rfl (pop_add64 rfl rfl (by omega) (by omega)) ?_
            refine dp rfl (pop_move rfl) ?_
            refine dn ?_
            first
            | exact ⟨k + 1, { p with Player := x.Player, At := r.Start }, ⟨by omega, by rw [List.take_add_one, hx, hp]; exact (keepIn_snoc r _ _ x _).symm ▸ (by simp_all)⟩, by dsimp only; omega, ⟨rfl, trivial⟩, (by repeat (first | exact keeps_refl | refine keeps_upd rfl ?_ | refine keeps_loop rfl rfl ?_)), List.Perm.refl _⟩
            | exact ⟨k + 1, p, ⟨by omega, by rw [List.take_add_one, hx, hp]; exact (keepIn_snoc r _ _ x _).symm ▸ (by simp_all)⟩, by dsimp only; omega, ⟨rfl, trivial⟩, (by repeat (first | exact keeps_refl | refine keeps_upd rfl ?_ | refine keeps_loop rfl rfl ?_)), List.Perm.refl _⟩
          · try simp at h6
            refine hw_skip ?_
            refine blockQ_n ?_
            refine seqQ_n ?_
            refine hw_reg1 ?_
            refine dp rfl (pop_add64 rfl rfl (by omega) (by omega)) ?_
            refine dp rfl (pop_move rfl) ?_
            refine dn ?_
            first
            | exact ⟨k + 1, { p with Player := x.Player, At := r.Start }, ⟨by omega, by rw [List.take_add_one, hx, hp]; exact (keepIn_snoc r _ _ x _).symm ▸ (by simp_all)⟩, by dsimp only; omega, ⟨rfl, trivial⟩, (by repeat (first | exact keeps_refl | refine keeps_upd rfl ?_ | refine keeps_loop rfl rfl ?_)), List.Perm.refl _⟩
            | exact ⟨k + 1, p, ⟨by omega, by rw [List.take_add_one, hx, hp]; exact (keepIn_snoc r _ _ x _).symm ▸ (by simp_all)⟩, by dsimp only; omega, ⟨rfl, trivial⟩, (by repeat (first | exact keeps_refl | refine keeps_upd rfl ?_ | refine keeps_loop rfl rfl ?_)), List.Perm.refl _⟩
        · try simp at h4
          have hnk : l.length ≤ k := by omega
          obtain rfl : k = l.length := by omega
          rw [List.take_length] at hp
          subst hp
          refine hw_exit ?_
          refine seqQ_x ?_
          refine loopQ2_x ?_
          refine blockQ_eq ?_
          refine seqQ_n ?_
          have ho7 : (openFrom r l 0 ((turns r s).take i)).length ≤ 600 := by rw [openFrom_len]; simp; omega
          refine hw_reg1 ?_
          refine dp rfl (pop_move rfl) ?_
          refine de rfl (eop_loadw (i := 0) ty55 rfl rfl rfl rfl rfl ?_)
          refine dp rfl (pop_buildSlice (hs := [_]) ty36 ty55 rfl rfl (by decide) (by decide) rfl) ?_
          refine de rfl (eop_append (i := 1) ty36 ty55 rfl rfl rfl rfl rfl (by simp [flat, hcells]) (by first | omega | (simp; omega)) fun v62 => ?_)
          refine dp rfl (pop_assign rfl) ?_
          refine dn ?_
          refine blockQ_n ?_
          refine seqQ_n ?_
          refine hw_ghost Ghost.drop ?_
          refine hw_reg1 ?_
          refine dp rfl (pop_add64 rfl rfl (by omega) (by omega)) ?_
          refine dp rfl (pop_move rfl) ?_
          refine dn ?_
          refine ⟨i + 1, _, ?_, ?_, ⟨rfl, rfl, trivial⟩, (by repeat (first | exact keeps_refl | refine keeps_upd rfl ?_ | refine keeps_loop rfl rfl ?_)), perm_eq (by simp [List.take_add_one, ht, openFrom_snoc, Nat.min_eq_left hi])⟩
          · exact ⟨by omega, trivial⟩
          · dsimp only; omega
    · try simp at h2
      have hni : (turns r s).length ≤ i := by omega
      obtain rfl : i = (turns r s).length := by omega
      refine hw_exit ?_
      refine seqQ_x ?_
      refine loopQ2_x ?_
      refine blockQ_eq ?_
      refine seqQ_n ?_
      refine hw_reg ?_
      refine dp rfl (pop_move rfl) ?_
      refine dp rfl (pop_assign rfl) ?_
      refine dn ?_
      refine hw_ret ?_
      exact ret_a rfl (by simp [open1])

/-- benchwarmer/benchref1.free$1 -/
theorem c_benchref1_free_1 {p : Pick}  : ConP Tryz.prog 97 [ePick p] (.bool (!(p.Player == []))) := by
  refine Con.of_body Tryz.func97 rfl Tryz.ntmps97 rfl rfl ?_
  refine hw_reg ?_
  refine dp rfl (pop_box rfl rfl) ?_
  refine dp rfl (pop_assign rfl) ?_
  refine dn ?_
  refine hw_reg ?_
  refine dp rfl (pop_fieldAddr ty55 rfl ty9 (by decide) rfl) ?_
  refine dp rfl (pop_load ty9 rfl rfl rfl) ?_
  refine dp rfl (pop_neqs rfl rfl) ?_
  refine dp rfl (pop_assign rfl) ?_
  refine dn ?_
  refine hw_ret ?_
  refine ret_p rfl ?_
  show HVal.bool _ = _
  first | rfl | simp

/-- benchwarmer/benchref1.free -/
theorem c_benchref1_free {r : Room} {k : List Keep} {s : List Swap} (h : openFault r k s = 0) (hk0 : k.length ≤ 1000000) (hl : s.length ≤ 1000000) : ConP Tryz.prog 56 [eRoom r, eKeeps k, eSwaps s] (ePicks (freeP r k s)) := by
  have hro := room_ok (openFault_ok h).1
  have ht0 := hro.t0
  have ht := hro.t20
  have hr0 := hro.r1
  have hr := hro.r30
  have hlen := turns_len (r := r) (s := s) (openFault_ok h).1
  have hol : (open1 r k s).length ≤ 600 := by unfold open1; rw [openFrom_len]; exact hlen
  have hfl : (freeP r k s).length ≤ 600 := Nat.le_trans (List.length_filter_le _ _) hol
  refine Con.of_body Tryz.func56 rfl Tryz.ntmps56 rfl rfl ?_
  refine hw_reg ?_
  refine dp rfl (pop_box rfl rfl) ?_
  refine dp rfl (pop_assign rfl) ?_
  refine dn ?_
  refine hw_reg ?_
  refine dp rfl (pop_loadw ty28 rfl rfl rfl rfl) ?_
  refine dp rfl (pop_move rfl) ?_
  refine dp rfl (pop_move rfl) ?_
  refine de rfl (eop_calla ca83 rfl (WeakL.refl _) (c_benchref1_OpenOf_a (by first | assumption | omega | (simp; omega) | simp_all) (by first | assumption | omega | (simp; omega) | simp_all) (by first | assumption | omega | (simp; omega) | simp_all) (by first | assumption | omega | (simp; omega) | simp_all) (by first | assumption | omega | (simp; omega) | simp_all) (by first | assumption | omega | (simp; omega) | simp_all) (by first | assumption | omega | (simp; omega) | simp_all)) fun v10 => ?_)
  first
  | refine de rfl (eop_callx (i := 0) ca82 rfl (WeakL.refl _) rfl (c_slices_DeleteFunc_api_Pick_api_Pick (l := open1 r k s) (p := fun x => !(x.Player == [])) ca97 (fun _ => c_benchref1_free_1) (by omega)) ?_)
  | refine de rfl (eop_callx (i := 1) ca82 rfl (WeakL.refl _) rfl (c_slices_DeleteFunc_api_Pick_api_Pick (l := open1 r k s) (p := fun x => !(x.Player == [])) ca97 (fun _ => c_benchref1_free_1) (by omega)) ?_)
  | refine de rfl (eop_callx (i := 2) ca82 rfl (WeakL.refl _) rfl (c_slices_DeleteFunc_api_Pick_api_Pick (l := open1 r k s) (p := fun x => !(x.Player == [])) ca97 (fun _ => c_benchref1_free_1) (by omega)) ?_)
  | refine de rfl (eop_callx (i := 3) ca82 rfl (WeakL.refl _) rfl (c_slices_DeleteFunc_api_Pick_api_Pick (l := open1 r k s) (p := fun x => !(x.Player == [])) ca97 (fun _ => c_benchref1_free_1) (by omega)) ?_)
  rintro _ _ ⟨u11, rfl, rfl⟩
  refine dp rfl (pop_assign rfl) ?_
  refine dn ?_
  refine hw_ret ?_
  refine ret_fa (M := []) 6 rfl rfl ?_
  simp [freeP]

/-- benchwarmer/benchref1.LeftOf$1$1 -/
theorem c_benchref1_LeftOf_1_1 {y : Keep} {x : Str}  : ConP Tryz.prog 78 [eKeep y, .vptr [.str x] 0] (.bool (y.Player == x)) := by
  refine Con.of_body Tryz.func78 rfl Tryz.ntmps78 rfl rfl ?_
  refine hw_reg ?_
  refine dp rfl (pop_box rfl rfl) ?_
  refine dp rfl (pop_assign rfl) ?_
  refine dn ?_
  refine hw_reg ?_
  refine dp rfl (pop_fieldAddr ty88 rfl ty9 (by decide) rfl) ?_
  refine dp rfl (pop_load ty9 rfl rfl rfl) ?_
  refine dp rfl (pop_load ty9 rfl rfl rfl) ?_
  refine dp rfl (pop_eqls rfl rfl) ?_
  refine dp rfl (pop_assign rfl) ?_
  refine dn ?_
  refine hw_ret ?_
  refine ret_p rfl ?_
  rfl

/-- benchwarmer/benchref1.LeftOf$1$2 -/
theorem c_benchref1_LeftOf_1_2 {y : Pick} {x : Str}  : ConP Tryz.prog 80 [ePick y, .vptr [.str x] 0] (.bool (y.Player == x)) := by
  refine Con.of_body Tryz.func80 rfl Tryz.ntmps80 rfl rfl ?_
  refine hw_reg ?_
  refine dp rfl (pop_box rfl rfl) ?_
  refine dp rfl (pop_assign rfl) ?_
  refine dn ?_
  refine hw_reg ?_
  refine dp rfl (pop_fieldAddr ty55 rfl ty9 (by decide) rfl) ?_
  refine dp rfl (pop_load ty9 rfl rfl rfl) ?_
  refine dp rfl (pop_load ty9 rfl rfl rfl) ?_
  refine dp rfl (pop_eqls rfl rfl) ?_
  refine dp rfl (pop_assign rfl) ?_
  refine dn ?_
  refine hw_ret ?_
  refine ret_p rfl ?_
  rfl

/-- benchwarmer/benchref1.LeftOf$1 -/
theorem c_benchref1_LeftOf_1 {k : List Keep} {l : List Pick} {x : Str} (hk0 : k.length ≤ 1000000) (hl : l.length ≤ 1000000) : ConP Tryz.prog 76 [.str x, .vptr [eKeeps k] 0, .vptr [ePicks l] 0] (.bool (goneB k l x)) := by
  refine Con.of_body Tryz.func76 rfl Tryz.ntmps76 rfl rfl ?_
  refine hw_reg ?_
  refine dp rfl (pop_box rfl rfl) ?_
  refine dp rfl (pop_assign rfl) ?_
  refine dn ?_
  refine hw_reg ?_
  refine dp rfl (pop_load ty30 rfl rfl rfl) ?_
  refine dp rfl (pop_makeFunc rfl rfl) ?_
  refine dp rfl (pop_call ca77 rfl (WeakL.refl _) (c_slices_ContainsFunc_api_Keep_api_Keep (p := fun y => y.Player == x) ca78 (fun _ => c_benchref1_LeftOf_1_1) hk0)) ?_
  refine dp rfl (pop_move rfl) ?_
  refine dg rfl rfl (fun hc => ⟨_, OpenTo.refl _, pop_load ty36 rfl rfl rfl⟩) ?_
  refine dg rfl rfl (fun hc => ⟨_, OpenTo.refl _, pop_makeFunc rfl rfl⟩) ?_
  refine dg rfl rfl (fun hc => ⟨_, OpenTo.upd (t := 10) rfl (by first | exact hc | simp_all) (OpenTo.upd (t := 9) rfl (by first | exact hc | simp_all) (OpenTo.refl _)), pop_call ca79 rfl (WeakL.refl _) (c_slices_ContainsFunc_api_Pick_api_Pick (p := fun y => y.Player == x) ca80 (fun _ => c_benchref1_LeftOf_1_2) hl)⟩) ?_
  refine dp rfl (pop_picko rfl (.inl rfl) (.inr ⟨_, rfl, fun h => by simp_all⟩)) ?_
  refine dp rfl (pop_assign rfl) ?_
  refine dn ?_
  refine hw_ret ?_
  refine ret_p rfl ?_
  show HVal.bool _ = _
  unfold goneB
  cases k.any (fun y => y.Player == x) <;> rfl

/-- benchwarmer/benchref1.LeftOf -/
theorem c_benchref1_LeftOf {r : Room} {k : List Keep} {l : List Pick} (hp : r.Players.length ≤ 1000000) (hk0 : k.length ≤ 1000000) (hll : l.length ≤ 1000000) : ConP Tryz.prog 35 [eRoom r, eKeeps k, ePicks l] (eSs (leftL r k l)) := by
  refine Con.of_body Tryz.func35 rfl Tryz.ntmps35 rfl rfl ?_
  refine hw_reg ?_
  refine dp rfl (pop_box rfl rfl) ?_
  refine dp rfl (pop_box rfl rfl) ?_
  refine dp rfl (pop_box rfl rfl) ?_
  refine dp rfl (pop_assign rfl) ?_
  refine dn ?_
  refine hw_reg ?_
  refine dp rfl ((by first | exact pop_fieldAddr ty28 rfl ty26 (by decide) rfl | exact pop_fieldAddr_raw ty28 rfl ty26 (by decide) rfl)) ?_
  refine dp rfl (pop_load ty26 rfl rfl rfl) ?_
  refine de rfl (eop_calla ca42 rfl (WeakL.refl _) (c_slices_Clone_string_string (by first | assumption | omega | (simp; omega) | simp_all)) fun v9 => ?_)
  refine dp rfl (pop_makeFunc rfl rfl) ?_
  first
  | refine de rfl (eop_callx (i := 0) ca74 rfl (WeakL.refl _) rfl (c_slices_DeleteFunc_string_string (l := r.Players) (p := goneB k l) ca76 (fun _ => c_benchref1_LeftOf_1 hk0 hll) hp) ?_)
  | refine de rfl (eop_callx (i := 1) ca74 rfl (WeakL.refl _) rfl (c_slices_DeleteFunc_string_string (l := r.Players) (p := goneB k l) ca76 (fun _ => c_benchref1_LeftOf_1 hk0 hll) hp) ?_)
  | refine de rfl (eop_callx (i := 2) ca74 rfl (WeakL.refl _) rfl (c_slices_DeleteFunc_string_string (l := r.Players) (p := goneB k l) ca76 (fun _ => c_benchref1_LeftOf_1 hk0 hll) hp) ?_)
  | refine de rfl (eop_callx (i := 3) ca74 rfl (WeakL.refl _) rfl (c_slices_DeleteFunc_string_string (l := r.Players) (p := goneB k l) ca76 (fun _ => c_benchref1_LeftOf_1 hk0 hll) hp) ?_)
  rintro _ _ ⟨u11, rfl, rfl⟩
  refine dp rfl (pop_assign rfl) ?_
  refine dn ?_
  refine hw_ret ?_
  exact ret_fa (M := []) 6 rfl rfl rfl

/-- benchwarmer/benchref1.lastAt -/
theorem c_benchref1_lastAt {r : Room} {l : List Pick} (hl : l.length ≤ 1000000) : ConP Tryz.prog 72 [eRoom r, ePicks l] (.int .i64 (lastAt r l)) := by
  refine Con.of_body Tryz.func72 rfl Tryz.ntmps72 rfl rfl ?_
  refine hw_reg ?_
  refine dp rfl (pop_box rfl rfl) ?_
  refine dp rfl (pop_assign rfl) ?_
  refine dn ?_
  refine hw_seq ?_
  refine hw_reg ?_
  refine dp rfl (pop_move rfl) ?_
  refine dp rfl (pop_lenm ty36 rfl) ?_
  refine dp rfl (pop_eql rfl rfl) ?_
  refine dn ?_
  refine hw_cond rfl (fun h1 => ?_) (fun h2 => ?_)
  · try simp at h1
    refine hw_reg ?_
    refine dp rfl (pop_fieldAddr ty28 rfl ty3 (by decide) rfl) ?_
    refine dp rfl (pop_load ty3 rfl rfl rfl) ?_
    refine dp rfl (pop_assign rfl) ?_
    refine dn ?_
    refine hw_ret ?_
    refine ret_p rfl ?_
    show HVal.int .i64 _ = _
    first | (rw [lastAt_z h1]; done) | (rw [lastAt_n h2])
  · try simp at h2
    refine hw_skip ?_
    refine seqQ_n ?_
    have hl0 : 0 < l.length := List.length_pos_iff.2 h2
    refine hw_reg ?_
    refine dp rfl (pop_move rfl) ?_
    refine dp rfl (pop_move rfl) ?_
    refine dp rfl (pop_lenm ty36 rfl) ?_
    refine dp rfl (pop_sub64 rfl rfl (by omega) (by omega)) ?_
    refine dp rfl (pop_idx (j := l.length - 1) (a := l.getD (l.length - 1) pick0) ty36 ty55 rfl rfl (by omega) (getD_some (by omega))) ?_
    refine dp rfl (pop_fieldAddr ty55 rfl ty3 (by decide) rfl) ?_
    refine dp rfl (pop_load ty3 rfl rfl rfl) ?_
    refine dp rfl (pop_assign rfl) ?_
    refine dn ?_
    refine hw_ret ?_
    refine ret_p rfl ?_
    show HVal.int .i64 _ = _
    first | (rw [lastAt_z h1]; done) | (rw [lastAt_n h2])

/-- benchwarmer/benchref1.NextOf -/
theorem c_benchref1_NextOf {r : Room} {k : List Keep} {s : List Swap} {l : List Pick}  (h : openFault r k s = 0) (hk0 : k.length ≤ 1000000) (hl : s.length ≤ 1000000) (hlf : l.length ≤ (freeP r k s).length) : ConP Tryz.prog 32 [eRoom r, eKeeps k, eSwaps s, ePicks l] (.tup [ePick (nextP r k s l), .bool (decide (l.length < (freeP r k s).length))]) := by
  have hro := room_ok (openFault_ok h).1
  have ht0 := hro.t0
  have ht := hro.t20
  have hr0 := hro.r1
  have hr := hro.r30
  have hlen := turns_len (r := r) (s := s) (openFault_ok h).1
  have hol : (open1 r k s).length ≤ 600 := by unfold open1; rw [openFrom_len]; exact hlen
  have hfl : (freeP r k s).length ≤ 600 := Nat.le_trans (List.length_filter_le _ _) hol
  refine Con.of_bodyc Tryz.func32 rfl Tryz.ntmps32 rfl rfl ?_
  refine hw_reg ?_
  refine dp rfl (pop_box rfl rfl) ?_
  refine de rfl (eop_alloc ty55 rfl fun b8 => ?_)
  refine dp rfl (pop_assign rfl) ?_
  refine dn ?_
  refine hw_reg ?_
  refine dp rfl (pop_loadw ty28 rfl rfl rfl rfl) ?_
  refine dp rfl (pop_move rfl) ?_
  refine dp rfl (pop_move rfl) ?_
  refine dp rfl (pop_call ca56 rfl (WeakL.refl _) (c_benchref1_free (by first | assumption | omega | (simp; omega) | simp_all) (by first | assumption | omega | (simp; omega) | simp_all) (by first | assumption | omega | (simp; omega) | simp_all))) ?_
  refine dp rfl (pop_assign rfl) ?_
  refine dn ?_
  refine hw_seq ?_
  refine hw_reg ?_
  refine dp rfl (pop_move rfl) ?_
  refine dp rfl (pop_lenm ty36 rfl) ?_
  refine dp rfl (pop_move rfl) ?_
  refine dp rfl (pop_lenm ty36 rfl) ?_
  refine dp rfl (pop_eql rfl rfl) ?_
  refine dn ?_
  refine hw_cond rfl (fun h1 => ?_) (fun h2 => ?_)
  · try simp at h1
    refine hw_reg ?_
    refine dp rfl (pop_build (cs := [_, _, _, _, _]) ty55 pl55 rfl) ?_
    first
    | refine de0 (eop_store (i := 0) ty55 rfl rfl rfl rfl rfl (Nat.le_of_ble_eq_true rfl) ?_)
    | refine de0 (eop_store (i := 1) ty55 rfl rfl rfl rfl rfl (Nat.le_of_ble_eq_true rfl) ?_)
    | refine de0 (eop_store (i := 2) ty55 rfl rfl rfl rfl rfl (Nat.le_of_ble_eq_true rfl) ?_)
    | refine de0 (eop_store (i := 3) ty55 rfl rfl rfl rfl rfl (Nat.le_of_ble_eq_true rfl) ?_)
    refine dp rfl (pop_assign rfl) ?_
    refine dn ?_
    refine hw_ret ?_
    refine ⟨_, _, Ghost.fc0 8 rfl, [_, _], _, ⟨⟨_, _, _, _, _, rfl, ty55, .inr ⟨rfl, rfl, rfl⟩⟩, ⟨rfl, trivial⟩⟩, Weak.refl _, ?_, rfl⟩
    show HVal.tup _ = _
    first | (rw [nextP, if_neg (by omega), show decide (l.length < (freeP r k s).length) = false by simp; omega]; rfl) | (rw [nextP, if_pos (by omega), show decide (l.length < (freeP r k s).length) = true by simp; omega]; rfl)
  · try simp at h2
    refine hw_skip ?_
    refine seqQ_n ?_
    refine hw_reg ?_
    refine dp rfl (pop_move rfl) ?_
    refine dp rfl (pop_move rfl) ?_
    refine dp rfl (pop_lenm ty36 rfl) ?_
    refine dp rfl (pop_idx (j := l.length) (a := (freeP r k s).getD l.length pick0) ty36 ty55 rfl rfl rfl (getD_some (by omega))) ?_
    refine dp rfl (pop_loadw ty55 rfl rfl rfl rfl) ?_
    first
    | refine de0 (eop_store (i := 0) ty55 rfl rfl rfl rfl rfl (Nat.le_of_ble_eq_true rfl) ?_)
    | refine de0 (eop_store (i := 1) ty55 rfl rfl rfl rfl rfl (Nat.le_of_ble_eq_true rfl) ?_)
    | refine de0 (eop_store (i := 2) ty55 rfl rfl rfl rfl rfl (Nat.le_of_ble_eq_true rfl) ?_)
    | refine de0 (eop_store (i := 3) ty55 rfl rfl rfl rfl rfl (Nat.le_of_ble_eq_true rfl) ?_)
    refine dp rfl (pop_assign rfl) ?_
    refine dn ?_
    refine hw_ret ?_
    refine ⟨_, _, Ghost.fc0 8 rfl, [_, _], _, ⟨⟨_, _, _, _, _, rfl, ty55, .inr ⟨rfl, rfl, rfl⟩⟩, ⟨rfl, trivial⟩⟩, Weak.refl _, ?_, rfl⟩
    show HVal.tup _ = _
    first | (rw [nextP, if_neg (by omega), show decide (l.length < (freeP r k s).length) = false by simp; omega]; rfl) | (rw [nextP, if_pos (by omega), show decide (l.length < (freeP r k s).length) = true by simp; omega]; rfl)

/-- benchwarmer/benchref1.DueOf -/
theorem c_benchref1_DueOf {r : Room} {k : List Keep} {s : List Swap} {l : List Pick}  (h : openFault r k s = 0) (hk0 : k.length ≤ 1000000) (hl : s.length ≤ 1000000) (hlf : l.length ≤ (freeP r k s).length) (hm : moment (lastAt r l) = true) : ConP Tryz.prog 33 [eRoom r, eKeeps k, eSwaps s, ePicks l] (.int .i64 (dueN r k s l)) := by
  have hro := room_ok (openFault_ok h).1
  have ht0 := hro.t0
  have ht := hro.t20
  have hr0 := hro.r1
  have hr := hro.r30
  have hlen := turns_len (r := r) (s := s) (openFault_ok h).1
  have hol : (open1 r k s).length ≤ 600 := by unfold open1; rw [openFrom_len]; exact hlen
  have hfl : (freeP r k s).length ≤ 600 := Nat.le_trans (List.length_filter_le _ _) hol
  have hcl := hro.clock
  have hmb := out_f (n := lastAt r l) (lo := 0) (hi := 345686399999) (by simpa [moment] using hm)
  refine Con.of_body Tryz.func33 rfl Tryz.ntmps33 rfl rfl ?_
  refine hw_reg ?_
  refine dp rfl (pop_box rfl rfl) ?_
  refine dp rfl (pop_assign rfl) ?_
  refine dn ?_
  refine hw_draw (fun _ => True) [] mixed ?_
  refine ahp 0 rfl rfl (by kernel_rfl) (by kernel_rfl) (pop_loadw ty28 rfl rfl rfl rfl) ?_
  refine ahp 1 rfl rfl (by kernel_rfl) (by kernel_rfl) (pop_move rfl) ?_
  refine ahp 2 rfl rfl (by kernel_rfl) (by kernel_rfl) (pop_call ca72 rfl (WeakL.refl _) (c_benchref1_lastAt (by first | assumption | omega | (simp; omega) | simp_all))) ?_
  refine ahp 3 rfl rfl (by kernel_rfl) (by kernel_rfl) (pop_fieldAddr ty28 rfl ty3 (by decide) rfl) ?_
  refine ahp 4 rfl rfl (by kernel_rfl) (by kernel_rfl) (pop_load ty3 rfl rfl rfl) ?_
  refine ahp 5 rfl rfl (by kernel_rfl) (by kernel_rfl) (pop_add64 rfl rfl (by omega) (by omega)) ?_
  refine ahp 6 rfl rfl (by kernel_rfl) (by kernel_rfl) (pop_assign rfl) ?_
  refine ahz (by kernel_rfl) ?_
  refine hw_seq ?_
  refine hw_reg ?_
  refine dp rfl (pop_loadw ty28 rfl rfl rfl rfl) ?_
  refine dp rfl (pop_move rfl) ?_
  refine dp rfl (pop_move rfl) ?_
  refine dp rfl (pop_move rfl) ?_
  refine dp rfl (pop_call ca32 rfl (WeakL.refl _) (c_benchref1_NextOf (by first | assumption | omega | (simp; omega) | simp_all) (by first | assumption | omega | (simp; omega) | simp_all) (by first | assumption | omega | (simp; omega) | simp_all) (by first | assumption | omega | (simp; omega) | simp_all))) ?_
  refine dp rfl (pop_move rfl) ?_
  refine dp rfl (pop_extract rfl rfl) ?_
  refine dp rfl (pop_extract rfl rfl) ?_
  refine de rfl (eop_alloc ty55 rfl fun b10 => ?_)
  refine de0 (eop_storew ty55 rfl rfl rfl rfl rfl ?_)
  refine dp rfl (pop_assign rfl) ?_
  refine dn ?_
  refine hw_ghost (Ghost.fc0 10 rfl) ?_
  refine hw_reg ?_
  refine dp rfl (pop_move rfl) ?_
  refine dp rfl (pop_not rfl) ?_
  refine dp rfl (pop_move rfl) ?_
  refine dg rfl rfl (fun hc => ⟨_, OpenTo.refl _, pop_move rfl⟩) ?_
  refine dg rfl rfl (fun hc => ⟨_, OpenTo.upd (t := 29) rfl (by first | exact hc | simp_all) (OpenTo.refl _), pop_call ca20 rfl (WeakL.refl _) c_benchref1_MomentFault⟩) ?_
  refine dg rfl rfl (fun hc => ⟨_, OpenTo.upd (t := 30) rfl (by first | exact hc | simp_all) (OpenTo.refl _), pop_neq rfl rfl⟩) ?_
  refine dp rfl (pop_picko rfl (.inl rfl) (.inr ⟨_, rfl, fun h => by simp_all⟩)) ?_
  refine dn ?_
  refine hw_cond rfl (fun h1 => ?_) (fun h2 => ?_)
  · try simp at h1
    refine hw_reg ?_
    refine dp rfl (pop_assign rfl) ?_
    refine dn ?_
    refine hw_ret ?_
    refine ret_p rfl ?_
    show HVal.int .i64 _ = _
    first | (rw [dueN, if_neg (fun q => h1.elim (fun e => absurd q.1 (by omega)) (fun e => by rw [q.2] at e; cases e))]; done) | (rw [dueN, if_pos h2])
  · try simp at h2
    refine hw_skip ?_
    refine seqQ_n ?_
    refine hw_reg ?_
    refine dp rfl (pop_move rfl) ?_
    refine dp rfl (pop_assign rfl) ?_
    refine dn ?_
    refine hw_ret ?_
    refine ret_p rfl ?_
    show HVal.int .i64 _ = _
    first | (rw [dueN, if_neg (fun q => h1.elim (fun e => absurd q.1 (by omega)) (fun e => by rw [q.2] at e; cases e))]; done) | (rw [dueN, if_pos h2])
end Go.Proofs.YtoomadfbldcioaaGreatDoor
end
