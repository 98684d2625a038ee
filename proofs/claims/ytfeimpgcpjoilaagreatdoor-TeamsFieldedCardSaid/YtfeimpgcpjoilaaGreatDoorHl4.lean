/- The rules of the operations that read or make immutable memory, and of calls, over any program; no conditions. -/
import Derived.Test.YtfeimpgcpjoilaaGreatDoorHl3
namespace Go.HL

theorem addr_add (b o n : Nat) : (⟨b, o, none⟩ : Addr).add n = ⟨b, o + n, none⟩ := by
  unfold Addr.add
  split
  · rename_i h; subst h; rfl
  · rfl
theorem cell_of {w : World} {b : Nat} {rc : Array Value} {el : TypeId} {fr : Nat × Nat} (h : w.heap[b]? = some (.cells rc el fr)) (o : Nat) : w.cell? ⟨b, o, none⟩ = rc[o]? := by
  simp [World.cell?, h]
theorem run_load_at {P : Program} {w : World} {a : Addr} {v : Value} (h : w.cell? a = some v) : (load a).run P w = .ok v w := by
  simp [h]

theorem bsize (s : List UInt8) : (⟨s.toArray⟩ : ByteArray).size = s.length := by simp [ByteArray.size]

theorem lt_of_get {α : Type} {l : List α} {i : Nat} {x : α} (h : l[i]? = some x) : i < l.length := by
  rcases Nat.lt_or_ge i l.length with h' | h'
  · exact h'
  · simp [List.getElem?_eq_none h'] at h

/-- A variable that lies in a run of known cells is loaded. -/
theorem run_loadVar {P : Program} {I : Imm} {w : World} {t : TypeId} {d : TD} {size bytes : Nat} {zero : Value} (hf : Fits P t d size bytes zero) {b o : Nat} {rc : Array Value} {el : TypeId} {fr : Nat × Nat}
    (hw : w.heap[b]? = some (.cells rc el fr)) {cs : List HVal} {off base : Nat} (ho : o = base + off) (hb : base + cs.length ≤ rc.size)
    (hV : ∀ (j : Nat) (c : HVal) (v : Value), cs[j]? = some c → rc[base + j]? = some v → V I c v) {h : HVal}
    (hh : (d.isAgg = false ∧ cs[off]? = some h) ∨ (d.isAgg = true ∧ off + size ≤ cs.length ∧ h = .agg ((cs.drop off).take size))) :
    ∃ v, (loadVar t ⟨b, o, none⟩).run P w = .ok v w ∧ V I h v := by
  subst ho
  rcases hh with ⟨hd, hc⟩ | ⟨hd, hle, rfl⟩
  · have hlt := lt_of_get hc
    have hr : base + off < rc.size := by omega
    have hcell : w.cell? ⟨b, base + off, none⟩ = some rc[base + off] := by rw [cell_of hw]; exact Array.getElem?_eq_getElem hr
    refine ⟨rc[base + off], ?_, hV off h _ hc (Array.getElem?_eq_getElem hr)⟩
    unfold loadVar
    simp only [Sem.run_bind, hf.run_isAgg, Result.andThen_ok, hd, Bool.false_eq_true, if_false]
    exact run_load_at hcell
  · let vs : List Value := (rc.toList.drop (base + off)).take size
    have hlen : vs.length = size := by simp [vs]; omega
    have hcells : ∀ (j : Nat) (v : Value), vs[j]? = some v → rc[base + off + j]? = some v := fun j v hj => by
      simp only [vs, List.getElem?_take] at hj
      split at hj
      · simpa [List.getElem?_drop] using hj
      · simp at hj
    have hrun : (loadCells ⟨b, base + off, none⟩ vs.length).run P w = .ok vs.toArray w :=
      run_loadCells_list w _ _ fun j v hj => by rw [addr_add, cell_of hw]; exact hcells j v hj
    refine ⟨.agg vs.toArray, ?_, ?_⟩
    · unfold loadVar
      simp only [Sem.run_bind, hf.run_isAgg, Result.andThen_ok, hd, if_true, hf.run_sizeOf]
      rw [hlen] at hrun
      simp only [hrun, Result.andThen_ok, Sem.run_pure]
    · refine V.mk_agg ⟨by simp only [List.toList_toArray, hlen, List.length_take, List.length_drop]; omega, fun j c v h1 h2 => ?_⟩
      have h3 := hcells j v (by simpa using h2)
      simp only [List.getElem?_take] at h1
      split at h1
      · rw [List.getElem?_drop] at h1
        exact hV (off + j) c v h1 (by rw [← Nat.add_assoc]; exact h3)
      · simp at h1

/-! lists of operands -/
def evalL (e : Env) : List Operand → Option (List HVal)
  | [] => some []
  | x :: r => match evalO e x, evalL e r with
    | some h, some l => some (h :: l)
    | _, _ => none

theorem evalL_V {I : Imm} {e : Env} {f : Operand → Value} : ∀ (xs : List Operand) (hs : List HVal), evalL e xs = some hs → (∀ x ∈ xs, ∀ h, evalO e x = some h → V I h (f x)) → VL I hs (xs.map f)
  | [], hs, h, _ => by simp [evalL] at h; subst h; exact VL.nil
  | x :: r, hs, h, hv => by
    simp only [evalL] at h
    cases h1 : evalO e x with
    | none => rw [h1] at h; simp at h
    | some a =>
      cases h2 : evalL e r with
      | none => rw [h1, h2] at h; simp at h
      | some l =>
        rw [h1, h2] at h; simp at h; subst h
        exact VL.cons (hv x (by simp) a h1) (evalL_V r l h2 fun y hy => hv y (by simp [hy]))

def WeakL : List HVal → List HVal → Prop
  | [], [] => True
  | h :: r, h' :: r' => Weak h h' ∧ WeakL r r'
  | _, _ => False
theorem WeakL.refl : ∀ l, WeakL l l
  | [] => trivial
  | _ :: r => ⟨Weak.refl _, WeakL.refl r⟩
theorem WeakL.vl {I : Imm} : ∀ {hs hs' : List HVal} {vs : List Value}, WeakL hs hs' → VL I hs vs → VL I hs' vs
  | [], [], _, _, h => h
  | h :: r, h' :: r', [], _, hv => by have := hv.1; simp at this
  | h :: r, h' :: r', v :: vs, hw, hv => VL.cons (hw.1 I v hv.head) (WeakL.vl hw.2 hv.tail)
  | [], _ :: _, _, hw, _ => hw.elim
  | _ :: _, [], _, hw, _ => hw.elim

/-- Contents that can lie in memory, of sz cells. -/
def okElem (sz : Nat) : HVal → Bool
  | .junk => false
  | .opt _ _ => false
  | .agg cs => Nat.beq cs.length sz
  | _ => Nat.beq sz 1
theorem okElem_cells {sz : Nat} {h : HVal} (ho : okElem sz h = true) : (hcells h).length = sz ∧ storable h = true := by
  cases h <;> simp [okElem, hcells, storable] at ho ⊢ <;> first | exact ho | exact ho.symm

theorem V.cells_size {I : Imm} {sz : Nat} {h : HVal} {v : Value} (hv : V I h v) (ho : okElem sz h = true) : v.cells.size = sz ∧ VL I (hcells h) v.cells.toList := by
  obtain ⟨h1, h2⟩ := okElem_cells ho
  have := hv.cells h2
  exact ⟨by have := this.1; simp at this; omega, this⟩

/-! fill -/
theorem foldl_set (off : Nat) : ∀ (vs : List Value) (k : Nat) (cs : Array Value),
    let r := (vs.zipIdx k).foldl (fun cs (p : Value × Nat) => cs.setIfInBounds (off + p.2) p.1) cs
    r.size = cs.size ∧ ∀ x, r[x]? = if off + k ≤ x ∧ x < off + k + vs.length ∧ x < cs.size then vs[x - off - k]? else cs[x]?
  | [], k, cs => by
    refine ⟨rfl, fun x => ?_⟩
    simp only [List.zipIdx_nil, List.foldl_nil, List.length_nil]
    rw [if_neg (by omega)]
  | v :: vs, k, cs => by
    have ih := foldl_set off vs (k + 1) (cs.setIfInBounds (off + k) v)
    simp only [List.zipIdx_cons, List.foldl_cons] at ih ⊢
    refine ⟨by rw [ih.1]; simp, fun x => ?_⟩
    rw [ih.2 x]
    simp only [Array.size_setIfInBounds, List.length_cons]
    by_cases h1 : x = off + k
    · subst h1
      rw [if_neg (by omega)]
      by_cases h2 : off + k < cs.size
      · rw [if_pos ⟨by omega, by omega, h2⟩]
        have : off + k - off - k = 0 := by omega
        simp [h2, this]
      · rw [if_neg (by omega)]
        rw [Array.getElem?_eq_none (by simp; omega), Array.getElem?_eq_none (by omega)]
    · by_cases h2 : off + (k + 1) ≤ x ∧ x < off + (k + 1) + vs.length ∧ x < cs.size
      · rw [if_pos h2, if_pos (by omega)]
        have : x - off - k = (x - off - (k + 1)) + 1 := by omega
        rw [this, List.getElem?_cons_succ]
      · rw [if_neg h2, if_neg (by omega), Array.getElem?_setIfInBounds_ne (by omega)]

theorem zipIdx_fold (off : Nat) (vs cs : Array Value) :
    vs.zipIdx.foldl (fun cs (p : Value × Nat) => cs.setIfInBounds (off + p.2) p.1) cs = (vs.toList.zipIdx 0).foldl (fun cs (p : Value × Nat) => cs.setIfInBounds (off + p.2) p.1) cs := by
  rw [← Array.foldl_toList]
  simp

/-- A part is laid over cells that are known. -/
def setL (cs : List HVal) (off : Nat) (hs : List HVal) : List HVal := cs.take off ++ hs ++ cs.drop (off + hs.length)

theorem fill_one {I : Imm} {cs hs : List HVal} {rc vs : Array Value} {off : Nat} (hc : VL I cs rc.toList) (hv : VL I hs vs.toList) (hle : off + hs.length ≤ cs.length) :
    VL I (setL cs off hs) (vs.zipIdx.foldl (fun cs (p : Value × Nat) => cs.setIfInBounds (off + p.2) p.1) rc).toList := by
  rw [zipIdx_fold]
  obtain ⟨h1, h2⟩ := foldl_set off vs.toList 0 rc
  have hcl := hc.1
  have hvl := hv.1
  refine ⟨?_, fun j c v h3 h4 => ?_⟩
  · simp only [Array.length_toList] at *
    rw [h1]
    simp [setL]; omega
  · rw [Array.getElem?_toList, h2 j] at h4
    simp only [setL] at h3
    by_cases ha : j < off
    · rw [if_neg (by omega)] at h4
      rw [List.append_assoc, List.getElem?_append_left (by simp; omega), List.getElem?_take_of_lt ha] at h3
      exact hc.2 j c v h3 (by simpa using h4)
    · by_cases hb : j < off + hs.length
      · simp only [Array.length_toList] at *
        rw [if_pos ⟨by omega, by omega, by omega⟩] at h4
        rw [List.getElem?_append_left (by simp; omega), List.getElem?_append_right (by simp; omega)] at h3
        have e1 : (cs.take off).length = off := by simp; omega
        rw [e1] at h3
        exact hv.2 (j - off) c v h3 (by simpa using h4)
      · simp only [Array.length_toList] at *
        rw [if_neg (by omega)] at h4
        rw [List.getElem?_append_right (by simp; omega)] at h3
        have e1 : (cs.take off ++ hs).length = off + hs.length := by simp; omega
        rw [e1, List.getElem?_drop] at h3
        have e2 : off + hs.length + (j - (off + hs.length)) = j := by omega
        rw [e2] at h3
        exact hc.2 j c v h3 (by simpa using h4)

/-- The parts of a struct, laid over its zero. -/
def fillH (e : Env) (places : List (Nat × Nat)) (cs : List HVal) : List (Nat × Operand) → Option (List HVal)
  | [] => some cs
  | (i, x) :: r =>
    match places[i]?, evalO e x with
    | some (off, sz), some h =>
      match okElem sz h, Nat.ble (off + sz) cs.length with
      | true, true => fillH e places (setL cs off (hcells h)) r
      | _, _ => none
    | _, _ => none

theorem setL_length {cs hs : List HVal} {off : Nat} (h : off + hs.length ≤ cs.length) : (setL cs off hs).length = cs.length := by
  simp [setL]; omega

theorem fillH_run {I : Imm} {e : Env} {f : Operand → Value} {places : List (Nat × Nat)} : ∀ (parts : List (Nat × Operand)) (cs cs' : List HVal) (rc : Array Value),
    fillH e places cs parts = some cs' → (∀ x ∈ parts.map (·.2), ∀ h, evalO e x = some h → V I h (f x)) → VL I cs rc.toList →
    ∃ rc', Instr.fill (places[·]?) rc (parts.map fun p => (p.1, f p.2)) = some rc' ∧ VL I cs' rc'.toList
  | [], cs, cs', rc, h, _, hc => by
    simp [fillH] at h; subst h
    exact ⟨rc, rfl, hc⟩
  | (i, x) :: r, cs, cs', rc, h, hv, hc => by
    simp only [fillH] at h
    cases h1 : places[i]? with
    | none => rw [h1] at h; simp at h
    | some p =>
      obtain ⟨off, sz⟩ := p
      cases h2 : evalO e x with
      | none => rw [h1, h2] at h; simp at h
      | some y =>
        rw [h1, h2] at h
        simp only at h
        cases h3 : okElem sz y with
        | false => rw [h3] at h; simp at h
        | true =>
          cases h4 : Nat.ble (off + sz) cs.length with
          | false => rw [h3, h4] at h; simp at h
          | true =>
            rw [h3, h4] at h
            simp only at h
            have h4' : off + sz ≤ cs.length := Nat.le_of_ble_eq_true h4
            obtain ⟨h5, h6⟩ := (hv x (by simp) y h2).cells_size h3
            obtain ⟨h7, _⟩ := okElem_cells h3
            have hcl := hc.1
            simp only [Array.length_toList] at hcl
            obtain ⟨rc', h8, h9⟩ := fillH_run r _ cs' _ h (fun z hz => hv z (by simp at hz ⊢; exact .inr hz)) (fill_one hc h6 (by omega))
            refine ⟨rc', ?_, h9⟩
            simp only [List.map_cons, Instr.fill, h1]
            rw [if_neg (by simp [h5]; omega)]
            exact h8

section
variable {P : Program} {e : Env} {dst : Option Tmp} {ty : TypeId} {pos : String} {af : Array Edge} {g : Option (Nat × Bool)}

/-! addresses and loads in immutable memory -/
theorem pop_load {x : Operand} {t : TypeId} {d : TD} {size bytes : Nat} {zero : Value} {cs : List HVal} {off : Nat} {h : HVal} (hf : Fits P t d size bytes zero)
    (hx : evalO e x = some (.vptr cs off)) (hd : d.isAgg = false) (hc : cs[off]? = some h) : POp P e ⟨dst, .load t x, ty, pos, af, g⟩ h :=
  POp.of_run fun I F a w ho hs => by
    obtain ⟨b, base, rc, el, fr, h1, h2, h3, h4⟩ := (ho.one (x := x) (by simp [Op.operands]) hx).vptr_inv
    obtain ⟨v, h5, h6⟩ := run_loadVar hf (hs.imm _ _ h2) rfl h3 h4 (.inl ⟨hd, hc⟩)
    exact ⟨v, w, I, by simp [execOp, h1, Instr.loadAt, Instr.sureAddr, h5], .refl I, h6, hs⟩
theorem pop_loada {x : Operand} {t : TypeId} {d : TD} {size bytes : Nat} {zero : Value} {cs : List HVal} {off : Nat} (hf : Fits P t d size bytes zero)
    (hx : evalO e x = some (.vptr cs off)) (hd : d.isAgg = true) (hc : off + size ≤ cs.length) : POp P e ⟨dst, .load t x, ty, pos, af, g⟩ (.agg ((cs.drop off).take size)) :=
  POp.of_run fun I F a w ho hs => by
    obtain ⟨b, base, rc, el, fr, h1, h2, h3, h4⟩ := (ho.one (x := x) (by simp [Op.operands]) hx).vptr_inv
    obtain ⟨v, h5, h6⟩ := run_loadVar hf (hs.imm _ _ h2) rfl h3 h4 (.inr ⟨hd, hc, rfl⟩)
    exact ⟨v, w, I, by simp [execOp, h1, Instr.loadAt, Instr.sureAddr, h5], .refl I, h6, hs⟩

/-- A whole variable. -/
theorem pop_loadw {x : Operand} {t : TypeId} {d : TD} {size bytes : Nat} {zero : Value} {h : HVal} (hf : Fits P t d size bytes zero)
    (hx : evalO e x = some (.vptr (hcells h) 0)) (hd : d.isAgg = true) (hh : h = .agg (hcells h)) (hc : (hcells h).length = size) : POp P e ⟨dst, .load t x, ty, pos, af, g⟩ h := by
  have := pop_loada (P := P) (dst := dst) (ty := ty) (pos := pos) (af := af) (g := g) hf hx hd (by omega)
  rw [List.drop_zero, ← hc, List.take_length, ← hh] at this
  exact this

theorem run_fieldAt {t : TypeId} {fs : List (Nat × Nat)} {size bytes : Nat} {zero : Value} (hf : Fits P t (.struct fs) size bytes zero) {f foff ft : Nat} (hfs : fs[f]? = some (foff, ft))
    {d : TD} {s2 b2 : Nat} {z2 : Value} (hft : Fits P ft d s2 b2 z2) (hs : s2 ≠ 0) (b o : Nat) (w : World) :
    (Instr.fieldAt t (.pointer (some ⟨b, o, none⟩)) f).run P w = .ok (.pointer (some ⟨b, o + foff, none⟩)) w := by
  obtain ⟨gs, h1, h2⟩ := hf.structD
  have h3 : (gs.toList.map fun f => (f.offset, f.type))[f]? = some (foff, ft) := by rw [h2]; exact hfs
  rw [List.getElem?_map] at h3
  cases hg : gs.toList[f]? with
  | none => rw [hg] at h3; simp at h3
  | some fl =>
    rw [hg] at h3
    simp at h3
    obtain ⟨h4, h5⟩ := h3
    have hg' : gs[f]? = some fl := by simpa using hg
    simp [Instr.fieldAt, run_underlying h1, hg', Instr.sureAddr, fieldPlace, h5, hft.run_sizeOf, hs, h4, addr_add]

theorem pop_fieldAddr {x : Operand} {t : TypeId} {fs : List (Nat × Nat)} {size bytes : Nat} {zero : Value} {f foff ft : Nat} {d : TD} {s2 b2 : Nat} {z2 : Value} {cs : List HVal} {off : Nat}
    (hf : Fits P t (.struct fs) size bytes zero) (hfs : fs[f]? = some (foff, ft)) (hft : Fits P ft d s2 b2 z2) (hs : s2 ≠ 0) (hx : evalO e x = some (.vptr cs off)) :
    POp P e ⟨dst, .fieldAddr t x f, ty, pos, af, g⟩ (.vptr cs (off + foff)) :=
  POp.of_val fun I a w ho => by
    obtain ⟨b, base, rc, el, fr, h1, h2, h3, h4⟩ := (ho.one (x := x) (by simp [Op.operands]) hx).vptr_inv
    refine ⟨.pointer (some ⟨b, base + off + foff, none⟩), ?_, ?_⟩
    · simp [execOp, h1, run_fieldAt hf hfs hft hs]
    · rw [Nat.add_assoc]; exact .vptr h2 h3 h4
theorem pop_fieldAddr_raw {x : Operand} {t : TypeId} {fs : List (Nat × Nat)} {size bytes : Nat} {zero : Value} {f foff ft : Nat} {d : TD} {s2 b2 : Nat} {z2 : Value} {b o : Nat}
    (hf : Fits P t (.struct fs) size bytes zero) (hfs : fs[f]? = some (foff, ft)) (hft : Fits P ft d s2 b2 z2) (hs : s2 ≠ 0) (hx : evalO e x = some (.raw (.pointer (some ⟨b, o, none⟩)))) :
    POp P e ⟨dst, .fieldAddr t x f, ty, pos, af, g⟩ (.raw (.pointer (some ⟨b, o + foff, none⟩))) :=
  POp.of_val fun I a w ho => by
    have h1 := (ho.one (x := x) (by simp [Op.operands]) hx).raw_inv
    exact ⟨_, by simp [execOp, h1, run_fieldAt hf hfs hft hs], .raw _ rfl⟩

theorem run_indexAt {t el : TypeId} {size bytes sz b2 : Nat} {zero z2 : Value} {d : TD} (hf : Fits P t (.slice el) size bytes zero) (hel : Fits P el d sz b2 z2) {k : IntKind} {j len cap b o : Nat} (hj : j < len) (w : World) :
    (Instr.indexAt t (.slice (some ⟨b, o, none⟩) len cap) (.int k (j : Int))).run P w = .ok (.pointer (some ⟨b, o + j * sz, none⟩)) w := by
  have h1 : (0 : Int) ≤ (j : Int) ∧ (j : Int) < (len : Int) := by omega
  simp [Instr.indexAt, asIntOf, run_underlying hf.slice, h1, hel.run_sizeOf, addr_add]
  intro h; omega

theorem pop_indexAddr {x y : Operand} {t el : TypeId} {size bytes sz b2 : Nat} {zero z2 : Value} {d : TD} {es : List HVal} {k : IntKind} {i : Int} {j : Nat} {h : HVal}
    (hf : Fits P t (.slice el) size bytes zero) (hel : Fits P el d sz b2 z2) (hx : evalO e x = some (.slice sz es)) (hy : evalO e y = some (.int k i)) (hi : i = (j : Int)) (hj : es[j]? = some h) :
    POp P e ⟨dst, .indexAddr t x y, ty, pos, af, g⟩ (.vptr (hcells h) 0) :=
  POp.of_val fun I a w ho => by
    subst hi
    have h2 := (ho.one (x := y) (by simp [Op.operands]) hy).int_inv
    have hlt := lt_of_get hj
    rcases (ho.one (x := x) (by simp [Op.operands]) hx).slice_inv with ⟨rfl, _⟩ | ⟨b, off, cap, rc, el', fr, h1, h3, h4, h5, h6, h7⟩
    · simp at hlt
    · refine ⟨.pointer (some ⟨b, off + j * sz + 0, none⟩), by simp [execOp, h1, h2, run_indexAt hf hel hlt], ?_⟩
      have hl := h4 h (List.mem_of_getElem? hj)
      refine .vptr h3 ?_ fun k c v h8 h9 => h7 j k h c v hj h8 h9
      have : (j + 1) * sz ≤ es.length * sz := Nat.mul_le_mul_right _ hlt
      rw [Nat.add_mul] at this
      omega

theorem pop_idx {α : Type} {x y : Operand} {t el : TypeId} {size bytes sz b2 : Nat} {zero z2 : Value} {d : TD} {f : α → HVal} {l : List α} {k : IntKind} {i : Int} {j : Nat} {a : α}
    (hf : Fits P t (.slice el) size bytes zero) (hel : Fits P el d sz b2 z2) (hx : evalO e x = some (.slice sz (l.map f))) (hy : evalO e y = some (.int k i)) (hi : i = (j : Int)) (hj : l[j]? = some a) :
    POp P e ⟨dst, .indexAddr t x y, ty, pos, af, g⟩ (.vptr (hcells (f a)) 0) := pop_indexAddr hf hel hx hy hi (by rw [List.getElem?_map, hj]; rfl)

/-! lengths -/
theorem run_len {t : TypeId} {ats : Array TypeId} {ρ : Operand → Value} {x : Operand} (w : World) :
    (execOp ρ ⟨dst, .call ⟨.builtin .len, #[x], #[t]⟩, ty, pos, af, g⟩).run P w = ((Builtin.len_ #[t] ty #[ρ x]).run P w).andThen (fun v w => .ok (.value v) w) := by
  simp [execOp, resolve, invoke, builtin]
theorem pop_len {x : Operand} {t el : TypeId} {size bytes : Nat} {zero : Value} {sz : Nat} {es : List HVal} (hf : Fits P t (.slice el) size bytes zero) (hx : evalO e x = some (.slice sz es)) :
    POp P e ⟨dst, .call ⟨.builtin .len, #[x], #[t]⟩, ty, pos, af, g⟩ (.int .i64 es.length) :=
  POp.of_val fun I a w ho => by
    obtain ⟨b, cap, h1⟩ := (ho.one (x := x) (by simp [Op.operands, Call.operands]) hx).slice_len
    exact ⟨_, by rw [run_len (ats := #[])]; simp [h1, Builtin.len_, run_underlying hf.slice, goInt], .int _ _⟩
theorem pop_lenm {α : Type} {x : Operand} {t el : TypeId} {size bytes : Nat} {zero : Value} {sz : Nat} {f : α → HVal} {l : List α} (hf : Fits P t (.slice el) size bytes zero) (hx : evalO e x = some (.slice sz (l.map f))) :
    POp P e ⟨dst, .call ⟨.builtin .len, #[x], #[t]⟩, ty, pos, af, g⟩ (.int .i64 l.length) := by
  have := pop_len (P := P) (dst := dst) (ty := ty) (pos := pos) (af := af) (g := g) hf hx
  rwa [List.length_map] at this
theorem pop_len_raw {x : Operand} {t el : TypeId} {size bytes : Nat} {zero : Value} {b : Option Addr} {n cap : Nat} (hf : Fits P t (.slice el) size bytes zero) (hx : evalO e x = some (.raw (.slice b n cap))) :
    POp P e ⟨dst, .call ⟨.builtin .len, #[x], #[t]⟩, ty, pos, af, g⟩ (.int .i64 n) :=
  POp.of_val fun I a w ho => by
    have h1 := (ho.one (x := x) (by simp [Op.operands, Call.operands]) hx).raw_inv
    exact ⟨_, by rw [run_len (ats := #[])]; simp [h1, Builtin.len_, run_underlying hf.slice, goInt], .int _ _⟩
theorem pop_lens {x : Operand} {t : TypeId} {size bytes : Nat} {zero : Value} {s : List UInt8} (hf : Fits P t .str size bytes zero) (hx : evalO e x = some (.str s)) :
    POp P e ⟨dst, .call ⟨.builtin .len, #[x], #[t]⟩, ty, pos, af, g⟩ (.int .i64 s.length) :=
  POp.of_val fun I a w ho => by
    have h1 := (ho.one (x := x) (by simp [Op.operands, Call.operands]) hx).str_inv
    exact ⟨_, by rw [run_len (ats := #[])]; simp [h1, Builtin.len_, run_underlying hf.strD, goInt, bsize], .int _ _⟩
theorem run_bi {b : Builtin} {xs : Array Operand} {ats : Array TypeId} {ρ : Operand → Value} (w : World) (hb : b = .min ∨ b = .max) :
    (execOp ρ ⟨dst, .call ⟨.builtin b, xs, ats⟩, ty, pos, af, g⟩).run P w = ((if b = .min then Builtin.min_ ats ty (xs.map ρ) else Builtin.max_ ats ty (xs.map ρ)).run P w).andThen (fun v w => .ok (.value v) w) := by
  rcases hb with rfl | rfl <;> simp [execOp, resolve, invoke, builtin]
theorem pop_min {x y : Operand} {ats : Array TypeId} {k : IntKind} {m n : Int} (hx : evalO e x = some (.int k m)) (hy : evalO e y = some (.int k n)) :
    POp P e ⟨dst, .call ⟨.builtin .min, #[x, y], ats⟩, ty, pos, af, g⟩ (.int k (if n < m then n else m)) :=
  POp.of_val fun I a w ho => by
    have h1 := (ho.one (x := x) (by simp [Op.operands, Call.operands]) hx).int_inv
    have h2 := (ho.one (x := y) (by simp [Op.operands, Call.operands]) hy).int_inv
    exact ⟨_, by rw [run_bi w (.inl rfl)]; simp [h1, h2, Builtin.min_, Builtin.min2], .int _ _⟩
theorem pop_max {x y : Operand} {ats : Array TypeId} {k : IntKind} {m n : Int} (hx : evalO e x = some (.int k m)) (hy : evalO e y = some (.int k n)) :
    POp P e ⟨dst, .call ⟨.builtin .max, #[x, y], ats⟩, ty, pos, af, g⟩ (.int k (if n > m then n else m)) :=
  POp.of_val fun I a w ho => by
    have h1 := (ho.one (x := x) (by simp [Op.operands, Call.operands]) hx).int_inv
    have h2 := (ho.one (x := y) (by simp [Op.operands, Call.operands]) hy).int_inv
    exact ⟨_, by rw [run_bi w (.inr rfl)]; simp [h1, h2, Builtin.max_, Builtin.max2], .int _ _⟩

/-! slicing -/
def BoundIs (e : Env) (x : Option Operand) (dflt n : Nat) : Prop :=
  match x with
  | none => n = dflt
  | some o => ∃ k i, evalO e o = some (.int k i) ∧ i = (n : Int)

theorem run_sliceBound {k : IntKind} {n y : Nat} (h : n ≤ y) (code : BoundsCode) (w : World) : (Instr.sliceBound (.int k (n : Int)) y code).run P w = .ok n w := by
  have h1 : (0 : Int) ≤ (n : Int) ∧ (n : Int) ≤ (y : Int) := by omega
  simp [Instr.sliceBound, asIntOf, h1]

theorem run_bounds {I : Imm} {a : Act} {o : Oper} (ho : Opds I e a o) {lo hi : Option Operand} (hlo : ∀ x, lo = some x → x ∈ o.op.operands) (hhi : ∀ x, hi = some x → x ∈ o.op.operands)
    {len cap l h : Nat} (h1 : BoundIs e lo 0 l) (h2 : BoundIs e hi len h) (h3 : l ≤ h) (h4 : h ≤ len) (h5 : len ≤ cap) (b : Bool) (w : World) :
    (Instr.sliceBounds b len cap (lo.map a.eval) (hi.map a.eval) none).run P w = .ok (l, h, cap) w := by
  unfold Instr.sliceBounds
  cases lo with
  | none =>
    simp only [BoundIs] at h1
    subst h1
    cases hi with
    | none => simp only [BoundIs] at h2; subst h2; simp
    | some y =>
      obtain ⟨k, i, h6, rfl⟩ := h2
      have h7 := (ho.one (hhi y rfl) h6).int_inv
      simp [h7, run_sliceBound (Nat.le_trans h4 h5)]
  | some x =>
    obtain ⟨k', i', h8, rfl⟩ := h1
    have h9 := (ho.one (hlo x rfl) h8).int_inv
    cases hi with
    | none => simp only [BoundIs] at h2; subst h2; simp [h9, run_sliceBound h3]
    | some y =>
      obtain ⟨k, i, h6, rfl⟩ := h2
      have h7 := (ho.one (hhi y rfl) h6).int_inv
      simp [h7, h9, run_sliceBound (Nat.le_trans h4 h5), run_sliceBound h3]

theorem V.slice_sub {I : Imm} {sz : Nat} {es : List HVal} {v : Value} (hv : V I (.slice sz es) v) {l h : Nat} (h1 : l ≤ h) (h2 : h ≤ es.length) :
    ∃ a cap, v = .slice a es.length cap ∧ es.length ≤ max cap es.length ∧ (es.length ≤ cap ∨ es = []) ∧ V I (.slice sz ((es.take h).drop l)) (.slice (if cap = l then a else a.map (·.add (l * sz))) (h - l) (cap - l)) := by
  rcases hv.slice_inv with ⟨rfl, a, cap, rfl⟩ | ⟨b, off, cap, rc, el, fr, rfl, h3, h4, h5, h6, h7⟩
  · simp at h2
    obtain rfl : h = 0 := h2
    obtain rfl : l = 0 := by omega
    exact ⟨a, cap, rfl, by simp, .inr rfl, by simpa using V.slice0 sz _ cap⟩
  · refine ⟨_, cap, rfl, by omega, .inl h5, ?_⟩
    have hl : ((es.take h).drop l).length = h - l := by simp; omega
    by_cases hlh : h = l
    · subst hlh
      have : (es.take h).drop h = [] := by simp
      rw [this, Nat.sub_self]
      exact .slice0 _ _ _
    · rw [if_neg (by omega)]
      simp only [Option.map_some, addr_add]
      rw [← hl]
      refine .slice h3 (fun x hx => h4 x (List.mem_of_mem_take (List.mem_of_mem_drop hx))) (by omega) ?_ fun i j x c v h8 h9 h10 => ?_
      · rw [hl]
        have : (l + (h - l)) * sz ≤ es.length * sz := Nat.mul_le_mul_right _ (by omega)
        rw [Nat.add_mul] at this
        omega
      · rw [List.getElem?_drop, List.getElem?_take] at h8
        split at h8
        · refine h7 (l + i) j x c v h8 h9 ?_
          rw [Nat.add_mul, ← Nat.add_assoc]
          exact h10
        · simp at h8

theorem pop_slice {x : Operand} {lo hi : Option Operand} {t el : TypeId} {size bytes sz b2 : Nat} {zero z2 : Value} {d : TD} {es : List HVal} {l h : Nat}
    (hf : Fits P t (.slice el) size bytes zero) (hel : Fits P el d sz b2 z2) (hx : evalO e x = some (.slice sz es)) (h1 : BoundIs e lo 0 l) (h2 : BoundIs e hi es.length h) (h3 : l ≤ h) (h4 : h ≤ es.length) :
    POp P e ⟨dst, .slice t x lo hi none, ty, pos, af, g⟩ (.slice sz ((es.take h).drop l)) :=
  POp.of_val fun I a w ho => by
    have hv := ho.one (x := x) (by simp [Op.operands]) hx
    obtain ⟨p, cap, h5, _, h6, h7⟩ := hv.slice_sub h3 h4
    refine ⟨_, ?_, h7⟩
    have hb : (Instr.sliceBounds true es.length cap (lo.map a.eval) (hi.map a.eval) none).run P w = .ok (l, h, cap) w := by
      rcases h6 with h6 | h6
      · exact run_bounds ho (by intro y hy; simp [Op.operands, hy]) (by intro y hy; simp [Op.operands, hy]) h1 h2 h3 h4 h6 true w
      · subst h6
        simp at h4
        subst h4
        obtain rfl : l = 0 := by omega
        exact run_bounds ho (by intro y hy; simp [Op.operands, hy]) (by intro y hy; simp [Op.operands, hy]) h1 h2 (Nat.le_refl _) (Nat.zero_le _) (Nat.zero_le _) true w
    simp [execOp, Instr.sliceAt, run_underlying hf.slice, h5, Instr.slice, hb, hel.run_sizeOf]

theorem pop_slicem {α : Type} {x : Operand} {lo hi : Option Operand} {t el : TypeId} {size bytes sz b2 : Nat} {zero z2 : Value} {d : TD} {f : α → HVal} {es : List α} {l h : Nat}
    (hf : Fits P t (.slice el) size bytes zero) (hel : Fits P el d sz b2 z2) (hx : evalO e x = some (.slice sz (es.map f))) (h1 : BoundIs e lo 0 l) (h2 : BoundIs e hi es.length h) (h3 : l ≤ h) (h4 : h ≤ es.length) :
    POp P e ⟨dst, .slice t x lo hi none, ty, pos, af, g⟩ (.slice sz (((es.take h).drop l).map f)) := by
  have := pop_slice (P := P) (dst := dst) (ty := ty) (pos := pos) (af := af) (g := g) hf hel hx h1 (by rw [List.length_map]; exact h2) h3 (by rw [List.length_map]; exact h4)
  rwa [← List.map_take, ← List.map_drop] at this

theorem extract_eq (s : List UInt8) (l h : Nat) : (⟨s.toArray⟩ : ByteArray).extract l h = ⟨((s.take h).drop l).toArray⟩ := by
  apply ByteArray.ext
  simp [ByteArray.data_extract, List.extract_eq_take_drop, List.drop_take]
theorem pop_slices {x : Operand} {lo hi : Option Operand} {t : TypeId} {size bytes : Nat} {zero : Value} {s : List UInt8} {l h : Nat}
    (hf : Fits P t .str size bytes zero) (hx : evalO e x = some (.str s)) (h1 : BoundIs e lo 0 l) (h2 : BoundIs e hi s.length h) (h3 : l ≤ h) (h4 : h ≤ s.length) :
    POp P e ⟨dst, .slice t x lo hi none, ty, pos, af, g⟩ (.str ((s.take h).drop l)) :=
  POp.of_val fun I a w ho => by
    have hv := (ho.one (x := x) (by simp [Op.operands]) hx).str_inv
    refine ⟨.string ⟨((s.take h).drop l).toArray⟩, ?_, .str _⟩
    have hb := run_bounds (P := P) ho (by intro y hy; simp [Op.operands, hy]) (by intro y hy; simp [Op.operands, hy]) h1 h2 h3 h4 (Nat.le_refl _) false w
    have hsz : (⟨s.toArray⟩ : ByteArray).size = s.length := by simp [ByteArray.size]
    simp [execOp, Instr.sliceAt, run_underlying hf.strD, hv, Instr.slice, hsz, hb, extract_eq]

/-! new immutable memory -/
theorem pop_box {x : Operand} {t : TypeId} {h : HVal} (hx : evalO e x = some h) (hj : storable h = true) : POp P e ⟨dst, .box t x, ty, pos, af, g⟩ (.vptr (hcells h) 0) :=
  POp.of_run fun I F a w ho hs => by
    have hv := ho.one (x := x) (by simp [Op.operands]) hx
    obtain ⟨h1, h2⟩ := hs.new_imm (.cells (a.eval x).cells t (0, 0))
    refine ⟨.pointer (some ⟨w.heap.size, 0, none⟩), _, _, by simp [execOp, Instr.box, newVar, newRow], h1, ?_, h2⟩
    have h3 := (hv.mono h1).cells hj
    refine .vptr (base := 0) (off := 0) Imm.add_self (by have := h3.1; simp at this; omega) fun j c v h4 h5 => h3.2 j c v h4 (by simpa using h5)

def Places (P : Program) : List (Nat × Nat) → List (Nat × Nat) → Prop
  | [], [] => True
  | f :: r, p :: r' => f.1 = p.1 ∧ (∃ d b z, Fits P f.2 d p.2 b z) ∧ Places P r r'
  | _, _ => False

theorem run_places (w : World) : ∀ (fs : List Field) (places : List (Nat × Nat)), Places P (fs.map fun f => (f.offset, f.type)) places →
    (fs.mapM (fun f => do pure (f.offset, ← sizeOf f.type) : Field → Sem (Nat × Nat))).run P w = .ok places w
  | [], [], _ => by simp
  | [], _ :: _, h => h.elim
  | _ :: _, [], h => h.elim
  | f :: r, (o, s) :: r', h => by
    obtain ⟨h1, ⟨d, b, z, h2⟩, h3⟩ := h
    simp only at h1 h2
    subst h1
    simp only [List.mapM_cons, Sem.run_bind, h2.run_sizeOf, Result.andThen_ok, Sem.run_pure, run_places w r r' h3]

theorem pop_build {t : TypeId} {fs : List (Nat × Nat)} {size bytes : Nat} {zs : Array Value} {parts : Array (Nat × Operand)} {places : List (Nat × Nat)} {cs : List HVal}
    (hf : Fits P t (.struct fs) size bytes (.agg zs)) (hp : Places P fs places)
    (hr : fillH e places (zs.toList.map ofVal1) parts.toList = some cs) : POp P e ⟨dst, .build t parts, ty, pos, af, g⟩ (.agg cs) :=
  POp.of_val fun I a w ho => by
    obtain ⟨gs, h1, h2⟩ := hf.structD
    have hz : VL I (zs.toList.map ofVal1) zs.toList := ⟨by simp, fun j c v h3 h4 => by
      rw [List.getElem?_map, h4] at h3; simp at h3; subst h3; exact V_ofVal1 I v⟩
    obtain ⟨rc, h3, h4⟩ := fillH_run (I := I) (e := e) (f := a.eval) parts.toList _ _ zs hr (fun x hx h hh => ho.one (by simpa [Op.operands] using hx) hh) hz
    refine ⟨.agg rc, ?_, V.mk_agg h4⟩
    have hpl : (gs.mapM (fun f => do pure (f.offset, ← sizeOf f.type) : Field → Sem (Nat × Nat))).run P w = .ok places.toArray w := by
      rw [Array.mapM_eq_mapM_toList]
      simp only [Sem.run_map]
      rw [run_places w gs.toList places (by rw [h2]; exact hp)]
      rfl
    have hfill : Instr.fill (fun x => places.toArray[x]?) zs (parts.map fun x => (x.1, a.eval x.2)).toList = some rc := by
      simpa using h3
    simp only [execOp, Instr.build, Sem.run_bind, hf.run_zero, Result.andThen_ok, run_underlying h1, hpl, Value.cells, hfill, Sem.run_pure]

/-- All parts of a slice's literal, in their order. -/
def partsL (e : Env) (sz : Nat) : Nat → List (Nat × Operand) → Option (List HVal)
  | _, [] => some []
  | k, (i, x) :: r =>
    match Nat.beq i k, evalO e x, partsL e sz (k + 1) r with
    | true, some h, some l => match okElem sz h with
      | true => some (h :: l)
      | false => none
    | _, _, _ => none

theorem partsL_run {I : Imm} {sz : Nat} {f : Operand → Value} : ∀ (parts : List (Nat × Operand)) (k : Nat) (hs : List HVal) (rc : Array Value), partsL e sz k parts = some hs →
    (∀ x ∈ parts.map (·.2), ∀ h, evalO e x = some h → V I h (f x)) → rc.size = (k + parts.length) * sz →
    ∃ rc', Instr.fill (fun i => some (i * sz, sz)) rc (parts.map fun p => (p.1, f p.2)) = some rc' ∧ rc'.size = rc.size ∧ (∀ x, x < k * sz → rc'[x]? = rc[x]?) ∧
      hs.length = parts.length ∧ (∀ h ∈ hs, (hcells h).length = sz) ∧ ∀ (i j : Nat) (h c : HVal) (v : Value), hs[i]? = some h → (hcells h)[j]? = some c → rc'[(k + i) * sz + j]? = some v → V I c v
  | [], k, hs, rc, h, _, hsz => by
    simp [partsL] at h; subst h
    exact ⟨rc, rfl, rfl, fun _ _ => rfl, rfl, by simp, fun i j h c v h1 => by simp at h1⟩
  | (i, x) :: r, k, hs, rc, h, hv, hsz => by
    simp only [partsL] at h
    cases h1 : Nat.beq i k with
    | false => rw [h1] at h; simp at h
    | true =>
      cases h2 : evalO e x with
      | none => rw [h1, h2] at h; simp at h
      | some y =>
        cases h3 : partsL e sz (k + 1) r with
        | none => rw [h1, h2, h3] at h; simp at h
        | some l =>
          rw [h1, h2, h3] at h
          simp only at h
          cases h4 : okElem sz y with
          | false => rw [h4] at h; simp at h
          | true =>
            rw [h4] at h
            simp at h
            subst h
            obtain rfl : i = k := Nat.eq_of_beq_eq_true h1
            obtain ⟨h5, h6⟩ := (hv x (by simp) y h2).cells_size h4
            obtain ⟨h7, _⟩ := okElem_cells h4
            simp only [List.length_cons] at hsz
            have hroom : i * sz + sz ≤ rc.size := by
              rw [hsz, ← Nat.succ_mul]; exact Nat.mul_le_mul_right _ (by omega)
            have hfold := foldl_set (i * sz) (f x).cells.toList 0 rc
            rw [← zipIdx_fold] at hfold
            obtain ⟨g1, g2⟩ := hfold
            obtain ⟨rc', a1, a2, a3, a4, a5, a6⟩ := partsL_run r (i + 1) l _ h3 (fun z hz => hv z (by simp at hz ⊢; exact .inr hz)) (by rw [g1, hsz]; congr 1; omega)
            refine ⟨rc', ?_, by rw [a2, g1], fun z hz => ?_, by simp [a4], fun z hz => ?_, fun i' j' h' c' v' b1 b2 b3 => ?_⟩
            · simp only [List.map_cons, Instr.fill]
              rw [if_neg (by simp [h5]; omega)]
              exact a1
            · have hlt : i * sz ≤ (i + 1) * sz := Nat.mul_le_mul_right _ (by omega)
              rw [a3 z (by omega), g2 z, if_neg (by omega)]
            · rcases List.mem_cons.1 hz with rfl | hz
              · exact h7
              · exact a5 z hz
            · cases i' with
              | zero =>
                simp at b1
                subst b1
                have hj : j' < sz := by have := lt_of_get b2; omega
                have e1 : (i + 1) * sz = i * sz + sz := Nat.succ_mul _ _
                rw [Nat.add_zero, a3 _ (by omega), g2] at b3
                simp only [Array.length_toList, h5] at b3
                rw [if_pos (by omega)] at b3
                have e2 : i * sz + j' - i * sz - 0 = j' := by omega
                rw [e2] at b3
                exact h6.2 j' c' v' b2 b3
              | succ i' =>
                refine a6 i' j' h' c' v' (by simpa using b1) b2 ?_
                have : i + 1 + i' = i + (i' + 1) := by omega
                rw [this]; exact b3

theorem pop_buildSlice {t el : TypeId} {size bytes sz b2 n : Nat} {zero z2 : Value} {d : TD} {parts : Array (Nat × Operand)} {hs : List HVal}
    (hf : Fits P t (.slice el) size bytes zero) (hel : Fits P el d sz b2 z2) (hz : z2.cells.size = sz) (hn : parts.toList.length = n) (hsz : n * sz ≤ 16777216) (h0 : n * sz ≠ 0)
    (hr : partsL e sz 0 parts.toList = some hs) : POp P e ⟨dst, .buildSlice t n parts, ty, pos, af, g⟩ (.slice sz hs) :=
  POp.of_run fun I F a w ho hs' => by
    let zr : Array Value := (Array.range (n * sz)).map (z2.cells[· % z2.cells.size]!)
    obtain ⟨rc, h1, h2, h3, h4, h5, h6⟩ := partsL_run (I := I) (f := a.eval) parts.toList 0 hs zr hr (fun x hx h hh => ho.one (by simpa [Op.operands] using hx) hh) (by simp [zr, hn])
    obtain ⟨g1, g2⟩ := hs'.new_imm (.cells rc el (0, 0))
    refine ⟨.slice (some ⟨w.heap.size, 0, none⟩) n n, _, _, ?_, g1, ?_, g2⟩
    · have hp : (parts.map fun x => (x.1, a.eval x.2)).toList = parts.toList.map fun p => (p.1, a.eval p.2) := by simp
      have hle : ¬ n * sz > 2 ^ 24 := by omega
      simp only [execOp, Instr.buildSlice, Sem.run_bind, run_underlying hf.slice, Result.andThen_ok, hel.run_sizeOf]
      rw [if_neg hle]
      simp only [Sem.run_pure, Result.andThen_ok]
      rw [if_neg h0]
      simp only [Sem.run_bind, hel.run_zero, Result.andThen_ok, Sem.run_pure, hp]
      have h1' : Instr.fill (fun i => some (i * sz, sz)) ((Array.range (n * sz)).map fun x => z2.cells[x % z2.cells.size]!) (parts.toList.map fun p => (p.1, a.eval p.2)) = some rc := h1
      rw [h1']
      simp [newRow]
    · have hl : hs.length = n := by omega
      have hv : V (I.add w.heap.size (.cells rc el (0, 0))) (.slice sz hs) (.slice (some ⟨w.heap.size, 0, none⟩) hs.length n) :=
        .slice Imm.add_self h5 (by omega) (by rw [h2]; simp [zr, hl]) fun i j x c v b1 b2 b3 => (h6 i j x c v b1 b2 (by simpa using b3)).mono g1
      rwa [hl] at hv

/-! functions, interfaces, pointers -/
theorem pop_makeFunc {f : Fn} {fst cap : Array Operand} {h1 h2 : List HVal} (hf : evalL e fst.toList = some h1) (hc : evalL e cap.toList = some h2) :
    POp P e ⟨dst, .makeFunc f fst cap, ty, pos, af, g⟩ (.fn f h1 h2) :=
  POp.of_val fun I a w ho => ⟨_, rfl, by
    have v1 := evalL_V (I := I) (f := a.eval) _ _ hf fun x hx h hh => ho.one (by simp only [Op.operands]; exact Array.mem_append_left _ (by simpa using hx)) hh
    have v2 := evalL_V (I := I) (f := a.eval) _ _ hc fun x hx h hh => ho.one (by simp only [Op.operands]; exact Array.mem_append_right _ (by simpa using hx)) hh
    exact .fn (by simpa using v1.1) (by simpa using v2.1) (fun j c v b1 b2 => v1.2 j c v b1 (by simpa using b2)) (fun j c v b1 b2 => v2.2 j c v b1 (by simpa using b2))⟩
theorem pop_nilCheck {x : Operand} {cs : List HVal} {off : Nat} (hx : evalO e x = some (.vptr cs off)) : POp P e ⟨dst, .nilCheck x, ty, pos, af, g⟩ (.vptr cs off) :=
  POp.of_val fun I a w ho => by
    have hv := ho.one (x := x) (by simp [Op.operands]) hx
    obtain ⟨b, base, rc, el, fr, h1, _⟩ := hv.vptr_inv
    exact ⟨a.eval x, by simp [execOp, h1], hv⟩
theorem pop_nilCheck_raw {x : Operand} {p : Addr} (hx : evalO e x = some (.raw (.pointer (some p)))) : POp P e ⟨dst, .nilCheck x, ty, pos, af, g⟩ (.raw (.pointer (some p))) :=
  POp.of_val fun I a w ho => by
    have hv := ho.one (x := x) (by simp [Op.operands]) hx
    exact ⟨a.eval x, by simp [execOp, hv.raw_inv], hv⟩
end

/-! calls -/
structure Callable (P : Program) (f : FuncId) : Prop where
  h : ∃ fn, P.funcs[f]? = some fn ∧ (fn.name == "runtime.NumGoroutine") = false ∧ fn.body.isNone = false

theorem run_callFunc {P : Program} {f : FuncId} (hc : Callable P f) (args : Array Value) (w : World) : (callFunc f args).run P w = .ok (.enter f args) w := by
  obtain ⟨fn, h1, h2, h3⟩ := hc.h
  simp only [callFunc, Sem.run_bind, run_program, Result.andThen_ok, h1, h2, h3, Bool.false_eq_true, if_false, Sem.run_pure]

section
variable {P : Program} {e : Env} {dst : Option Tmp} {ty : TypeId} {pos : String} {af : Array Edge} {g : Option (Nat × Bool)}

theorem eop_call {f : FuncId} {args : Array Operand} {ats : Array TypeId} {hs hs' : List HVal} {M : List MObj} {Q : HVal → List MObj → Prop} (hc : Callable P f) (ha : evalL e args.toList = some hs)
    (hw : WeakL hs hs') (h : Con P f hs' M Q) : EOp P e M ⟨dst, .call ⟨.value (.func f), args, ats⟩, ty, pos, af, g⟩ Q := fun I F a w ho hs => by
  have hrun : (execOp a.eval ⟨dst, .call ⟨.value (.func f), args, ats⟩, ty, pos, af, g⟩).run P w = .ok (.enter f (args.toList.map a.eval).toArray) w := by
    simp [execOp, resolve, Act.eval, Deferred.ofValue, invoke, run_callFunc hc]
    apply Array.ext'; simp
  have hv := evalL_V (I := I) (f := a.eval) _ _ ha fun x hx h hh => ho.one (by simp only [Op.operands, Call.operands]; exact Array.mem_append_right _ (by simpa using hx)) hh
  simp only [Oper.wp, hrun, Oper.upon]
  refine (h I F w _ (hw.vl hv) hs).mono ?_
  rintro x w' ⟨v, y, M', J, rfl, h1, h2, h3, h4⟩
  exact ⟨v, y, M', J, rfl, h1, h2, h3, h4⟩

theorem eop_callv {x : Operand} {f : FuncId} {fst cap : List HVal} {args : Array Operand} {ats : Array TypeId} {hs hs' : List HVal} {M : List MObj} {Q : HVal → List MObj → Prop} (hc : Callable P f)
    (hx : evalO e x = some (.fn (.func f) fst cap)) (ha : evalL e args.toList = some hs) (hw : WeakL (fst ++ hs ++ cap) hs') (h : Con P f hs' M Q) :
    EOp P e M ⟨dst, .call ⟨.value x, args, ats⟩, ty, pos, af, g⟩ Q := fun I F a w ho hs => by
  obtain ⟨v1, v2, h1, h2, h3⟩ := (ho.one (x := x) (by simp [Op.operands, Call.operands]) hx).fn_inv
  have hrun : (execOp a.eval ⟨dst, .call ⟨.value x, args, ats⟩, ty, pos, af, g⟩).run P w = .ok (.enter f (v1.toList ++ args.toList.map a.eval ++ v2.toList).toArray) w := by
    have : (v1.toList ++ args.toList.map a.eval ++ v2.toList).toArray = v1 ++ args.map a.eval ++ v2 := by apply Array.ext'; simp
    rw [this]
    simp [execOp, resolve, h1, Deferred.ofValue, invoke, run_callFunc hc]
  have hv := evalL_V (I := I) (f := a.eval) _ _ ha fun x hx h hh => ho.one (by simp only [Op.operands, Call.operands]; exact Array.mem_append_right _ (by simpa using hx)) hh
  simp only [Oper.wp, hrun, Oper.upon]
  refine (h I F w _ (hw.vl ((h2.append hv).append h3)) hs).mono ?_
  rintro x w' ⟨v, y, M', J, rfl, h1, h2, h3, h4⟩
  exact ⟨v, y, M', J, rfl, h1, h2, h3, h4⟩

theorem pop_of_con {o : Oper} {h : HVal} (hp : EOp P e [] o fun x M' => x = h ∧ M' = []) : POp P e o h := fun I F a w ho hs =>
  Oper.wp_noQ (fun _ _ ⟨v, x, M', J, h1, h2, ⟨h3, h4⟩, h5, h6⟩ => ⟨v, J, h1, h2, h3 ▸ h5, by subst h4; exact h6⟩) (hp I F a w ho hs)
theorem pop_call {f : FuncId} {args : Array Operand} {ats : Array TypeId} {hs hs' : List HVal} {h : HVal} (hc : Callable P f) (ha : evalL e args.toList = some hs)
    (hw : WeakL hs hs') (hp : ConP P f hs' h) : POp P e ⟨dst, .call ⟨.value (.func f), args, ats⟩, ty, pos, af, g⟩ h := pop_of_con (eop_call hc ha hw hp)
theorem pop_callv {x : Operand} {f : FuncId} {fst cap : List HVal} {args : Array Operand} {ats : Array TypeId} {hs hs' : List HVal} {h : HVal} (hc : Callable P f)
    (hx : evalO e x = some (.fn (.func f) fst cap)) (ha : evalL e args.toList = some hs) (hw : WeakL (fst ++ hs ++ cap) hs') (hp : ConP P f hs' h) :
    POp P e ⟨dst, .call ⟨.value x, args, ats⟩, ty, pos, af, g⟩ h := pop_of_con (eop_callv hc hx ha hw hp)
end

end Go.HL
