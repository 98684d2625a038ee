/- The rules of the operations on owned objects (variables, growing slices), over any program; no conditions. -/
import Derived.Test.YtfeimpgcpjoilaaGreatDoorHl4
namespace Go.HL

theorem perm_pull {α : Type} : ∀ {M : List α} {i : Nat} {m : α}, M[i]? = some m → M.Perm (m :: M.eraseIdx i)
  | [], i, m, h => by simp at h
  | x :: r, 0, m, h => by simp at h; subst h; simp
  | x :: r, i + 1, m, h => by
    simp at h
    have := perm_pull (M := r) h
    simp only [List.eraseIdx_cons_succ]
    exact (this.cons x).trans (List.Perm.swap _ _ _)
theorem perm_set {α : Type} : ∀ {M : List α} {i : Nat} {m : α} (m' : α), M[i]? = some m → (M.set i m').Perm (m' :: M.eraseIdx i)
  | [], i, m, m', h => by simp at h
  | x :: r, 0, m, m', h => by simp
  | x :: r, i + 1, m, m', h => by
    simp at h
    have := perm_set (M := r) m' h
    simp only [List.set_cons_succ, List.eraseIdx_cons_succ]
    exact (this.cons x).trans (List.Perm.swap _ _ _)

theorem Sat.pull {I : Imm} {M F : List MObj} {w : World} (h : Sat I (M ++ F) w) {i : Nat} {m : MObj} (hi : M[i]? = some m) : Sat I (m :: (M.eraseIdx i ++ F)) w :=
  h.perm (by have := (perm_pull hi).append_right F; simpa using this)
theorem Sat.unpull {I : Imm} {M F : List MObj} {w : World} {i : Nat} {m m' : MObj} (hi : M[i]? = some m) (h : Sat I (m' :: (M.eraseIdx i ++ F)) w) : Sat I (M.set i m' ++ F) w :=
  h.perm (by have := ((perm_set m' hi).append_right F).symm; simpa using this)

/-- Cells are stored into a block that may be written. -/
theorem run_storeCells {P : Program} (b : Nat) (el : TypeId) (fr : Nat × Nat) (off : Nat) : ∀ (vs : List Value) (i : Nat) (w : World) (rc : Array Value), w.heap[b]? = some (.cells rc el fr) → Free fr rc.size →
    (∀ v ∈ vs, v.oneCell' = true) → off + i + vs.length ≤ rc.size →
    ∃ w' rc', (storeCells ⟨b, off, none⟩ vs i).run P w = .ok () w' ∧ w'.heap[b]? = some (.cells rc' el fr) ∧ rc'.size = rc.size ∧
      (∀ x, rc'[x]? = if off + i ≤ x ∧ x < off + i + vs.length then vs[x - off - i]? else rc[x]?) ∧ (∀ k, k ≠ b → w'.heap[k]? = w.heap[k]?) ∧ w'.heap.size = w.heap.size ∧
      w'.os = w.os ∧ w'.output = w.output ∧ w'.tape = w.tape
  | [], i, w, rc, hw, _, _, _ => ⟨w, rc, by simp [storeCells], hw, rfl, fun x => by rw [if_neg (by simp)], fun _ _ => rfl, rfl, rfl, rfl, rfl⟩
  | v :: vs, i, w, rc, hw, hf, ho, hle => by
    simp only [List.length_cons] at hle
    have hc : w.cell? ⟨b, off + i, none⟩ = some rc[off + i] := by rw [cell_of hw]; exact Array.getElem?_eq_getElem (by omega)
    have hz : w.frozen? ⟨b, off + i, none⟩ = false := by
      have := hf (off + i) (by omega)
      simp only [World.frozen?, hw]
      cases h : (decide (fr.1 ≤ off + i) && decide (off + i < fr.2)) with
      | false => rfl
      | true => simp at h; exact absurd h this
    have hset : (w.setCell ⟨b, off + i, none⟩ v).heap[b]? = some (.cells (rc.setIfInBounds (off + i) v) el fr) := by
      simp [World.setCell, Array.getElem?_modify, hw]
    obtain ⟨w', rc', h1, h2, h3, h4, h5, h6, h7, h8, h9⟩ := run_storeCells (P := P) b el fr off vs (i + 1) (w.setCell ⟨b, off + i, none⟩ v) (rc.setIfInBounds (off + i) v) hset (by simpa using hf)
      (fun x hx => ho x (by simp [hx])) (by simp; omega)
    refine ⟨w', rc', ?_, h2, by rw [h3]; simp, fun x => ?_, fun k hk => ?_, by rw [h6]; simp [World.setCell], by rw [h7]; rfl, by rw [h8]; rfl, by rw [h9]; rfl⟩
    · have hst : (store ((⟨b, off, none⟩ : Addr).add i) v).run P w = .ok () (w.setCell ⟨b, off + i, none⟩ v) := by
        rw [addr_add]
        rw [run_store P w _ v _ (ho v (by simp))]
        simp [hc, hz]
      simp only [storeCells, Sem.run_bind, hst, Result.andThen_ok]
      exact h1
    · rw [h4 x]
      simp only [List.length_cons]
      by_cases e1 : x = off + i
      · subst e1
        rw [if_neg (by omega), if_pos (by omega)]
        have : off + i - off - i = 0 := by omega
        rw [this, Array.getElem?_setIfInBounds_self_of_lt (by omega)]
        rfl
      · by_cases e2 : off + (i + 1) ≤ x ∧ x < off + (i + 1) + vs.length
        · rw [if_pos e2, if_pos (by omega)]
          have : x - off - i = (x - off - (i + 1)) + 1 := by omega
          rw [this, List.getElem?_cons_succ]
        · rw [if_neg e2, if_neg (by omega), Array.getElem?_setIfInBounds_ne (by omega)]
    · rw [h5 k hk]
      simp [World.setCell, Array.getElem?_modify]
      intro h; exact absurd h.symm hk

/-- The cells of a content are single cells. -/
def flat : List HVal → Bool
  | [] => true
  | .agg _ :: _ => false
  | .junk :: _ => false
  | .opt _ _ :: _ => false
  | .tup _ :: _ => false
  | _ :: r => flat r
theorem flat_one {I : Imm} : ∀ {cs : List HVal} {vs : List Value}, VL I cs vs → flat cs = true → ∀ v ∈ vs, v.oneCell' = true
  | [], [], _, _, v, hv => by simp at hv
  | [], _ :: _, h, _, v, hv => by have := h.1; simp at this
  | _ :: _, [], h, _, v, hv => by simp at hv
  | c :: cs, u :: vs, h, hf, v, hv => by
    have h1 := h.head
    have hr : flat cs = true := by cases c <;> simp [flat] at hf <;> exact hf
    rcases List.mem_cons.1 hv with rfl | hv
    · cases h1 <;> first | rfl | assumption | (simp [flat] at hf; done)
    · exact flat_one h.tail hr v hv

section
variable {P : Program} {e : Env} {dst : Option Tmp} {ty : TypeId} {pos : String} {af : Array Edge} {g : Option (Nat × Bool)} {M : List MObj} {K : HVal → List MObj → Prop}

theorem eop_alloc {t : TypeId} {d : TD} {size bytes : Nat} {zero : Value} (hf : Fits P t d size bytes zero) (hz : storable (ofVal zero) = true)
    (hk : ∀ b, K (.raw (.pointer (some ⟨b, 0, none⟩))) (.cells b (hcells (ofVal zero)) :: M)) : EOp P e M ⟨dst, .alloc t, ty, pos, af, g⟩ K :=
  EOp.of_run fun I F a w ho hs => by
    refine ⟨.pointer (some ⟨w.heap.size, 0, none⟩), _, _, push w (.cells zero.cells t (0, 0)), I, ?_, .refl I, hk w.heap.size, .raw _ rfl, ?_⟩
    · simp [execOp, Instr.alloc, hf.run_zero, newVar, newRow]
    · refine hs.new_own _ _ rfl ?_
      exact ⟨zero.cells, t, (0, 0), by simp [push], Free.zero _, (V_ofVal I zero).cells hz⟩

/-- A variable that is boxed and will be written. -/
theorem eop_box {x : Operand} {t : TypeId} {h : HVal} (hx : evalO e x = some h) (hj : storable h = true)
    (hk : ∀ b, K (.raw (.pointer (some ⟨b, 0, none⟩))) (.cells b (hcells h) :: M)) : EOp P e M ⟨dst, .box t x, ty, pos, af, g⟩ K :=
  EOp.of_run fun I F a w ho hs => by
    have hv := ho.one (x := x) (by simp [Op.operands]) hx
    refine ⟨.pointer (some ⟨w.heap.size, 0, none⟩), _, _, push w (.cells (a.eval x).cells t (0, 0)), I, ?_, .refl I, hk w.heap.size, .raw _ rfl, ?_⟩
    · simp [execOp, Instr.box, newVar, newRow]
    · refine hs.new_own _ _ rfl ?_
      exact ⟨_, t, (0, 0), by simp [push], Free.zero _, hv.cells hj⟩

theorem eop_load {x : Operand} {t : TypeId} {d : TD} {size bytes : Nat} {zero : Value} {i b off : Nat} {cs : List HVal} {h : HVal} (hf : Fits P t d size bytes zero)
    (hx : evalO e x = some (.raw (.pointer (some ⟨b, off, none⟩)))) (hm : M[i]? = some (.cells b cs)) (hh : (d.isAgg = false ∧ cs[off]? = some h) ∨ (d.isAgg = true ∧ off + size ≤ cs.length ∧ h = .agg ((cs.drop off).take size)))
    (hk : K h M) : EOp P e M ⟨dst, .load t x, ty, pos, af, g⟩ K :=
  EOp.of_run fun I F a w ho hs => by
    have h1 := (ho.one (x := x) (by simp [Op.operands]) hx).raw_inv
    obtain ⟨rc, el, fr, h2, h3, h4⟩ := hs.obj (.cells b cs) (List.mem_append_left _ (List.mem_of_getElem? hm))
    obtain ⟨v, h5, h6⟩ := run_loadVar (I := I) (o := off) hf h2 (base := 0) (by simp) (by have := h4.1; simp at this; omega) (fun j c v a1 a2 => h4.2 j c v a1 (by simpa using a2)) hh
    exact ⟨v, h, M, w, I, by simp [execOp, h1, Instr.loadAt, Instr.sureAddr, h5], .refl I, hk, h6, hs⟩

theorem eop_store {x y : Operand} {t : TypeId} {d : TD} {size bytes : Nat} {zero : Value} {i b off : Nat} {cs : List HVal} {h : HVal} (hf : Fits P t d size bytes zero)
    (hx : evalO e x = some (.raw (.pointer (some ⟨b, off, none⟩)))) (hy : evalO e y = some h) (hm : M[i]? = some (.cells b cs)) (ho : okElem size h = true) (hfl : flat (hcells h) = true) (hle : off + size ≤ cs.length)
    (hk : K .junk (M.set i (.cells b (setL cs off (hcells h))))) : EOp P e M ⟨dst, .store t x y, ty, pos, af, g⟩ K :=
  EOp.of_skip fun I F a w hop hs => by
    have h1 := (hop.one (x := x) (by simp [Op.operands]) hx).raw_inv
    obtain ⟨h2, h3⟩ := (hop.one (x := y) (by simp [Op.operands]) hy).cells_size ho
    obtain ⟨h0, _⟩ := okElem_cells ho
    have hp := hs.pull hm
    obtain ⟨rc, el, fr, h4, h5, h6⟩ := hp.obj _ (List.mem_cons_self)
    have hl6 := h6.1
    simp only [Array.length_toList] at hl6
    obtain ⟨w', rc', g1, g2, g3, g4, g5, g6, g7, g8, g9⟩ := run_storeCells (P := P) b el fr off (a.eval y).cells.toList 0 w rc h4 h5 (flat_one h3 hfl) (by simp; omega)
    refine ⟨_, w', I, ?_, .refl I, hk, ?_⟩
    · simp only [execOp, h1, Instr.storeAt, Instr.sureAddr, Sem.run_bind, Sem.run_pure, Result.andThen_ok, storeVar, hf.run_sizeOf]
      rw [if_neg (by simp [h2])]
      simp only [Sem.run_pure, Result.andThen_ok, g1]
    · refine Sat.unpull hm (hp.change (m' := .cells b (setL cs off (hcells h))) (fun k hk hnk => g5 k (by simpa [MObj.blocks] using hnk)) (by simp [MObj.blocks]) (by simp [MObj.blocks]) ?_ g7 g8 g9)
      refine ⟨rc', el, fr, g2, by rw [g3]; exact h5, ?_, fun j c v a1 a2 => ?_⟩
      · simp only [Array.length_toList]; rw [g3, setL_length (by omega)]; omega
      · rw [Array.getElem?_toList, g4 j] at a2
        simp only [Nat.add_zero, Nat.sub_zero, Array.length_toList, h2] at a2
        simp only [setL] at a1
        by_cases ha : j < off
        · rw [if_neg (by omega)] at a2
          rw [List.append_assoc, List.getElem?_append_left (by simp; omega), List.getElem?_take_of_lt ha] at a1
          exact h6.2 j c v a1 (by simpa using a2)
        · by_cases hb : j < off + size
          · rw [if_pos (by omega)] at a2
            rw [List.getElem?_append_left (by simp; omega), List.getElem?_append_right (by simp; omega)] at a1
            have e1 : (cs.take off).length = off := by simp; omega
            rw [e1] at a1
            exact h3.2 (j - off) c v a1 a2
          · rw [if_neg (by omega)] at a2
            rw [List.getElem?_append_right (by simp; omega)] at a1
            have e1 : (cs.take off ++ hcells h).length = off + size := by simp; omega
            rw [e1, List.getElem?_drop, h0] at a1
            have e2 : off + size + (j - (off + size)) = j := by omega
            rw [e2] at a1
            exact h6.2 j c v a1 (by simpa using a2)

/-! growing slices -/
theorem growBy_le (need : Nat) : ∀ (r c : Nat), c < need → Builtin.growBy need r c ≤ need + need / 4 + 192
  | 0, c, h => by simp only [Builtin.growBy]; omega
  | r + 1, c, h => by
    simp only [Builtin.growBy]
    rw [if_neg (by omega)]
    by_cases h1 : c + (c + 768) / 4 < need
    · exact growBy_le need r _ h1
    · cases r with
      | zero => simp only [Builtin.growBy]; omega
      | succ r => simp only [Builtin.growBy]; rw [if_pos (by omega)]; omega
theorem nextslicecap_le {need cap : Nat} (h : cap < need) : Builtin.nextslicecap need cap ≤ 2 * need + 192 := by
  unfold Builtin.nextslicecap
  split
  · omega
  · split
    · omega
    · have := growBy_le need 4 cap h; omega

theorem run_append {at' : Array TypeId} {xs : Array Operand} {ρ : Operand → Value} (w : World) :
    (execOp ρ ⟨dst, .call ⟨.builtin .append, xs, at'⟩, ty, pos, af, g⟩).run P w = ((Builtin.append_ at' ty (xs.map ρ)).run P w).andThen (fun v w => .ok (.value v) w) := by
  simp [execOp, resolve, invoke, builtin]

theorem zeroCells_size {z : Array Value} (n : Nat) : (Builtin.zeroCells z n).size = n * z.size := by simp [Builtin.zeroCells]

theorem eop_append {x y : Operand} {t el : TypeId} {size bytes sz b2 : Nat} {zero z2 : Value} {d : TD} {i : Nat} {v : Value} {es ys : List HVal}
    (hf : Fits P t (.slice el) size bytes zero) (hel : Fits P el d sz b2 z2) (hz : z2.cells.size = sz) (hby : Nat.ble b2 100000 = true)
    (hx : evalO e x = some (.raw v)) (hy : evalO e y = some (.slice sz ys)) (hm : M[i]? = some (.arr v sz es)) (hfl : ∀ y ∈ ys, flat (hcells y) = true) (hlen : es.length + ys.length ≤ 1000000000)
    (hk : ∀ v', K (.raw v') (M.set i (.arr v' sz (es ++ ys)))) : EOp P e M ⟨dst, .call ⟨.builtin .append, #[x, y], #[t, t]⟩, ty, pos, af, g⟩ K :=
  EOp.of_run fun I F a w ho hs => by
    have h1 := (ho.one (x := x) (by simp [Op.operands, Call.operands]) hx).raw_inv
    have hyv := ho.one (x := y) (by simp [Op.operands, Call.operands]) hy
    have hp := hs.pull hm
    have hobj := hp.obj _ (List.mem_cons_self)
    obtain ⟨ya, yc, hylen⟩ := hyv.slice_len
    have hysz : ∀ y ∈ ys, (hcells y).length = sz := by
      rcases hyv.slice_inv with ⟨rfl, _⟩ | ⟨b, off, cap', rc, el', fr, h2, h3, h4, h5, h6, h7⟩
      · simp
      · exact h4
    -- the appended cells
    obtain ⟨nv, hnv, hnl, hnV⟩ : ∃ nv : List Value, (∀ w1 : World, w1.heap = w.heap → (Builtin.firstCells sz ys.length (a.eval y)).run P w1 = .ok nv.toArray w1) ∧ nv.length = ys.length * sz ∧
        (∀ (i j : Nat) (x c : HVal) (u : Value), ys[i]? = some x → (hcells x)[j]? = some c → nv[i * sz + j]? = some u → V I c u) := by
      rcases hyv.slice_inv with ⟨rfl, a', cap', h2⟩ | ⟨b, off, cap', rc, el', fr, h2, h3, h4, h5, h6, h7⟩
      · refine ⟨[], fun w1 _ => ?_, by simp, fun i j x c u h => by simp at h⟩
        rw [h2]
        cases a' with
        | none => simp [Builtin.firstCells]
        | some a' => simp [Builtin.firstCells, loadCells, loadCellsFrom]
      · refine ⟨(rc.toList.drop off).take (ys.length * sz), fun w1 hw1 => ?_, by simp; omega, fun i j x c u a1 a2 a3 => h7 i j x c u a1 a2 ?_⟩
        · rw [h2]
          have hl : ((rc.toList.drop off).take (ys.length * sz)).length = ys.length * sz := by simp; omega
          have h3' : w1.heap[b]? = some (.cells rc el' fr) := by rw [hw1]; exact hs.imm _ _ h3
          have := run_loadCells_list (P := P) w1 ⟨b, off, none⟩ ((rc.toList.drop off).take (ys.length * sz)) fun j u hj => by
            rw [addr_add, cell_of h3']
            rw [List.getElem?_take] at hj
            split at hj
            · simpa [List.getElem?_drop] using hj
            · simp at hj
          rw [hl] at this
          simp only [Builtin.firstCells]
          exact this
        · rw [List.getElem?_take] at a3
          split at a3
          · rw [List.getElem?_drop] at a3
            rw [Nat.add_assoc]
            simpa using a3
          · simp at a3
    have hesz : ∀ x ∈ es, (hcells x).length = sz := by
      rcases hobj with ⟨_, rfl⟩ | ⟨b, off, cap, rc, el', fr, _, _, _, h, _⟩
      · simp
      · exact h
    have hboth : ∀ x ∈ es ++ ys, (hcells x).length = sz := fun x hx => by
      rcases List.mem_append.1 hx with h | h
      · exact hesz x h
      · exact hysz x h
    -- the new block
    have grows : ∀ (base : Option Addr) (cap : Nat) (ov : List Value), v = .slice base es.length cap → cap < es.length + ys.length →
        (∀ w1 : World, w1.heap = w.heap → (Builtin.firstCells sz es.length v).run P w1 = .ok ov.toArray w1) → ov.length = es.length * sz →
        (∀ (i j : Nat) (x c : HVal) (u : Value), es[i]? = some x → (hcells x)[j]? = some c → ov[i * sz + j]? = some u → V I c u) →
        ∃ v' w', (execOp a.eval ⟨dst, .call ⟨.builtin .append, #[x, y], #[t, t]⟩, ty, pos, af, g⟩).run P w = .ok (.value v') w' ∧ Sat I (.arr v' sz (es ++ ys) :: (M.eraseIdx i ++ F)) w' := by
      intro base cap ov hv hcap hov hol hoV
      let nc := (Question.appendCap (es.length + ys.length) cap el).cut (w.tape w.drawn (.appendCap (es.length + ys.length) cap el))
      have hnc : es.length + ys.length ≤ nc := by simp only [nc, Question.cut]; omega
      have hnm : nc ≤ 9223372036854775807 := by
        simp only [nc, Question.cut]
        have := Nat.mod_lt (w.tape w.drawn (.appendCap (es.length + ys.length) cap el)) (show 0 < 2 ^ 63 - (es.length + ys.length) by omega)
        omega
      let cells : Array Value := ov.toArray ++ nv.toArray ++ Builtin.zeroCells z2.cells (nc - (es.length + ys.length))
      refine ⟨.slice (some ⟨w.heap.size, 0, none⟩) (es.length + ys.length) nc, { w with heap := w.heap.push (.cells cells el (0, 0)), drawn := w.drawn + 1 }, ?_, ?_⟩
      · rw [run_append]
        have hb1 : ¬ es.length + ys.length ≤ cap := by omega
        have hb2 : ¬ ((((es.length + ys.length : Nat) : Int) > IntKind.i64.max) ∧ (False ∨ b2 = 0)) := by
          have : IntKind.i64.max = 9223372036854775807 := by decide
          rw [this]; omega
        have hb3 : ¬ Builtin.nextslicecap (es.length + ys.length) cap * b2 > 2 ^ 48 := by
          have e1 := nextslicecap_le hcap
          have e2 : b2 ≤ 100000 := Nat.le_of_ble_eq_true hby
          have : Builtin.nextslicecap (es.length + ys.length) cap * b2 ≤ (2 * 1000000000 + 192) * 100000 := Nat.mul_le_mul (by omega) e2
          omega
        obtain ⟨ti, t1, t2, t3, t4⟩ := hel.typeInfo
        have hti : ∀ w1, (Go.typeInfo el).run P w1 = .ok ti w1 := fun w1 => by simp [Go.typeInfo, t1]
        have hlenof : (Builtin.lenOf (a.eval y)).run P w = .ok ys.length w := by rw [hylen]; simp [Builtin.lenOf]
        simp only [List.map_toArray, List.map_cons, List.map_nil, h1, Builtin.append_, List.getElem?_toArray, List.getElem?_cons_zero, List.getElem?_cons_succ, hv, Sem.run_bind, run_underlying hf.slice, Result.andThen_ok,
          hel.run_sizeOf, Sem.run_pure, Bool.false_eq_true, if_false, hlenof, hb1, hti, t3]
        rw [if_neg (by simpa using hb2)]
        simp only [Sem.run_bind, Sem.run_pure, Result.andThen_ok, hti, t3]
        rw [if_neg hb3]
        have hch : (choose (.appendCap (es.length + ys.length) cap el)).run P w = .ok nc { w with drawn := w.drawn + 1 } := by
          simp [Question.forced, nc]
        simp only [Sem.run_pure, Sem.run_bind, Result.andThen_ok, hch, run_askRoom, hti]
        rw [← hv]
        have hov' := hov { w with drawn := w.drawn + 1 } rfl
        have hnv' := hnv { w with drawn := w.drawn + 1 } rfl
        simp only [hov', Bool.not_false, if_true, hnv', Result.andThen_ok, hel.run_zero, newRow, Sem.run_bind, Sem.run_pure, run_newObj]
        rfl
      · have hs1 : Sat I (M.eraseIdx i ++ F) { w with drawn := w.drawn + 1 } := hp.drop.of_same (fun _ _ => rfl) (fun _ _ => rfl) rfl rfl rfl
        refine hs1.new_own (.cells cells el (0, 0)) _ rfl (.inr ⟨w.heap.size, 0, nc, cells, el, (0, 0), by simp, by simp [push], Free.zero _, hboth, by simp; omega, ?_, fun i j x c u a1 a2 a3 => ?_⟩)
        · have : cells.size = nc * sz := by
            simp only [cells, Array.size_append, List.size_toArray, hol, hnl, zeroCells_size, hz]
            rw [← Nat.add_mul, ← Nat.add_mul]; congr 1; omega
          omega
        · have hj : j < sz := by have := lt_of_get a2; have := hboth x (List.mem_of_getElem? a1); omega
          rw [Nat.zero_add] at a3
          by_cases hi : i < es.length
          · rw [List.getElem?_append_left hi] at a1
            refine hoV i j x c u a1 a2 ?_
            have hlt : i * sz + j < es.length * sz := by
              have : (i + 1) * sz ≤ es.length * sz := Nat.mul_le_mul_right _ hi
              rw [Nat.add_mul] at this; omega
            simp only [cells] at a3
            rw [Array.getElem?_append_left (by simp; omega), Array.getElem?_append_left (by simp; omega)] at a3
            simpa using a3
          · rw [List.getElem?_append_right (by omega)] at a1
            refine hnV (i - es.length) j x c u a1 a2 ?_
            have hi2 := lt_of_get a1
            have e1 : i * sz + j = es.length * sz + ((i - es.length) * sz + j) := by
              rw [← Nat.add_assoc, ← Nat.add_mul]; congr 2; omega
            have hlt : (i - es.length) * sz + j < ys.length * sz := by
              have : (i - es.length + 1) * sz ≤ ys.length * sz := Nat.mul_le_mul_right _ hi2
              rw [Nat.add_mul] at this; omega
            simp only [cells] at a3
            rw [e1, Array.getElem?_append_left (by simp; omega), Array.getElem?_append_right (by simp; omega)] at a3
            simp only [List.size_toArray, hol] at a3
            rw [Nat.add_sub_cancel_left] at a3
            simpa using a3
    have done : (∃ v' w', (execOp a.eval ⟨dst, .call ⟨.builtin .append, #[x, y], #[t, t]⟩, ty, pos, af, g⟩).run P w = .ok (.value v') w' ∧ Sat I (.arr v' sz (es ++ ys) :: (M.eraseIdx i ++ F)) w') →
        ∃ v h M' w' J, (execOp a.eval ⟨dst, .call ⟨.builtin .append, #[x, y], #[t, t]⟩, ty, pos, af, g⟩).run P w = .ok (.value v) w' ∧ Le I J ∧ K h M' ∧ V J h v ∧ Sat J (M' ++ F) w' := by
      rintro ⟨v', w', r1, r2⟩
      refine ⟨v', .raw v', _, w', I, r1, .refl I, hk v', .raw _ ?_, Sat.unpull hm r2⟩
      rcases r2.obj _ List.mem_cons_self with ⟨rfl, _⟩ | ⟨b, off, cap, rc, el', fr, rfl, _⟩ <;> rfl
    apply done
    rcases hobj with ⟨hv, rfl⟩ | ⟨b, off, cap, rc, el', fr, hv, hw, hfr, _, hcap, hroom, hcV⟩
    · by_cases hy0 : ys = []
      · subst hy0
        refine ⟨.slice none 0 0, w, ?_, ?_⟩
        · rw [run_append]
          have hnv' := hnv w rfl
          have hlenof : (Builtin.lenOf (a.eval y)).run P w = .ok 0 w := by rw [hylen]; simp [Builtin.lenOf]
          simp only [List.length_nil] at hnv'
          simp only [List.map_toArray, List.map_cons, List.map_nil, h1, Builtin.append_, List.getElem?_toArray, List.getElem?_cons_zero, List.getElem?_cons_succ, hv, Sem.run_bind, run_underlying hf.slice, Result.andThen_ok,
            hel.run_sizeOf, Sem.run_pure, Bool.false_eq_true, if_false, hlenof, Nat.le_refl, if_true, Bool.not_false, hnv', Nat.add_zero]
        · rw [hv] at hp; simpa using hp
      · have hpos : 0 < ys.length := by cases ys with | nil => exact absurd rfl hy0 | cons _ _ => simp
        exact grows none 0 [] (by rw [hv]; rfl) (by simpa using hpos) (fun w1 _ => by rw [hv]; simp [Builtin.firstCells]) (by simp) (fun i j x c u h => by simp at h)
    · by_cases hfit : es.length + ys.length ≤ cap
      · -- in place
        have hroom2 : off + es.length * sz + 0 + nv.length ≤ rc.size := by
          have : (es.length + ys.length) * sz ≤ cap * sz := Nat.mul_le_mul_right _ hfit
          rw [Nat.add_mul] at this
          omega
        have hone : ∀ u ∈ nv, u.oneCell' = true := by
          intro u hu
          obtain ⟨k, hk, rfl⟩ := List.getElem_of_mem hu
          rw [hnl] at hk
          have hsz0 : 0 < sz := by
            rcases Nat.eq_zero_or_pos sz with h | h
            · rw [h] at hk; simp at hk
            · exact h
          have hi : k / sz < ys.length := Nat.div_lt_of_lt_mul (by rw [Nat.mul_comm]; exact hk)
          have hm' : k % sz < sz := Nat.mod_lt _ hsz0
          have hy1 := List.getElem?_eq_getElem hi
          have hsz1 := hysz _ (List.getElem_mem hi)
          have hj : k % sz < (hcells ys[k / sz]).length := by omega
          have hc1 := List.getElem?_eq_getElem hj
          have e1 : k / sz * sz + k % sz = k := by rw [Nat.mul_comm]; exact Nat.div_add_mod k sz
          have hv1 := hnV (k / sz) (k % sz) _ _ nv[k] hy1 hc1 (by rw [e1]; exact List.getElem?_eq_getElem (by omega))
          have hflat := hfl _ (List.getElem_mem hi)
          have hmem := List.getElem_mem hj
          have key : ∀ (cs : List HVal) (c : HVal), c ∈ cs → flat cs = true → ∀ u, V I c u → u.oneCell' = true := by
            intro cs
            induction cs with
            | nil => intro c hc; simp at hc
            | cons d r ih =>
              intro c hc hf u hu
              have hr : flat r = true := by cases d <;> simp [flat] at hf <;> exact hf
              rcases List.mem_cons.1 hc with rfl | hc
              · cases hu <;> first | rfl | assumption | (simp [flat] at hf; done)
              · exact ih c hc hr u hu
          exact key _ _ hmem hflat _ hv1
        obtain ⟨w', rc', g1, g2, g3, g4, g5, g6, g7, g8, g9⟩ := run_storeCells (P := P) b el' fr (off + es.length * sz) nv 0 w rc hw hfr hone hroom2
        refine ⟨.slice (some ⟨b, off, none⟩) (es.length + ys.length) cap, w', ?_, ?_⟩
        · rw [run_append]
          have hnv' := hnv w rfl
          have hlenof : (Builtin.lenOf (a.eval y)).run P w = .ok ys.length w := by rw [hylen]; simp [Builtin.lenOf]
          simp only [List.map_toArray, List.map_cons, List.map_nil, h1, Builtin.append_, List.getElem?_toArray, List.getElem?_cons_zero, List.getElem?_cons_succ, hv, Sem.run_bind, run_underlying hf.slice, Result.andThen_ok,
            hel.run_sizeOf, Sem.run_pure, Bool.false_eq_true, if_false, hlenof, hfit, if_true, Bool.not_false, hnv', addr_add, g1]
        · refine hp.change (m' := .arr (.slice (some ⟨b, off, none⟩) (es.length + ys.length) cap) sz (es ++ ys)) (fun k hk hnk => g5 k ?_) ?_ (by simp [MObj.blocks]) ?_ g7 g8 g9
          · rw [hv] at hnk; simpa [MObj.blocks] using hnk
          · intro k hk; left; rw [hv]; exact hk
          · refine .inr ⟨b, off, cap, rc', el', fr, by simp, g2, by rw [g3]; exact hfr, hboth, by simp; omega, by rw [g3]; exact hroom, fun i j x c u a1 a2 a3 => ?_⟩
            have hj : j < sz := by have := lt_of_get a2; have := hboth x (List.mem_of_getElem? a1); omega
            rw [g4] at a3
            by_cases hi : i < es.length
            · rw [List.getElem?_append_left hi] at a1
              have hlt : i * sz + j < es.length * sz := by
                have : (i + 1) * sz ≤ es.length * sz := Nat.mul_le_mul_right _ hi
                rw [Nat.add_mul] at this; omega
              rw [if_neg (by omega)] at a3
              exact hcV i j x c u a1 a2 a3
            · rw [List.getElem?_append_right (by omega)] at a1
              have hi2 := lt_of_get a1
              have e1 : i * sz + j = es.length * sz + ((i - es.length) * sz + j) := by
                rw [← Nat.add_assoc, ← Nat.add_mul]; congr 2; omega
              have hlt : (i - es.length) * sz + j < ys.length * sz := by
                have : (i - es.length + 1) * sz ≤ ys.length * sz := Nat.mul_le_mul_right _ hi2
                rw [Nat.add_mul] at this; omega
              rw [if_pos (by omega)] at a3
              have e2 : off + i * sz + j - (off + es.length * sz) - 0 = (i - es.length) * sz + j := by omega
              rw [e2] at a3
              exact hnV (i - es.length) j x c u a1 a2 a3
      · refine grows (some ⟨b, off, none⟩) cap ((rc.toList.drop off).take (es.length * sz)) hv (by omega) (fun w1 hw1 => ?_) ?_ (fun i j x c u a1 a2 a3 => hcV i j x c u a1 a2 ?_)
        · rw [hv]
          have hes : es.length * sz ≤ cap * sz := Nat.mul_le_mul_right _ hcap.1
          have hl : ((rc.toList.drop off).take (es.length * sz)).length = es.length * sz := by simp; omega
          have h3' : w1.heap[b]? = some (.cells rc el' fr) := by rw [hw1]; exact hw
          have := run_loadCells_list (P := P) w1 ⟨b, off, none⟩ ((rc.toList.drop off).take (es.length * sz)) fun j u hj => by
            rw [addr_add, cell_of h3']
            rw [List.getElem?_take] at hj
            split at hj
            · simpa [List.getElem?_drop] using hj
            · simp at hj
          rw [hl] at this
          simp only [Builtin.firstCells]
          exact this
        · have hes : es.length * sz ≤ cap * sz := Nat.mul_le_mul_right _ hcap.1
          simp; omega
        · rw [List.getElem?_take] at a3
          split at a3
          · rw [List.getElem?_drop] at a3
            rw [Nat.add_assoc]
            simpa using a3
          · simp at a3
end
end Go.HL
