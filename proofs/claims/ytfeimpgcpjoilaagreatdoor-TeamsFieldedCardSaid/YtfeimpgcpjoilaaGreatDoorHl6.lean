/- Changes of view (what is owned becomes immutable), owned slices read and written, calls that borrow; over any program; no conditions. -/
import Derived.Test.YtfeimpgcpjoilaaGreatDoorHl5
namespace Go.HL

theorem Ghost.arr_nil {e : Env} {M : List MObj} (sz : Nat) : Ghost e M e (.arr (.slice none 0 0) sz [] :: M) := fun I F tmps w he hs =>
  ⟨I, .refl I, he, {
    imm := hs.imm
    obj := fun m hm => by
      rcases List.mem_cons.1 hm with rfl | hm
      · exact .inl ⟨rfl, rfl⟩
      · exact hs.obj m hm
    nodup := by simp only [List.cons_append, blocks, List.flatMap_cons, MObj.blocks, List.nil_append]; exact hs.nodup
    apart := fun b hb => hs.apart b (by simpa only [List.cons_append, blocks, List.flatMap_cons, MObj.blocks, List.nil_append] using hb)
    os := hs.os
    output := hs.output
    tape := hs.tape }⟩

/-- What an owned slice reads as once it is immutable. -/
theorem Sat.freeze_arr {I : Imm} {M : List MObj} {v : Value} {sz : Nat} {es : List HVal} {w : World} (h : Sat I (.arr v sz es :: M) w) : ∃ J, Le I J ∧ Sat J M w ∧ V J (.slice sz es) v := by
  rcases h.obj _ List.mem_cons_self with ⟨rfl, rfl⟩ | ⟨b, off, cap, rc, el, fr, rfl, h2, h3, h4, h5, h6, h7⟩
  · exact ⟨I, .refl I, h.drop, .slice0 _ _ _⟩
  · obtain ⟨hl, hs⟩ := h.freeze (b := b) rfl h2
    refine ⟨_, hl, hs, .slice Imm.add_self h4 h5.1 ?_ fun i j x c u a1 a2 a3 => (h7 i j x c u a1 a2 a3).mono hl⟩
    have : es.length * sz ≤ cap * sz := Nat.mul_le_mul_right _ h5.1
    omega
theorem Sat.freeze_cells {I : Imm} {M : List MObj} {b : Nat} {cs : List HVal} {w : World} (h : Sat I (.cells b cs :: M) w) : ∃ J, Le I J ∧ Sat J M w ∧ ∀ off, V J (.vptr cs off) (.pointer (some ⟨b, off, none⟩)) := by
  obtain ⟨rc, el, fr, h2, h3, h4⟩ := h.obj _ List.mem_cons_self
  obtain ⟨hl, hs⟩ := h.freeze (b := b) rfl h2
  refine ⟨_, hl, hs, fun off => ?_⟩
  have := V.vptr (I := I.add b (.cells rc el fr)) (cs := cs) (off := off) (base := 0) Imm.add_self (by have := h4.1; simp at this; omega) fun j c v a1 a2 => ((h4.2 j c v a1 (by simpa using a2)).mono hl)
  rwa [Nat.zero_add] at this

theorem Ghost.freeze_arr {e e' : Env} {M : List MObj} {i : Nat} {v : Value} {sz : Nat} {es : List HVal} (hm : M[i]? = some (.arr v sz es))
    (he : ∀ J, V J (.slice sz es) v → ∀ t h', e' t = some h' → ∃ h, e t = some h ∧ ∀ x, V J h x → V J h' x) : Ghost e M e' (M.eraseIdx i) := fun I F tmps w h1 hs => by
  obtain ⟨J, hl, hs', hv⟩ := (hs.pull hm).freeze_arr
  refine ⟨J, hl, fun t h' ht => ?_, hs'⟩
  obtain ⟨h, h2, h3⟩ := he J hv t h' ht
  obtain ⟨x, h4, h5⟩ := h1 t h h2
  exact ⟨x, h4, h3 x (h5.mono hl)⟩
theorem Ghost.freeze_cells {e e' : Env} {M : List MObj} {i b : Nat} {cs : List HVal} (hm : M[i]? = some (.cells b cs))
    (he : ∀ J, (∀ off, V J (.vptr cs off) (.pointer (some ⟨b, off, none⟩))) → ∀ t h', e' t = some h' → ∃ h, e t = some h ∧ ∀ x, V J h x → V J h' x) : Ghost e M e' (M.eraseIdx i) := fun I F tmps w h1 hs => by
  obtain ⟨J, hl, hs', hv⟩ := (hs.pull hm).freeze_cells
  refine ⟨J, hl, fun t h' ht => ?_, hs'⟩
  obtain ⟨h, h2, h3⟩ := he J hv t h' ht
  obtain ⟨x, h4, h5⟩ := h1 t h h2
  exact ⟨x, h4, h3 x (h5.mono hl)⟩
theorem fz_upd {J : Imm} {e e' : Env} {t : Nat} {h h' : HVal} (ht : e t = some h) (hv : ∀ x, V J h x → V J h' x) (hr : ∀ s y, e' s = some y → ∃ z, e s = some z ∧ ∀ x, V J z x → V J y x) :
    ∀ s y, upd e' t h' s = some y → ∃ z, e s = some z ∧ ∀ x, V J z x → V J y x := fun s y hs => by
  by_cases hh : s = t
  · subst hh; rw [upd_self] at hs; cases hs; exact ⟨h, ht, hv⟩
  · rw [upd_ne _ _ hh] at hs; exact hr s y hs
theorem fz_refl {J : Imm} {e : Env} : ∀ s y, e s = some y → ∃ z, e s = some z ∧ ∀ x, V J z x → V J y x := fun s y hs => ⟨y, hs, fun _ h => h⟩
/-- The slice in slot t. -/
theorem Ghost.fa {e : Env} {M : List MObj} {i : Nat} {v : Value} {sz : Nat} {es : List HVal} (t : Nat) (hm : M[i]? = some (.arr v sz es)) (ht : e t = some (.raw v)) :
    Ghost e M (upd e t (.slice sz es)) (M.eraseIdx i) :=
  Ghost.freeze_arr hm fun J hv => fz_upd ht (fun x hx => by rw [hx.raw_inv]; exact hv) fz_refl
/-- The variable whose address is in slot t. -/
theorem Ghost.fc {e : Env} {M : List MObj} {i b off : Nat} {cs : List HVal} (t : Nat) (hm : M[i]? = some (.cells b cs)) (ht : e t = some (.raw (.pointer (some ⟨b, off, none⟩)))) :
    Ghost e M (upd e t (.vptr cs off)) (M.eraseIdx i) :=
  Ghost.freeze_cells hm fun J hv => fz_upd ht (fun x hx => by rw [hx.raw_inv]; exact hv off) fz_refl
/-- The slice in a cell of an owned variable. -/
theorem Ghost.fcell {e : Env} {M : List MObj} {i k : Nat} {v : Value} {sz b j : Nat} {es cs : List HVal} (hm : M[i]? = some (.arr v sz es)) (hc : (M.eraseIdx i)[k]? = some (.cells b cs)) (hj : cs[j]? = some (.raw v)) :
    Ghost e M e ((M.eraseIdx i).set k (.cells b (cs.set j (.slice sz es)))) := fun I F tmps w h1 hs => by
  obtain ⟨J, hl, hs', hv⟩ := (hs.pull hm).freeze_arr
  refine ⟨J, hl, h1.mono hl, Sat.unpull hc ((hs'.pull hc).change (m' := .cells b (cs.set j (.slice sz es))) (fun _ _ _ => rfl) (fun x hx => .inl hx) (by simp [MObj.blocks]) ?_ rfl rfl rfl)⟩
  obtain ⟨rc, el, fr, a1, a2, a3⟩ := (hs'.pull hc).obj _ List.mem_cons_self
  refine ⟨rc, el, fr, a1, a2, by rw [a3.1]; simp, fun n c u b1 b2 => ?_⟩
  by_cases hn : n = j
  · subst hn
    have hlt := lt_of_get hj
    simp [hlt] at b1
    subst b1
    have := a3.2 n _ u hj b2
    rw [this.raw_inv]; exact hv
  · rw [List.getElem?_set_ne (Ne.symm hn)] at b1
    exact a3.2 n c u b1 b2

section
variable {P : Program} {e : Env} {dst : Option Tmp} {ty : TypeId} {pos : String} {af : Array Edge} {g : Option (Nat × Bool)} {M : List MObj} {K : HVal → List MObj → Prop}

theorem MSat.arr_len {I : Imm} {w : World} {v : Value} {sz : Nat} {es : List HVal} (h : MSat I w (.arr v sz es)) : ∃ a cap, v = .slice a es.length cap := by
  rcases h with ⟨rfl, rfl⟩ | ⟨b, off, cap, rc, el, fr, h, _⟩
  · exact ⟨none, 0, rfl⟩
  · exact ⟨_, cap, h⟩

theorem eop_len {x : Operand} {t el : TypeId} {size bytes : Nat} {zero : Value} {i : Nat} {v : Value} {sz : Nat} {es : List HVal} (hf : Fits P t (.slice el) size bytes zero) (hx : evalO e x = some (.raw v))
    (hm : M[i]? = some (.arr v sz es)) (hk : K (.int .i64 es.length) M) : EOp P e M ⟨dst, .call ⟨.builtin .len, #[x], #[t]⟩, ty, pos, af, g⟩ K :=
  EOp.of_run fun I F a w ho hs => by
    have h1 := (ho.one (x := x) (by simp [Op.operands, Call.operands]) hx).raw_inv
    obtain ⟨b, cap, h2⟩ := (hs.obj _ (List.mem_append_left _ (List.mem_of_getElem? hm))).arr_len
    exact ⟨.int .i64 es.length, _, M, w, I, by rw [run_len (ats := #[])]; simp [h1, h2, Builtin.len_, run_underlying hf.slice, goInt], .refl I, hk, .int _ _, hs⟩

/-- An element of an owned slice: its address. -/
theorem eop_idx {x y : Operand} {t el : TypeId} {size bytes sz b2 : Nat} {zero z2 : Value} {d : TD} {i : Nat} {v : Value} {es : List HVal} {k : IntKind} {n : Int} {j : Nat}
    (hf : Fits P t (.slice el) size bytes zero) (hel : Fits P el d sz b2 z2) (hx : evalO e x = some (.raw v)) (hy : evalO e y = some (.int k n)) (hn : n = (j : Int)) (hm : M[i]? = some (.arr v sz es)) (hj : j < es.length)
    (hk : ∀ b off cap, v = .slice (some ⟨b, off, none⟩) es.length cap → K (.raw (.pointer (some ⟨b, off + j * sz, none⟩))) M) : EOp P e M ⟨dst, .indexAddr t x y, ty, pos, af, g⟩ K :=
  EOp.of_run fun I F a w ho hs => by
    subst hn
    have h1 := (ho.one (x := x) (by simp [Op.operands]) hx).raw_inv
    have h2 := (ho.one (x := y) (by simp [Op.operands]) hy).int_inv
    rcases hs.obj _ (List.mem_append_left _ (List.mem_of_getElem? hm)) with ⟨_, rfl⟩ | ⟨b, off, cap, rc, el', fr, h3, _⟩
    · simp at hj
    · exact ⟨_, _, M, w, I, by simp [execOp, h1, h2, h3, run_indexAt hf hel hj], .refl I, hk b off cap h3, .raw _ rfl, hs⟩

theorem eop_load_arr {x : Operand} {t : TypeId} {d : TD} {size bytes : Nat} {zero : Value} {i b off cap n sz j f o : Nat} {es : List HVal} {y h : HVal} (hf : Fits P t d size bytes zero)
    (hx : evalO e x = some (.raw (.pointer (some ⟨b, o, none⟩)))) (ho' : o = off + j * sz + f) (hm : M[i]? = some (.arr (.slice (some ⟨b, off, none⟩) n cap) sz es)) (hj : es[j]? = some y)
    (hh : (d.isAgg = false ∧ (hcells y)[f]? = some h) ∨ (d.isAgg = true ∧ f + size ≤ (hcells y).length ∧ h = .agg (((hcells y).drop f).take size)))
    (hk : K h M) : EOp P e M ⟨dst, .load t x, ty, pos, af, g⟩ K :=
  EOp.of_run fun I F a w ho hs => by
    have h1 := (ho.one (x := x) (by simp [Op.operands]) hx).raw_inv
    have hlt := lt_of_get hj
    rcases hs.obj _ (List.mem_append_left _ (List.mem_of_getElem? hm)) with ⟨hbad, _⟩ | ⟨b', off', cap', rc, el', fr, h3, h4, h5, h6, h7, h8, h9⟩
    · simp at hbad
    · simp at h3
      obtain ⟨⟨rfl, rfl⟩, _, rfl⟩ := h3
      have hy := h6 y (List.mem_of_getElem? hj)
      have hle : (j + 1) * sz ≤ cap * sz := Nat.mul_le_mul_right _ (by omega)
      rw [Nat.add_mul] at hle
      obtain ⟨v, a1, a2⟩ := run_loadVar (I := I) (o := o) hf h4 (base := off + j * sz) (off := f) ho' (by omega) (fun k c v b1 b2 => h9 j k y c v hj b1 b2) hh
      exact ⟨v, h, M, w, I, by simp [execOp, h1, Instr.loadAt, Instr.sureAddr, a1], .refl I, hk, a2, hs⟩

theorem eop_store_arr {x z : Operand} {t : TypeId} {d : TD} {size bytes : Nat} {zero : Value} {i b off cap n sz j f o : Nat} {es : List HVal} {y h y' : HVal} (hf : Fits P t d size bytes zero)
    (hx : evalO e x = some (.raw (.pointer (some ⟨b, o, none⟩)))) (ho' : o = off + j * sz + f) (hz : evalO e z = some h) (hm : M[i]? = some (.arr (.slice (some ⟨b, off, none⟩) n cap) sz es)) (hj : es[j]? = some y)
    (hok : okElem size h = true) (hfl : flat (hcells h) = true) (hle : f + size ≤ (hcells y).length) (hy' : hcells y' = setL (hcells y) f (hcells h))
    (hk : K .junk (M.set i (.arr (.slice (some ⟨b, off, none⟩) n cap) sz (es.set j y')))) : EOp P e M ⟨dst, .store t x z, ty, pos, af, g⟩ K :=
  EOp.of_skip fun I F a w hop hs => by
    have h1 := (hop.one (x := x) (by simp [Op.operands]) hx).raw_inv
    obtain ⟨h2, h3⟩ := (hop.one (x := z) (by simp [Op.operands]) hz).cells_size hok
    obtain ⟨h0, _⟩ := okElem_cells hok
    have hp := hs.pull hm
    have hlt := lt_of_get hj
    rcases hp.obj _ (List.mem_cons_self) with ⟨hbad, _⟩ | ⟨b', off', cap', rc, el', fr, h4, h5, h6, h7, h8, h9, h10⟩
    · simp at hbad
    · simp at h4
      obtain ⟨⟨rfl, rfl⟩, rfl, rfl⟩ := h4
      have hyl := h7 y (List.mem_of_getElem? hj)
      have hle2 : (j + 1) * sz ≤ cap * sz := Nat.mul_le_mul_right _ (by omega)
      rw [Nat.add_mul] at hle2
      subst ho'
      obtain ⟨w', rc', g1, g2, g3, g4, g5, g6, g7, g8, g9⟩ := run_storeCells (P := P) b el' fr (off + j * sz + f) (a.eval z).cells.toList 0 w rc h5 h6 (flat_one h3 hfl) (by simp; omega)
      refine ⟨_, w', I, ?_, .refl I, hk, ?_⟩
      · simp only [execOp, h1, Instr.storeAt, Instr.sureAddr, Sem.run_bind, Sem.run_pure, Result.andThen_ok, storeVar, hf.run_sizeOf]
        rw [if_neg (by simp [h2])]
        simp only [Sem.run_pure, Result.andThen_ok, g1]
      · have hl' : (hcells y').length = sz := by rw [hy', setL_length (by omega)]; exact hyl
        refine Sat.unpull hm (hp.change (m' := .arr (.slice (some ⟨b, off, none⟩) es.length cap) sz (es.set j y')) (fun k hk hnk => g5 k (by simpa [MObj.blocks] using hnk)) (fun k hk => .inl hk) (by simp [MObj.blocks]) ?_ g7 g8 g9)
        refine .inr ⟨b, off, cap, rc', el', fr, by simp, g2, by rw [g3]; exact h6, fun q hq => ?_, by simpa using h8, by rw [g3]; exact h9, fun p q q1 c u a1 a2 a3 => ?_⟩
        · rcases List.mem_or_eq_of_mem_set hq with hq | rfl
          · exact h7 q hq
          · exact hl'
        · rw [g4] at a3
          simp only [Nat.add_zero, Nat.sub_zero, Array.length_toList, h2] at a3
          by_cases hpj : p = j
          · subst hpj
            simp [hlt] at a1
            subst a1
            have hq := lt_of_get a2
            rw [hy'] at a2
            simp only [setL] at a2
            by_cases c1 : q < f
            · rw [if_neg (by omega)] at a3
              rw [List.append_assoc, List.getElem?_append_left (by simp; omega), List.getElem?_take_of_lt c1] at a2
              exact h10 p q y c u hj a2 a3
            · by_cases c2 : q < f + size
              · rw [if_pos (by omega)] at a3
                rw [List.getElem?_append_left (by simp; omega), List.getElem?_append_right (by simp; omega)] at a2
                have e1 : ((hcells y).take f).length = f := by simp; omega
                rw [e1] at a2
                have e2 : off + p * sz + q - (off + p * sz + f) = q - f := by omega
                rw [e2] at a3
                exact h3.2 (q - f) c u a2 a3
              · rw [if_neg (by omega)] at a3
                rw [List.getElem?_append_right (by simp; omega)] at a2
                have e1 : ((hcells y).take f ++ hcells h).length = f + size := by simp; omega
                rw [e1, List.getElem?_drop, h0] at a2
                have e2 : f + size + (q - (f + size)) = q := by omega
                rw [e2] at a2
                exact h10 p q y c u hj a2 a3
          · rw [List.getElem?_set_ne (Ne.symm hpj)] at a1
            have hql := lt_of_get a2
            have hq1 := h7 q1 (List.mem_of_getElem? a1)
            have hp1 := lt_of_get a1
            have hne : ¬ (off + j * sz + f ≤ off + p * sz + q ∧ off + p * sz + q < off + j * sz + f + size) := by
              rcases Nat.lt_or_gt_of_ne hpj with hlt' | hgt
              · have : (p + 1) * sz ≤ j * sz := Nat.mul_le_mul_right _ hlt'
                rw [Nat.add_mul] at this; omega
              · have : (j + 1) * sz ≤ p * sz := Nat.mul_le_mul_right _ hgt
                rw [Nat.add_mul] at this; omega
            rw [if_neg hne] at a3
            exact h10 p q q1 c u a1 a2 a3

/-! calls that only read owned objects -/
mutual
def ground : HVal → Bool
  | .bool _ | .int _ _ | .str _ => true
  | .agg cs => groundL cs
  | .tup cs => groundL cs
  | .raw _ => true
  | _ => false
def groundL : List HVal → Bool
  | [] => true
  | c :: r => ground c && groundL r
end
theorem groundL_get : ∀ {cs : List HVal}, groundL cs = true → ∀ (j : Nat) (c : HVal), cs[j]? = some c → ground c = true
  | [], _, j, c, h => by simp at h
  | d :: r, hg, 0, c, h => by simp [groundL] at hg; simp at h; subst h; exact hg.1
  | d :: r, hg, j + 1, c, h => by simp [groundL] at hg; simp at h; exact groundL_get hg.2 j c h
theorem ground_V {I J : Imm} {c : HVal} {v : Value} (h : V I c v) : ground c = true → V J c v := by
  induction h with
  | bool b => intro _; exact .bool b
  | int k n => intro _; exact .int k n
  | str s => intro _; exact .str s
  | raw v h1 => intro _; exact .raw v h1
  | agg hl _ ih => intro hg; simp [ground] at hg; exact .agg hl fun j c v a b => ih j c v a b (groundL_get hg j c a)
  | tup hl _ ih => intro hg; simp [ground] at hg; exact .tup hl fun j c v a b => ih j c v a b (groundL_get hg j c a)
  | _ => intro hg; simp [ground] at hg

def allI (w : World) : Imm := ⟨fun b => w.heap[b]?, w.os, w.output, w.tape⟩
theorem Sat.le_all {I : Imm} {M : List MObj} {w : World} (h : Sat I M w) : Le I (allI w) := ⟨h.imm, h.os, h.output, h.tape⟩
theorem sat_all (w : World) : Sat (allI w) [] w := ⟨fun _ _ h => h, fun _ h => by simp at h, by simp [blocks], fun _ h => by simp [blocks] at h, rfl, rfl, rfl⟩
theorem Sat.back {I J : Imm} {M M' : List MObj} {w w' : World} (h : Sat I M w) (hl : Le (allI w) J) (h' : Sat J M' w') : Sat I M w' :=
  h.of_same (fun b ⟨o, ho⟩ => by rw [h.imm b o ho]; exact h'.imm b o (hl.heap b o (h.imm b o ho)))
    (fun b hb => by
      simp only [blocks, List.mem_flatMap] at hb
      obtain ⟨m, hm, hb⟩ := hb
      obtain ⟨o, ho⟩ := (h.obj m hm).lies hb
      rw [ho]; exact h'.imm b o (hl.heap b o ho)) (h'.os.trans hl.os) (h'.output.trans hl.output) (h'.tape.trans hl.tape)

/-- h, seen as h' while it is only read. -/
inductive Bor (M : List MObj) : HVal → HVal → Prop
  | weak {h h' : HVal} (hw : Weak h h') : Bor M h h'
  | arr {i : Nat} {v : Value} {sz : Nat} {es : List HVal} (hm : M[i]? = some (.arr v sz es)) : Bor M (.raw v) (.slice sz es)
  | cells {i b off : Nat} {cs : List HVal} (hm : M[i]? = some (.cells b cs)) : Bor M (.raw (.pointer (some ⟨b, off, none⟩))) (.vptr cs off)
  | agg {l l' : List HVal} (hl : l.length = l'.length) (h : ∀ (j : Nat) (c c' : HVal), l[j]? = some c → l'[j]? = some c' → Bor M c c') : Bor M (.agg l) (.agg l')
def BorL (M : List MObj) : List HVal → List HVal → Prop
  | [], [] => True
  | h :: r, h' :: r' => Bor M h h' ∧ BorL M r r'
  | _, _ => False

theorem Bor.v {I : Imm} {F : List MObj} {w : World} {h h' : HVal} (hb : Bor M h h') (hs : Sat I (M ++ F) w) : ∀ {v : Value}, V I h v → V (allI w) h' v := by
  induction hb with
  | weak hw => intro v hv; exact hw _ _ (hv.mono hs.le_all)
  | @arr i u sz es hm =>
    intro v hv
    rw [hv.raw_inv]
    rcases hs.obj _ (List.mem_append_left _ (List.mem_of_getElem? hm)) with ⟨rfl, rfl⟩ | ⟨b, off, cap, rc, el, fr, rfl, h2, h3, h4, h5, h6, h7⟩
    · exact .slice0 _ _ _
    · refine .slice (I := allI w) h2 h4 h5.1 ?_ fun i j x c u a1 a2 a3 => (h7 i j x c u a1 a2 a3).mono hs.le_all
      have : es.length * sz ≤ cap * sz := Nat.mul_le_mul_right _ h5.1
      omega
  | @cells i b off cs hm =>
    intro v hv
    rw [hv.raw_inv]
    obtain ⟨rc, el, fr, h2, h3, h4⟩ := hs.obj _ (List.mem_append_left _ (List.mem_of_getElem? hm))
    have := V.vptr (I := allI w) (cs := cs) (off := off) (base := 0) h2 (by have := h4.1; simp at this; omega) fun j c v a1 a2 => ((h4.2 j c v a1 (by simpa using a2)).mono hs.le_all)
    rwa [Nat.zero_add] at this
  | agg hl _ ih =>
    intro v hv
    obtain ⟨vs, rfl, h1⟩ := hv.agg_inv
    refine V.mk_agg ⟨by rw [h1.1, hl], fun j c u a1 a2 => ?_⟩
    have hj := lt_of_get a1
    have hj' := List.getElem?_eq_getElem (l := _) (by rw [hl]; exact hj)
    exact ih j _ c hj' a1 (h1.2 j _ u hj' a2)
theorem BorL.vl {I : Imm} {F : List MObj} {w : World} (hs : Sat I (M ++ F) w) : ∀ {hs1 hs2 : List HVal} {vs : List Value}, BorL M hs1 hs2 → VL I hs1 vs → VL (allI w) hs2 vs
  | [], [], vs, _, h => ⟨by have := h.1; simpa using this, fun j c v h1 _ => by simp at h1⟩
  | h :: r, h' :: r', [], _, hv => by have := hv.1; simp at this
  | h :: r, h' :: r', v :: vs, hb, hv => VL.cons (hb.1.v hs hv.head) (BorL.vl hs hb.2 hv.tail)
  | [], _ :: _, _, hb, _ => hb.elim
  | _ :: _, [], _, hb, _ => hb.elim

def groundM : MObj → Bool
  | .cells _ cs => groundL cs
  | .arr _ _ _ => false
  | .obj _ _ => true
  | .map _ _ => false

/-- A function that changes nothing, called while objects are owned that it reads; what it yields hangs on no memory. -/
theorem eop_callb {f : FuncId} {args : Array Operand} {ats : Array TypeId} {hs hs' : List HVal} {h : HVal} (hc : Callable P f) (ha : evalL e args.toList = some hs) (hb : BorL M hs hs') (hp : ConP P f hs' h)
    (hg : ground h = true) (hk : K h M) : EOp P e M ⟨dst, .call ⟨.value (.func f), args, ats⟩, ty, pos, af, g⟩ K := fun I F a w ho hsat => by
  have hrun : (execOp a.eval ⟨dst, .call ⟨.value (.func f), args, ats⟩, ty, pos, af, g⟩).run P w = .ok (.enter f (args.toList.map a.eval).toArray) w := by
    simp [execOp, resolve, Act.eval, Deferred.ofValue, invoke, run_callFunc hc]
    apply Array.ext'; simp
  have hv := evalL_V (I := I) (f := a.eval) _ _ ha fun x hx h hh => ho.one (by simp only [Op.operands, Call.operands]; exact Array.mem_append_right _ (by simpa using hx)) hh
  simp only [Oper.wp, hrun, Oper.upon]
  refine (hp (allI w) [] w _ (hb.vl hsat hv) (by simpa using sat_all w)).mono ?_
  rintro x w' ⟨v, y, M', J, rfl, h1, ⟨rfl, rfl⟩, h3, h4⟩
  exact ⟨v, _, M, I, rfl, .refl I, hk, ground_V h3 hg, hsat.back h1 h4⟩

/-- The same, where the result is a new slice of which each element hangs on no memory. -/
theorem eop_callba {f : FuncId} {args : Array Operand} {ats : Array TypeId} {hs hs' : List HVal} {sz : Nat} {es : List HVal} (hc : Callable P f) (ha : evalL e args.toList = some hs) (hb : BorL M hs hs')
    (hp : Con P f hs' [] fun x M' => ∃ v, x = .raw v ∧ M' = [.arr v sz es])
    (hg : ∀ y ∈ es, groundL (hcells y) = true) (hk : ∀ v, K (.raw v) (.arr v sz es :: M)) : EOp P e M ⟨dst, .call ⟨.value (.func f), args, ats⟩, ty, pos, af, g⟩ K := fun I F a w ho hsat => by
  have hrun : (execOp a.eval ⟨dst, .call ⟨.value (.func f), args, ats⟩, ty, pos, af, g⟩).run P w = .ok (.enter f (args.toList.map a.eval).toArray) w := by
    simp [execOp, resolve, Act.eval, Deferred.ofValue, invoke, run_callFunc hc]
    apply Array.ext'; simp
  have hv := evalL_V (I := I) (f := a.eval) _ _ ha fun x hx h hh => ho.one (by simp only [Op.operands, Call.operands]; exact Array.mem_append_right _ (by simpa using hx)) hh
  simp only [Oper.wp, hrun, Oper.upon]
  refine (hp (allI w) [] w _ (hb.vl hsat hv) (by simpa using sat_all w)).mono ?_
  rintro x w' ⟨v, y, M', J, rfl, h1, ⟨v', rfl, rfl⟩, h3, h4⟩
  have hb1 := hsat.back h1 h4
  have hobj := h4.obj _ (List.mem_append_left _ (List.mem_singleton_self _))
  have hone : v'.oneCell' = true := by rcases hobj with ⟨rfl, _⟩ | ⟨b, off, cap, rc, el, fr, rfl, _⟩ <;> rfl
  refine ⟨v, .raw v', _, I, rfl, .refl I, hk v', by rw [h3.raw_inv]; exact .raw _ hone, ?_⟩
  have hold : ∀ b, b < w.heap.size → b ∉ (MObj.arr v' sz es).blocks := fun b hb' hmem => by
    have := h4.apart b (by simp only [List.append_nil, blocks, List.flatMap_cons, List.flatMap_nil]; simpa using hmem)
    rw [hl_none h1 hb'] at this; cases this
  exact {
    imm := hb1.imm
    obj := fun m hm => by
      rcases List.mem_cons.1 hm with rfl | hm
      · rcases hobj with h5 | ⟨b, off, cap, rc, el, fr, b1, b2, b3, b4, b5, b6, b7⟩
        · exact .inl h5
        · exact .inr ⟨b, off, cap, rc, el, fr, b1, b2, b3, b4, b5, b6, fun i j x c u a1 a2 a3 => ground_V (b7 i j x c u a1 a2 a3) (groundL_get (hg x (List.mem_of_getElem? a1)) j c a2)⟩
      · exact hb1.obj m hm
    nodup := by
      simp only [List.cons_append, blocks, List.flatMap_cons]
      refine List.nodup_append.2 ⟨?_, hb1.nodup, fun x hx y hy hxy => ?_⟩
      · have := h4.nodup; simpa [blocks] using this
      · subst hxy
        have : x < w.heap.size := by
          simp only [List.mem_flatMap] at hy
          obtain ⟨m, hm, hx2⟩ := hy
          obtain ⟨o, ho⟩ := (hsat.obj m hm).lies hx2
          rcases Nat.lt_or_ge x w.heap.size with h' | h'
          · exact h'
          · simp [Array.getElem?_eq_none h'] at ho
        exact hold x this hx
    apart := fun b hb' => by
      simp only [List.cons_append, blocks, List.flatMap_cons, List.mem_append] at hb'
      rcases hb' with hb' | hb'
      · cases hi : I.heap b with
        | none => rfl
        | some o =>
          have h9 := hsat.imm b o hi
          have : b < w.heap.size := by
            rcases Nat.lt_or_ge b w.heap.size with h' | h'
            · exact h'
            · simp [Array.getElem?_eq_none h'] at h9
          exact absurd hb' (hold b this)
      · exact hb1.apart b (by simpa [blocks] using hb')
    os := hb1.os
    output := hb1.output
    tape := hb1.tape }
where
  hl_none {w : World} {J : Imm} (h1 : Le (allI w) J) {b : Nat} (hb : b < w.heap.size) : J.heap b = some w.heap[b] := h1.heap b _ (Array.getElem?_eq_getElem hb)
end
end Go.HL
