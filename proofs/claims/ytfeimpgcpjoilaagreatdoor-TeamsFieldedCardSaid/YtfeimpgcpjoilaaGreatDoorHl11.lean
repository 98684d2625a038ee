/- Results that lie in a variable of their own; elements of arrays; the search for a byte; over any program; no conditions. -/
import Derived.Test.YtfeimpgcpjoilaaGreatDoorHl10
namespace Go.HL
def ResC (P : Program) (e : Env) : List ResultVar → List HVal → Prop
  | [], [] => True
  | .tmp t :: r, h :: l => e t = some h ∧ ResC P e r l
  | .cell a t :: r, h :: l => (∃ cs d size bytes zero, e a = some (.vptr cs 0) ∧ Fits P t d size bytes zero ∧ ((d.isAgg = false ∧ cs[0]? = some h) ∨ (d.isAgg = true ∧ size = cs.length ∧ h = .agg cs))) ∧ ResC P e r l
  | _, _ => False
def tupOf : List HVal → HVal
  | [h] => h
  | l => .tup l
def RetC (P : Program) (rs : List ResultVar) (Q : HVal → List MObj → Prop) : Exit → Env → List MObj → Prop
  | .normal, e, M | .ret, e, M => ∃ e' M', Ghost e M e' M' ∧ ∃ l h', ResC P e' rs l ∧ Weak (tupOf l) h' ∧ Q h' M'
  | _, _, _ => False
theorem resC_run {P : Program} {I : Imm} {e : Env} {tmps : Array Value} (he : EnvV I e tmps) {M : List MObj} {w : World} (hs : Sat I M w) : ∀ (rs : List ResultVar) (l : List HVal), ResC P e rs l →
    ∃ vs : List Value, (rs.mapM (resRun tmps)).run P w = .ok vs w ∧ VL I l vs := by
  intro rs
  induction rs with
  | nil =>
    intro l h
    cases l with
    | nil => exact ⟨[], by simp, VL.nil⟩
    | cons _ _ => exact h.elim
  | cons r rs ih =>
    intro l h
    cases l with
    | nil => cases r <;> exact h.elim
    | cons x l =>
      cases r with
      | tmp t =>
        obtain ⟨h1, h2⟩ := h
        obtain ⟨vs, h3, h4⟩ := ih l h2
        obtain ⟨v, h5, h6⟩ := he t x h1
        refine ⟨v :: vs, ?_, VL.cons h6 h4⟩
        simp only [List.mapM_cons, resRun, Sem.run_bind, Sem.run_pure, Result.andThen_ok, h3]
        simp [h5]
      | cell a t =>
        obtain ⟨⟨cs, d, size, bytes, zero, h1, hf, hh⟩, h2⟩ := h
        obtain ⟨vs, h3, h4⟩ := ih l h2
        obtain ⟨v, h5, h6⟩ := he a _ h1
        obtain ⟨b, base, rc, el, fr, g1, g2, g3, g4⟩ := h6.vptr_inv
        obtain ⟨v', h7, h8⟩ := run_loadVar (I := I) (h := x) (o := base + 0) (off := 0) (base := base) hf (hs.imm _ _ g2) rfl g3 g4 (by
          rcases hh with hh | ⟨p1, p2, p3⟩
          · exact .inl hh
          · exact .inr ⟨p1, by omega, by rw [p2]; simpa using p3⟩)
        refine ⟨v' :: vs, ?_, VL.cons h8 h4⟩
        have hg : tmps.getD a undef = .pointer (some ⟨b, base + 0, none⟩) := by simp [h5, g1]
        simp only [List.mapM_cons, resRun, Sem.run_bind, Sem.run_pure, Result.andThen_ok, hg, asAddr, h7, h3]

theorem Con.of_bodyc {P : Program} {f : FuncId} {fn : Func} {c : Code} {hargs : List HVal} {M : List MObj} {Q : HVal → List MObj → Prop}
    {n : Nat} (hf : P.funcs[f]? = some fn) (hb : fn.body = some c) (hnt : fn.ntmps = n) (hn' : Nat.ble hargs.length n = true) {rs : List ResultVar} (hrs : fn.results.toList = rs) (h : HWp P n c (argsE hargs) M (RetC P rs Q)) : Con P f hargs M Q := by
  have hn := Nat.le_of_ble_eq_true hn'
  subst hnt hrs
  intro I F w args h1 h2
  refine calls_of_wp hf hb ?_
  have hlen := h1.1
  refine wp_mono (h I F _ w rfl (by simp; omega) ?_ h2) ?_
  · intro t x hx
    obtain ⟨v, h3, h4⟩ := h1.get hx
    have hlt : t < args.length := lt_of_get h3
    refine ⟨v, ?_, h4⟩
    rw [Array.getElem?_append_left (by simpa using hlt)]
    simpa using h3
  · have key : ∀ (a' : Act) (w' : World), a'.defers = [] → (∃ J e M', Le I J ∧ (∃ e' M'', Ghost e M' e' M'' ∧ ∃ l h', ResC P e' fn.results.toList l ∧ Weak (tupOf l) h' ∧ Q h' M'') ∧ EnvV J e a'.tmps ∧ Sat J (M' ++ F) w') →
        a'.defers = [] ∧ ∃ v, (results fn a'.tmps).run P w' = .ok v w' ∧ (∃ v_1 h M' J, Ending.returned v = Ending.returned v_1 ∧ Le I J ∧ Q h M' ∧ V J h v_1 ∧ Sat J (M' ++ F) w') := by
      rintro a' w' hd ⟨J, e, M', hl, ⟨e', M'', hg, l, h', hr, hw, hq⟩, he, hs⟩
      obtain ⟨J2, hl2, he2, hs2⟩ := hg J F a'.tmps w' he hs
      refine ⟨hd, ?_⟩
      obtain ⟨vs, h3, h4⟩ := resC_run he2 hs2 _ _ hr
      have hrun : (results fn a'.tmps).run P w' = .ok (if h : vs.length = 1 then vs[0] else .tuple vs.toArray) w' := by
        rw [results_eq]
        have hm : (fn.results.mapM (resRun a'.tmps)).run P w' = .ok vs.toArray w' := by
          rw [Array.mapM_eq_mapM_toList]
          simp only [Sem.run_map, h3, Result.andThen_ok]
        simp only [Sem.run_bind, Sem.run_pure]
        rw [hm]
        simp
      refine ⟨_, hrun, _, h', M'', J2, rfl, hl.trans hl2, hq, ?_, hs2⟩
      apply hw
      match l, h4 with
      | [], h4 =>
        have : vs = [] := by have := h4.1; simpa using this
        subst this
        exact .tup (by simp) (fun j c v h _ => by simp at h)
      | [x], h4 =>
        have hl1 : vs.length = 1 := by have := h4.1; simpa using this
        match vs, hl1, h4 with
        | [v], _, h4 => exact h4.head
      | x :: y :: r, h4 =>
        have hl1 : vs.length = r.length + 2 := by have := h4.1; simpa using this
        rw [dif_neg (by omega)]
        exact .tup (by simp [hl1]) (fun j c v h1 h2 => h4.2 j c v h1 (by simpa using h2))
    rintro x a' w' ⟨p1, p2, J, e, M', p3, p4, p5, p6⟩
    cases x with
    | normal => exact key a' w' p1 ⟨J, e, M', p3, p4, p5, p6⟩
    | ret => exact key a' w' p1 ⟨J, e, M', p3, p4, p5, p6⟩
    | exit id => exact p4.elim
    | goto l => exact p4.elim
    | panic ch => exact p4.elim
    | outgrown => exact p4.elim

section
variable {P : Program} {e : Env} {dst : Option Tmp} {ty : TypeId} {pos : String} {af : Array Edge} {g : Option (Nat × Bool)} {M : List MObj} {K : HVal → List MObj → Prop}
theorem Fits.arrD {t : TypeId} {n el size bytes : Nat} {zero : Value} (h : Fits P t (.arr n el) size bytes zero) : P.underlying t = some (.array n el) := by
  obtain ⟨x, h1, h2⟩ := h.underlying
  cases x <;> simp [descOf] at h2
  obtain ⟨rfl, rfl⟩ := h2
  exact h1
theorem run_indexAtA {t el : TypeId} {n size bytes sz b2 : Nat} {zero z2 : Value} {d : TD} (hf : Fits P t (.arr n el) size bytes zero) (hel : Fits P el d sz b2 z2) {k : IntKind} {j b o : Nat} (hj : j < n) (w : World) :
    (Instr.indexAt t (.pointer (some ⟨b, o, none⟩)) (.int k (j : Int))).run P w = .ok (.pointer (some ⟨b, o + j * sz, none⟩)) w := by
  have h1 : (0 : Int) ≤ (j : Int) ∧ (j : Int) < (n : Int) := by omega
  simp [Instr.indexAt, asIntOf, run_underlying hf.arrD, h1, hel.run_sizeOf, addr_add, Instr.sureAddr]
  intro h; omega
/-- An element of an array. -/
theorem pop_idxa {x y : Operand} {t el : TypeId} {n size bytes sz b2 : Nat} {zero z2 : Value} {d : TD} {cs : List HVal} {off : Nat} {k : IntKind} {i : Int} {j : Nat}
    (hf : Fits P t (.arr n el) size bytes zero) (hel : Fits P el d sz b2 z2) (hx : evalO e x = some (.vptr cs off)) (hy : evalO e y = some (.int k i)) (hi : i = (j : Int)) (hj : j < n) :
    POp P e ⟨dst, .indexAddr t x y, ty, pos, af, g⟩ (.vptr cs (off + j * sz)) :=
  POp.of_val fun I a w ho => by
    subst hi
    obtain ⟨b, base, rc, el, fr, h1, h2, h3, h4⟩ := (ho.one (x := x) (by simp [Op.operands]) hx).vptr_inv
    have h5 := (ho.one (x := y) (by simp [Op.operands]) hy).int_inv
    refine ⟨.pointer (some ⟨b, base + off + j * sz, none⟩), by simp [execOp, h1, h5, run_indexAtA hf hel hj], ?_⟩
    rw [Nat.add_assoc]; exact .vptr h2 h3 h4
theorem pop_idxa_raw {x y : Operand} {t el : TypeId} {n size bytes sz b2 : Nat} {zero z2 : Value} {d : TD} {b o : Nat} {k : IntKind} {i : Int} {j : Nat}
    (hf : Fits P t (.arr n el) size bytes zero) (hel : Fits P el d sz b2 z2) (hx : evalO e x = some (.raw (.pointer (some ⟨b, o, none⟩)))) (hy : evalO e y = some (.int k i)) (hi : i = (j : Int)) (hj : j < n) :
    POp P e ⟨dst, .indexAddr t x y, ty, pos, af, g⟩ (.raw (.pointer (some ⟨b, o + j * sz, none⟩))) :=
  POp.of_val fun I a w ho => by
    subst hi
    have h1 := (ho.one (x := x) (by simp [Op.operands]) hx).raw_inv
    have h5 := (ho.one (x := y) (by simp [Op.operands]) hy).int_inv
    exact ⟨_, by simp [execOp, h1, h5, run_indexAtA hf hel hj], .raw _ rfl⟩

theorem pop_indexByte {f : FuncId} {fn : Func} {args : Array Operand} {ats : Array TypeId} {x y : Operand} {s : List UInt8} {c : Int} (hf : P.funcs[f]? = some fn) (h1 : (fn.name == "runtime.NumGoroutine") = false) (h2 : fn.body.isNone = true)
    (h3 : (Extern.findNext fn).isNone = true) (h4 : Extern.find fn = some Extern.BytealgIndexByte.indexByte) (ha : args = #[x, y]) (hx : evalO e x = some (.str s)) (hy : evalO e y = some (.int .u8 c)) :
    POp P e ⟨dst, .call ⟨.value (.func f), args, ats⟩, ty, pos, af, g⟩ (.int .i64 (Lib.indexByte s c.toNat.toUInt8)) :=
  POp.of_val fun I a w ho => by
    subst ha
    have e1 := (ho.one (x := x) (by simp [Op.operands, Call.operands]) hx).str_inv
    have e2 := (ho.one (x := y) (by simp [Op.operands, Call.operands]) hy).int_inv
    refine ⟨_, ?_, .int _ _⟩
    have h3' : Extern.findNext fn = none := by cases h : Extern.findNext fn with | none => rfl | some _ => rw [h] at h3; simp at h3
    have hcmp : (Extern.BytealgIndexByte.indexByte #[.string ⟨s.toArray⟩, .int .u8 c]).run P w = .ok (.int .i64 (Lib.indexByte s c.toNat.toUInt8)) w := by
      have := Lib.run_indexByteString (P := P) ⟨s.toArray⟩ c w
      simpa using this
    have hev : a.eval (.func f) = .func (.func f) #[] #[] := rfl
    have hmap : (#[x, y] : Array Operand).map a.eval = #[.string ⟨s.toArray⟩, .int .u8 c] := by simp [e1, e2]
    have hargs : (#[] : Array Value) ++ #[.string ⟨s.toArray⟩, .int .u8 c] ++ #[] = #[.string ⟨s.toArray⟩, .int .u8 c] := rfl
    simp only [execOp, resolve, hev, hmap, Deferred.ofValue, invoke, callFunc, Sem.run_bind, Sem.run_pure, Result.andThen_ok, run_program, hf, h1, h2, h3', h4, Bool.false_eq_true, if_false, if_true, run_mark, hargs, hcmp]
end
end Go.HL
