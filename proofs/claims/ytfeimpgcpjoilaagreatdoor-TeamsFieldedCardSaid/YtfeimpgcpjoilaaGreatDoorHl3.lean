/- The rules of the operations that change no owned object, over any program; no conditions. -/
import Derived.Test.YtfeimpgcpjoilaaGreatDoorHl2
import Derived.Laws.Cells
import Derived.Laws.Strings
import Derived.Laws.Entries
namespace Go.HL

/-- A slim description of a type. -/
inductive TD where
  | bool | int (k : IntKind) | str | ptr (e : Nat) | slice (e : Nat) | arr (n e : Nat) | map (k e : Nat) | struct (fs : List (Nat × Nat)) | func | iface | tuple | other

def descOf : TypeDesc → TD
  | .bool => .bool
  | .int k => .int k
  | .string => .str
  | .pointer e => .ptr e
  | .slice e => .slice e
  | .array n e => .arr n e
  | .map k e => .map k e
  | .struct fs => .struct (fs.toList.map fun f => (f.offset, f.type))
  | .func .. => .func
  | .interface .. => .iface
  | .tuple .. => .tuple
  | _ => .other

structure Fits (P : Program) (t : TypeId) (d : TD) (size bytes : Nat) (zero : Value) : Prop where
  und : (P.underlying t).map descOf = some d
  info : (P.info? t).map (fun x => (x.size, x.bytes, x.zero)) = some (size, bytes, some zero)

def TD.isAgg : TD → Bool
  | .struct _ | .arr _ _ => true
  | _ => false

section
variable {P : Program} {t : TypeId} {d : TD} {size bytes : Nat} {zero : Value}

theorem Fits.underlying (h : Fits P t d size bytes zero) : ∃ x, P.underlying t = some x ∧ descOf x = d := by
  have := h.und
  cases hu : P.underlying t with
  | none => rw [hu] at this; simp at this
  | some x => rw [hu] at this; simp at this; exact ⟨x, rfl, this⟩
theorem Fits.typeInfo (h : Fits P t d size bytes zero) : ∃ i, P.info? t = some i ∧ i.size = size ∧ i.bytes = bytes ∧ i.zero = some zero := by
  have := h.info
  cases hu : P.info? t with
  | none => rw [hu] at this; simp at this
  | some x => rw [hu] at this; simp at this; exact ⟨x, rfl, this.1, this.2.1, this.2.2⟩
theorem Fits.run_sizeOf (h : Fits P t d size bytes zero) (w : World) : (sizeOf t).run P w = .ok size w := by
  obtain ⟨i, h1, h2, h3, h4⟩ := h.typeInfo
  simp [sizeOf, Go.typeInfo, h1, h2]
theorem Fits.run_zero (h : Fits P t d size bytes zero) (w : World) : (zeroValue t).run P w = .ok zero w := by
  obtain ⟨i, h1, h2, h3, h4⟩ := h.typeInfo
  simp [zeroValue, Go.typeInfo, h1, h4]
theorem Fits.run_isAgg (h : Fits P t d size bytes zero) (w : World) : (isAgg t).run P w = .ok d.isAgg w := by
  obtain ⟨x, h1, h2⟩ := h.underlying
  unfold isAgg
  simp only [Sem.run_bind, run_underlying h1, Result.andThen_ok]
  subst h2
  cases x <;> rfl
theorem Fits.slice {e : Nat} (h : Fits P t (.slice e) size bytes zero) : P.underlying t = some (.slice e) := by
  obtain ⟨x, h1, h2⟩ := h.underlying
  cases x <;> simp [descOf] at h2
  subst h2; exact h1
theorem Fits.strD (h : Fits P t .str size bytes zero) : P.underlying t = some .string := by
  obtain ⟨x, h1, h2⟩ := h.underlying
  cases x <;> simp [descOf] at h2
  exact h1
theorem Fits.boolD (h : Fits P t .bool size bytes zero) : P.underlying t = some .bool := by
  obtain ⟨x, h1, h2⟩ := h.underlying
  cases x <;> simp [descOf] at h2
  exact h1
theorem Fits.intD {k : IntKind} (h : Fits P t (.int k) size bytes zero) : P.underlying t = some (.int k) := by
  obtain ⟨x, h1, h2⟩ := h.underlying
  cases x <;> simp [descOf] at h2
  subst h2; exact h1
theorem Fits.ptrD {e : Nat} (h : Fits P t (.ptr e) size bytes zero) : P.underlying t = some (.pointer e) := by
  obtain ⟨x, h1, h2⟩ := h.underlying
  cases x <;> simp [descOf] at h2
  subst h2; exact h1
theorem Fits.structD {fs : List (Nat × Nat)} (h : Fits P t (.struct fs) size bytes zero) : ∃ gs : Array Field, P.underlying t = some (.struct gs) ∧ gs.toList.map (fun f => (f.offset, f.type)) = fs := by
  obtain ⟨x, h1, h2⟩ := h.underlying
  cases x <;> simp [descOf] at h2
  exact ⟨_, h1, h2⟩
end

/-! inversions -/
section
variable {I : Imm}
theorem V.int_inv {k : IntKind} {n : Int} {v : Value} (h : V I (.int k n) v) : v = .int k n := by cases h; rfl
theorem V.bool_inv {b : Bool} {v : Value} (h : V I (.bool b) v) : v = .bool b := by cases h; rfl
theorem V.str_inv {s : List UInt8} {v : Value} (h : V I (.str s) v) : v = .string ⟨s.toArray⟩ := by cases h; rfl
theorem V.raw_inv {x v : Value} (h : V I (.raw x) v) : v = x := by cases h; rfl
theorem V.agg_inv {cs : List HVal} {v : Value} (h : V I (.agg cs) v) : ∃ vs : Array Value, v = .agg vs ∧ VL I cs vs.toList := by
  cases h with
  | agg hl hV => exact ⟨_, rfl, by simpa using hl, fun j c v h1 h2 => hV j c v h1 (by simpa using h2)⟩
theorem V.tup_inv {cs : List HVal} {v : Value} (h : V I (.tup cs) v) : ∃ vs : Array Value, v = .tuple vs ∧ VL I cs vs.toList := by
  cases h with
  | tup hl hV => exact ⟨_, rfl, by simpa using hl, fun j c v h1 h2 => hV j c v h1 (by simpa using h2)⟩
theorem V.fn_inv {f : Fn} {c1 c2 : List HVal} {v : Value} (h : V I (.fn f c1 c2) v) : ∃ v1 v2 : Array Value, v = .func f v1 v2 ∧ VL I c1 v1.toList ∧ VL I c2 v2.toList := by
  cases h with
  | fn hl1 hl2 h1 h2 => exact ⟨_, _, rfl, ⟨by simpa using hl1, fun j c v a b => h1 j c v a (by simpa using b)⟩, ⟨by simpa using hl2, fun j c v a b => h2 j c v a (by simpa using b)⟩⟩
theorem V.mk_agg {cs : List HVal} {vs : Array Value} (h : VL I cs vs.toList) : V I (.agg cs) (.agg vs) :=
  .agg (by simpa using h.1) fun j c v h1 h2 => h.2 j c v h1 (by simpa using h2)
theorem V.mk_tup {cs : List HVal} {vs : Array Value} (h : VL I cs vs.toList) : V I (.tup cs) (.tuple vs) :=
  .tup (by simpa using h.1) fun j c v h1 h2 => h.2 j c v h1 (by simpa using h2)
theorem V.vptr_inv {cs : List HVal} {off : Nat} {v : Value} (h : V I (.vptr cs off) v) : ∃ b base rc el fr, v = .pointer (some ⟨b, base + off, none⟩) ∧ I.heap b = some (.cells rc el fr) ∧ base + cs.length ≤ rc.size ∧
    ∀ (j : Nat) (c : HVal) (v : Value), cs[j]? = some c → rc[base + j]? = some v → V I c v := by
  cases h with
  | vptr hI hb hV => exact ⟨_, _, _, _, _, rfl, hI, hb, hV⟩
theorem V.slice_inv {sz : Nat} {es : List HVal} {v : Value} (h : V I (.slice sz es) v) : (es = [] ∧ ∃ a cap, v = .slice a 0 cap) ∨
    ∃ b off cap rc el fr, v = .slice (some ⟨b, off, none⟩) es.length cap ∧ I.heap b = some (.cells rc el fr) ∧ (∀ e ∈ es, (hcells e).length = sz) ∧ es.length ≤ cap ∧ off + es.length * sz ≤ rc.size ∧
      ∀ (i j : Nat) (e c : HVal) (v : Value), es[i]? = some e → (hcells e)[j]? = some c → rc[off + i * sz + j]? = some v → V I c v := by
  cases h with
  | slice0 sz a cap => exact .inl ⟨rfl, a, cap, rfl⟩
  | slice hI hsz hcap hb hV => exact .inr ⟨_, _, _, _, _, _, rfl, hI, hsz, hcap, hb, hV⟩
theorem V.slice_len {sz : Nat} {es : List HVal} {v : Value} (h : V I (.slice sz es) v) : ∃ a cap, v = .slice a es.length cap := by
  rcases h.slice_inv with ⟨rfl, a, cap, rfl⟩ | ⟨b, off, cap, rc, el, fr, rfl, _⟩
  · exact ⟨a, cap, rfl⟩
  · exact ⟨_, cap, rfl⟩
end

section
variable {P : Program} {e : Env} {dst : Option Tmp} {ty : TypeId} {pos : String} {af : Array Edge} {g : Option (Nat × Bool)}

theorem Opds.one {I : Imm} {e : Env} {a : Act} {o : Oper} (h : Opds I e a o) {x : Operand} (hx : x ∈ o.op.operands) {c : HVal} (hc : evalO e x = some c) : V I c (a.eval x) := h x hx c hc

/-! copies -/
theorem pop_move {x : Operand} {h : HVal} (hx : evalO e x = some h) : POp P e ⟨dst, .move x, ty, pos, af, g⟩ h :=
  POp.of_val fun I a w ho => ⟨a.eval x, rfl, ho.one (by simp [Op.operands]) hx⟩
theorem pop_assign {x : Operand} {h : HVal} (hx : evalO e x = some h) : POp P e ⟨dst, .assign x, ty, pos, af, g⟩ h :=
  POp.of_val fun I a w ho => ⟨a.eval x, rfl, ho.one (by simp [Op.operands]) hx⟩
theorem pop_weak {o : Oper} {h h' : HVal} (hw : Weak h h') (hp : POp P e o h) : POp P e o h' :=
  fun I F a w ho hs => Oper.wp_noQ (fun _ _ ⟨v, J, h1, h2, h3, h4⟩ => ⟨v, J, h1, h2, hw _ _ h3, h4⟩) (hp I F a w ho hs)

theorem pop_eq {o : Oper} {h h' : HVal} (hp : POp P e o h) (hh : h = h') : POp P e o h' := hh ▸ hp

theorem pop_pick_t {x y z : Operand} {h : HVal} (hx : evalO e x = some (.bool true)) (hy : evalO e y = some h) : POp P e ⟨dst, .pick x y z, ty, pos, af, g⟩ h :=
  POp.of_val fun I a w ho => ⟨a.eval y, by
    have h1 := (ho.one (x := x) (by simp [Op.operands]) hx).bool_inv
    simp [execOp, h1, asBool], ho.one (by simp [Op.operands]) hy⟩
theorem pop_pick_f {x y z : Operand} {h : HVal} (hx : evalO e x = some (.bool false)) (hy : evalO e z = some h) : POp P e ⟨dst, .pick x y z, ty, pos, af, g⟩ h :=
  POp.of_val fun I a w ho => ⟨a.eval z, by
    have h1 := (ho.one (x := x) (by simp [Op.operands]) hx).bool_inv
    simp [execOp, h1, asBool], ho.one (by simp [Op.operands]) hy⟩
theorem pop_pick {x y z : Operand} {b c d : Bool} (hx : evalO e x = some (.bool b)) (hy : evalO e y = some (.bool c)) (hz : evalO e z = some (.bool d)) :
    POp P e ⟨dst, .pick x y z, ty, pos, af, g⟩ (.bool (bif b then c else d)) := by
  cases b
  · exact pop_pick_f hx hz
  · exact pop_pick_t hx hy

/-- The operands of a choice may be under conditions. -/
def boolIf (e : Env) (x : Operand) (c : Bool) (b : Bool) : Prop := evalO e x = some (.bool b) ∨ ∃ c', evalO e x = some (.opt c' (.bool b)) ∧ (c = true → c' = true)
theorem pop_picko {x y z : Operand} {b p q : Bool} (hx : evalO e x = some (.bool b)) (hy : boolIf e y b p) (hz : boolIf e z (!b) q) :
    POp P e ⟨dst, .pick x y z, ty, pos, af, g⟩ (.bool (bif b then p else q)) :=
  POp.of_val fun I a w ho => by
    have h1 := (ho.one (x := x) (by simp [Op.operands]) hx).bool_inv
    have key : ∀ (u : Operand), u ∈ (⟨dst, .pick x y z, ty, pos, af, g⟩ : Oper).op.operands → ∀ c r, boolIf e u c r → c = true → V I (.bool r) (a.eval u) := fun u hu c r hb hc => by
      rcases hb with hb | ⟨c', hb, hcc⟩
      · exact ho.one hu hb
      · have := ho.one hu hb
        cases this with
        | opt h3 _ => exact h3 (hcc hc)
    cases b with
    | true => exact ⟨a.eval y, by simp [execOp, h1, asBool], key y (by simp [Op.operands]) _ _ hy rfl⟩
    | false => exact ⟨a.eval z, by simp [execOp, h1, asBool], key z (by simp [Op.operands]) _ _ hz rfl⟩

/-! integers -/
section
variable {x y : Operand} {k : IntKind} {m n : Int} {t t' : TypeId}
theorem pop_add (hx : evalO e x = some (.int k m)) (hy : evalO e y = some (.int k n)) : POp P e ⟨dst, .binOp .add t x y t', ty, pos, af, g⟩ (.int k (k.wrap (m + n))) :=
  POp.of_val fun I a w ho => ⟨.int k (k.wrap (m + n)), by
    have h1 := (ho.one (x := x) (by simp [Op.operands]) hx).int_inv
    have h2 := (ho.one (x := y) (by simp [Op.operands]) hy).int_inv
    simp [execOp, h1, h2, eqGuard, binOp, Op.intArith], .int _ _⟩
theorem pop_sub (hx : evalO e x = some (.int k m)) (hy : evalO e y = some (.int k n)) : POp P e ⟨dst, .binOp .sub t x y t', ty, pos, af, g⟩ (.int k (k.wrap (m - n))) :=
  POp.of_val fun I a w ho => ⟨.int k (k.wrap (m - n)), by
    have h1 := (ho.one (x := x) (by simp [Op.operands]) hx).int_inv
    have h2 := (ho.one (x := y) (by simp [Op.operands]) hy).int_inv
    simp [execOp, h1, h2, eqGuard, binOp, Op.intArith], .int _ _⟩
theorem pop_mul (hx : evalO e x = some (.int k m)) (hy : evalO e y = some (.int k n)) : POp P e ⟨dst, .binOp .mul t x y t', ty, pos, af, g⟩ (.int k (k.wrap (m * n))) :=
  POp.of_val fun I a w ho => ⟨.int k (k.wrap (m * n)), by
    have h1 := (ho.one (x := x) (by simp [Op.operands]) hx).int_inv
    have h2 := (ho.one (x := y) (by simp [Op.operands]) hy).int_inv
    simp [execOp, h1, h2, eqGuard, binOp, Op.intArith], .int _ _⟩
theorem pop_quo (hx : evalO e x = some (.int k m)) (hy : evalO e y = some (.int k n)) (hn : n ≠ 0) : POp P e ⟨dst, .binOp .quo t x y t', ty, pos, af, g⟩ (.int k (k.wrap (m.tdiv n))) :=
  POp.of_val fun I a w ho => ⟨.int k (k.wrap (m.tdiv n)), by
    have h1 := (ho.one (x := x) (by simp [Op.operands]) hx).int_inv
    have h2 := (ho.one (x := y) (by simp [Op.operands]) hy).int_inv
    simp [execOp, h1, h2, eqGuard, binOp, Op.intDiv, hn], .int _ _⟩
theorem pop_rem (hx : evalO e x = some (.int k m)) (hy : evalO e y = some (.int k n)) (hn : n ≠ 0) : POp P e ⟨dst, .binOp .rem t x y t', ty, pos, af, g⟩ (.int k (m.tmod n)) :=
  POp.of_val fun I a w ho => ⟨.int k (m.tmod n), by
    have h1 := (ho.one (x := x) (by simp [Op.operands]) hx).int_inv
    have h2 := (ho.one (x := y) (by simp [Op.operands]) hy).int_inv
    simp [execOp, h1, h2, eqGuard, binOp, Op.intDiv, hn], .int _ _⟩
theorem wrap64 {n : Int} (h1 : -9223372036854775808 ≤ n) (h2 : n ≤ 9223372036854775807) : IntKind.wrap .i64 n = n := by
  simp [IntKind.wrap, IntKind.bits, IntKind.signed]; omega
theorem pop_add64 (hx : evalO e x = some (.int .i64 m)) (hy : evalO e y = some (.int .i64 n)) (h1 : -9223372036854775808 ≤ m + n) (h2 : m + n ≤ 9223372036854775807) :
    POp P e ⟨dst, .binOp .add t x y t', ty, pos, af, g⟩ (.int .i64 (m + n)) := by
  have := pop_add (P := P) (dst := dst) (ty := ty) (pos := pos) (af := af) (g := g) (t := t) (t' := t') hx hy
  rwa [wrap64 h1 h2] at this
theorem pop_sub64 (hx : evalO e x = some (.int .i64 m)) (hy : evalO e y = some (.int .i64 n)) (h1 : -9223372036854775808 ≤ m - n) (h2 : m - n ≤ 9223372036854775807) :
    POp P e ⟨dst, .binOp .sub t x y t', ty, pos, af, g⟩ (.int .i64 (m - n)) := by
  have := pop_sub (P := P) (dst := dst) (ty := ty) (pos := pos) (af := af) (g := g) (t := t) (t' := t') hx hy
  rwa [wrap64 h1 h2] at this
theorem pop_mul64 (hx : evalO e x = some (.int .i64 m)) (hy : evalO e y = some (.int .i64 n)) (h1 : -9223372036854775808 ≤ m * n) (h2 : m * n ≤ 9223372036854775807) :
    POp P e ⟨dst, .binOp .mul t x y t', ty, pos, af, g⟩ (.int .i64 (m * n)) := by
  have := pop_mul (P := P) (dst := dst) (ty := ty) (pos := pos) (af := af) (g := g) (t := t) (t' := t') hx hy
  rwa [wrap64 h1 h2] at this
theorem pop_quo64 (hx : evalO e x = some (.int .i64 m)) (hy : evalO e y = some (.int .i64 n)) (hn : 0 < n) (h1 : -9223372036854775808 ≤ m) (h2 : m ≤ 9223372036854775807) :
    POp P e ⟨dst, .binOp .quo t x y t', ty, pos, af, g⟩ (.int .i64 (m.tdiv n)) := by
  have := pop_quo (P := P) (dst := dst) (ty := ty) (pos := pos) (af := af) (g := g) (t := t) (t' := t') hx hy (by omega)
  have hb : -9223372036854775808 ≤ m.tdiv n ∧ m.tdiv n ≤ 9223372036854775807 := by
    have h3 : (m.tdiv n).natAbs ≤ m.natAbs := by rw [Int.natAbs_tdiv]; exact Nat.div_le_self _ _
    by_cases hm : 0 ≤ m
    · have := Int.tdiv_nonneg hm (by omega : 0 ≤ n); omega
    · have := Int.tdiv_nonneg (by omega : 0 ≤ -m) (by omega : 0 ≤ n); rw [Int.neg_tdiv] at this; omega
  rwa [wrap64 hb.1 hb.2] at this
theorem pop_eql (hx : evalO e x = some (.int k m)) (hy : evalO e y = some (.int k n)) : POp P e ⟨dst, .binOp .eql t x y t', ty, pos, af, g⟩ (.bool (m == n)) :=
  POp.of_val fun I a w ho => ⟨.bool (m == n), by
    have h1 := (ho.one (x := x) (by simp [Op.operands]) hx).int_inv
    have h2 := (ho.one (x := y) (by simp [Op.operands]) hy).int_inv
    simp [execOp, h1, h2, eqGuard, binOp, Op.intCmp], .bool _⟩
theorem pop_neq (hx : evalO e x = some (.int k m)) (hy : evalO e y = some (.int k n)) : POp P e ⟨dst, .binOp .neq t x y t', ty, pos, af, g⟩ (.bool (m != n)) :=
  POp.of_val fun I a w ho => ⟨.bool (m != n), by
    have h1 := (ho.one (x := x) (by simp [Op.operands]) hx).int_inv
    have h2 := (ho.one (x := y) (by simp [Op.operands]) hy).int_inv
    simp [execOp, h1, h2, eqGuard, binOp, Op.intCmp], .bool _⟩
theorem pop_lss (hx : evalO e x = some (.int k m)) (hy : evalO e y = some (.int k n)) : POp P e ⟨dst, .binOp .lss t x y t', ty, pos, af, g⟩ (.bool (decide (m < n))) :=
  POp.of_val fun I a w ho => ⟨.bool (decide (m < n)), by
    have h1 := (ho.one (x := x) (by simp [Op.operands]) hx).int_inv
    have h2 := (ho.one (x := y) (by simp [Op.operands]) hy).int_inv
    simp [execOp, h1, h2, eqGuard, binOp, Op.intCmp], .bool _⟩
theorem pop_leq (hx : evalO e x = some (.int k m)) (hy : evalO e y = some (.int k n)) : POp P e ⟨dst, .binOp .leq t x y t', ty, pos, af, g⟩ (.bool (decide (m ≤ n))) :=
  POp.of_val fun I a w ho => ⟨.bool (decide (m ≤ n)), by
    have h1 := (ho.one (x := x) (by simp [Op.operands]) hx).int_inv
    have h2 := (ho.one (x := y) (by simp [Op.operands]) hy).int_inv
    simp [execOp, h1, h2, eqGuard, binOp, Op.intCmp], .bool _⟩
theorem pop_gtr (hx : evalO e x = some (.int k m)) (hy : evalO e y = some (.int k n)) : POp P e ⟨dst, .binOp .gtr t x y t', ty, pos, af, g⟩ (.bool (decide (n < m))) :=
  POp.of_val fun I a w ho => ⟨.bool (decide (n < m)), by
    have h1 := (ho.one (x := x) (by simp [Op.operands]) hx).int_inv
    have h2 := (ho.one (x := y) (by simp [Op.operands]) hy).int_inv
    simp [execOp, h1, h2, eqGuard, binOp, Op.intCmp], .bool _⟩
theorem pop_geq (hx : evalO e x = some (.int k m)) (hy : evalO e y = some (.int k n)) : POp P e ⟨dst, .binOp .geq t x y t', ty, pos, af, g⟩ (.bool (decide (n ≤ m))) :=
  POp.of_val fun I a w ho => ⟨.bool (decide (n ≤ m)), by
    have h1 := (ho.one (x := x) (by simp [Op.operands]) hx).int_inv
    have h2 := (ho.one (x := y) (by simp [Op.operands]) hy).int_inv
    simp [execOp, h1, h2, eqGuard, binOp, Op.intCmp], .bool _⟩
theorem pop_neg64 (hx : evalO e x = some (.int .i64 m)) (h1 : -9223372036854775807 ≤ m) (h2 : m ≤ 9223372036854775807) : POp P e ⟨dst, .unOp .neg t x, ty, pos, af, g⟩ (.int .i64 (-m)) :=
  POp.of_val fun I a w ho => ⟨.int .i64 (-m), by
    have h1 := (ho.one (x := x) (by simp [Op.operands]) hx).int_inv
    simp only [execOp, h1, Op.unary, Op.intArith, Sem.run_bind, Sem.run_pure, Result.andThen_ok]
    rw [wrap64 (by omega) (by omega), Int.zero_sub], .int _ _⟩
theorem pop_conv {d' : TypeId} {k' : IntKind} {s1 s2 b1 b2 : Nat} {z1 z2 : Value} {ds : TD} (hs : Fits P t ds s1 b1 z1) (hf : Fits P d' (.int k') s2 b2 z2) (hx : evalO e x = some (.int k m)) :
    POp P e ⟨dst, .convert t d' x, ty, pos, af, g⟩ (.int k' (k'.wrap m)) :=
  POp.of_val fun I a w ho => ⟨.int k' (k'.wrap m), by
    have h1 := (ho.one (x := x) (by simp [Op.operands]) hx).int_inv
    obtain ⟨u, hu, _⟩ := hs.underlying
    simp only [execOp, h1, convert, Sem.run_bind, run_underlying hu, run_underlying hf.intD, Result.andThen_ok, Sem.run_pure, Conv.intToInt], .int _ _⟩
end
theorem pop_not {x : Operand} {b : Bool} {t : TypeId} (hx : evalO e x = some (.bool b)) : POp P e ⟨dst, .unOp .not t x, ty, pos, af, g⟩ (.bool (!b)) :=
  POp.of_val fun I a w ho => ⟨.bool (!b), by
    have h1 := (ho.one (x := x) (by simp [Op.operands]) hx).bool_inv
    simp [execOp, h1, Op.unary], .bool _⟩
theorem run_equal_bool {t : TypeId} (hu : P.underlying t = some .bool) (b c : Bool) (w : World) : (Op.equal t (.bool b) (.bool c)).run P w = .ok (b == c) w := by
  have h : ∀ d, (Op.equalIn (d + 1) t (.bool b) (.bool c)).run P w = .ok (b == c) w := fun d => by
    simp only [Op.equalIn, Sem.run_bind, run_underlying hu, Result.andThen_ok, Sem.run_pure]
  exact h 9999
theorem pop_eqlb {x y : Operand} {b c : Bool} {t t' : TypeId} {s by' : Nat} {z : Value} (hf : Fits P t .bool s by' z) (hx : evalO e x = some (.bool b)) (hy : evalO e y = some (.bool c)) :
    POp P e ⟨dst, .binOp .eql t x y t', ty, pos, af, g⟩ (.bool (b == c)) :=
  POp.of_val fun I a w ho => ⟨.bool (b == c), by
    have h1 := (ho.one (x := x) (by simp [Op.operands]) hx).bool_inv
    have h2 := (ho.one (x := y) (by simp [Op.operands]) hy).bool_inv
    simp [execOp, h1, h2, eqGuard, binOp, run_equal_bool hf.boolD], .bool _⟩
theorem pop_neqb {x y : Operand} {b c : Bool} {t t' : TypeId} {s by' : Nat} {z : Value} (hf : Fits P t .bool s by' z) (hx : evalO e x = some (.bool b)) (hy : evalO e y = some (.bool c)) :
    POp P e ⟨dst, .binOp .neq t x y t', ty, pos, af, g⟩ (.bool (!(b == c))) :=
  POp.of_val fun I a w ho => ⟨.bool (!(b == c)), by
    have h1 := (ho.one (x := x) (by simp [Op.operands]) hx).bool_inv
    have h2 := (ho.one (x := y) (by simp [Op.operands]) hy).bool_inv
    simp [execOp, h1, h2, eqGuard, binOp, run_equal_bool hf.boolD], .bool _⟩

/-! strings -/
section
variable {x y : Operand} {s u : List UInt8} {t t' : TypeId}
theorem str_run (op : BinOp) {a : Act} {w : World} (h1 : a.eval x = .string ⟨s.toArray⟩) (h2 : a.eval y = .string ⟨u.toArray⟩) (hop : op ≠ .shl ∧ op ≠ .shr) :
    (execOp a.eval ⟨dst, .binOp op t x y t', ty, pos, af, g⟩).run P w = ((Op.stringOp op ⟨s.toArray⟩ ⟨u.toArray⟩).run P w).andThen (fun v w => .ok (.value v) w) := by
  cases op <;> simp [execOp, h1, h2, eqGuard, binOp] at hop ⊢
theorem pop_eqls (hx : evalO e x = some (.str s)) (hy : evalO e y = some (.str u)) : POp P e ⟨dst, .binOp .eql t x y t', ty, pos, af, g⟩ (.bool (s == u)) :=
  POp.of_val fun I a w ho => ⟨.bool (s == u), by
    rw [str_run .eql (ho.one (x := x) (by simp [Op.operands]) hx).str_inv (ho.one (x := y) (by simp [Op.operands]) hy).str_inv (by simp)]
    simp [Op.stringOp, ByteArray.toList_eq], .bool _⟩
theorem pop_neqs (hx : evalO e x = some (.str s)) (hy : evalO e y = some (.str u)) : POp P e ⟨dst, .binOp .neq t x y t', ty, pos, af, g⟩ (.bool (!(s == u))) :=
  POp.of_val fun I a w ho => ⟨.bool (!(s == u)), by
    rw [str_run .neq (ho.one (x := x) (by simp [Op.operands]) hx).str_inv (ho.one (x := y) (by simp [Op.operands]) hy).str_inv (by simp)]
    simp [Op.stringOp, ByteArray.toList_eq], .bool _⟩
theorem pop_lsss (hx : evalO e x = some (.str s)) (hy : evalO e y = some (.str u)) : POp P e ⟨dst, .binOp .lss t x y t', ty, pos, af, g⟩ (.bool (Op.bytesLess s u)) :=
  POp.of_val fun I a w ho => ⟨.bool (Op.bytesLess s u), by
    rw [str_run .lss (ho.one (x := x) (by simp [Op.operands]) hx).str_inv (ho.one (x := y) (by simp [Op.operands]) hy).str_inv (by simp)]
    simp [Op.stringOp, ByteArray.toList_eq], .bool _⟩
theorem pop_leqs (hx : evalO e x = some (.str s)) (hy : evalO e y = some (.str u)) : POp P e ⟨dst, .binOp .leq t x y t', ty, pos, af, g⟩ (.bool (Op.bytesLess s u || s == u)) :=
  POp.of_val fun I a w ho => ⟨.bool (Op.bytesLess s u || s == u), by
    rw [str_run .leq (ho.one (x := x) (by simp [Op.operands]) hx).str_inv (ho.one (x := y) (by simp [Op.operands]) hy).str_inv (by simp)]
    simp [Op.stringOp, ByteArray.toList_eq], .bool _⟩
theorem pop_gtrs (hx : evalO e x = some (.str s)) (hy : evalO e y = some (.str u)) : POp P e ⟨dst, .binOp .gtr t x y t', ty, pos, af, g⟩ (.bool (!(Op.bytesLess s u || s == u))) :=
  POp.of_val fun I a w ho => ⟨.bool (!(Op.bytesLess s u || s == u)), by
    rw [str_run .gtr (ho.one (x := x) (by simp [Op.operands]) hx).str_inv (ho.one (x := y) (by simp [Op.operands]) hy).str_inv (by simp)]
    simp [Op.stringOp, ByteArray.toList_eq], .bool _⟩
theorem pop_geqs (hx : evalO e x = some (.str s)) (hy : evalO e y = some (.str u)) : POp P e ⟨dst, .binOp .geq t x y t', ty, pos, af, g⟩ (.bool (!(Op.bytesLess s u))) :=
  POp.of_val fun I a w ho => ⟨.bool (!(Op.bytesLess s u)), by
    rw [str_run .geq (ho.one (x := x) (by simp [Op.operands]) hx).str_inv (ho.one (x := y) (by simp [Op.operands]) hy).str_inv (by simp)]
    simp [Op.stringOp, ByteArray.toList_eq], .bool _⟩
theorem pop_adds (hx : evalO e x = some (.str s)) (hy : evalO e y = some (.str u)) (hl : s.length + u.length ≤ 9223372036854775807) : POp P e ⟨dst, .binOp .add t x y t', ty, pos, af, g⟩ (.str (s ++ u)) :=
  POp.of_val fun I a w ho => ⟨.string ⟨(s ++ u).toArray⟩, by
    rw [str_run .add (ho.one (x := x) (by simp [Op.operands]) hx).str_inv (ho.one (x := y) (by simp [Op.operands]) hy).str_inv (by simp)]
    have h1 : ¬ (((⟨s.toArray⟩ : ByteArray).size + (⟨u.toArray⟩ : ByteArray).size : Nat) : Int) > IntKind.i64.max := by
      have : IntKind.i64.max = 9223372036854775807 := by decide
      rw [this]; simp [ByteArray.size]; omega
    simp only [Op.stringOp, if_neg h1, Sem.run_pure, Result.andThen_ok]
    congr 4, .str _⟩
theorem pop_indexs {k : IntKind} {i : Int} {j : Nat} {b : UInt8} {sz by' : Nat} {z : Value} (hf : Fits P t .str sz by' z) (hx : evalO e x = some (.str s)) (hy : evalO e y = some (.int k i)) (hi : i = (j : Int)) (hj : s[j]? = some b) :
    POp P e ⟨dst, .index t x y, ty, pos, af, g⟩ (.int .u8 b.toNat) :=
  POp.of_val fun I a w ho => ⟨.int .u8 b.toNat, by
    have h1 := (ho.one (x := x) (by simp [Op.operands]) hx).str_inv
    have h2 := (ho.one (x := y) (by simp [Op.operands]) hy).int_inv
    subst hi
    have h3 : (⟨s.toArray⟩ : ByteArray)[j]? = some b := by
      have hlt : j < s.length := by
        rcases Nat.lt_or_ge j s.length with h | h
        · exact h
        · simp [List.getElem?_eq_none h] at hj
      have hs : j < (⟨s.toArray⟩ : ByteArray).size := by simpa [ByteArray.size] using hlt
      rw [getElem?_pos (⟨s.toArray⟩ : ByteArray) j hs]
      rw [List.getElem?_eq_getElem hlt] at hj
      rw [← hj]; rfl
    simp [execOp, h1, h2, Instr.index, asIntOf, run_underlying hf.strD, h3], .int _ _⟩
end

/-! tuples, structs -/
theorem pop_extract {x : Operand} {vs : List HVal} {h : HVal} {i : Nat} (hx : evalO e x = some (.tup vs)) (hi : vs[i]? = some h) : POp P e ⟨dst, .extract x i, ty, pos, af, g⟩ h :=
  POp.of_val fun I a w ho => by
    obtain ⟨rs, h1, h2⟩ := (ho.one (x := x) (by simp [Op.operands]) hx).tup_inv
    obtain ⟨v, h3, h4⟩ := h2.get hi
    refine ⟨v, ?_, h4⟩
    have h5 : rs[i]? = some v := by simpa using h3
    simp [execOp, h1, Instr.extract, h5]
end

end Go.HL
