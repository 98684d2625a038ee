/- More rules: a slice against nil, empty literals, shifts, equal structs, maps, functions without a body; over any program; no conditions. -/
import Derived.Test.YtfeimpgcpjoilaaGreatDoorHl8
import Derived.Laws.StructEq
import Derived.Lib.Bytealg
namespace Go.HL
section
variable {P : Program} {e : Env} {dst : Option Tmp} {ty : TypeId} {pos : String} {af : Array Edge} {g : Option (Nat × Bool)} {M : List MObj} {K : HVal → List MObj → Prop}

theorem run_equal_nil {t el : TypeId} (hu : P.underlying t = some (.slice el)) (a : Option Addr) (n cap : Nat) (w : World) : (Op.equal t (.slice a n cap) (.slice none 0 0)).run P w = .ok a.isNone w := by
  have h : ∀ d, (Op.equalIn (d + 1) t (.slice a n cap) (.slice none 0 0)).run P w = .ok a.isNone w := fun d => by
    cases a <;> simp only [Op.equalIn, Sem.run_bind, run_underlying hu, Result.andThen_ok, Sem.run_pure, Option.isNone]
  exact h 9999
theorem eop_eqnil {x y : Operand} {t t' el : TypeId} {size bytes sz : Nat} {zero : Value} {es : List HVal} (hf : Fits P t (.slice el) size bytes zero) (hx : evalO e x = some (.slice sz es)) (hy : evalO e y = some (.raw (.slice none 0 0)))
    (hk : ∀ b : Bool, (b = true → es = []) → K (.bool b) M) : EOp P e M ⟨dst, .binOp .eql t x y t', ty, pos, af, g⟩ K :=
  EOp.of_run fun I F a w ho hs => by
    have hv := ho.one (x := x) (by simp [Op.operands]) hx
    have h2 := (ho.one (x := y) (by simp [Op.operands]) hy).raw_inv
    obtain ⟨p, cap, h1⟩ := hv.slice_len
    refine ⟨.bool p.isNone, _, M, w, I, ?_, .refl I, hk p.isNone ?_, .bool _, hs⟩
    · simp [execOp, h1, h2, eqGuard, binOp, run_equal_nil hf.slice]
    · intro hp
      rcases hv.slice_inv with ⟨rfl, _⟩ | ⟨b, off, cap', rc, el', fr, h3, _⟩
      · rfl
      · rw [h1] at h3
        simp at h3
        rw [h3.1] at hp
        simp at hp
theorem eop_mk0 {t el : TypeId} {size bytes sz b2 : Nat} {zero z2 : Value} {d : TD} (hf : Fits P t (.slice el) size bytes zero) (hel : Fits P el d sz b2 z2) (hk : ∀ v, K (.raw v) (.arr v sz [] :: M)) :
    EOp P e M ⟨dst, .buildSlice t 0 #[], ty, pos, af, g⟩ K :=
  EOp.of_run fun I F a w ho hs => by
    refine ⟨.slice (some ⟨w.heap.size, 0, none⟩) 0 0, _, _, push w (.cells #[] el (0, 0)), I, ?_, .refl I, hk _, .raw _ rfl, ?_⟩
    · simp [execOp, Instr.buildSlice, run_underlying hf.slice, hel.run_sizeOf, Instr.fill, newRow]
      have : Array.range 0 = #[] := by simp [Array.range]
      rw [this, Array.map_empty]
    · refine hs.new_own _ _ rfl (.inr ⟨w.heap.size, 0, 0, #[], el, (0, 0), rfl, by simp [push], Free.zero _, by simp, by simp, by simp, fun i j x c u h => by simp at h⟩)

theorem pop_shr {x y : Operand} {t t' : TypeId} {k k' : IntKind} {m n : Int} (hx : evalO e x = some (.int k m)) (hy : evalO e y = some (.int k' n)) (hn : 0 ≤ n) :
    POp P e ⟨dst, .binOp .shr t x y t', ty, pos, af, g⟩ (.int k (m.fdiv (2 ^ min n.toNat k.bits))) :=
  POp.of_val fun I a w ho => ⟨_, by
    have h1 := (ho.one (x := x) (by simp [Op.operands]) hx).int_inv
    have h2 := (ho.one (x := y) (by simp [Op.operands]) hy).int_inv
    have h3 : ¬ n < 0 := by omega
    simp [execOp, h1, h2, eqGuard, binOp, Op.shift, h3], .int _ _⟩

/-! equal structs of single cells -/
def eqH : HVal → HVal → Bool
  | .int _ a, .int _ b => a == b
  | .str a, .str b => a == b
  | .bool a, .bool b => a == b
  | _, _ => false
def eqHL : List HVal → List HVal → Bool
  | [], [] => true
  | a :: r, b :: r' => eqH a b && eqHL r r'
  | _, _ => false
/-- The two contents are scalars of the kind of the type. -/
def sameKind : TD → HVal → HVal → Bool
  | .int k, .int k1 _, .int k2 _ => decide (k1 = k2)
  | .str, .str _, .str _ => true
  | .bool, .bool _, .bool _ => true
  | _, _, _ => false
def kinds (P : Program) : List (Nat × Nat) → Nat → List HVal → List HVal → Prop
  | [], _, [], [] => True
  | f :: fs, k, a :: r, b :: r' => f.1 = k ∧ (∃ d s by' z, Fits P f.2 d s by' z ∧ sameKind d a b = true) ∧ kinds P fs (k + 1) r r'
  | _, _, _, _ => False

theorem run_equal_scalar {t : TypeId} {d : TD} {s by' : Nat} {z : Value} (hf : Fits P t d s by' z) {a b : HVal} (hk : sameKind d a b = true) {I : Imm} {u v : Value} (hu : V I a u) (hv : V I b v) (n : Nat) (w : World) :
    (Op.equalIn (n + 1) t u v).run P w = .ok (eqH a b) w := by
  cases d <;> cases a <;> cases b <;> first | (simp [sameKind] at hk; done) | skip
  · rw [hu.bool_inv, hv.bool_inv]
    simp only [Op.equalIn, Sem.run_bind, run_underlying hf.boolD, Result.andThen_ok, Sem.run_pure, eqH]
  · simp [sameKind] at hk
    subst hk
    rw [hu.int_inv, hv.int_inv]
    simp only [Op.equalIn, Sem.run_bind, run_underlying hf.intD, Result.andThen_ok, Sem.run_pure, eqH, if_true]
  · rw [hu.str_inv, hv.str_inv]
    simp only [Op.equalIn, Sem.run_bind, run_underlying hf.strD, Result.andThen_ok, Sem.run_pure, eqH]
    congr 1
    rw [beq_toListBytes, ByteArray.toList_eq, ByteArray.toList_eq]

theorem run_part {t : TypeId} {d : TD} {s by' : Nat} {z : Value} (hf : Fits P t d s by' z) (hd : d.isAgg = false) {cs : Array Value} {o : Nat} {v : Value} (hv : cs[o]? = some v) (w : World) : (part t cs o).run P w = .ok v w := by
  simp [part, hf.run_isAgg, hd, hv]
theorem sameKind_agg {d : TD} {a b : HVal} (h : sameKind d a b = true) : d.isAgg = false := by
  cases d <;> simp [sameKind, TD.isAgg] at h ⊢

theorem run_eqFields {I : Imm} {xs ys : Array Value} {cs ds : List HVal} (hx : VL I cs xs.toList) (hy : VL I ds ys.toList) (n : Nat) (w : World) :
    ∀ (fs : List Field) (k : Nat), (∀ f ∈ fs, f.name ≠ "_") → kinds P (fs.map fun f => (f.offset, f.type)) k (cs.drop k) (ds.drop k) → (Op.eqFields (n + 1) xs ys fs).run P w = .ok (eqHL (cs.drop k) (ds.drop k)) w
  | [], k, _, hk => by
    simp only [List.map_nil] at hk
    cases hc : cs.drop k with
    | nil =>
      cases hd : ds.drop k with
      | nil => simp [Op.eqFields, eqHL]
      | cons _ _ => rw [hc, hd] at hk; exact hk.elim
    | cons _ _ =>
      cases hd : ds.drop k with
      | nil => rw [hc, hd] at hk; exact hk.elim
      | cons _ _ => rw [hc, hd] at hk; exact hk.elim
  | f :: fs, k, hn, hk => by
    simp only [List.map_cons] at hk
    cases hc : cs.drop k with
    | nil =>
      cases hd : ds.drop k with
      | nil => rw [hc, hd] at hk; exact hk.elim
      | cons _ _ => rw [hc, hd] at hk; exact hk.elim
    | cons a r =>
      cases hd : ds.drop k with
      | nil => rw [hc, hd] at hk; exact hk.elim
      | cons b r' =>
        rw [hc, hd] at hk
        obtain ⟨h1, ⟨d, s, by', z, h2, h3⟩, h4⟩ := hk
        simp only at h1 h2
        have ha : cs[k]? = some a := by have := congrArg (fun l : List HVal => l[0]?) hc; simpa using this
        have hb : ds[k]? = some b := by have := congrArg (fun l : List HVal => l[0]?) hd; simpa using this
        obtain ⟨u, hu, hu'⟩ := hx.get ha
        obtain ⟨v, hv, hv'⟩ := hy.get hb
        have hr : cs.drop (k + 1) = r := by rw [← List.drop_drop (i := 1), hc]; rfl
        have hr' : ds.drop (k + 1) = r' := by rw [← List.drop_drop (i := 1), hd]; rfl
        have ih := run_eqFields hx hy n w fs (k + 1) (fun f hf => hn f (by simp [hf])) (by rw [hr, hr']; exact h4)
        rw [hr, hr'] at ih
        subst h1
        have hag := sameKind_agg h3
        simp only [Op.eqFields]
        rw [if_pos (hn f (by simp))]
        simp only [Sem.run_bind, run_part h2 hag (by simpa using hu), run_part h2 hag (by simpa using hv), Result.andThen_ok, run_equal_scalar h2 h3 hu' hv' n]
        cases hq : eqH a b with
        | true => simp only [Bool.not_true, Bool.false_eq_true, if_false, ih, eqHL, hq, Bool.true_and]
        | false => simp only [Bool.not_false, if_true, Sem.run_pure, eqHL, hq, Bool.false_and]

/-- What the program's tables say of a struct type that is compared. -/
structure EqOk (P : Program) (t : TypeId) : Prop where
  held : P.stoodInHeld t = false
  guard : P.eqGuardType P.depth t = false
  names : (P.fieldsOf t).toList.all (fun f => f.name != "_") = true

theorem run_equal_struct {t : TypeId} {fs : List (Nat × Nat)} {s by' : Nat} {z : Value} (hf : Fits P t (.struct fs) s by' z) (hq : EqOk P t) {I : Imm} {xs ys : Array Value} {cs ds : List HVal} (hx : VL I cs xs.toList) (hy : VL I ds ys.toList)
    (hk : kinds P fs 0 cs ds) (w : World) : (Op.equal t (.agg xs) (.agg ys)).run P w = .ok (eqHL cs ds) w := by
  obtain ⟨gs, h1, h2⟩ := hf.structD
  have h3 : P.fieldsOf t = gs := by simp [Program.fieldsOf, h1]
  have hn := hq.names
  rw [h3] at hn
  have h : ∀ n, (Op.equalIn (n + 2) t (.agg xs) (.agg ys)).run P w = .ok (eqHL cs ds) w := fun n => by
    rw [run_equalIn_struct w (n + 1) t xs ys (by rw [h3]; exact h1) hq.held, h3]
    have := run_eqFields (P := P) hx hy n w gs.toList 0 (fun f hf => by have := List.all_eq_true.1 hn f hf; simpa using this) (by rw [h2]; exact hk)
    simpa using this
  exact h 9998
theorem run_eqGuard_struct {op : BinOp} {t : TypeId} (hq : EqOk P t) {x y : Operand} {xs ys : Array Value} (w : World) : (eqGuard op t x y (.agg xs) (.agg ys)).run P w = .ok () w := by
  exact run_eqGuard_agg w op t x y xs ys hq.guard
theorem pop_eqst {x y : Operand} {t t' : TypeId} {fs : List (Nat × Nat)} {s by' : Nat} {z : Value} {cs ds : List HVal} (hf : Fits P t (.struct fs) s by' z) (hq : EqOk P t) (hx : evalO e x = some (.agg cs)) (hy : evalO e y = some (.agg ds)) (hk : kinds P fs 0 cs ds) :
    POp P e ⟨dst, .binOp .eql t x y t', ty, pos, af, g⟩ (.bool (eqHL cs ds)) :=
  POp.of_val fun I a w ho => by
    obtain ⟨xs, h1, h2⟩ := (ho.one (x := x) (by simp [Op.operands]) hx).agg_inv
    obtain ⟨ys, h3, h4⟩ := (ho.one (x := y) (by simp [Op.operands]) hy).agg_inv
    refine ⟨_, ?_, .bool _⟩
    simp only [execOp, h1, h3, Sem.run_bind, run_eqGuard_struct hq, Result.andThen_ok, binOp, run_equal_struct hf hq h2 h4 hk, Sem.run_pure]
theorem pop_neqst {x y : Operand} {t t' : TypeId} {fs : List (Nat × Nat)} {s by' : Nat} {z : Value} {cs ds : List HVal} (hf : Fits P t (.struct fs) s by' z) (hq : EqOk P t) (hx : evalO e x = some (.agg cs)) (hy : evalO e y = some (.agg ds)) (hk : kinds P fs 0 cs ds) :
    POp P e ⟨dst, .binOp .neq t x y t', ty, pos, af, g⟩ (.bool (!(eqHL cs ds))) :=
  POp.of_val fun I a w ho => by
    obtain ⟨xs, h1, h2⟩ := (ho.one (x := x) (by simp [Op.operands]) hx).agg_inv
    obtain ⟨ys, h3, h4⟩ := (ho.one (x := y) (by simp [Op.operands]) hy).agg_inv
    refine ⟨_, ?_, .bool _⟩
    simp only [execOp, h1, h3, Sem.run_bind, run_eqGuard_struct hq, Result.andThen_ok, binOp, run_equal_struct hf hq h2 h4 hk, Sem.run_pure]

/-! functions without a body -/
theorem pop_cmpstr {f : FuncId} {fn : Func} {args : Array Operand} {ats : Array TypeId} {x y : Operand} {s u : List UInt8} (hf : P.funcs[f]? = some fn) (h1 : (fn.name == "runtime.NumGoroutine") = false) (h2 : fn.body.isNone = true)
    (h3 : (Extern.findNext fn).isNone = true) (h4 : Extern.find fn = some Extern.BytealgCompare.compare) (ha : args = #[x, y]) (hx : evalO e x = some (.str s)) (hy : evalO e y = some (.str u)) :
    POp P e ⟨dst, .call ⟨.value (.func f), args, ats⟩, ty, pos, af, g⟩ (.int .i64 (Lib.compareBytes s u)) :=
  POp.of_val fun I a w ho => by
    subst ha
    have e1 := (ho.one (x := x) (by simp [Op.operands, Call.operands]) hx).str_inv
    have e2 := (ho.one (x := y) (by simp [Op.operands, Call.operands]) hy).str_inv
    refine ⟨_, ?_, .int _ _⟩
    have h3' : Extern.findNext fn = none := by cases h : Extern.findNext fn with | none => rfl | some _ => rw [h] at h3; simp at h3
    have hcmp : (Extern.BytealgCompare.compare #[.string ⟨s.toArray⟩, .string ⟨u.toArray⟩]).run P w = .ok (.int .i64 (Lib.compareBytes s u)) w := by
      have := Lib.run_compareString (P := P) ⟨s.toArray⟩ ⟨u.toArray⟩ w
      simpa using this
    have hev : a.eval (.func f) = .func (.func f) #[] #[] := rfl
    have hmap : (#[x, y] : Array Operand).map a.eval = #[.string ⟨s.toArray⟩, .string ⟨u.toArray⟩] := by simp [e1, e2]
    have hargs : (#[] : Array Value) ++ #[.string ⟨s.toArray⟩, .string ⟨u.toArray⟩] ++ #[] = #[.string ⟨s.toArray⟩, .string ⟨u.toArray⟩] := rfl
    simp only [execOp, resolve, hev, hmap, Deferred.ofValue, invoke, callFunc, Sem.run_bind, Sem.run_pure, Result.andThen_ok, run_program, hf, h1, h2, h3', h4, Bool.false_eq_true, if_false, if_true, run_mark, hargs, hcmp]
end
end Go.HL
