/- The judgements of the logic (operations, regions, code, functions) and their structural rules, over any program; no conditions. -/
import Derived.Test.YtfeimpgcpjoilaaGreatDoorHl1
import Derived.Orders
import Derived.Deep.LoopGhost
namespace Go.HL

abbrev Env := Nat → Option HVal
def upd (e : Env) (d : Nat) (h : HVal) : Env := fun t => match Nat.beq t d with | true => some h | false => e t
def none0 : Env := fun _ => none
def putE (e : Env) (d : Option Tmp) (h : HVal) : Env := match d with | some d => upd e d h | none => e

theorem upd_self (e : Env) (d : Nat) (h : HVal) : upd e d h d = some h := by simp [upd]
theorem upd_ne (e : Env) {d t : Nat} (h : HVal) (hn : t ≠ d) : upd e d h t = e t := by
  have : Nat.beq t d = false := by
    cases hb : Nat.beq t d with
    | false => rfl
    | true => exact absurd (Nat.eq_of_beq_eq_true hb) hn
  simp [upd, this]
theorem upd_comm (e : Env) {d d' : Nat} (h h' : HVal) (hn : d ≠ d') : upd (upd e d h) d' h' = upd (upd e d' h') d h := by
  funext t
  by_cases h1 : t = d
  · subst h1; rw [upd_ne _ _ hn, upd_self, upd_self]
  · by_cases h2 : t = d'
    · subst h2; rw [upd_self, upd_ne _ _ h1, upd_self]
    · rw [upd_ne _ _ h2, upd_ne _ _ h1, upd_ne _ _ h1, upd_ne _ _ h2]
theorem putE_comm (e : Env) {x y : Option Tmp} (h h' : HVal) (hn : ∀ d, x = some d → y ≠ some d) : putE (putE e x h) y h' = putE (putE e y h') x h := by
  cases x with
  | none => rfl
  | some d =>
    cases y with
    | none => rfl
    | some d' => exact upd_comm e h h' (fun e => hn d rfl (by rw [e]))

/-- e' says no more than e. -/
def Sub (e' e : Env) : Prop := ∀ t h, e' t = some h → e t = some h
theorem Sub.refl (e : Env) : Sub e e := fun _ _ h => h
theorem Sub.none0 (e : Env) : Sub none0 e := fun _ _ h => by simp [HL.none0] at h
theorem Sub.upd {e' e : Env} {t : Nat} {h : HVal} (ht : e t = some h) (hs : Sub e' e) : Sub (upd e' t h) e := fun x y hx => by
  by_cases hh : x = t
  · subst hh; rw [upd_self] at hx; rw [← hx]; exact ht
  · rw [upd_ne _ _ hh] at hx; exact hs x y hx

def EnvV (I : Imm) (e : Env) (tmps : Array Value) : Prop := ∀ t h, e t = some h → ∃ v, tmps[t]? = some v ∧ V I h v

theorem EnvV.mono {I J : Imm} (hl : Le I J) {e : Env} {tmps : Array Value} (h : EnvV I e tmps) : EnvV J e tmps :=
  fun t c hc => let ⟨v, h1, h2⟩ := h t c hc; ⟨v, h1, h2.mono hl⟩
theorem EnvV.sub {I : Imm} {e e' : Env} {tmps : Array Value} (hs : Sub e' e) (h : EnvV I e tmps) : EnvV I e' tmps := fun t c hc => h t c (hs t c hc)

theorem EnvV.put {I : Imm} {e : Env} {a : Act} {d : Option Tmp} {h : HVal} {v : Value} (he : EnvV I e a.tmps) (hd : ∀ t, d = some t → t < a.tmps.size) (hv : V I h v) :
    EnvV I (putE e d h) (a.put d v).tmps := by
  cases d with
  | none => exact he
  | some d =>
    intro t c hc
    by_cases ht : t = d
    · subst ht
      simp only [putE, upd_self, Option.some.injEq] at hc
      subst hc
      exact ⟨v, by simp [Act.put, hd t rfl], hv⟩
    · simp only [putE, upd_ne _ _ ht] at hc
      obtain ⟨u, h1, h2⟩ := he t c hc
      exact ⟨u, by simp [Act.put, Array.getElem?_setIfInBounds_ne (Ne.symm ht), h1], h2⟩

/-- The content tree of a constant. -/
def ofVal1 : Value → HVal
  | .bool b => .bool b
  | .int k n => .int k n
  | .string s => .str s.data.toList
  | .agg _ => .junk
  | .tuple _ => .junk
  | v => .raw v
def ofVal : Value → HVal
  | .agg cs => .agg (cs.toList.map ofVal1)
  | v => ofVal1 v

theorem V_ofVal1 (I : Imm) (v : Value) : V I (ofVal1 v) v := by
  cases v with
  | bool b => exact .bool b
  | int k n => exact .int k n
  | string s => exact (by have h := V.str (I := I) s.data.toList; simp only [Array.toArray_toList] at h; exact h)
  | agg _ => exact .junk _
  | tuple _ => exact .junk _
  | _ => exact .raw _ rfl
theorem V_ofVal (I : Imm) (v : Value) : V I (ofVal v) v := by
  cases v with
  | agg cs =>
    refine .agg (by simp) fun j c v h1 h2 => ?_
    simp only [List.getElem?_map, Array.getElem?_toList, h2, Option.map_some, Option.some.injEq] at h1
    rw [← h1]; exact V_ofVal1 I v
  | bool b => exact .bool b
  | int k n => exact .int k n
  | string s => exact V_ofVal1 I (.string s)
  | tuple _ => exact .junk _
  | _ => exact .raw _ rfl

def evalO (e : Env) : Operand → Option HVal
  | .tmp t => e t
  | .const v => some (ofVal v)
  | .global g => some (.raw (.pointer (some ⟨g, 0, none⟩)))
  | .func f => some (.fn (.func f) [] [])

theorem EnvV.eval {I : Imm} {e : Env} {a : Act} (he : EnvV I e a.tmps) {x : Operand} {h : HVal} (hx : evalO e x = some h) : V I h (a.eval x) := by
  cases x with
  | tmp t =>
    obtain ⟨v, h1, h2⟩ := he t h hx
    simpa [Act.eval, h1] using h2
  | const v => simp only [evalO, Option.some.injEq] at hx; subst hx; exact V_ofVal I v
  | global g => simp only [evalO, Option.some.injEq] at hx; subst hx; exact .raw _ rfl
  | func f =>
    simp only [evalO, Option.some.injEq] at hx; subst hx
    exact .fn rfl rfl (fun j c v h _ => by simp at h) (fun j c v h _ => by simp at h)

/-- The operands of o read as e says. -/
def Opds (I : Imm) (e : Env) (a : Act) (o : Oper) : Prop := ∀ x ∈ o.op.operands, ∀ h, evalO e x = some h → V I h (a.eval x)
theorem EnvV.opds {I : Imm} {e : Env} {a : Act} (he : EnvV I e a.tmps) (o : Oper) : Opds I e a o := fun _ _ _ hx => he.eval hx

def NoQ : Exit → Act → World → Prop := fun _ _ _ => False

theorem Oper.wp_noQ {P : Program} {o : Oper} {a : Act} {w : World} {K K' : Act → World → Prop} {Q : Exit → Act → World → Prop} (hk : ∀ a w, K a w → K' a w)
    (h : o.wp P a w K NoQ) : o.wp P a w K' Q := by
  unfold Oper.wp at *
  generalize (execOp a.eval o).run P w = r at *
  cases r with
  | ok n w' =>
    cases n <;> simp only [Oper.upon] at h ⊢
    case value v => exact hk _ _ h
    case skip => exact hk _ _ h
    case defer d => exact hk _ _ h
    case enter f args =>
      refine Calls.mono h fun e w'' he => ?_
      cases e with
      | returned v => exact hk _ _ he
      | panicked c => exact (he : False).elim
      | outgrown => obtain ⟨_, _, hf⟩ := he; exact (hf : False).elim
    case row r args => exact Rows.mono h fun _ _ he => hk _ _ he
    all_goals exact h.elim
  | halt x w' =>
    cases x <;> simp only [Oper.upon] at h ⊢
    all_goals exact (h : False).elim

/-- An operation: from the state (e, M) it yields a value and objects of which K holds. -/
def EOp (P : Program) (e : Env) (M : List MObj) (o : Oper) (K : HVal → List MObj → Prop) : Prop :=
  ∀ I F a w, Opds I e a o → Sat I (M ++ F) w →
    o.wp P a w (fun a' w' => ∃ v h M' J, a' = a.put o.dst v ∧ Le I J ∧ K h M' ∧ V J h v ∧ Sat J (M' ++ F) w') NoQ

/-- An operation that changes no owned object, and yields what reads as h, whatever objects there are. -/
def POp (P : Program) (e : Env) (o : Oper) (h : HVal) : Prop :=
  ∀ I F a w, Opds I e a o → Sat I F w → o.wp P a w (fun a' w' => ∃ v J, a' = a.put o.dst v ∧ Le I J ∧ V J h v ∧ Sat J F w') NoQ

theorem POp.eop {P : Program} {e : Env} {o : Oper} {h : HVal} (hp : POp P e o h) {M : List MObj} {K : HVal → List MObj → Prop} (hk : K h M) : EOp P e M o K :=
  fun I F a w ho hs => Oper.wp_noQ (fun _ _ ⟨v, J, h1, h2, h3, h4⟩ => ⟨v, h, M, J, h1, h2, hk, h3, h4⟩) (hp I (M ++ F) a w ho hs)

/-- The easy way: the operation runs to a value. -/
theorem POp.of_run {P : Program} {e : Env} {o : Oper} {h : HVal}
    (hr : ∀ I F a w, Opds I e a o → Sat I F w → ∃ v w' J, (execOp a.eval o).run P w = .ok (.value v) w' ∧ Le I J ∧ V J h v ∧ Sat J F w') : POp P e o h :=
  fun I F a w ho hs => by
    obtain ⟨v, w', J, h1, h2, h3, h4⟩ := hr I F a w ho hs
    simp only [Oper.wp, h1, Oper.upon]
    exact ⟨v, J, rfl, h2, h3, h4⟩
theorem POp.of_val {P : Program} {e : Env} {o : Oper} {h : HVal}
    (hr : ∀ I a w, Opds I e a o → ∃ v, (execOp a.eval o).run P w = .ok (.value v) w ∧ V I h v) : POp P e o h :=
  POp.of_run fun I F a w ho hs => let ⟨v, h1, h2⟩ := hr I a w ho; ⟨v, w, I, h1, .refl I, h2, hs⟩

theorem EOp.of_run {P : Program} {e : Env} {M : List MObj} {o : Oper} {K : HVal → List MObj → Prop}
    (hr : ∀ I F a w, Opds I e a o → Sat I (M ++ F) w → ∃ v h M' w' J, (execOp a.eval o).run P w = .ok (.value v) w' ∧ Le I J ∧ K h M' ∧ V J h v ∧ Sat J (M' ++ F) w') : EOp P e M o K :=
  fun I F a w ho hs => by
    obtain ⟨v, h, M', w', J, h1, h2, h3, h4, h5⟩ := hr I F a w ho hs
    simp only [Oper.wp, h1, Oper.upon]
    exact ⟨v, h, M', J, rfl, h2, h3, h4, h5⟩
theorem EOp.of_skip {P : Program} {e : Env} {M : List MObj} {o : Oper} {K : HVal → List MObj → Prop}
    (hr : ∀ I F a w, Opds I e a o → Sat I (M ++ F) w → ∃ M' w' J, (execOp a.eval o).run P w = .ok .skip w' ∧ Le I J ∧ K .junk M' ∧ Sat J (M' ++ F) w') : EOp P e M o K :=
  fun I F a w ho hs => by
    obtain ⟨M', w', J, h1, h2, h3, h5⟩ := hr I F a w ho hs
    simp only [Oper.wp, h1, Oper.upon]
    exact ⟨undef, .junk, M', J, rfl, h2, h3, .junk _, h5⟩

theorem EOp.mono {P : Program} {e : Env} {M : List MObj} {o : Oper} {K K' : HVal → List MObj → Prop} (hk : ∀ h M, K h M → K' h M) (h : EOp P e M o K) : EOp P e M o K' :=
  fun I F a w ho hs => Oper.wp_noQ (fun _ _ ⟨v, x, M', J, h1, h2, h3, h4, h5⟩ => ⟨v, x, M', J, h1, h2, hk _ _ h3, h4, h5⟩) (h I F a w ho hs)

theorem EOp.perm {P : Program} {e : Env} {M N : List MObj} {o : Oper} {K : HVal → List MObj → Prop} (hp : N.Perm M) (h : EOp P e M o K) : EOp P e N o K :=
  fun I F a w ho hs => h I F a w ho (hs.perm (hp.append_right F))

/-- The frame rule. -/
theorem EOp.frame {P : Program} {e : Env} {M : List MObj} {o : Oper} {K : HVal → List MObj → Prop} (h : EOp P e M o K) (R : List MObj) :
    EOp P e (M ++ R) o (fun x M' => ∃ N, M' = N ++ R ∧ K x N) :=
  fun I F a w ho hs => Oper.wp_noQ (fun _ _ ⟨v, x, M', J, h1, h2, h3, h4, h5⟩ => ⟨v, x, M' ++ R, J, h1, h2, ⟨M', rfl, h3⟩, h4, by rw [List.append_assoc]; exact h5⟩)
    (h I (R ++ F) a w ho (by rw [← List.append_assoc]; exact hs))

/-- A change of view: the same state, seen otherwise. -/
def Ghost (e : Env) (M : List MObj) (e' : Env) (M' : List MObj) : Prop :=
  ∀ I F tmps w, EnvV I e tmps → Sat I (M ++ F) w → ∃ J, Le I J ∧ EnvV J e' tmps ∧ Sat J (M' ++ F) w

/-! regions -/
/-- Is the operation carried out? -/
def guardC (ops : Array Oper) (e : Env) (j : Nat) (want : Bool) : Option Bool :=
  match (ops[j]?).bind (·.dst) with
  | some d => match e d with
    | some (.bool b) => some (b == want)
    | some (.opt c (.bool b)) => some (c && (b == want))
    | _ => none
  | none => none

def WantIs (ops : Array Oper) (e : Env) (o : Oper) (c : Bool) : Prop :=
  match o.guard with
  | none => c = true
  | some (j, want) => guardC ops e j want = some c

theorem WantIs.real {I : Imm} {ops : Array Oper} {e : Env} {tmps : Array Value} (he : EnvV I e tmps) {o : Oper} {c : Bool} (h : WantIs ops e o c) : Region.wanted o (yielded ops tmps) = c := by
  unfold WantIs at h
  unfold Region.wanted
  cases hg : o.guard with
  | none => rw [hg] at h; simp only at h; rw [h]
  | some p =>
    obtain ⟨j, want⟩ := p
    rw [hg] at h
    simp only at h ⊢
    unfold guardC at h
    unfold yielded
    cases hd : (ops[j]?).bind (·.dst) with
    | none => rw [hd] at h; simp at h
    | some d =>
      rw [hd] at h
      simp only at h
      cases hh : e d with
      | none => rw [hh] at h; simp at h
      | some x =>
        rw [hh] at h
        obtain ⟨v, h1, h2⟩ := he d _ hh
        cases x with
        | bool b =>
          simp only [Option.some.injEq] at h
          cases h2
          simp [h1, ← h]
        | opt c' y =>
          cases y with
          | bool b =>
            simp only [Option.some.injEq] at h
            cases h2 with
            | opt h3 h4 =>
              cases c' with
              | true =>
                have h5 := h3 rfl
                cases h5
                simp [h1, ← h]
              | false =>
                have h5 := h4 rfl
                subst h5
                simp [h1, ← h, undef]
          | _ => simp at h
        | _ => simp at h

/-- One operation of a region. -/
def HOp (P : Program) (ops : Array Oper) (n : Nat) (o : Oper) (e : Env) (M : List MObj) (K : Env → List MObj → Prop) : Prop :=
  (∀ t, o.dst = some t → t < n) ∧ ∃ c, WantIs ops e o c ∧ (c = true → EOp P e M o fun h M' => K (putE e o.dst h) M') ∧ (c = false → ∃ h, K (putE e o.dst (.opt false h)) M)

def Post (n : Nat) (I : Imm) (F : List MObj) (Q : Exit → Env → List MObj → Prop) : Exit → Act → World → Prop :=
  fun x a w => a.defers = [] ∧ a.tmps.size = n ∧ ∃ J e M, Le I J ∧ Q x e M ∧ EnvV J e a.tmps ∧ Sat J (M ++ F) w

theorem Post.le {n : Nat} {I J : Imm} {F : List MObj} {Q : Exit → Env → List MObj → Prop} {x : Exit} {a : Act} {w : World} (hl : Le I J) (h : Post n J F Q x a w) : Post n I F Q x a w :=
  let ⟨h1, h2, J', e, M, h3, h4⟩ := h; ⟨h1, h2, J', e, M, hl.trans h3, h4⟩

theorem put_size (a : Act) (d : Option Tmp) (v : Value) : (a.put d v).tmps.size = a.tmps.size := by cases d <;> simp [Act.put]
theorem put_defers (a : Act) (d : Option Tmp) (v : Value) : (a.put d v).defers = a.defers := by cases d <;> simp [Act.put]

theorem HOp.sound {P : Program} {ops : Array Oper} {n : Nat} {o : Oper} {e : Env} {M : List MObj} {K : Env → List MObj → Prop} (h : HOp P ops n o e M K)
    {i : Nat} (hi : ops[i]? = some o) {Q : Exit → Act → World → Prop} {I : Imm} {F : List MObj} {a : Act} {w : World} (hd : a.defers = []) (hn : a.tmps.size = n)
    (he : EnvV I e a.tmps) (hs : Sat I (M ++ F) w) {K' : Act → World → Prop}
    (hk : ∀ J e' M' a' w', Le I J → K e' M' → a'.defers = [] → a'.tmps.size = n → EnvV J e' a'.tmps → Sat J (M' ++ F) w' → K' a' w') : wpOp P ops Q i K' a w := by
  unfold wpOp
  simp only [hi]
  obtain ⟨hdst, c, hw, ht, hf⟩ := h
  rw [hw.real he]
  cases c with
  | false =>
    simp only [Bool.false_eq_true, if_false]
    obtain ⟨h, hh⟩ := hf rfl
    exact hk I _ M _ _ (.refl I) hh (by rw [put_defers]; exact hd) (by rw [put_size]; exact hn) (he.put (by rw [hn]; exact hdst) (.opt (fun h => by cases h) (fun _ => rfl))) hs
  | true =>
    simp only [if_true]
    refine .inl (Oper.wp_noQ ?_ (ht rfl I F a w (he.opds o) hs))
    rintro a' w' ⟨v, x, M', J, rfl, h2, h3, h4, h5⟩
    exact hk J _ M' _ _ h2 h3 (by rw [put_defers]; exact hd) (by rw [put_size]; exact hn) ((he.mono h2).put (by rw [hn]; exact hdst) h4) h5

/-- The operations of a region in the order of the text. -/
def Der (P : Program) (ops : Array Oper) (n : Nat) (K : Env → List MObj → Prop) : List Oper → Env → List MObj → Prop
  | [], e, M => K e M
  | o :: rest, e, M => HOp P ops n o e M (Der P ops n K rest)

theorem Der.sound {P : Program} {ops : Array Oper} {n : Nat} {K : Env → List MObj → Prop} {I : Imm} {F : List MObj} {Q : Exit → Act → World → Prop}
    (hq : ∀ J e M a w, Le I J → K e M → a.defers = [] → a.tmps.size = n → EnvV J e a.tmps → Sat J (M ++ F) w → Q .normal a w) :
    ∀ (l : List Oper) (k : Nat), (∀ j, ops[k + j]? = l[j]?) → ∀ (J : Imm) (e : Env) (M : List MObj) (a : Act) (w : World), Le I J → Der P ops n K l e M →
      a.defers = [] → a.tmps.size = n → EnvV J e a.tmps → Sat J (M ++ F) w → wpOps P ops Q (List.range' k l.length) a w := by
  intro l
  induction l with
  | nil => intro k _ J e M a w hl h hd hn he hs; exact hq J e M a w hl h hd hn he hs
  | cons o rest ih =>
    intro k hk J e M a w hl h hd hn he hs
    rw [List.length_cons, List.range'_succ, wpOps_cons]
    have hi : ops[k]? = some o := by simpa using hk 0
    refine HOp.sound h hi hd hn he hs fun J' e' M' a' w' hl' hK hd' hn' he' hs' => ?_
    exact ih (k + 1) (fun j => by have := hk (j + 1); simp only [List.getElem?_cons_succ] at this; rw [← this]; congr 1; omega) J' e' M' a' w' (hl.trans hl') hK hd' hn' he' hs'

section
variable {P : Program} {ops : Array Oper} {n : Nat} {K : Env → List MObj → Prop} {rest : List Oper} {e : Env} {M : List MObj} {d : Nat} {op : Op} {ty : TypeId} {pos : String} {af : Array Edge} {h : HVal}
theorem blt_lt {a b : Nat} (h : Nat.blt a b = true) : a < b := Nat.le_of_ble_eq_true h
/-- A pure operation. -/
theorem dp (hd : Nat.blt d n = true) (hp : POp P e ⟨some d, op, ty, pos, af, none⟩ h) (k : Der P ops n K rest (upd e d h) M) : Der P ops n K (⟨some d, op, ty, pos, af, none⟩ :: rest) e M :=
  ⟨fun t ht => by simp at ht; subst ht; exact blt_lt hd, true, rfl, fun _ => hp.eop k, fun h => by cases h⟩
/-- An operation that acts on owned objects. -/
theorem de (hd : Nat.blt d n = true) (hp : EOp P e M ⟨some d, op, ty, pos, af, none⟩ fun h M' => Der P ops n K rest (upd e d h) M') : Der P ops n K (⟨some d, op, ty, pos, af, none⟩ :: rest) e M :=
  ⟨fun t ht => by simp at ht; subst ht; exact blt_lt hd, true, rfl, fun _ => hp, fun h => by cases h⟩
theorem de0 (hp : EOp P e M ⟨none, op, ty, pos, af, none⟩ fun _ M' => Der P ops n K rest e M') : Der P ops n K (⟨none, op, ty, pos, af, none⟩ :: rest) e M :=
  ⟨fun t ht => by simp at ht, true, rfl, fun _ => hp, fun h => by cases h⟩
/-- e2 says what e says where the conditions hold. -/
def OpenTo (e e2 : Env) : Prop := ∀ t h, e2 t = some h → e t = some h ∨ ∃ c, e t = some (.opt c h) ∧ c = true
theorem OpenTo.refl (e : Env) : OpenTo e e := fun _ _ h => .inl h
theorem OpenTo.upd {e e2 : Env} {t : Nat} {c : Bool} {h : HVal} (ht : e t = some (.opt c h)) (hc : c = true) (ho : OpenTo e e2) : OpenTo e (upd e2 t h) := fun x y hx => by
  by_cases hh : x = t
  · subst hh; rw [upd_self] at hx; cases hx; exact .inr ⟨c, ht, hc⟩
  · rw [upd_ne _ _ hh] at hx; exact ho x y hx
theorem Opds.open {I : Imm} {e e2 : Env} {a : Act} {o : Oper} (ho : OpenTo e e2) (h : Opds I e a o) : Opds I e2 a o := fun x hx c hc => by
  cases x with
  | tmp t =>
    rcases ho t c hc with h1 | ⟨b, h1, h2⟩
    · exact h _ hx _ h1
    · have := h _ hx _ h1
      cases this with
      | opt h3 h4 => exact h3 h2
  | const v => exact h _ hx c hc
  | global g => exact h _ hx c hc
  | func f => exact h _ hx c hc
theorem POp.open {e e2 : Env} {o : Oper} (ho : OpenTo e e2) (hp : POp P e2 o h) : POp P e o h := fun I F a w hop hs => hp I F a w (hop.open ho) hs
/-- A pure operation under a guard. -/
theorem dg {j : Nat} {want c : Bool} (hd : Nat.blt d n = true) (hg : guardC ops e j want = some c) (hp : c = true → ∃ e2, OpenTo e e2 ∧ POp P e2 ⟨some d, op, ty, pos, af, some (j, want)⟩ h)
    (k : Der P ops n K rest (upd e d (.opt c h)) M) : Der P ops n K (⟨some d, op, ty, pos, af, some (j, want)⟩ :: rest) e M :=
  ⟨fun t ht => by simp at ht; subst ht; exact blt_lt hd, c, hg, fun hc => by
    obtain ⟨e2, h1, h2⟩ := hp hc
    intro I F a w ho hs
    exact Oper.wp_noQ (fun _ _ ⟨v, J, h3, h4, h5, h6⟩ => ⟨v, .opt c h, M, J, h3, h4, k, .opt (fun _ => h5) (fun hf => by rw [hc] at hf; cases hf), h6⟩) ((h2.open h1) I (M ++ F) a w ho hs),
   fun hc => ⟨h, by subst hc; exact k⟩⟩
/-- A guard that is known to hold, or not to. -/
theorem dgt {j : Nat} {want : Bool} (hd : Nat.blt d n = true) (hg : guardC ops e j want = some true) (hp : EOp P e M ⟨some d, op, ty, pos, af, some (j, want)⟩ fun h M' => Der P ops n K rest (upd e d h) M') :
    Der P ops n K (⟨some d, op, ty, pos, af, some (j, want)⟩ :: rest) e M :=
  ⟨fun t ht => by simp at ht; subst ht; exact blt_lt hd, true, hg, fun _ => hp, fun h => by cases h⟩
theorem dgf {j : Nat} {want : Bool} (hd : Nat.blt d n = true) (hg : guardC ops e j want = some false) (k : Der P ops n K rest (upd e d (.opt false .junk)) M) :
    Der P ops n K (⟨some d, op, ty, pos, af, some (j, want)⟩ :: rest) e M :=
  ⟨fun t ht => by simp at ht; subst ht; exact blt_lt hd, false, hg, (fun h => by cases h), fun _ => ⟨_, k⟩⟩
theorem dn (k : K e M) : Der P ops n K [] e M := k
end

/-! code -/
def HWp (P : Program) (n : Nat) (c : Code) (e : Env) (M : List MObj) (Q : Exit → Env → List MObj → Prop) : Prop :=
  ∀ I F a w, a.defers = [] → a.tmps.size = n → EnvV I e a.tmps → Sat I (M ++ F) w → c.wp P (Post n I F Q) a w

section
variable {P : Program} {n : Nat} {e e' : Env} {M M' : List MObj} {Q Q' : Exit → Env → List MObj → Prop} {c c' : Code}

theorem hw_mono (h : HWp P n c e M Q) (hq : ∀ x e M, Q x e M → Q' x e M) : HWp P n c e M Q' :=
  fun I F a w h1 h2 h3 h4 => wp_mono (h I F a w h1 h2 h3 h4) fun _ _ _ ⟨p1, p2, J, e, M, p3, p4, p5⟩ => ⟨p1, p2, J, e, M, p3, hq _ _ _ p4, p5⟩

theorem hw_ghost (hg : Ghost e M e' M') (h : HWp P n c e' M' Q) : HWp P n c e M Q := fun I F a w h1 h2 h3 h4 => by
  obtain ⟨J, hl, he, hs⟩ := hg I F a.tmps w h3 h4
  exact wp_mono (h J F a w h1 h2 he hs) fun _ _ _ hp => hp.le hl

theorem Ghost.sub (h : Sub e' e) : Ghost e M e' M := fun I F tmps w h1 h2 => ⟨I, .refl I, h1.sub h, h2⟩
theorem Ghost.perm (h : M.Perm M') : Ghost e M e M' := fun I F tmps w h1 h2 => ⟨I, .refl I, h1, h2.perm (h.append_right F)⟩
theorem Ghost.drop {m : MObj} : Ghost e (m :: M) e M := fun I F tmps w h1 h2 => ⟨I, .refl I, h1, h2.drop⟩
theorem Ghost.trans {e'' : Env} {M'' : List MObj} (h : Ghost e M e' M') (h' : Ghost e' M' e'' M'') : Ghost e M e'' M'' := fun I F tmps w h1 h2 => by
  obtain ⟨J, a1, a2, a3⟩ := h I F tmps w h1 h2
  obtain ⟨K, b1, b2, b3⟩ := h' J F tmps w a2 a3
  exact ⟨K, a1.trans b1, b2, b3⟩

def SeqQ (P : Program) (n : Nat) (c : Code) (Q : Exit → Env → List MObj → Prop) : Exit → Env → List MObj → Prop
  | .normal, e, M => HWp P n c e M Q
  | x, e, M => Q x e M

theorem hw_seq (h : HWp P n c e M (SeqQ P n c' Q)) : HWp P n (.seq c c') e M Q := fun I F a w h1 h2 h3 h4 => by
  refine wp_seq (wp_mono (h I F a w h1 h2 h3 h4) ?_)
  rintro x a' w' ⟨p1, p2, J, e', M', p3, p4, p5, p6⟩
  cases x with
  | normal => exact wp_mono (p4 J F a' w' p1 p2 p5 p6) fun _ _ _ hp => hp.le p3
  | _ => exact ⟨p1, p2, J, e', M', p3, p4, p5, p6⟩

theorem hw_region {id : Nat} {ops : Array Oper} {l : List Oper} (hl : ops = l.toArray) (h : Der P ops n (fun e M => Q .normal e M) l e M) : HWp P n (.region id ops false) e M Q :=
  fun I F a w h1 h2 h3 h4 => by
    refine wp_region ?_
    have := Der.sound (P := P) (ops := ops) (n := n) (K := fun e M => Q .normal e M) (I := I) (F := F) (Q := Post n I F Q)
      (fun J e M a w hl hK hd hn he hs => ⟨hd, hn, J, e, M, hl, hK, he, hs⟩) l 0 (fun j => by simp [hl]) I e M a w (.refl I) h h1 h2 h3 h4
    rw [List.range_eq_range']
    simpa [hl] using this

/-- A region, and what follows it. -/
theorem hw_reg {id : Nat} {l : List Oper} (h : Der P l.toArray n (fun e M => HWp P n c e M Q) l e M) : HWp P n (.seq (.region id l.toArray false) c) e M Q :=
  hw_seq (hw_region rfl h)
theorem hw_reg1 {id : Nat} {l : List Oper} (h : Der P l.toArray n (fun e M => Q .normal e M) l e M) : HWp P n (.region id l.toArray false) e M Q :=
  hw_region rfl h

theorem hw_skip (h : Q .normal e M) : HWp P n .skip e M Q := fun I F a w h1 h2 h3 h4 => wp_skip ⟨h1, h2, I, e, M, .refl I, h, h3, h4⟩
theorem hw_ret (h : Q .ret e M) : HWp P n .ret e M Q := fun I F a w h1 h2 h3 h4 => wp_ret ⟨h1, h2, I, e, M, .refl I, h, h3, h4⟩
theorem hw_exit {id : Nat} (h : Q (.exit id) e M) : HWp P n (.exit id) e M Q := fun I F a w h1 h2 h3 h4 => wp_exit ⟨h1, h2, I, e, M, .refl I, h, h3, h4⟩

theorem hw_cond {x : Operand} {b : Bool} (hx : evalO e x = some (.bool b)) (ht : b = true → HWp P n c e M Q) (hf : b = false → HWp P n c' e M Q) : HWp P n (.cond x c c') e M Q :=
  fun I F a w h1 h2 h3 h4 => by
    have hv := h3.eval hx
    have : a.eval x = .bool b := by generalize a.eval x = y at *; cases hv; rfl
    exact wp_cond_split this (fun h => ht h I F a w h1 h2 h3 h4) (fun h => hf h I F a w h1 h2 h3 h4)
theorem hw_cond_t {x : Operand} (hx : evalO e x = some (.bool true)) (ht : HWp P n c e M Q) : HWp P n (.cond x c c') e M Q :=
  hw_cond hx (fun _ => ht) (fun h => by cases h)
theorem hw_cond_f {x : Operand} (hx : evalO e x = some (.bool false)) (ht : HWp P n c' e M Q) : HWp P n (.cond x c c') e M Q :=
  hw_cond hx (fun h => by cases h) (fun _ => ht)

def BlockQ (id : Nat) (Q : Exit → Env → List MObj → Prop) : Exit → Env → List MObj → Prop
  | .exit id', e, M => if id' = id then Q .normal e M else Q (.exit id') e M
  | x, e, M => Q x e M

theorem hw_block {id : Nat} (h : HWp P n c e M (BlockQ id Q)) : HWp P n (.block id c) e M Q := fun I F a w h1 h2 h3 h4 => by
  refine wp_block (wp_mono (h I F a w h1 h2 h3 h4) ?_)
  rintro x a' w' ⟨p1, p2, J, e', M', p3, p4, p5, p6⟩
  cases x with
  | exit id' =>
    simp only [Exit.inBlock, BlockQ] at *
    split
    · rename_i hh; rw [if_pos hh] at p4; exact ⟨p1, p2, J, e', M', p3, p4, p5, p6⟩
    · rename_i hh; rw [if_neg hh] at p4; exact ⟨p1, p2, J, e', M', p3, p4, p5, p6⟩
  | _ => exact ⟨p1, p2, J, e', M', p3, p4, p5, p6⟩

/-- What a round hands on: a state of the invariant with a smaller measure; every other exit leaves the loop. -/
def LoopQ {ι : Type} (E : ι → Env) (MM : ι → List MObj) (Iv : ι → Prop) (μ : ι → Nat) (i : ι) (Q : Exit → Env → List MObj → Prop) : Exit → Env → List MObj → Prop
  | .normal, e, M => ∃ j, Iv j ∧ μ j < μ i ∧ Ghost e M (E j) (MM j)
  | x, e, M => Q x e M

theorem hw_loop {ι : Type} (E : ι → Env) (MM : ι → List MObj) (Iv : ι → Prop) (μ : ι → Nat) (i : ι) (h0 : Iv i) (hg : Ghost e M (E i) (MM i))
    (hb : ∀ i, Iv i → HWp P n c (E i) (MM i) (LoopQ E MM Iv μ i Q)) : HWp P n (.loop c) e M Q := fun I F a w h1 h2 h3 h4 => by
  obtain ⟨J0, hl0, he0, hs0⟩ := hg I F a.tmps w h3 h4
  refine wp_loop_ghost (fun k a w => ∃ i J, μ i = k ∧ Iv i ∧ Le I J ∧ a.defers = [] ∧ a.tmps.size = n ∧ EnvV J (E i) a.tmps ∧ Sat J (MM i ++ F) w) (μ i)
    ⟨i, J0, rfl, h0, hl0, h1, h2, he0, hs0⟩ ?_
  rintro k a w ⟨i, J, rfl, hi, hl, h1, h2, h3, h4⟩
  refine wp_mono (hb i hi J F a w h1 h2 h3 h4) ?_
  rintro x a' w' ⟨p1, p2, J', e', M', p3, p4, p5, p6⟩
  cases x with
  | normal =>
    obtain ⟨j, hj, hlt, hg'⟩ := p4
    obtain ⟨J2, hl2, he2, hs2⟩ := hg' J' F a'.tmps w' p5 p6
    exact ⟨μ j, hlt, j, J2, rfl, hj, (hl.trans p3).trans hl2, p1, p2, he2, hs2⟩
  | _ => exact ⟨p1, p2, J', e', M', hl.trans p3, p4, p5, p6⟩
end

/-! loops, and the places where ways meet again, by the slots that are written -/
def getW : List (Nat × HVal) → Nat → Option HVal
  | [], _ => none
  | (k, h) :: r, t => match Nat.beq k t with | true => some h | false => getW r t
def inL : List Nat → Nat → Bool
  | [], _ => false
  | k :: r, t => match Nat.beq k t with | true => true | false => inL r t
/-- e, but for the slots ks, of which only W is known. -/
def loopE (e : Env) (ks : List Nat) (W : List (Nat × HVal)) : Env := fun t =>
  match getW W t with
  | some h => some h
  | none => match inL ks t with
    | true => none
    | false => e t
def HoldsW (e : Env) : List (Nat × HVal) → Prop
  | [] => True
  | (t, h) :: r => e t = some h ∧ HoldsW e r
def Keeps (ks : List Nat) (e e' : Env) : Prop := ∀ t, inL ks t = false → e' t = e t
theorem keeps_refl {ks : List Nat} {e : Env} : Keeps ks e e := fun _ _ => rfl
theorem keeps_upd {ks : List Nat} {e e' : Env} {d : Nat} {h : HVal} (hd : inL ks d = true) (hk : Keeps ks e e') : Keeps ks e (upd e' d h) := fun t ht => by
  have : t ≠ d := fun h => by subst h; rw [hd] at ht; cases ht
  rw [upd_ne _ _ this]; exact hk t ht
def subL : List (Nat × HVal) → List Nat → Bool
  | [], _ => true
  | (k, _) :: r, ks => match inL ks k with | true => subL r ks | false => false
def subK : List Nat → List Nat → Bool
  | [], _ => true
  | k :: r, ks => match inL ks k with | true => subK r ks | false => false
theorem getW_in {ks : List Nat} : ∀ {W : List (Nat × HVal)} {t : Nat}, subL W ks = true → inL ks t = false → getW W t = none
  | [], _, _, _ => rfl
  | (k, h) :: r, t, hs, ht => by
    simp only [subL] at hs
    cases hk : inL ks k with
    | false => rw [hk] at hs; simp at hs
    | true =>
      rw [hk] at hs
      simp only [getW]
      cases hb : Nat.beq k t with
      | true => have := Nat.eq_of_beq_eq_true hb; subst this; rw [hk] at ht; cases ht
      | false => exact getW_in hs ht
theorem inL_sub {ks : List Nat} : ∀ {l : List Nat} {t : Nat}, subK l ks = true → inL ks t = false → inL l t = false
  | [], _, _, _ => rfl
  | k :: r, t, hs, ht => by
    simp only [subK] at hs
    cases hk : inL ks k with
    | false => rw [hk] at hs; simp at hs
    | true =>
      rw [hk] at hs
      simp only [inL]
      cases hb : Nat.beq k t with
      | true => have := Nat.eq_of_beq_eq_true hb; subst this; rw [hk] at ht; cases ht
      | false => exact inL_sub hs ht
theorem keeps_loop {ks l : List Nat} {e e1 : Env} {W : List (Nat × HVal)} (h1 : subL W ks = true) (h2 : subK l ks = true) (hk : Keeps ks e e1) : Keeps ks e (loopE e1 l W) := fun t ht => by
  unfold loopE
  rw [getW_in h1 ht, inL_sub h2 ht]
  exact hk t ht
theorem Sub.loopE {ks : List Nat} {e e' : Env} {W : List (Nat × HVal)} (hW : HoldsW e' W) (hk : Keeps ks e e') : Sub (loopE e ks W) e' := fun t h ht => by
  unfold HL.loopE at ht
  cases hg : getW W t with
  | some x =>
    rw [hg] at ht; simp only [Option.some.injEq] at ht; subst ht
    have key : ∀ (W : List (Nat × HVal)), HoldsW e' W → getW W t = some x → e' t = some x := fun W => by
      induction W with
      | nil => intro _ h; simp [getW] at h
      | cons p r ih =>
        obtain ⟨k, y⟩ := p
        intro hh h
        simp only [getW] at h
        cases hb : Nat.beq k t with
        | true => rw [hb] at h; simp only [Option.some.injEq] at h; subst h; have := Nat.eq_of_beq_eq_true hb; subst this; exact hh.1
        | false => rw [hb] at h; exact ih hh.2 h
    exact key W hW hg
  | none =>
    rw [hg] at ht
    simp only at ht
    cases hi : inL ks t with
    | true => rw [hi] at ht; simp at ht
    | false => rw [hi] at ht; simp only at ht; rw [hk t hi]; exact ht

section
variable {P : Program} {n : Nat} {e e' : Env} {M M' : List MObj} {Q Q' : Exit → Env → List MObj → Prop} {c c' : Code}
def LoopW {ι : Type} (e : Env) (ks : List Nat) (W : ι → List (Nat × HVal)) (MM : ι → List MObj) (Iv : ι → Prop) (μ : ι → Nat) (i : ι) (Q : Exit → Env → List MObj → Prop) : Exit → Env → List MObj → Prop
  | .normal, e', M => ∃ j, Iv j ∧ μ j < μ i ∧ HoldsW e' (W j) ∧ Keeps ks e e' ∧ M.Perm (MM j)
  | x, e', M => Q x e' M
theorem hw_loopw {ι : Type} (ks : List Nat) (W : ι → List (Nat × HVal)) (MM : ι → List MObj) (Iv : ι → Prop) (μ : ι → Nat) (i : ι) (h0 : Iv i) (hW : HoldsW e (W i)) (hM : M.Perm (MM i))
    (hb : ∀ i, Iv i → HWp P n c (loopE e ks (W i)) (MM i) (LoopW e ks W MM Iv μ i Q)) : HWp P n (.loop c) e M Q := by
  refine hw_loop (fun i => loopE e ks (W i)) MM Iv μ i h0 ((Ghost.sub (Sub.loopE hW keeps_refl)).trans (Ghost.perm hM)) fun i hi => hw_mono (hb i hi) ?_
  intro x e1 M1 hq
  cases x with
  | normal =>
    obtain ⟨j, h1, h2, h3, h4, h5⟩ := hq
    exact ⟨j, h1, h2, (Ghost.sub (Sub.loopE h3 h4)).trans (Ghost.perm h5)⟩
  | _ => exact hq
/-- Ways that meet again. -/
def JoinQ {ι : Type} (e : Env) (ks : List Nat) (W : ι → List (Nat × HVal)) (MM : ι → List MObj) (Iv : ι → Prop) (Q : Exit → Env → List MObj → Prop) : Exit → Env → List MObj → Prop
  | .normal, e', M => ∃ j, Iv j ∧ HoldsW e' (W j) ∧ Keeps ks e e' ∧ M.Perm (MM j)
  | x, e', M => Q x e' M
theorem hw_join {ι : Type} (ks : List Nat) (W : ι → List (Nat × HVal)) (MM : ι → List MObj) (Iv : ι → Prop) (h1 : HWp P n c e M (JoinQ e ks W MM Iv Q))
    (h2 : ∀ i, Iv i → HWp P n c' (loopE e ks (W i)) (MM i) Q) : HWp P n (.seq c c') e M Q := by
  refine hw_seq (hw_mono h1 ?_)
  intro x e1 M1 hq
  cases x with
  | normal =>
    obtain ⟨j, a1, a2, a3, a4⟩ := hq
    exact hw_ghost ((Ghost.sub (Sub.loopE a2 a3)).trans (Ghost.perm a4)) (h2 j a1)
  | _ => exact hq
theorem seqQ_n (h : HWp P n c e M Q) : SeqQ P n c Q .normal e M := h
theorem seqQ_x {id : Nat} (h : Q (.exit id) e M) : SeqQ P n c Q (.exit id) e M := h
theorem loopQ_x {ι : Type} {e0 : Env} {ks : List Nat} {W : ι → List (Nat × HVal)} {MM : ι → List MObj} {Iv : ι → Prop} {μ : ι → Nat} {i : ι} {id : Nat} (h : Q (.exit id) e M) : LoopW e0 ks W MM Iv μ i Q (.exit id) e M := h
theorem joinQ_x {ι : Type} {e0 : Env} {ks : List Nat} {W : ι → List (Nat × HVal)} {MM : ι → List MObj} {Iv : ι → Prop} {id : Nat} (h : Q (.exit id) e M) : JoinQ e0 ks W MM Iv Q (.exit id) e M := h
theorem blockQ_n {id : Nat} (h : Q .normal e M) : BlockQ id Q .normal e M := h
theorem blockQ_eq {id : Nat} (h : Q .normal e M) : BlockQ id Q (.exit id) e M := by simp only [BlockQ, if_true]; exact h
theorem blockQ_ne {id id' : Nat} (hn : Nat.beq id' id = false) (h : Q (.exit id') e M) : BlockQ id Q (.exit id') e M := by
  have : id' ≠ id := fun h => by subst h; simp at hn
  simp only [BlockQ, if_neg this]; exact h
end

/-! functions -/
/-- h' says no more than h. -/
def Weak (h h' : HVal) : Prop := ∀ I v, V I h v → V I h' v
theorem Weak.refl (h : HVal) : Weak h h := fun _ _ h => h

def Con (P : Program) (f : FuncId) (hargs : List HVal) (M : List MObj) (Q : HVal → List MObj → Prop) : Prop :=
  ∀ I F w args, VL I hargs args → Sat I (M ++ F) w → Calls P f args.toArray w fun x w' =>
    ∃ v h M' J, x = .returned v ∧ Le I J ∧ Q h M' ∧ V J h v ∧ Sat J (M' ++ F) w'

theorem Con.mono {P : Program} {f : FuncId} {hargs : List HVal} {M : List MObj} {Q Q' : HVal → List MObj → Prop} (h : Con P f hargs M Q) (hq : ∀ h M, Q h M → Q' h M) : Con P f hargs M Q' :=
  fun I F w args h1 h2 => (h I F w args h1 h2).mono fun _ _ ⟨v, x, M', J, p1, p2, p3, p4⟩ => ⟨v, x, M', J, p1, p2, hq _ _ p3, p4⟩
theorem Con.frame {P : Program} {f : FuncId} {hargs : List HVal} {M : List MObj} {Q : HVal → List MObj → Prop} (h : Con P f hargs M Q) (R : List MObj) :
    Con P f hargs (M ++ R) fun x M' => ∃ N, M' = N ++ R ∧ Q x N :=
  fun I F w args h1 h2 => (h I (R ++ F) w args h1 (by rw [← List.append_assoc]; exact h2)).mono fun _ _ ⟨v, x, M', J, p1, p2, p3, p4, p5⟩ =>
    ⟨v, x, M' ++ R, J, p1, p2, ⟨M', rfl, p3⟩, p4, by rw [List.append_assoc]; exact p5⟩
theorem Con.perm {P : Program} {f : FuncId} {hargs : List HVal} {M N : List MObj} {Q : HVal → List MObj → Prop} (hp : N.Perm M) (h : Con P f hargs M Q) : Con P f hargs N Q :=
  fun I F w args h1 h2 => h I F w args h1 (h2.perm (hp.append_right F))

/-- A function that changes nothing that there is and yields what reads as h. -/
def ConP (P : Program) (f : FuncId) (hargs : List HVal) (h : HVal) : Prop := Con P f hargs [] fun x M' => x = h ∧ M' = []

/-- The result variables. -/
def resL (e : Env) : List ResultVar → Option (List HVal)
  | [] => some []
  | .tmp t :: r => match e t, resL e r with
    | some h, some l => some (h :: l)
    | _, _ => none
  | .cell _ _ :: _ => none
def resH (e : Env) (rs : List ResultVar) : Option HVal :=
  match resL e rs with
  | some [h] => some h
  | some l => some (.tup l)
  | none => none

def RetQ (rs : List ResultVar) (Q : HVal → List MObj → Prop) : Exit → Env → List MObj → Prop
  | .normal, e, M | .ret, e, M => ∃ e' M', Ghost e M e' M' ∧ ∃ h h', resH e' rs = some h ∧ Weak h h' ∧ Q h' M'
  | _, _, _ => False

def argsE (hs : List HVal) : Env := fun t => hs[t]?

def resRun (tmps : Array Value) : ResultVar → Sem Value
  | .tmp t => pure (tmps.getD t undef)
  | .cell a t => do loadVar t (← asAddr (tmps.getD a undef))
theorem results_eq (fn : Func) (tmps : Array Value) : results fn tmps = (do let vs ← fn.results.mapM (resRun tmps); pure (if h : vs.size = 1 then vs[0] else .tuple vs)) := by
  unfold results
  congr 1

theorem resL_run {I : Imm} {e : Env} {tmps : Array Value} (he : EnvV I e tmps) (P : Program) (w : World) : ∀ (rs : List ResultVar) (l : List HVal), resL e rs = some l →
    ∃ vs : List Value, (rs.mapM (resRun tmps)).run P w = .ok vs w ∧ VL I l vs := by
  intro rs
  induction rs with
  | nil => intro l h; simp [resL] at h; subst h; exact ⟨[], by simp, VL.nil⟩
  | cons r rs ih =>
    intro l h
    cases r with
    | tmp t =>
      simp only [resL] at h
      cases h1 : e t with
      | none => rw [h1] at h; simp at h
      | some x =>
        cases h2 : resL e rs with
        | none => rw [h1, h2] at h; simp at h
        | some l' =>
          rw [h1, h2] at h; simp at h; subst h
          obtain ⟨vs, h3, h4⟩ := ih l' h2
          obtain ⟨v, h5, h6⟩ := he t x h1
          refine ⟨v :: vs, ?_, VL.cons h6 h4⟩
          simp only [List.mapM_cons, resRun, Sem.run_bind, Sem.run_pure, Result.andThen_ok, h3]
          simp [h5]
    | cell a t => simp [resL] at h

theorem Con.of_body {P : Program} {f : FuncId} {fn : Func} {c : Code} {hargs : List HVal} {M : List MObj} {Q : HVal → List MObj → Prop}
    {n : Nat} (hf : P.funcs[f]? = some fn) (hb : fn.body = some c) (hnt : fn.ntmps = n) (hn' : Nat.ble hargs.length n = true) {rs : List ResultVar} (hrs : fn.results.toList = rs) (h : HWp P n c (argsE hargs) M (RetQ rs Q)) : Con P f hargs M Q := by
  have hn := Nat.le_of_ble_eq_true hn'
  subst hnt hrs
  intro I F w args h1 h2
  refine calls_of_wp hf hb ?_
  have hlen := h1.1
  refine wp_mono (h I F _ w rfl (by simp; omega) ?_ h2) ?_
  · intro t x hx
    obtain ⟨v, h3, h4⟩ := h1.get hx
    have hlt : t < args.length := by
      rcases Nat.lt_or_ge t args.length with h' | h'
      · exact h'
      · simp [List.getElem?_eq_none h'] at h3
    refine ⟨v, ?_, h4⟩
    rw [Array.getElem?_append_left (by simpa using hlt)]
    simpa using h3
  · have key : ∀ (a' : Act) (w' : World), a'.defers = [] → (∃ J e M', Le I J ∧ (∃ e' M'', Ghost e M' e' M'' ∧ ∃ h h', resH e' fn.results.toList = some h ∧ Weak h h' ∧ Q h' M'') ∧ EnvV J e a'.tmps ∧ Sat J (M' ++ F) w') →
        a'.defers = [] ∧ ∃ v, (results fn a'.tmps).run P w' = .ok v w' ∧ (∃ v_1 h M' J, Ending.returned v = Ending.returned v_1 ∧ Le I J ∧ Q h M' ∧ V J h v_1 ∧ Sat J (M' ++ F) w') := by
      rintro a' w' hd ⟨J, e, M', hl, ⟨e', M'', hg, h, h', hr, hw, hq⟩, he, hs⟩
      obtain ⟨J2, hl2, he2, hs2⟩ := hg J F a'.tmps w' he hs
      refine ⟨hd, ?_⟩
      unfold resH at hr
      cases hrl : resL e' fn.results.toList with
      | none => rw [hrl] at hr; simp at hr
      | some l =>
        obtain ⟨vs, h3, h4⟩ := resL_run he2 P w' _ _ hrl
        have hrun : (results fn a'.tmps).run P w' = .ok (if h : vs.length = 1 then vs[0] else .tuple vs.toArray) w' := by
          rw [results_eq]
          have hm : (fn.results.mapM (resRun a'.tmps)).run P w' = .ok vs.toArray w' := by
            rw [Array.mapM_eq_mapM_toList]
            simp only [Sem.run_map, h3, Result.andThen_ok]
          simp only [Sem.run_bind, Sem.run_pure]
          rw [hm]
          simp
        refine ⟨_, hrun, _, h', M'', J2, rfl, hl.trans hl2, hq, ?_, hs2⟩
        rw [hrl] at hr
        apply hw
        match l, hr, h4 with
        | [], hr, h4 =>
          simp at hr; subst hr
          have : vs = [] := by have := h4.1; simpa using this
          subst this
          exact .tup (by simp) (fun j c v h _ => by simp at h)
        | [x], hr, h4 =>
          simp at hr; subst hr
          have hl1 : vs.length = 1 := by have := h4.1; simpa using this
          match vs, hl1, h4 with
          | [v], _, h4 => exact h4.head
        | x :: y :: r, hr, h4 =>
          simp at hr; subst hr
          have hl1 : vs.length = r.length + 2 := by have := h4.1; simpa using this
          rw [dif_neg (by omega)]
          exact .tup (by simp [hl1]) (fun j c v h1 h2 => h4.2 j c v h1 (by simpa using h2))
    rintro x a' w' ⟨p1, p2, J, e, M', p3, p4, p5, p6⟩
    cases x with
    | normal => exact key a' w' p1 ⟨J, e, M', p3, p4, p5, p6⟩
    | ret => exact key a' w' p1 ⟨J, e, M', p3, p4, p5, p6⟩
    | exit id => exact p4.elim
    | goto l => exact p4.elim
    | panic ch => exact p4.elim
    | outgrown => exact p4.elim

theorem ret_p {rs : List ResultVar} {e : Env} {h h' : HVal} (hr : resH e rs = some h) (hh : h = h') : RetQ rs (fun x M' => x = h' ∧ M' = []) .ret e [] :=
  ⟨e, [], Ghost.sub (Sub.refl _), h, h, hr, Weak.refl _, hh, rfl⟩
theorem ret_n {rs : List ResultVar} {e : Env} {h h' : HVal} (hr : resH e rs = some h) (hh : h = h') : RetQ rs (fun x M' => x = h' ∧ M' = []) .normal e [] :=
  ⟨e, [], Ghost.sub (Sub.refl _), h, h, hr, Weak.refl _, hh, rfl⟩
theorem ret_w {rs : List ResultVar} {e : Env} {h h' : HVal} (hr : resH e rs = some h) (hh : Weak h h') : RetQ rs (fun x M' => x = h' ∧ M' = []) .ret e [] :=
  ⟨e, [], Ghost.sub (Sub.refl _), h, h', hr, hh, rfl, rfl⟩
theorem ret_q {rs : List ResultVar} {e : Env} {M : List MObj} {h : HVal} {Q : HVal → List MObj → Prop} (hr : resH e rs = some h) (hh : Q h M) : RetQ rs Q .ret e M :=
  ⟨e, M, Ghost.sub (Sub.refl _), h, h, hr, Weak.refl _, hh⟩
theorem ret_g {rs : List ResultVar} {e e' : Env} {M M' : List MObj} {h : HVal} {Q : HVal → List MObj → Prop} (hg : Ghost e M e' M') (hr : resH e' rs = some h) (hh : Q h M') : RetQ rs Q .ret e M :=
  ⟨e', M', hg, h, h, hr, Weak.refl _, hh⟩
theorem weak_nil (sz : Nat) : Weak (.raw (.slice none 0 0)) (.slice sz []) := fun I v h => by cases h; exact .slice0 _ _ _
/-- A tuple says no more if its parts say no more. -/
theorem weak_tup : ∀ {l l' : List HVal}, l.length = l'.length → (∀ (j : Nat) (h h' : HVal), l[j]? = some h → l'[j]? = some h' → Weak h h') → Weak (.tup l) (.tup l') := by
  intro l l' hl hw I v hv
  cases hv with
  | tup h1 h2 =>
    refine .tup (by rw [h1, hl]) fun j c x h3 h4 => ?_
    have hj : j < l.length := by
      rcases Nat.lt_or_ge j l.length with h | h
      · exact h
      · rw [List.getElem?_eq_none (by omega)] at h3; cases h3
    exact hw j l[j] c (List.getElem?_eq_getElem hj) h3 I x (h2 j l[j] x (List.getElem?_eq_getElem hj) h4)
theorem weak_tup2 {a b a' b' : HVal} (h1 : Weak a a') (h2 : Weak b b') : Weak (.tup [a, b]) (.tup [a', b']) :=
  weak_tup rfl fun j h h' x y => by
    match j, x, y with
    | 0, x, y => simp at x y; subst x y; exact h1
    | 1, x, y => simp at x y; subst x y; exact h2
theorem weak_tup3 {a b c a' b' c' : HVal} (h1 : Weak a a') (h2 : Weak b b') (h3 : Weak c c') : Weak (.tup [a, b, c]) (.tup [a', b', c']) :=
  weak_tup rfl fun j h h' x y => by
    match j, x, y with
    | 0, x, y => simp at x y; subst x y; exact h1
    | 1, x, y => simp at x y; subst x y; exact h2
    | 2, x, y => simp at x y; subst x y; exact h3
theorem weak_agg {l l' : List HVal} (hl : l.length = l'.length) (hw : ∀ (j : Nat) (h h' : HVal), l[j]? = some h → l'[j]? = some h' → Weak h h') : Weak (.agg l) (.agg l') := by
  intro I v hv
  cases hv with
  | agg h1 h2 =>
    refine .agg (by rw [h1, hl]) fun j c x h3 h4 => ?_
    have hj : j < l.length := by
      rcases Nat.lt_or_ge j l.length with h | h
      · exact h
      · rw [List.getElem?_eq_none (by omega)] at h3; cases h3
    exact hw j l[j] c (List.getElem?_eq_getElem hj) h3 I x (h2 j l[j] x (List.getElem?_eq_getElem hj) h4)

end Go.HL
