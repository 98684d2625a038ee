/- Regions that draw their order: operations that yield one value whenever they are carried out may be taken first; over any program; no conditions. -/
import Derived.Test.YtfeimpgcpjoilaaGreatDoorHl6
import Derived.KernelRfl
namespace Go.HL

section
variable {P : Program} {ops : Array Oper} {n : Nat} {S : List MObj → Prop} {ld : List Nat} {K : Env → List MObj → Prop}

/-- All loads of ld come before o. -/
def Before (ld : List Nat) (o : Oper) : Prop := ∀ l ∈ ld, ∃ ed ∈ o.after, Region.binds .any ed = true ∧ ed.on = l

def HAny (P : Program) (ops : Array Oper) (n : Nat) (S : List MObj → Prop) (ld : List Nat) (K : Env → List MObj → Prop) : Nat → Array Bool → Env → List MObj → Prop
  | 0, listed, e, M => Region.ready .any ops listed = [] ∧ K e M
  | fuel + 1, listed, e, M => (Region.ready .any ops listed = [] → K e M) ∧ ∀ i ∈ Region.ready .any ops listed, ∀ o, ops[i]? = some o →
      HOp P ops n o e M fun e' M' => (S M → S M' ∨ Before ld o) ∧ HAny P ops n S ld K fuel (listed.setIfInBounds i true) e' M'

theorem HAny.sound {I : Imm} {F : List MObj} {Q : Exit → Act → World → Prop}
    (hq : ∀ J e M a w, Le I J → K e M → a.defers = [] → a.tmps.size = n → EnvV J e a.tmps → Sat J (M ++ F) w → Q .normal a w) :
    ∀ (fuel : Nat) (listed : Array Bool) (J : Imm) (e : Env) (M : List MObj) (a : Act) (w : World), Le I J → HAny P ops n S ld K fuel listed e M →
      a.defers = [] → a.tmps.size = n → EnvV J e a.tmps → Sat J (M ++ F) w → wpAny P .any ops Q fuel listed a w
  | 0, listed, J, e, M, a, w, hl, h, hd, hn, he, hs => ⟨h.1, hq J e M a w hl h.2 hd hn he hs⟩
  | fuel + 1, listed, J, e, M, a, w, hl, h, hd, hn, he, hs => by
    refine ⟨fun h0 => hq J e M a w hl (h.1 h0) hd hn he hs, fun i hi => ?_⟩
    obtain ⟨_, o, ho, _⟩ := mem_ready.1 hi
    refine HOp.sound (h.2 i hi o ho) ho hd hn he hs fun J' e' M' a' w' hl' hK hd' hn' he' hs' => ?_
    exact HAny.sound hq fuel _ J' e' M' a' w' (hl.trans hl') hK.2 hd' hn' he' hs'

theorem hw_draw {c : Code} {id : Nat} {l : List Oper} {e : Env} {M : List MObj} {Q : Exit → Env → List MObj → Prop} (S : List MObj → Prop) (ld : List Nat) (hm : P.follows .mixedOrders = true)
    (h : HAny P l.toArray n S ld (fun e M => HWp P n c e M Q) l.length (Array.replicate l.length false) e M) : HWp P n (.seq (.region id l.toArray true) c) e M Q :=
  hw_seq fun I F a w h1 h2 h3 h4 => by
    refine wp_region_any hm ?_
    have := HAny.sound (Q := Post n I F (SeqQ P n c Q)) (fun J e M a w hl hK hd hn he hs => ⟨hd, hn, J, e, M, hl, hK, he, hs⟩) l.length (Array.replicate l.length false) I e M a { w with drawn := w.drawn + 1 } (.refl I) h h1 h2 h3
      (h4.of_same (fun _ _ => rfl) (fun _ _ => rfl) rfl rfl rfl)
    simpa using this
theorem hw_draw1 {id : Nat} {l : List Oper} {e : Env} {M : List MObj} {Q : Exit → Env → List MObj → Prop} (S : List MObj → Prop) (ld : List Nat) (hm : P.follows .mixedOrders = true)
    (h : HAny P l.toArray n S ld (fun e M => Q .normal e M) l.length (Array.replicate l.length false) e M) : HWp P n (.region id l.toArray true) e M Q :=
  fun I F a w h1 h2 h3 h4 => by
    refine wp_region_any hm ?_
    have := HAny.sound (Q := Post n I F Q) (fun J e M a w hl hK hd hn he hs => ⟨hd, hn, J, e, M, hl, hK, he, hs⟩) l.length (Array.replicate l.length false) I e M a { w with drawn := w.drawn + 1 } (.refl I) h h1 h2 h3
      (h4.of_same (fun _ _ => rfl) (fun _ _ => rfl) rfl rfl rfl)
    simpa using this

/-! what an operation looks at -/
theorem evalO_put {e : Env} {x : Operand} {d : Option Tmp} {h : HVal} (hx : ∀ t, d = some t → x ≠ .tmp t) : evalO (putE e d h) x = evalO e x := by
  cases d with
  | none => rfl
  | some d =>
    cases x with
    | tmp t =>
      have : t ≠ d := fun hh => hx d rfl (by rw [hh])
      simp only [evalO, putE]
      exact upd_ne _ _ this
    | _ => rfl
theorem mem_looks {o : Oper} {t : Tmp} (h : Operand.tmp t ∈ o.op.operands) : t ∈ o.looksAt ops :=
  List.mem_append_left _ (List.mem_filterMap.2 ⟨.tmp t, by simpa using h, rfl⟩)
theorem Opds.put {I : Imm} {e : Env} {a : Act} {o : Oper} {d : Option Tmp} {h : HVal} (hd : ∀ t, d = some t → t ∉ o.looksAt ops) : Opds I (putE e d h) a o ↔ Opds I e a o := by
  constructor
  · intro ho x hx c hc
    refine ho x hx c ?_
    rw [evalO_put fun t ht hxt => hd t ht (by subst hxt; exact mem_looks hx)]; exact hc
  · intro ho x hx c hc
    refine ho x hx c ?_
    rw [evalO_put fun t ht hxt => hd t ht (by subst hxt; exact mem_looks hx)] at hc; exact hc
theorem WantIs.put {e : Env} {o : Oper} {d : Option Tmp} {h : HVal} {c : Bool} (hd : ∀ t, d = some t → t ∉ o.looksAt ops) : WantIs ops (putE e d h) o c ↔ WantIs ops e o c := by
  unfold WantIs
  cases hg : o.guard with
  | none => simp
  | some p =>
    obtain ⟨j, want⟩ := p
    have : guardC ops (putE e d h) j want = guardC ops e j want := by
      unfold guardC
      cases hj : (ops[j]?).bind (·.dst) with
      | none => rfl
      | some t =>
        cases d with
        | none => rfl
        | some d =>
          have hne : t ≠ d := fun hh => hd d rfl (by subst hh; simp [Oper.looksAt, hg, hj])
          simp only [putE]
          rw [upd_ne _ _ hne]
    simp only [this]

/-- An operation that yields what reads as h, whenever it is carried out where T holds of the objects. -/
def DStep (P : Program) (ops : Array Oper) (T : List MObj → Prop) (e : Env) (o : Oper) (h : HVal) : Prop :=
  ∃ c, WantIs ops e o c ∧ (c = true → ∀ M, T M → EOp P e M o fun x M' => x = h ∧ M' = M) ∧ (c = false → ∃ x, h = .opt false x)

theorem DStep.put {T : List MObj → Prop} {e : Env} {o : Oper} {h x : HVal} {d : Option Tmp} (hd : ∀ t, d = some t → t ∉ o.looksAt ops) (hs : DStep P ops T e o h) : DStep P ops T (putE e d x) o h := by
  obtain ⟨c, h1, h2, h3⟩ := hs
  exact ⟨c, (WantIs.put hd).2 h1, fun hc M hM I F a w ho hsat => h2 hc M hM I F a w ((Opds.put hd).1 ho) hsat, h3⟩

theorem DStep.hop {T : List MObj → Prop} {e : Env} {o : Oper} {h : HVal} {M : List MObj} {K' : Env → List MObj → Prop} (hs : DStep P ops T e o h) (hdst : ∀ t, o.dst = some t → t < n) (hT : T M) (k : K' (putE e o.dst h) M) : HOp P ops n o e M K' := by
  obtain ⟨c, h1, h2, h3⟩ := hs
  refine ⟨hdst, c, h1, fun hc => (h2 hc M hT).mono ?_, fun hc => ?_⟩
  · rintro x M' ⟨rfl, rfl⟩; exact k
  · obtain ⟨x, rfl⟩ := h3 hc
    exact ⟨x, k⟩

theorem HOp.put {e : Env} {o : Oper} {h : HVal} {d : Option Tmp} {M : List MObj} {K' : Env → List MObj → Prop} (hd : ∀ t, d = some t → t ∉ o.looksAt ops) (hne : ∀ t, d = some t → o.dst ≠ some t)
    (hh : HOp P ops n o (putE e d h) M K') : HOp P ops n o e M fun e' M' => K' (putE e' d h) M' := by
  obtain ⟨h1, c, h2, h3, h4⟩ := hh
  refine ⟨h1, c, (WantIs.put hd).1 h2, fun hc I F a w ho hs => ?_, fun hc => ?_⟩
  · have := h3 hc I F a w ((Opds.put hd).2 ho) hs
    refine Oper.wp_noQ ?_ this
    rintro a' w' ⟨v, x, M', J, p1, p2, p3, p4, p5⟩
    exact ⟨v, x, M', J, p1, p2, by show K' (putE (putE e o.dst x) d h) M'; rw [putE_comm e x h (fun t ht h' => hne t h' ht)]; exact p3, p4, p5⟩
  · obtain ⟨x, hx⟩ := h4 hc
    exact ⟨x, by show K' (putE (putE e o.dst (.opt false x)) d h) M; rw [putE_comm e _ h (fun t ht h' => hne t h' ht)]; exact hx⟩

theorem HOp.mono {e : Env} {o : Oper} {M : List MObj} {K1 K2 : Env → List MObj → Prop} (hk : ∀ e M, K1 e M → K2 e M) (h : HOp P ops n o e M K1) : HOp P ops n o e M K2 := by
  obtain ⟨h1, c, h2, h3, h4⟩ := h
  exact ⟨h1, c, h2, fun hc => (h3 hc).mono fun _ _ h => hk _ _ h, fun hc => let ⟨x, hx⟩ := h4 hc; ⟨x, hk _ _ hx⟩⟩
theorem HOp.and {e : Env} {o : Oper} {M : List MObj} {K1 : Env → List MObj → Prop} (h : HOp P ops n o e M K1) : HOp P ops n o e M fun e' M' => K1 e' M' ∧ ∃ x, e' = putE e o.dst x := by
  obtain ⟨h1, c, h2, h3, h4⟩ := h
  exact ⟨h1, c, h2, fun hc => (h3 hc).mono fun x _ h => ⟨h, x, rfl⟩, fun hc => let ⟨x, hx⟩ := h4 hc; ⟨x, hx, _, rfl⟩⟩

theorem HAny.first {T : List MObj → Prop} {i : Nat} {oi : Oper} {h : HVal} (hi : ops[i]? = some oi) (hdst : ∀ t, oi.dst = some t → t < n) (hT : (∀ M, T M) ∨ (T = S ∧ i ∈ ld)) :
    ∀ (fuel : Nat) (listed : Array Bool) (e : Env) (M : List MObj),
      (∀ j oj, ops[j]? = some oj → j ≠ i → listed.getD j true = false → (∀ ed ∈ oj.after, Region.binds .any ed = true → ed.on ≠ i) → oi.apart ops oj = true) →
      i ∈ Region.ready .any ops listed → DStep P ops T e oi h → T M →
      HAny P ops n S ld K fuel (listed.setIfInBounds i true) (putE e oi.dst h) M → HAny P ops n S ld K (fuel + 1) listed e M := by
  intro fuel
  induction fuel with
  | zero =>
    intro listed e M _ hr hd hTM H
    refine ⟨fun h => (by rw [h] at hr; cases hr), fun j hj o ho => ?_⟩
    by_cases hji : j = i
    · subst hji
      rw [hi] at ho; cases ho
      exact hd.hop hdst hTM ⟨fun hS => .inl hS, H⟩
    · have := ready_mono hj hji
      rw [H.1] at this
      cases this
  | succ fuel ih =>
    intro listed e M hfree hr hd hTM H
    refine ⟨fun h => (by rw [h] at hr; cases hr), fun j hj o ho => ?_⟩
    by_cases hji : j = i
    · subst hji
      rw [hi] at ho; cases ho
      exact hd.hop hdst hTM ⟨fun hS => .inl hS, H⟩
    · have h1 := H.2 j (ready_mono hj hji) o ho
      obtain ⟨hjun, oj, hoj, hall⟩ := mem_ready.1 hj
      rw [ho] at hoj; cases hoj
      have hnot : ∀ ed ∈ o.after, Region.binds .any ed = true → ed.on ≠ i := fun ed he hb heq => by
        have h1 := hall ed he hb
        have h0 := (mem_ready.1 hr).1
        rw [heq] at h1
        rcases Nat.lt_or_ge i listed.size with h' | h'
        · simp [h'] at h0 h1; rw [h0] at h1; cases h1
        · simp [Array.getElem?_eq_none h'] at h1
      obtain ⟨a1, a2, a3⟩ := Oper.apart_spec (hfree j o ho hji hjun hnot)
      have hfree' : ∀ k ok, ops[k]? = some ok → k ≠ i → (listed.setIfInBounds j true).getD k true = false →
          (∀ ed ∈ ok.after, Region.binds .any ed = true → ed.on ≠ i) → oi.apart ops ok = true := fun k ok hk hki hun hno => by
        refine hfree k ok hk hki ?_ hno
        by_cases hjk : j = k
        · subst hjk; exact hjun
        · rw [getD_set_ne true hjk] at hun; exact hun
      have h2 := (HOp.put a1 a2 h1).and
      refine h2.mono ?_
      rintro e' M' ⟨⟨hS, hA⟩, x, rfl⟩
      refine ⟨hS, ih (listed.setIfInBounds j true) _ M' hfree' (ready_mono hr (Ne.symm hji)) (hd.put a3) ?_ ?_⟩
      · rcases hT with hT | ⟨rfl, hl⟩
        · exact hT M'
        · rcases hS hTM with h' | h'
          · exact h'
          · obtain ⟨ed, he, hb, hon⟩ := h' i hl
            exact absurd hon (hnot ed he hb)
      · rw [Array.setIfInBounds_comm _ _ hji]
        exact hA

/-! as the scripts use it -/
variable {e : Env} {M : List MObj} {listed : Array Bool} {fuel : Nat} {d : Nat} {op : Op} {ty : TypeId} {pos : String} {af : Array Edge} {h : HVal}

/-- A pure operation is taken first. -/
theorem ahp (i : Nat) (hi : ops[i]? = some ⟨some d, op, ty, pos, af, none⟩) (hd : Nat.blt d n = true) (hf : Region.free .any ops listed i = true) (hr : (Region.ready .any ops listed).contains i = true)
    (hp : POp P e ⟨some d, op, ty, pos, af, none⟩ h) (k : HAny P ops n S ld K fuel (listed.setIfInBounds i true) (upd e d h) M) : HAny P ops n S ld K (fuel + 1) listed e M :=
  HAny.first (T := fun _ => True) hi (fun t ht => by simp at ht; subst ht; exact blt_lt hd) (.inl fun _ => trivial) fuel listed e M (Region.free_spec hi hf) (by simpa using hr)
    ⟨true, rfl, fun _ M _ => hp.eop ⟨rfl, rfl⟩, fun h => by cases h⟩ trivial k
/-- A pure operation under a guard. -/
theorem ahg (i : Nat) {j : Nat} {want c : Bool} (hi : ops[i]? = some ⟨some d, op, ty, pos, af, some (j, want)⟩) (hd : Nat.blt d n = true) (hf : Region.free .any ops listed i = true) (hr : (Region.ready .any ops listed).contains i = true)
    (hg : guardC ops e j want = some c) (hp : c = true → ∃ e2, OpenTo e e2 ∧ POp P e2 ⟨some d, op, ty, pos, af, some (j, want)⟩ h)
    (k : HAny P ops n S ld K fuel (listed.setIfInBounds i true) (upd e d (.opt c h)) M) : HAny P ops n S ld K (fuel + 1) listed e M :=
  HAny.first (T := fun _ => True) hi (fun t ht => by simp at ht; subst ht; exact blt_lt hd) (.inl fun _ => trivial) fuel listed e M (Region.free_spec hi hf) (by simpa using hr)
    ⟨c, hg, fun hc M _ => by
      obtain ⟨e2, h1, h2⟩ := hp hc
      intro I F a w ho hs
      exact Oper.wp_noQ (fun _ _ ⟨v, J, h3, h4, h5, h6⟩ => ⟨v, .opt c h, M, J, h3, h4, ⟨rfl, rfl⟩, .opt (fun _ => h5) (fun hf => by rw [hc] at hf; cases hf), h6⟩) ((h2.open h1) I (M ++ F) a w ho hs),
     fun hc => ⟨h, by rw [hc]⟩⟩ trivial k
/-- A load out of owned objects of which S knows enough is taken first. -/
theorem ahl (i : Nat) (hi : ops[i]? = some ⟨some d, op, ty, pos, af, none⟩) (hd : Nat.blt d n = true) (hf : Region.free .any ops listed i = true) (hr : (Region.ready .any ops listed).contains i = true) (hl : i ∈ ld) (hS : S M)
    (hp : ∀ M, S M → EOp P e M ⟨some d, op, ty, pos, af, none⟩ fun x M' => x = h ∧ M' = M) (k : HAny P ops n S ld K fuel (listed.setIfInBounds i true) (upd e d h) M) : HAny P ops n S ld K (fuel + 1) listed e M :=
  HAny.first (T := S) hi (fun t ht => by simp at ht; subst ht; exact blt_lt hd) (.inr ⟨rfl, hl⟩) fuel listed e M (Region.free_spec hi hf) (by simpa using hr)
    ⟨true, rfl, fun _ M hM => hp M hM, fun h => by cases h⟩ hS k
/-- The one operation that can come next. -/
theorem ahe (i : Nat) {o : Oper} (hi : ops[i]? = some o) (hr : Region.ready .any ops listed = [i]) (k : HOp P ops n o e M fun e' M' => (S M → S M' ∨ Before ld o) ∧ HAny P ops n S ld K fuel (listed.setIfInBounds i true) e' M') :
    HAny P ops n S ld K (fuel + 1) listed e M :=
  ⟨fun h => (by rw [hr] at h; cases h), fun j hj o' ho' => by rw [hr] at hj; simp at hj; subst hj; rw [hi] at ho'; cases ho'; exact k⟩
theorem ahe2 (i i' : Nat) {o o' : Oper} (hi : ops[i]? = some o) (hi' : ops[i']? = some o') (hr : Region.ready .any ops listed = [i, i'])
    (k : HOp P ops n o e M fun e' M' => (S M → S M' ∨ Before ld o) ∧ HAny P ops n S ld K fuel (listed.setIfInBounds i true) e' M')
    (k' : HOp P ops n o' e M fun e' M' => (S M → S M' ∨ Before ld o') ∧ HAny P ops n S ld K fuel (listed.setIfInBounds i' true) e' M') : HAny P ops n S ld K (fuel + 1) listed e M :=
  ⟨fun h => (by rw [hr] at h; cases h), fun j hj q hq => by
    rw [hr] at hj; simp at hj
    rcases hj with rfl | rfl
    · rw [hi] at hq; cases hq; exact k
    · rw [hi'] at hq; cases hq; exact k'⟩
/-- The end. -/
theorem ahz (hr : Region.ready .any ops listed = []) (k : K e M) : HAny P ops n S ld K fuel listed e M := by
  cases fuel with
  | zero => exact ⟨hr, k⟩
  | succ f => exact ⟨fun _ => k, by rw [hr]; simp⟩
theorem hop_e {rest : Env → List MObj → Prop} (hd : Nat.blt d n = true) (hp : EOp P e M ⟨some d, op, ty, pos, af, none⟩ fun h M' => rest (upd e d h) M') : HOp P ops n ⟨some d, op, ty, pos, af, none⟩ e M rest :=
  ⟨fun t ht => by simp at ht; subst ht; exact blt_lt hd, true, rfl, fun _ => hp, fun h => by cases h⟩
theorem hop_e0 {rest : Env → List MObj → Prop} (hp : EOp P e M ⟨none, op, ty, pos, af, none⟩ fun _ M' => rest e M') : HOp P ops n ⟨none, op, ty, pos, af, none⟩ e M rest :=
  ⟨fun t ht => by simp at ht, true, rfl, fun _ => hp, fun h => by cases h⟩
end
end Go.HL
