/- Calls that change one owned object; operations with an effect under a guard; a slice's tail; over any program; no conditions. -/
import Derived.Test.YtfeimpgcpjoilaaGreatDoorHl12
namespace Go.HL
section
variable {P : Program} {e : Env} {dst : Option Tmp} {ty : TypeId} {pos : String} {af : Array Edge} {g : Option (Nat × Bool)} {M : List MObj} {K : HVal → List MObj → Prop}
theorem perm_erase {α : Type} : ∀ {l : List α} {i : Nat} {x : α}, l[i]? = some x → l.Perm (x :: l.eraseIdx i)
  | [], i, x, h => by simp at h
  | y :: l, 0, x, h => by simp at h; subst h; exact .refl _
  | y :: l, i + 1, x, h => by
    have := perm_erase (l := l) (i := i) (x := x) (by simpa using h)
    exact (this.cons y).trans (.swap _ _ _)
/-- A call on one of the owned objects. -/
theorem eop_callx {f : FuncId} {args : Array Operand} {ats : Array TypeId} {hs hs' : List HVal} {i : Nat} {m : MObj} {Q : HVal → List MObj → Prop} (hc : Callable P f) (ha : evalL e args.toList = some hs) (hw : WeakL hs hs') (hm : M[i]? = some m)
    (hp : Con P f hs' [m] Q) (hk : ∀ h M', Q h M' → K h (M' ++ M.eraseIdx i)) : EOp P e M ⟨dst, .call ⟨.value (.func f), args, ats⟩, ty, pos, af, g⟩ K :=
  eop_callf (M1 := [m]) hc ha hw (perm_erase hm) hp hk
/-- The length of an owned slice. -/
theorem eop_lenm {α : Type} {f : α → HVal} {x : Operand} {t el : TypeId} {size bytes : Nat} {zero : Value} {i : Nat} {v : Value} {sz : Nat} {es : List α} (hf : Fits P t (.slice el) size bytes zero) (hx : evalO e x = some (.raw v))
    (hm : M[i]? = some (.arr v sz (es.map f))) (hk : K (.int .i64 es.length) M) : EOp P e M ⟨dst, .call ⟨.builtin .len, #[x], #[t]⟩, ty, pos, af, g⟩ K := by
  refine eop_len hf hx hm ?_
  rw [List.length_map]; exact hk
/-- An element of an owned slice is loaded, whole or in part, through its address. -/
theorem eop_load_el {α : Type} {f : α → HVal} {x : Operand} {t : TypeId} {d : TD} {size bytes : Nat} {zero : Value} {i b off cap n sz j o : Nat} {es : List α} {y : α} (k : Nat) {h : HVal} (hf : Fits P t d size bytes zero)
    (hx : evalO e x = some (.raw (.pointer (some ⟨b, o, none⟩)))) (ho' : o = off + j * sz + k) (hm : M[i]? = some (.arr (.slice (some ⟨b, off, none⟩) n cap) sz (es.map f))) (hj : es[j]? = some y)
    (hd : d.isAgg = false) (hh : (hcells (f y))[k]? = some h) (hk : K h M) : EOp P e M ⟨dst, .load t x, ty, pos, af, g⟩ K :=
  eop_load_arr (j := j) (f := k) (y := f y) hf hx ho' hm (by rw [List.getElem?_map, hj]; rfl) (.inl ⟨hd, hh⟩) hk
end
section
variable {P : Program} {ops : Array Oper} {n : Nat} {K : Env → List MObj → Prop} {rest : List Oper} {e : Env} {M : List MObj} {d : Nat} {op : Op} {ty : TypeId} {pos : String} {af : Array Edge}
/-- An operation with an effect under a guard: what it brings about holds where it is not carried out as well. -/
theorem dgx {j : Nat} {want c : Bool} (Q : HVal → List MObj → Prop) (hd : Nat.blt d n = true) (hg : guardC ops e j want = some c) (hn : c = false → ∃ x, Q x M)
    (hp : c = true → ∃ e2, OpenTo e e2 ∧ EOp P e2 M ⟨some d, op, ty, pos, af, some (j, want)⟩ Q)
    (k : ∀ x M', Q x M' → Der P ops n K rest (upd e d (.opt c x)) M') : Der P ops n K (⟨some d, op, ty, pos, af, some (j, want)⟩ :: rest) e M :=
  ⟨fun t ht => by simp at ht; subst ht; exact blt_lt hd, c, hg, fun hc => by
    obtain ⟨e2, h1, h2⟩ := hp hc
    intro I F a w ho hs
    exact Oper.wp_noQ (fun _ _ ⟨v, x, M', J, h3, h4, h5, h7, h8⟩ => ⟨v, .opt c x, M', J, h3, h4, k x M' h5, .opt (fun _ => h7) (fun hf => by rw [hc] at hf; cases hf), h8⟩) (h2 I F a w (ho.open h1) hs),
   fun hc => by
    obtain ⟨x, hx⟩ := hn hc
    subst hc
    exact ⟨x, k x M hx⟩⟩
end
def tailOff (cap off sz : Nat) : Nat := if cap = 1 then off else off + sz
theorem Sat.arr_tail {I : Imm} {F : List MObj} {w : World} {b off cap sz : Nat} {x : HVal} {es : List HVal} (h : Sat I (.arr (.slice (some ⟨b, off, none⟩) (es.length + 1) cap) sz (x :: es) :: F) w) :
    Sat I (.arr (.slice (some ⟨b, tailOff cap off sz, none⟩) es.length (cap - 1)) sz es :: F) w := by
  obtain ⟨_, rc, el, fr, h2, h3, h4, h5, h6, h7⟩ := arr_some h
  simp only [List.length_cons] at h5
  refine h.change (m' := .arr (.slice (some ⟨b, tailOff cap off sz, none⟩) es.length (cap - 1)) sz es) (fun _ _ _ => rfl) (fun c hc => .inl hc) (by simp [MObj.blocks]) ?_ rfl rfl rfl
  have hcs : cap * sz = (cap - 1) * sz + sz := by
    conv => lhs; rw [show cap = cap - 1 + 1 by omega]
    rw [Nat.succ_mul]
  refine .inr ⟨b, tailOff cap off sz, cap - 1, rc, el, fr, rfl, h2, h3, fun e he => h4 e (List.mem_cons_of_mem _ he), by omega, ?_, ?_⟩
  · unfold tailOff; split
    · omega
    · omega
  · intro i j e c v a1 a2 a3
    have hi := lt_of_get a1
    have ht : tailOff cap off sz = off + sz := by unfold tailOff; rw [if_neg (by omega)]
    rw [ht] at a3
    refine h7 (i + 1) j e c v (by simpa using a1) a2 ?_
    rw [Nat.succ_mul]
    have e1 : off + (i * sz + sz) + j = off + sz + i * sz + j := by omega
    rw [e1]; exact a3
theorem Ghost.tail {e : Env} {M : List MObj} {b off cap sz : Nat} {x : HVal} {es : List HVal} : Ghost e (.arr (.slice (some ⟨b, off, none⟩) (es.length + 1) cap) sz (x :: es) :: M) e (.arr (.slice (some ⟨b, tailOff cap off sz, none⟩) es.length (cap - 1)) sz es :: M) :=
  fun I F tmps w h1 h2 => ⟨I, .refl I, h1, h2.arr_tail⟩
section
variable {P : Program} {e : Env} {dst : Option Tmp} {ty : TypeId} {pos : String} {af : Array Edge} {g : Option (Nat × Bool)}
/-- The tail of a slice whose header is known. -/
theorem pop_tail {x : Operand} {t el : TypeId} {size bytes sz b2 : Nat} {zero z2 : Value} {d : TD} {b off n cap : Nat}
    (hf : Fits P t (.slice el) size bytes zero) (hel : Fits P el d sz b2 z2) (hx : evalO e x = some (.raw (.slice (some ⟨b, off, none⟩) (n + 1) cap))) (hc : n + 1 ≤ cap) :
    POp P e ⟨dst, .slice t x (some (.const (.int .i64 1))) none none, ty, pos, af, g⟩ (.raw (.slice (some ⟨b, tailOff cap off sz, none⟩) n (cap - 1))) :=
  POp.of_val fun I a w ho => by
    have h1 := (ho.one (x := x) (by simp [Op.operands]) hx).raw_inv
    have hb : (Instr.sliceBounds true (n + 1) cap (Option.map a.eval (some (.const (.int .i64 1)))) (Option.map a.eval none) none).run P w = .ok (1, n + 1, cap) w :=
      run_bounds (P := P) (e := e) (lo := some (.const (.int .i64 1))) (hi := none) (l := 1) (h := n + 1) (len := n + 1) (cap := cap) ho (by intro y hy; simp [Op.operands, hy]) (by intro y hy; simp [Op.operands, hy]) ⟨_, _, rfl, rfl⟩ rfl (by omega) (Nat.le_refl _) hc true w
    refine ⟨_, ?_, .raw _ rfl⟩
    simp only [Option.map_some, Option.map_none] at hb
    simp [execOp, Instr.sliceAt, run_underlying hf.slice, h1, Instr.slice, hb, hel.run_sizeOf, tailOff]
    try (split <;> simp_all [addr_add])
end
end Go.HL
