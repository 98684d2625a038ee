/- The forms of the rules that the printed scripts use; over any program; no conditions. -/
import Derived.Test.YtfeimpgcpjoilaaGreatDoorHl7
namespace Go.HL
theorem perm_eq {α : Type} {M N : List α} (h : M = N) : M.Perm N := h ▸ List.Perm.refl _
theorem Ghost.fc0 {e : Env} {M : List MObj} {b off : Nat} {cs : List HVal} (t : Nat) (ht : e t = some (.raw (.pointer (some ⟨b, off, none⟩)))) : Ghost e (.cells b cs :: M) (upd e t (.vptr cs off)) M :=
  Ghost.fc (i := 0) t rfl ht
theorem Ghost.fa0 {e : Env} {M : List MObj} {v : Value} {sz : Nat} {es : List HVal} (t : Nat) (ht : e t = some (.raw v)) : Ghost e (.arr v sz es :: M) (upd e t (.slice sz es)) M :=
  Ghost.fa (i := 0) t rfl ht
theorem Ghost.fa1 {e : Env} {M : List MObj} {m : MObj} {v : Value} {sz : Nat} {es : List HVal} (t : Nat) (ht : e t = some (.raw v)) : Ghost e (m :: .arr v sz es :: M) (upd e t (.slice sz es)) (m :: M) :=
  Ghost.fa (i := 1) t rfl ht
theorem Ghost.of_eq {e : Env} {M M' : List MObj} (h : M = M') : Ghost e M e M' := h ▸ Ghost.sub (Sub.refl _)
section
variable {P : Program} {e : Env} {dst : Option Tmp} {ty : TypeId} {pos : String} {af : Array Edge} {g : Option (Nat × Bool)} {M : List MObj} {K : HVal → List MObj → Prop}
theorem setL_all {cs hs : List HVal} (h : hs.length = cs.length) : setL cs 0 hs = hs := by
  simp [setL, h]
/-- A new variable is given its first value. -/
theorem eop_storew {x y : Operand} {t : TypeId} {d : TD} {size bytes : Nat} {zero : Value} {b : Nat} {cs : List HVal} {h : HVal} (hf : Fits P t d size bytes zero)
    (hx : evalO e x = some (.raw (.pointer (some ⟨b, 0, none⟩)))) (hy : evalO e y = some h) (ho : okElem size h = true) (hfl : flat (hcells h) = true) (hc : cs.length = size)
    (hk : K .junk (.cells b (hcells h) :: M)) : EOp P e (.cells b cs :: M) ⟨dst, .store t x y, ty, pos, af, g⟩ K := by
  obtain ⟨h1, _⟩ := okElem_cells ho
  refine eop_store (i := 0) hf hx hy rfl ho hfl (by omega) ?_
  rw [setL_all (by omega)]
  exact hk
end
section
variable {P : Program} {n : Nat} {e e' : Env} {M M' : List MObj} {Q Q' : Exit → Env → List MObj → Prop} {c c' : Code}
def LoopW2 {α β : Type} (e : Env) (ks : List Nat) (W : α → β → List (Nat × HVal)) (MM : α → β → List MObj) (Iv : α → β → Prop) (μ : α → β → Nat) (x : α) (y : β) (Q : Exit → Env → List MObj → Prop) : Exit → Env → List MObj → Prop
  | .normal, e', M => ∃ j k, Iv j k ∧ μ j k < μ x y ∧ HoldsW e' (W j k) ∧ Keeps ks e e' ∧ M.Perm (MM j k)
  | z, e', M => Q z e' M
theorem loopQ2_x {α β : Type} {e0 : Env} {ks : List Nat} {W : α → β → List (Nat × HVal)} {MM : α → β → List MObj} {Iv : α → β → Prop} {μ : α → β → Nat} {x : α} {y : β} {id : Nat} (h : Q (.exit id) e M) :
    LoopW2 e0 ks W MM Iv μ x y Q (.exit id) e M := h
theorem hw_loopw2 {α β : Type} (ks : List Nat) (W : α → β → List (Nat × HVal)) (MM : α → β → List MObj) (Iv : α → β → Prop) (μ : α → β → Nat) (x : α) (y : β) (h0 : Iv x y) (hW : HoldsW e (W x y)) (hM : M.Perm (MM x y))
    (hb : ∀ x y, Iv x y → HWp P n c (loopE e ks (W x y)) (MM x y) (LoopW2 e ks W MM Iv μ x y Q)) : HWp P n (.loop c) e M Q := by
  refine hw_loopw (ι := α × β) ks (fun p => W p.1 p.2) (fun p => MM p.1 p.2) (fun p => Iv p.1 p.2) (fun p => μ p.1 p.2) (x, y) h0 hW hM fun p hp => hw_mono (hb p.1 p.2 hp) ?_
  intro z e1 M1 hq
  cases z with
  | normal => obtain ⟨j, k, h⟩ := hq; exact ⟨(j, k), h⟩
  | _ => exact hq
def LoopW3 {α β γ : Type} (e : Env) (ks : List Nat) (W : α → β → γ → List (Nat × HVal)) (MM : α → β → γ → List MObj) (Iv : α → β → γ → Prop) (μ : α → β → γ → Nat) (x : α) (y : β) (u : γ) (Q : Exit → Env → List MObj → Prop) : Exit → Env → List MObj → Prop
  | .normal, e', M => ∃ j k l, Iv j k l ∧ μ j k l < μ x y u ∧ HoldsW e' (W j k l) ∧ Keeps ks e e' ∧ M.Perm (MM j k l)
  | z, e', M => Q z e' M
theorem loopQ3_x {α β γ : Type} {e0 : Env} {ks : List Nat} {W : α → β → γ → List (Nat × HVal)} {MM : α → β → γ → List MObj} {Iv : α → β → γ → Prop} {μ : α → β → γ → Nat} {x : α} {y : β} {u : γ} {id : Nat} (h : Q (.exit id) e M) :
    LoopW3 e0 ks W MM Iv μ x y u Q (.exit id) e M := h
theorem hw_loopw3 {α β γ : Type} (ks : List Nat) (W : α → β → γ → List (Nat × HVal)) (MM : α → β → γ → List MObj) (Iv : α → β → γ → Prop) (μ : α → β → γ → Nat) (x : α) (y : β) (u : γ) (h0 : Iv x y u) (hW : HoldsW e (W x y u)) (hM : M.Perm (MM x y u))
    (hb : ∀ x y u, Iv x y u → HWp P n c (loopE e ks (W x y u)) (MM x y u) (LoopW3 e ks W MM Iv μ x y u Q)) : HWp P n (.loop c) e M Q := by
  refine hw_loopw (ι := α × β × γ) ks (fun p => W p.1 p.2.1 p.2.2) (fun p => MM p.1 p.2.1 p.2.2) (fun p => Iv p.1 p.2.1 p.2.2) (fun p => μ p.1 p.2.1 p.2.2) (x, y, u) h0 hW hM fun p hp => hw_mono (hb p.1 p.2.1 p.2.2 hp) ?_
  intro z e1 M1 hq
  cases z with
  | normal => obtain ⟨j, k, l, h⟩ := hq; exact ⟨(j, k, l), h⟩
  | _ => exact hq
end
/-- A function that yields a new slice of its own. -/
def ConA (P : Program) (f : FuncId) (hargs : List HVal) (sz : Nat) (es : List HVal) : Prop := Con P f hargs [] fun x M' => ∃ v, x = .raw v ∧ M' = [.arr v sz es]
theorem ret_a {rs : List ResultVar} {e : Env} {v : Value} {sz : Nat} {es es' : List HVal} (hr : resH e rs = some (.raw v)) (hh : es = es') : RetQ rs (fun x M' => ∃ v, x = .raw v ∧ M' = [.arr v sz es']) .ret e [.arr v sz es] :=
  ⟨e, _, Ghost.sub (Sub.refl _), _, _, hr, Weak.refl _, v, rfl, by rw [hh]⟩
theorem ret_fa {rs : List ResultVar} {e : Env} {M : List MObj} {v : Value} {sz : Nat} {es : List HVal} {h h' : HVal} (t : Nat) (ht : e t = some (.raw v)) (hr : resH (upd e t (.slice sz es)) rs = some h) (hh : h = h') :
    RetQ rs (fun x M' => x = h' ∧ M' = []) .ret e [.arr v sz es] :=
  ⟨_, _, Ghost.fa0 t ht, h, h, hr, Weak.refl _, hh, rfl⟩
theorem eop_calla {P : Program} {e : Env} {dst : Option Tmp} {ty : TypeId} {pos : String} {af : Array Edge} {g : Option (Nat × Bool)} {M : List MObj} {K : HVal → List MObj → Prop} {f : FuncId} {args : Array Operand} {ats : Array TypeId}
    {hs hs' : List HVal} {sz : Nat} {es : List HVal} (hc : Callable P f) (ha : evalL e args.toList = some hs) (hw : WeakL hs hs') (hp : ConA P f hs' sz es) (hk : ∀ v, K (.raw v) (.arr v sz es :: M)) :
    EOp P e M ⟨dst, .call ⟨.value (.func f), args, ats⟩, ty, pos, af, g⟩ K := by
  have := (eop_call (dst := dst) (ty := ty) (pos := pos) (af := af) (g := g) (ats := ats) hc ha hw hp).frame M
  refine EOp.mono ?_ this
  rintro h M' ⟨N, rfl, v, rfl, rfl⟩
  exact hk v
/-- A call on some of the owned objects. -/
theorem eop_callf {P : Program} {e : Env} {dst : Option Tmp} {ty : TypeId} {pos : String} {af : Array Edge} {g : Option (Nat × Bool)} {M M1 R : List MObj} {K Q : HVal → List MObj → Prop} {f : FuncId} {args : Array Operand} {ats : Array TypeId}
    {hs hs' : List HVal} (hc : Callable P f) (ha : evalL e args.toList = some hs) (hw : WeakL hs hs') (hm : M.Perm (M1 ++ R)) (hp : Con P f hs' M1 Q) (hk : ∀ h M', Q h M' → K h (M' ++ R)) :
    EOp P e M ⟨dst, .call ⟨.value (.func f), args, ats⟩, ty, pos, af, g⟩ K := by
  have := (eop_call (dst := dst) (ty := ty) (pos := pos) (af := af) (g := g) (ats := ats) hc ha hw hp).frame R
  refine EOp.perm hm (EOp.mono ?_ this)
  rintro h M' ⟨N, rfl, hq⟩
  exact hk h N hq
end Go.HL
