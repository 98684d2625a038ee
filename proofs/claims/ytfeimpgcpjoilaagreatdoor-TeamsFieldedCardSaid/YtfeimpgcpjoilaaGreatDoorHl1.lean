/- The contents of values, the immutable part of the heap and the owned objects: the notions of a small program logic over any program; no conditions. -/
import Derived.Calls
import Derived.Laws.Sem
namespace Go.HL

/-- What a value reads as: a content tree. -/
inductive HVal where
  | bool (b : Bool)
  | int (k : IntKind) (n : Int)
  | str (s : List UInt8)
  | raw (v : Value)
  | slice (sz : Nat) (es : List HVal)
  | vptr (cs : List HVal) (off : Nat)
  | agg (cs : List HVal)
  | tup (vs : List HVal)
  | fn (f : Fn) (fst cap : List HVal)
  | ifc (t : TypeId) (v : HVal)
  | opt (c : Bool) (v : HVal)
  | junk

/-- It can lie in memory. -/
def storable : HVal → Bool
  | .junk | .opt _ _ => false
  | _ => true

def hcells : HVal → List HVal
  | .agg cs => cs
  | v => [v]

/-- The immutable part of the world. -/
structure Imm where
  heap : Nat → Option Obj
  os : Os
  output : Array (Nat × ByteArray)
  tape : Nat → Question → Nat

structure Le (I J : Imm) : Prop where
  heap : ∀ b o, I.heap b = some o → J.heap b = some o
  os : J.os = I.os
  output : J.output = I.output
  tape : J.tape = I.tape

theorem Le.refl (I : Imm) : Le I I := ⟨fun _ _ h => h, rfl, rfl, rfl⟩
theorem Le.trans {I J K : Imm} (h : Le I J) (h' : Le J K) : Le I K :=
  ⟨fun b o x => h'.heap b o (h.heap b o x), h'.os.trans h.os, h'.output.trans h.output, h'.tape.trans h.tape⟩

/-- The value v reads as the content tree, in immutable memory. -/
inductive V (I : Imm) : HVal → Value → Prop
  | bool (b : Bool) : V I (.bool b) (.bool b)
  | int (k : IntKind) (n : Int) : V I (.int k n) (.int k n)
  | str (s : List UInt8) : V I (.str s) (.string ⟨s.toArray⟩)
  | raw (v : Value) (h1 : v.oneCell' = true) : V I (.raw v) v
  | junk (v : Value) : V I .junk v
  | slice0 (sz : Nat) (a : Option Addr) (cap : Nat) : V I (.slice sz []) (.slice a 0 cap)
  | slice {sz : Nat} {es : List HVal} {b off cap : Nat} {rc : Array Value} {el : TypeId} {fr : Nat × Nat}
      (hI : I.heap b = some (.cells rc el fr)) (hsz : ∀ e ∈ es, (hcells e).length = sz) (hcap : es.length ≤ cap)
      (hb : off + es.length * sz ≤ rc.size)
      (hV : ∀ (i j : Nat) (e c : HVal) (v : Value), es[i]? = some e → (hcells e)[j]? = some c → rc[off + i * sz + j]? = some v → V I c v) :
      V I (.slice sz es) (.slice (some ⟨b, off, none⟩) es.length cap)
  | vptr {cs : List HVal} {off b base : Nat} {rc : Array Value} {el : TypeId} {fr : Nat × Nat}
      (hI : I.heap b = some (.cells rc el fr)) (hb : base + cs.length ≤ rc.size)
      (hV : ∀ (j : Nat) (c : HVal) (v : Value), cs[j]? = some c → rc[base + j]? = some v → V I c v) :
      V I (.vptr cs off) (.pointer (some ⟨b, base + off, none⟩))
  | agg {cs : List HVal} {vs : Array Value} (hl : vs.size = cs.length)
      (hV : ∀ (j : Nat) (c : HVal) (v : Value), cs[j]? = some c → vs[j]? = some v → V I c v) : V I (.agg cs) (.agg vs)
  | tup {cs : List HVal} {vs : Array Value} (hl : vs.size = cs.length)
      (hV : ∀ (j : Nat) (c : HVal) (v : Value), cs[j]? = some c → vs[j]? = some v → V I c v) : V I (.tup cs) (.tuple vs)
  | fn {f : Fn} {c1 c2 : List HVal} {v1 v2 : Array Value} (hl1 : v1.size = c1.length) (hl2 : v2.size = c2.length)
      (hV1 : ∀ (j : Nat) (c : HVal) (v : Value), c1[j]? = some c → v1[j]? = some v → V I c v)
      (hV2 : ∀ (j : Nat) (c : HVal) (v : Value), c2[j]? = some c → v2[j]? = some v → V I c v) : V I (.fn f c1 c2) (.func f v1 v2)
  | ifc {t : TypeId} {c : HVal} {v : Value} (h : V I c v) : V I (.ifc t c) (.iface t v)
  | opt {c : Bool} {h : HVal} {v : Value} (h1 : c = true → V I h v) (h2 : c = false → v = undef) : V I (.opt c h) v

theorem V.mono {I J : Imm} (h : Le I J) {c : HVal} {v : Value} (hv : V I c v) : V J c v := by
  induction hv with
  | bool b => exact .bool b
  | int k n => exact .int k n
  | str s => exact .str s
  | raw v h1 => exact .raw v h1
  | junk v => exact .junk v
  | slice0 sz a cap => exact .slice0 sz a cap
  | slice hI hsz hcap hb _ ih => exact .slice (h.heap _ _ hI) hsz hcap hb ih
  | vptr hI hb _ ih => exact .vptr (h.heap _ _ hI) hb ih
  | agg hl _ ih => exact .agg hl ih
  | tup hl _ ih => exact .tup hl ih
  | fn h1 h2 _ _ ih1 ih2 => exact .fn h1 h2 ih1 ih2
  | ifc _ ih => exact .ifc ih
  | opt _ h2 ih => exact .opt ih h2

/-- Cells that read as a list of contents. -/
def VL (I : Imm) (cs : List HVal) (vs : List Value) : Prop := vs.length = cs.length ∧ ∀ (j : Nat) (c : HVal) (v : Value), cs[j]? = some c → vs[j]? = some v → V I c v

theorem VL.mono {I J : Imm} (h : Le I J) {c : List HVal} {v : List Value} (hv : VL I c v) : VL J c v :=
  ⟨hv.1, fun j c v h1 h2 => (hv.2 j c v h1 h2).mono h⟩
theorem VL.nil {I : Imm} : VL I [] [] := ⟨rfl, fun j c v h _ => by simp at h⟩
theorem VL.cons {I : Imm} {c : HVal} {v : Value} {cs : List HVal} {vs : List Value} (h : V I c v) (hs : VL I cs vs) : VL I (c :: cs) (v :: vs) := by
  refine ⟨by simp [hs.1], fun j c' v' h1 h2 => ?_⟩
  cases j with
  | zero => simp at h1 h2; rw [← h1, ← h2]; exact h
  | succ j => simp at h1 h2; exact hs.2 j c' v' h1 h2
theorem VL.head {I : Imm} {c : HVal} {v : Value} {cs : List HVal} {vs : List Value} (h : VL I (c :: cs) (v :: vs)) : V I c v := h.2 0 c v rfl rfl
theorem VL.tail {I : Imm} {c : HVal} {v : Value} {cs : List HVal} {vs : List Value} (h : VL I (c :: cs) (v :: vs)) : VL I cs vs :=
  ⟨by have := h.1; simp at this; exact this, fun j c' v' h1 h2 => h.2 (j+1) c' v' (by simpa using h1) (by simpa using h2)⟩
theorem VL.append {I : Imm} {c1 c2 : List HVal} {v1 v2 : List Value} (h1 : VL I c1 v1) (h2 : VL I c2 v2) : VL I (c1 ++ c2) (v1 ++ v2) := by
  refine ⟨by simp [h1.1, h2.1], fun j c v a b => ?_⟩
  by_cases hj : j < c1.length
  · rw [List.getElem?_append_left hj] at a
    rw [List.getElem?_append_left (by rw [h1.1]; exact hj)] at b
    exact h1.2 j c v a b
  · rw [List.getElem?_append_right (by omega)] at a
    rw [List.getElem?_append_right (by rw [h1.1]; omega), h1.1] at b
    exact h2.2 _ c v a b
theorem VL.get {I : Imm} {cs : List HVal} {vs : List Value} (h : VL I cs vs) {j : Nat} {c : HVal} (hc : cs[j]? = some c) : ∃ v, vs[j]? = some v ∧ V I c v := by
  have hj : j < cs.length := by
    rcases Nat.lt_or_ge j cs.length with h' | h'
    · exact h'
    · simp [List.getElem?_eq_none h'] at hc
  have hj' : j < vs.length := by rw [h.1]; exact hj
  exact ⟨vs[j], List.getElem?_eq_getElem hj', h.2 j c _ hc (List.getElem?_eq_getElem hj')⟩

/-- The cells of a value that reads as c read as c's cells. -/
theorem V.cells {I : Imm} {c : HVal} {v : Value} (h : V I c v) (hj : storable c = true) : VL I (hcells c) v.cells.toList := by
  cases h with
  | agg hl hV => exact ⟨by simpa [hcells, Value.cells] using hl, fun j c v h1 h2 => hV j c v h1 (by simpa [Value.cells] using h2)⟩
  | junk v => simp [storable] at hj
  | opt _ _ => simp [storable] at hj
  | raw v h1 => cases v <;> first | exact VL.cons (.raw _ h1) VL.nil | simp [Value.oneCell'] at h1
  | bool b => exact VL.cons (.bool b) VL.nil
  | int k n => exact VL.cons (.int k n) VL.nil
  | str s => exact VL.cons (.str s) VL.nil
  | slice0 sz a cap => exact VL.cons (.slice0 sz a cap) VL.nil
  | slice h1 h2 h3 h4 h5 => exact VL.cons (.slice h1 h2 h3 h4 h5) VL.nil
  | vptr h1 h2 h3 => exact VL.cons (.vptr h1 h2 h3) VL.nil
  | tup h1 h2 => exact VL.cons (.tup h1 h2) VL.nil
  | fn h1 h2 h3 h4 => exact VL.cons (.fn h1 h2 h3 h4) VL.nil
  | ifc h => exact VL.cons (.ifc h) VL.nil

/-- Objects that the code at hand owns. -/
inductive MObj where
  | cells (b : Nat) (cs : List HVal)
  | arr (v : Value) (sz : Nat) (es : List HVal)
  | obj (b : Nat) (o : Obj)
  | map (b : Nat) (l : List (HVal × HVal))

def MObj.blocks : MObj → List Nat
  | .cells b _ => [b]
  | .arr (.slice (some a) _ _) _ _ => [a.block]
  | .arr _ _ _ => []
  | .obj b _ => [b]
  | .map b _ => [b]

/-- No cell of the first n is frozen. -/
def Free (fr : Nat × Nat) (n : Nat) : Prop := ∀ o, o < n → ¬ (fr.1 ≤ o ∧ o < fr.2)
theorem Free.zero (n : Nat) : Free (0, 0) n := fun o _ h => by simp at h

def MSat (I : Imm) (w : World) : MObj → Prop
  | .cells b cs => ∃ rc el fr, w.heap[b]? = some (.cells rc el fr) ∧ Free fr rc.size ∧ VL I cs rc.toList
  | .arr v sz es => (v = .slice none 0 0 ∧ es = []) ∨
      ∃ b off cap rc el fr, v = .slice (some ⟨b, off, none⟩) es.length cap ∧ w.heap[b]? = some (.cells rc el fr) ∧ Free fr rc.size ∧
        (∀ e ∈ es, (hcells e).length = sz) ∧ (es.length ≤ cap ∧ cap ≤ 9223372036854775807) ∧ off + cap * sz ≤ rc.size ∧
        (∀ (i j : Nat) (e c : HVal) (v : Value), es[i]? = some e → (hcells e)[j]? = some c → rc[off + i * sz + j]? = some v → V I c v)
  | .obj b o => w.heap[b]? = some o
  | .map b l => ∃ es clk, w.heap[b]? = some (.map es clk) ∧ es.size = l.length ∧ ∀ (i : Nat) (p : HVal × HVal) (m : MapEntry), l[i]? = some p → es[i]? = some m → V I p.1 m.key ∧ V I p.2 m.val

theorem MSat.mono {I J : Imm} (h : Le I J) {w : World} {m : MObj} (hm : MSat I w m) : MSat J w m := by
  cases m with
  | cells b cs => obtain ⟨rc, el, fr, h1, h2, h3⟩ := hm; exact ⟨rc, el, fr, h1, h2, h3.mono h⟩
  | arr v sz es =>
    rcases hm with hm | ⟨b, off, cap, rc, el, fr, h1, h2, h3, h4, h5, h6, h7⟩
    · exact .inl hm
    · exact .inr ⟨b, off, cap, rc, el, fr, h1, h2, h3, h4, h5, h6, fun i j e c v a b d => (h7 i j e c v a b d).mono h⟩
  | obj b o => exact hm
  | map b l => obtain ⟨es, clk, h1, h2, h3⟩ := hm; exact ⟨es, clk, h1, h2, fun i p m a b => ⟨(h3 i p m a b).1.mono h, (h3 i p m a b).2.mono h⟩⟩

/-- It hangs on the object's own blocks alone. -/
theorem MSat.of_same {I : Imm} {w w' : World} {m : MObj} (hs : ∀ b ∈ m.blocks, w'.heap[b]? = w.heap[b]?) (hm : MSat I w m) : MSat I w' m := by
  cases m with
  | cells b cs =>
    obtain ⟨rc, el, fr, h1, h2, h3⟩ := hm
    exact ⟨rc, el, fr, by rw [hs b (by simp [MObj.blocks])]; exact h1, h2, h3⟩
  | arr v sz es =>
    rcases hm with hm | ⟨b, off, cap, rc, el, fr, h1, h2, h3, h4, h5, h6, h7⟩
    · exact .inl hm
    · subst h1
      exact .inr ⟨b, off, cap, rc, el, fr, rfl, by rw [hs b (by simp [MObj.blocks])]; exact h2, h3, h4, h5, h6, h7⟩
  | obj b o => simp only [MSat] at *; rw [hs b (by simp [MObj.blocks])]; exact hm
  | map b l => obtain ⟨es, clk, h1, h2, h3⟩ := hm; exact ⟨es, clk, by rw [hs b (by simp [MObj.blocks])]; exact h1, h2, h3⟩

theorem MSat.lies {I : Imm} {w : World} {m : MObj} (hm : MSat I w m) {b : Nat} (hb : b ∈ m.blocks) : ∃ o, w.heap[b]? = some o := by
  cases m with
  | cells b' cs =>
    obtain ⟨rc, el, fr, h1, _⟩ := hm
    simp [MObj.blocks] at hb; subst hb; exact ⟨_, h1⟩
  | arr v sz es =>
    rcases hm with ⟨rfl, _⟩ | ⟨b', off, cap, rc, el, fr, h1, h2, _⟩
    · simp [MObj.blocks] at hb
    · subst h1; simp [MObj.blocks] at hb; subst hb; exact ⟨_, h2⟩
  | obj b' o => simp [MObj.blocks] at hb; subst hb; exact ⟨_, hm⟩
  | map b' l => obtain ⟨es, clk, h1, _⟩ := hm; simp [MObj.blocks] at hb; subst hb; exact ⟨_, h1⟩

def blocks (M : List MObj) : List Nat := M.flatMap MObj.blocks

structure Sat (I : Imm) (M : List MObj) (w : World) : Prop where
  imm : ∀ b o, I.heap b = some o → w.heap[b]? = some o
  obj : ∀ m ∈ M, MSat I w m
  nodup : (blocks M).Nodup
  apart : ∀ b ∈ blocks M, I.heap b = none
  os : w.os = I.os
  output : w.output = I.output
  tape : w.tape = I.tape

theorem Sat.perm {I : Imm} {M N : List MObj} {w : World} (h : Sat I M w) (hp : M.Perm N) : Sat I N w where
  imm := h.imm
  obj m hm := h.obj m (hp.mem_iff.2 hm)
  nodup := (hp.flatMap_right MObj.blocks).nodup_iff.1 h.nodup
  apart b hb := h.apart b ((hp.flatMap_right MObj.blocks).mem_iff.2 hb)
  os := h.os
  output := h.output
  tape := h.tape

/-- Objects can be dropped. -/
theorem Sat.drop {I : Imm} {m : MObj} {M : List MObj} {w : World} (h : Sat I (m :: M) w) : Sat I M w where
  imm := h.imm
  obj x hx := h.obj x (List.mem_cons_of_mem _ hx)
  nodup := by have := h.nodup; simp only [blocks, List.flatMap_cons] at this; exact (List.nodup_append.1 this).2.1
  apart b hb := h.apart b (by simp only [blocks, List.flatMap_cons]; exact List.mem_append_right _ hb)
  os := h.os
  output := h.output
  tape := h.tape

theorem Sat.fresh {I : Imm} {M : List MObj} {w : World} (h : Sat I M w) : I.heap w.heap.size = none ∧ w.heap.size ∉ blocks M := by
  constructor
  · cases hi : I.heap w.heap.size with
    | none => rfl
    | some o => have := h.imm _ _ hi; simp at this
  · intro hb
    simp only [blocks, List.mem_flatMap] at hb
    obtain ⟨m, hm, hb⟩ := hb
    obtain ⟨o, ho⟩ := (h.obj m hm).lies hb
    simp at ho

/-- A world that differs outside what is claimed. -/
theorem Sat.of_same {I : Imm} {M : List MObj} {w w' : World} (h : Sat I M w) (hi : ∀ b, (∃ o, I.heap b = some o) → w'.heap[b]? = w.heap[b]?)
    (hm : ∀ b ∈ blocks M, w'.heap[b]? = w.heap[b]?) (h1 : w'.os = w.os) (h2 : w'.output = w.output) (h3 : w'.tape = w.tape) : Sat I M w' where
  imm b o hb := by rw [hi b ⟨o, hb⟩]; exact h.imm b o hb
  obj m hx := (h.obj m hx).of_same fun b hb => hm b (by simp only [blocks, List.mem_flatMap]; exact ⟨m, hx, hb⟩)
  nodup := h.nodup
  apart := h.apart
  os := h1.trans h.os
  output := h2.trans h.output
  tape := h3.trans h.tape

/-- One more immutable block. -/
def Imm.add (I : Imm) (b : Nat) (o : Obj) : Imm := { I with heap := fun x => if x = b then some o else I.heap x }

theorem Imm.le_add {I : Imm} {b : Nat} {o : Obj} (h : I.heap b = none) : Le I (I.add b o) :=
  ⟨fun x o' hx => by
    by_cases e : x = b
    · subst e; rw [h] at hx; cases hx
    · simp [Imm.add, e, hx], rfl, rfl, rfl⟩
theorem Imm.add_self {I : Imm} {b : Nat} {o : Obj} : (I.add b o).heap b = some o := by simp [Imm.add]

abbrev push (w : World) (o : Obj) : World := { w with heap := w.heap.push o }

/-- A new block that nobody will write. -/
theorem Sat.new_imm {I : Imm} {M : List MObj} {w : World} (h : Sat I M w) (o : Obj) :
    Le I (I.add w.heap.size o) ∧ Sat (I.add w.heap.size o) M (push w o) := by
  obtain ⟨h1, h2⟩ := h.fresh
  have hle := Imm.le_add (o := o) h1
  refine ⟨hle, ?_⟩
  exact {
    imm := fun b o' hb => by
      by_cases e : b = w.heap.size
      · subst e; simp [Imm.add] at hb; simp [hb]
      · simp [Imm.add, e] at hb
        have := h.imm _ _ hb
        simp only [push, Array.getElem?_push, e, if_false]; exact this
    obj := fun m hm => by
      refine ((h.obj m hm).mono hle).of_same fun b hb => ?_
      have : b ≠ w.heap.size := fun e => h2 (by subst e; simp only [blocks, List.mem_flatMap]; exact ⟨m, hm, hb⟩)
      simp [push, Array.getElem?_push, this]
    nodup := h.nodup
    apart := fun b hb => by
      have : b ≠ w.heap.size := fun e => h2 (e ▸ hb)
      simp [Imm.add, this, h.apart b hb]
    os := h.os
    output := h.output
    tape := h.tape }

/-- A new block that is owned. -/
theorem Sat.new_own {I : Imm} {M : List MObj} {w : World} (h : Sat I M w) (o : Obj) (m : MObj) (hb : m.blocks = [w.heap.size]) (hm : MSat I (push w o) m) :
    Sat I (m :: M) (push w o) := by
  obtain ⟨h1, h2⟩ := h.fresh
  exact {
    imm := fun b o' hb => by
      have e : b ≠ w.heap.size := fun e => by subst e; rw [h1] at hb; cases hb
      simp only [push, Array.getElem?_push, e, if_false]; exact h.imm _ _ hb
    obj := fun x hx => by
      rcases List.mem_cons.1 hx with rfl | hx
      · exact hm
      · refine (h.obj x hx).of_same fun b hb => ?_
        have : b ≠ w.heap.size := fun e => h2 (by subst e; simp only [blocks, List.mem_flatMap]; exact ⟨x, hx, hb⟩)
        simp [push, Array.getElem?_push, this]
    nodup := by
      simp only [blocks, List.flatMap_cons, hb, List.singleton_append, List.nodup_cons]
      exact ⟨h2, h.nodup⟩
    apart := fun b hb' => by
      simp only [blocks, List.flatMap_cons, hb, List.singleton_append, List.mem_cons] at hb'
      rcases hb' with rfl | hb'
      · exact h1
      · exact h.apart b hb'
    os := h.os
    output := h.output
    tape := h.tape }

/-- An owned block becomes immutable. -/
theorem Sat.freeze {I : Imm} {M : List MObj} {m : MObj} {w : World} {b : Nat} {o : Obj} (h : Sat I (m :: M) w) (hb : m.blocks = [b]) (ho : w.heap[b]? = some o) :
    Le I (I.add b o) ∧ Sat (I.add b o) M w := by
  have h1 : I.heap b = none := h.apart b (by simp [blocks, hb])
  have hle := Imm.le_add (o := o) h1
  have hn := h.nodup
  simp only [blocks, List.flatMap_cons, hb, List.singleton_append, List.nodup_cons] at hn
  refine ⟨hle, ?_⟩
  exact {
    imm := fun x o' hx => by
      by_cases e : x = b
      · subst e; simp [Imm.add] at hx; rw [ho, hx]
      · simp [Imm.add, e] at hx; exact h.imm _ _ hx
    obj := fun x hx => (h.obj x (List.mem_cons_of_mem _ hx)).mono hle
    nodup := hn.2
    apart := fun x hx => by
      have : x ≠ b := fun e => hn.1 (e ▸ hx)
      simp [Imm.add, this]
      exact h.apart x (by simp only [blocks, List.flatMap_cons]; exact List.mem_append_right _ hx)
    os := h.os
    output := h.output
    tape := h.tape }

/-- An owned object is replaced (its blocks may be new ones): what is not its own stays. -/
theorem Sat.change {I : Imm} {M : List MObj} {m m' : MObj} {w w' : World} (h : Sat I (m :: M) w)
    (hs : ∀ b, b < w.heap.size → b ∉ m.blocks → w'.heap[b]? = w.heap[b]?)
    (hb : ∀ b ∈ m'.blocks, b ∈ m.blocks ∨ w.heap.size ≤ b) (hn : m'.blocks.Nodup) (hm : MSat I w' m')
    (h1 : w'.os = w.os) (h2 : w'.output = w.output) (h3 : w'.tape = w.tape) : Sat I (m' :: M) w' := by
  have hd := h.drop
  have hnd := h.nodup
  simp only [blocks, List.flatMap_cons] at hnd
  have hlt : ∀ b ∈ blocks M, b < w.heap.size := fun b hb => by
    simp only [blocks, List.mem_flatMap] at hb
    obtain ⟨x, hx, hb⟩ := hb
    obtain ⟨o, ho⟩ := (hd.obj x hx).lies hb
    rcases Nat.lt_or_ge b w.heap.size with h' | h'
    · exact h'
    · simp [Array.getElem?_eq_none h'] at ho
  have hnot : ∀ b ∈ blocks M, b ∉ m.blocks := fun b hb hb' => (List.nodup_append.1 hnd).2.2 b hb' b hb rfl
  have hilt : ∀ b o, I.heap b = some o → b < w.heap.size := fun b o ho => by
    have := h.imm b o ho
    rcases Nat.lt_or_ge b w.heap.size with h' | h'
    · exact h'
    · simp [Array.getElem?_eq_none h'] at this
  have hinot : ∀ b o, I.heap b = some o → b ∉ m.blocks := fun b o ho hb => by
    have := h.apart b (by simp only [blocks, List.flatMap_cons]; exact List.mem_append_left _ hb)
    rw [this] at ho; cases ho
  exact {
    imm := fun b o ho => by rw [hs b (hilt b o ho) (hinot b o ho)]; exact h.imm b o ho
    obj := fun x hx => by
      rcases List.mem_cons.1 hx with rfl | hx
      · exact hm
      · exact (hd.obj x hx).of_same fun b hb =>
          have hb' : b ∈ blocks M := by simp only [blocks, List.mem_flatMap]; exact ⟨x, hx, hb⟩
          hs b (hlt b hb') (hnot b hb')
    nodup := by
      simp only [blocks, List.flatMap_cons]
      refine List.nodup_append.2 ⟨hn, hd.nodup, fun a ha b hb' e => ?_⟩
      subst e
      rcases hb a ha with h' | h'
      · exact hnot a hb' h'
      · exact absurd (hlt a hb') (by omega)
    apart := fun b hb' => by
      simp only [blocks, List.flatMap_cons, List.mem_append] at hb'
      rcases hb' with hb' | hb'
      · rcases hb b hb' with h' | h'
        · exact h.apart b (by simp only [blocks, List.flatMap_cons]; exact List.mem_append_left _ h')
        · cases hi : I.heap b with
          | none => rfl
          | some o => exact absurd (hilt b o hi) (by omega)
      · exact hd.apart b hb'
    os := h1.trans h.os
    output := h2.trans h.output
    tape := h3.trans h.tape }

end Go.HL
