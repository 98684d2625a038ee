/- Part 1 of the proof: a program logic, contracts of functions and plain facts; no conditions. -/
import Derived.Calls
import Derived.Deep.LoopGhost
import Derived.KernelRfl
import Derived.Laws.Cells
import Derived.Laws.Entries
import Derived.Laws.Sem
import Derived.Laws.Strings
import Derived.Laws.StructEq
import Derived.Lib.Bytealg
import Derived.Lib.LaidTab
import Derived.Orders
import Derived.Shelf.Strconv.Itoa3
import Derived.Test.YtcihcbnjfclkbaaGreatDoorProg
set_option linter.unusedVariables false
set_option linter.unusedSimpArgs false
namespace Go.HL
section

/-- What a value reads as: a content tree. -/
inductive HVal where
 | bool (b : Bool)
 | int (k : IntKind) (n : Int)
 | str (s : List UInt8)
 | raw (v : Value)
 | slice (sz : Nat) (es : List HVal)
 | vptr (cs : List HVal) (off : Nat)
 | agg (cs : List HVal)
 | tup (vs : List HVal)
 | fn (f : Fn) (fst cap : List HVal)
 | ifc (t : TypeId) (v : HVal)
 | opt (c : Bool) (v : HVal)
 | hmap (ks vs : List HVal)
 | junk

/-- It can lie in memory. -/
def zdU : HVal → Bool
 | .junk | .opt _ _ => false
 | _ => true

def zm : HVal → List HVal
 | .agg cs => cs
 | v => [v]

/-- The immutable part of the world. -/
structure Imm where
 heap : Nat → Option Obj
 os : Os
 output : Array (Nat × ByteArray)
 tape : Nat → Question → Nat
 low : Nat

/-- Is it kept account of the draws? -/
class Tracks where
 on : Bool
structure Le [Tracks] (I J : Imm) : Prop where
 heap : ∀ b o, I.heap b = some o → J.heap b = some o
 os : J.os = I.os
 output : J.output = I.output
 tape : J.tape = I.tape
 low : Tracks.on = true → I.low ≤ J.low

theorem Le.refl [Tracks] (I : Imm) : Le I I := ⟨fun _ _ h => h, rfl, rfl, rfl, fun _ => Nat.le_refl _⟩
theorem Le.trans [Tracks] {I J K : Imm} (h : Le I J) (h' : Le J K) : Le I K :=
 ⟨fun b o x => h'.heap b o (h.heap b o x), h'.os.trans h.os, h'.output.trans h.output, h'.tape.trans h.tape, fun ht => Nat.le_trans (h.low ht) (h'.low ht)⟩

/-- The value v reads as the content tree, in immutable memory. -/
inductive V (I : Imm) : HVal → Value → Prop
 | bool (b : Bool) : V I (.bool b) (.bool b)
 | int (k : IntKind) (n : Int) : V I (.int k n) (.int k n)
 | str (s : List UInt8) : V I (.str s) (.string ⟨s.toArray⟩)
 | raw (v : Value) (h1 : v.oneCell' = true) : V I (.raw v) v
 | junk (v : Value) : V I .junk v
 | slice0 (sz : Nat) (a : Option Addr) (cap : Nat) : V I (.slice sz []) (.slice a 0 cap)
 | slice {sz : Nat} {es : List HVal} {b off cap : Nat} {rc : Array Value} {el : TypeId} {fr : Nat × Nat}
    (hI : I.heap b = some (.cells rc el fr)) (hsz : ∀ e ∈ es, (zm e).length = sz) (hcap : es.length ≤ cap)
    (hb : off + es.length * sz ≤ rc.size)
    (hV : ∀ (i j : Nat) (e c : HVal) (v : Value), es[i]? = some e → (zm e)[j]? = some c → rc[off + i * sz + j]? = some v → V I c v) :
    V I (.slice sz es) (.slice (some ⟨b, off, none⟩) es.length cap)
 | vptr {cs : List HVal} {off b base : Nat} {rc : Array Value} {el : TypeId} {fr : Nat × Nat}
    (hI : I.heap b = some (.cells rc el fr)) (hb : base + cs.length ≤ rc.size)
    (hV : ∀ (j : Nat) (c : HVal) (v : Value), cs[j]? = some c → rc[base + j]? = some v → V I c v) :
    V I (.vptr cs off) (.pointer (some ⟨b, base + off, none⟩))
 | agg {cs : List HVal} {vs : Array Value} (hl : vs.size = cs.length)
    (hV : ∀ (j : Nat) (c : HVal) (v : Value), cs[j]? = some c → vs[j]? = some v → V I c v) : V I (.agg cs) (.agg vs)
 | tup {cs : List HVal} {vs : Array Value} (hl : vs.size = cs.length)
    (hV : ∀ (j : Nat) (c : HVal) (v : Value), cs[j]? = some c → vs[j]? = some v → V I c v) : V I (.tup cs) (.tuple vs)
 | fn {f : Fn} {c1 c2 : List HVal} {v1 v2 : Array Value} (hl1 : v1.size = c1.length) (hl2 : v2.size = c2.length)
    (hV1 : ∀ (j : Nat) (c : HVal) (v : Value), c1[j]? = some c → v1[j]? = some v → V I c v)
    (hV2 : ∀ (j : Nat) (c : HVal) (v : Value), c2[j]? = some c → v2[j]? = some v → V I c v) : V I (.fn f c1 c2) (.func f v1 v2)
 | ifc {t : TypeId} {c : HVal} {v : Value} (h : V I c v) : V I (.ifc t c) (.iface t v)
 | opt {c : Bool} {h : HVal} {v : Value} (h1 : c = true → V I h v) (h2 : c = false → v = undef) : V I (.opt c h) v
 | hmap {ks vs : List HVal} {b : Nat} {es : Array MapEntry} {clk : Nat} (hI : I.heap b = some (.map es clk)) (hl1 : es.size = ks.length) (hl2 : es.size = vs.length)
    (hK : ∀ (j : Nat) (c : HVal) (m : MapEntry), ks[j]? = some c → es[j]? = some m → V I c m.key)
    (hV : ∀ (j : Nat) (c : HVal) (m : MapEntry), vs[j]? = some c → es[j]? = some m → V I c m.val) : V I (.hmap ks vs) (.map (some b))

theorem V.mono [Tracks] {I J : Imm} (h : Le I J) {c : HVal} {v : Value} (hv : V I c v) : V J c v := by
 induction hv with
 | bool b => exact .bool b
 | int k n => exact .int k n
 | str s => exact .str s
 | raw v h1 => exact .raw v h1
 | junk v => exact .junk v
 | slice0 sz a cap => exact .slice0 sz a cap
 | slice hI hsz hcap hb _ ih => exact .slice (h.heap _ _ hI) hsz hcap hb ih
 | vptr hI hb _ ih => exact .vptr (h.heap _ _ hI) hb ih
 | agg hl _ ih => exact .agg hl ih
 | tup hl _ ih => exact .tup hl ih
 | fn h1 h2 _ _ ih1 ih2 => exact .fn h1 h2 ih1 ih2
 | ifc _ ih => exact .ifc ih
 | opt _ h2 ih => exact .opt ih h2
 | hmap hI h1 h2 _ _ ih1 ih2 => exact .hmap (h.heap _ _ hI) h1 h2 ih1 ih2

/-- Cells that read as a list of contents. -/
def VL (I : Imm) (cs : List HVal) (vs : List Value) : Prop := vs.length = cs.length ∧ ∀ (j : Nat) (c : HVal) (v : Value), cs[j]? = some c → vs[j]? = some v → V I c v

theorem VL.mono [Tracks] {I J : Imm} (h : Le I J) {c : List HVal} {v : List Value} (hv : VL I c v) : VL J c v :=
 ⟨hv.1, fun j c v h1 h2 => (hv.2 j c v h1 h2).mono h⟩
theorem VL.nil {I : Imm} : VL I [] [] := ⟨rfl, fun j c v h _ => by simp at h⟩
theorem VL.cons {I : Imm} {c : HVal} {v : Value} {cs : List HVal} {vs : List Value} (h : V I c v) (hs : VL I cs vs) : VL I (c :: cs) (v :: vs) := by
 refine ⟨by simp [hs.1], fun j c' v' h1 h2 => ?_⟩
 cases j with
 | zero => simp at h1 h2; rw [← h1, ← h2]; exact h
 | succ j => simp at h1 h2; exact hs.2 j c' v' h1 h2
theorem VL.head {I : Imm} {c : HVal} {v : Value} {cs : List HVal} {vs : List Value} (h : VL I (c :: cs) (v :: vs)) : V I c v := h.2 0 c v rfl rfl
theorem VL.tail {I : Imm} {c : HVal} {v : Value} {cs : List HVal} {vs : List Value} (h : VL I (c :: cs) (v :: vs)) : VL I cs vs :=
 ⟨by have := h.1; simp at this; exact this, fun j c' v' h1 h2 => h.2 (j+1) c' v' (by simpa using h1) (by simpa using h2)⟩
theorem VL.append {I : Imm} {c1 c2 : List HVal} {v1 v2 : List Value} (h1 : VL I c1 v1) (h2 : VL I c2 v2) : VL I (c1 ++ c2) (v1 ++ v2) := by
 refine ⟨by simp [h1.1, h2.1], fun j c v a b => ?_⟩
 by_cases hj : j < c1.length
 ·rw [List.getElem?_append_left hj] at a
  rw [List.getElem?_append_left (by rw [h1.1]; exact hj)] at b
  exact h1.2 j c v a b
 ·rw [List.getElem?_append_right (by omega)] at a
  rw [List.getElem?_append_right (by rw [h1.1]; omega), h1.1] at b
  exact h2.2 _ c v a b
theorem VL.get {I : Imm} {cs : List HVal} {vs : List Value} (h : VL I cs vs) {j : Nat} {c : HVal} (hc : cs[j]? = some c) : ∃ v, vs[j]? = some v ∧ V I c v := by
 have hj : j < cs.length := by
  rcases Nat.lt_or_ge j cs.length with h' | h'
  ·exact h'
  ·simp [List.getElem?_eq_none h'] at hc
 have hj' : j < vs.length := by rw [h.1]; exact hj
 exact ⟨vs[j], List.getElem?_eq_getElem hj', h.2 j c _ hc (List.getElem?_eq_getElem hj')⟩

/-- The cells of a value that reads as c read as c's cells. -/
theorem V.cells [Tracks] {I : Imm} {c : HVal} {v : Value} (h : V I c v) (hj : zdU c = true) : VL I (zm c) v.cells.toList := by
 cases h with
 | agg hl hV => exact ⟨by simpa [zm, Value.cells] using hl, fun j c v h1 h2 => hV j c v h1 (by simpa [Value.cells] using h2)⟩
 | junk v => simp [zdU] at hj
 | opt _ _ => simp [zdU] at hj
 | raw v h1 => cases v <;> first | exact VL.cons (.raw _ h1) VL.nil | simp [Value.oneCell'] at h1
 | bool b => exact VL.cons (.bool b) VL.nil
 | int k n => exact VL.cons (.int k n) VL.nil
 | str s => exact VL.cons (.str s) VL.nil
 | slice0 sz a cap => exact VL.cons (.slice0 sz a cap) VL.nil
 | slice h1 h2 h3 h4 h5 => exact VL.cons (.slice h1 h2 h3 h4 h5) VL.nil
 | vptr h1 h2 h3 => exact VL.cons (.vptr h1 h2 h3) VL.nil
 | tup h1 h2 => exact VL.cons (.tup h1 h2) VL.nil
 | fn h1 h2 h3 h4 => exact VL.cons (.fn h1 h2 h3 h4) VL.nil
 | ifc h => exact VL.cons (.ifc h) VL.nil
 | hmap h1 h2 h3 h4 h5 => exact VL.cons (.hmap h1 h2 h3 h4 h5) VL.nil

/-- Objects that the code at hand owns. -/
inductive MObj where
 | cells (b : Nat) (cs : List HVal)
 | arr (v : Value) (sz : Nat) (es : List HVal)
 | obj (b : Nat) (o : Obj)
 | map (b : Nat) (l : List (HVal × HVal))
 | iter (r b : Nat) (l : List (HVal × HVal)) (vis : List Nat)
 | mape (b : Nat) (l : List (HVal × HVal)) (j st : Nat)
 | bld (b : Nat) (T el : TypeId) (h v : Value) (s : List UInt8)

/-- The block of a slice's row. -/
def zp0 : Value → List Nat
 | .slice (some a) _ _ => [a.block]
 | _ => []
def MObj.blocks : MObj → List Nat
 | .cells b _ => [b]
 | .arr (.slice (some a) _ _) _ _ => [a.block]
 | .arr _ _ _ => []
 | .obj b _ => [b]
 | .map b _ => [b]
 | .iter r b _ _ => [r, b]
 | .mape b _ _ _ => [b]
 | .bld b _ _ _ v _ => b :: zp0 v

/-- No cell of the first n is frozen. -/
def Free (fr : Nat × Nat) (n : Nat) : Prop := ∀ o, o < n → ¬ (fr.1 ≤ o ∧ o < fr.2)
theorem Free.zero (n : Nat) : Free (0, 0) n := fun o _ h => by simp at h

/-- A map's stamps: each entry has its own, zes the clock. -/
def BornOk (es : Array MapEntry) (clk : Nat) : Prop := (∀ (i : Nat) (m : MapEntry), es[i]? = some m → m.born < clk) ∧ ∀ (i j : Nat) (m n : MapEntry), es[i]? = some m → es[j]? = some n → m.born = n.born → i = j
theorem BornOk.nil : BornOk #[] 0 := ⟨fun i m h => by simp at h, fun i j m n h => by simp at h⟩
theorem BornOk.push {es : Array MapEntry} {clk : Nat} (h : BornOk es clk) {m : MapEntry} (hm : m.born = clk) : BornOk (es.push m) (clk + 1) := by
 have key : ∀ (i : Nat) (x : MapEntry), (es.push m)[i]? = some x → (i = es.size ∧ x = m) ∨ es[i]? = some x := fun i x hx => by
  rw [Array.getElem?_push] at hx
  split at hx
  ·rename_i hi; simp at hx; exact .inl ⟨hi, hx.symm⟩
  ·exact .inr hx
 refine ⟨fun i x hx => ?_, fun i j x y hx hy e => ?_⟩
 ·rcases key i x hx with ⟨_, rfl⟩ | h'
  ·omega
  ·have := h.1 i x h'; omega
 ·rcases key i x hx with ⟨i1, rfl⟩ | h1 <;> rcases key j y hy with ⟨j1, rfl⟩ | h2
  ·omega
  ·have := h.1 j y h2; omega
  ·have := h.1 i x h1; omega
  ·exact h.2 i j x y h1 h2 e
theorem BornOk.modify {es : Array MapEntry} {clk : Nat} (h : BornOk es clk) (k : Nat) {f : MapEntry → MapEntry} (hf : ∀ m, (f m).born = m.born) : BornOk (es.modify k f) clk := by
 have key : ∀ (i : Nat) (x : MapEntry), (es.modify k f)[i]? = some x → ∃ y, es[i]? = some y ∧ y.born = x.born := fun i x hx => by
  rw [Array.getElem?_modify] at hx
  split at hx
  ·cases hq : es[i]? with
   | none => rw [hq] at hx; simp at hx
   | some y => rw [hq] at hx; simp at hx; exact ⟨y, rfl, by rw [← hx, hf]⟩
  ·exact ⟨x, hx, rfl⟩
 refine ⟨fun i x hx => ?_, fun i j x y hx hy e => ?_⟩
 ·obtain ⟨z, h1, h2⟩ := key i x hx
  have := h.1 i z h1; omega
 ·obtain ⟨z, h1, h2⟩ := key i x hx
  obtain ⟨z', h3, h4⟩ := key j y hy
  exact h.2 i j z z' h1 h3 (by omega)
def MSat (I : Imm) (w : World) : MObj → Prop
 | .cells b cs => ∃ rc el fr, w.heap[b]? = some (.cells rc el fr) ∧ Free fr rc.size ∧ VL I cs rc.toList
 | .arr v sz es => (v = .slice none 0 0 ∧ es = []) ∨
    ∃ b off cap rc el fr, v = .slice (some ⟨b, off, none⟩) es.length cap ∧ w.heap[b]? = some (.cells rc el fr) ∧ Free fr rc.size ∧
     (∀ e ∈ es, (zm e).length = sz) ∧ (es.length ≤ cap ∧ cap ≤ 9223372036854775807) ∧ off + cap * sz ≤ rc.size ∧
     (∀ (i j : Nat) (e c : HVal) (v : Value), es[i]? = some e → (zm e)[j]? = some c → rc[off + i * sz + j]? = some v → V I c v)
 | .obj b o => w.heap[b]? = some o
 | .map b l => ∃ es clk, w.heap[b]? = some (.map es clk) ∧ (es.size = l.length ∧ BornOk es clk) ∧ ∀ (i : Nat) (p : HVal × HVal) (m : MapEntry), l[i]? = some p → es[i]? = some m → V I p.1 m.key ∧ V I p.2 m.val
 | .iter r b l vis => ∃ es clk seen, w.heap[b]? = some (.map es clk) ∧ w.heap[r]? = some (.mapIter (some b) clk seen clk) ∧ (es.size = l.length ∧ BornOk es clk) ∧ seen.toList = vis.map (fun i => ((es[i]?).map (·.born)).getD 0) ∧
    ∀ (i : Nat) (p : HVal × HVal) (m : MapEntry), l[i]? = some p → es[i]? = some m → V I p.1 m.key ∧ V I p.2 m.val
 | .mape b l j st => ∃ es clk, w.heap[b]? = some (.map es clk) ∧ (es.size = l.length ∧ BornOk es clk) ∧ (∀ (i : Nat) (p : HVal × HVal) (m : MapEntry), l[i]? = some p → es[i]? = some m → V I p.1 m.key ∧ V I p.2 m.val) ∧ ∃ m, es[j]? = some m ∧ m.born = st
 | .bld b T el h v s => (h.oneCell' = true ∧ ∃ p, (p = .pointer none ∨ p = .pointer (some ⟨b, 0, none⟩)) ∧ w.heap[b]? = some (.cells #[p, h] T (0, 0))) ∧
    ((v = .slice none 0 0 ∧ s = []) ∨ ∃ g cap rc, v = .slice (some ⟨g, 0, none⟩) s.length cap ∧ w.heap[g]? = some (.cells rc el (0, 0)) ∧ (0 < cap ∧ s.length ≤ cap ∧ cap ≤ 9223372036854775807 ∧ cap ≤ rc.size) ∧
      ∀ (i : Nat) (c : UInt8), s[i]? = some c → rc[i]? = some (.int .u8 c.toNat))

theorem MSat.mono [Tracks] {I J : Imm} (h : Le I J) {w : World} {m : MObj} (hm : MSat I w m) : MSat J w m := by
 cases m with
 | cells b cs => obtain ⟨rc, el, fr, h1, h2, h3⟩ := hm; exact ⟨rc, el, fr, h1, h2, h3.mono h⟩
 | arr v sz es =>
   rcases hm with hm | ⟨b, off, cap, rc, el, fr, h1, h2, h3, h4, h5, h6, h7⟩
   ·exact .inl hm
   ·exact .inr ⟨b, off, cap, rc, el, fr, h1, h2, h3, h4, h5, h6, fun i j e c v a b d => (h7 i j e c v a b d).mono h⟩
 | obj b o => exact hm
 | map b l => obtain ⟨es, clk, h1, h2, h3⟩ := hm; exact ⟨es, clk, h1, h2, fun i p m a b => ⟨(h3 i p m a b).1.mono h, (h3 i p m a b).2.mono h⟩⟩
 | iter r b l vis => obtain ⟨es, clk, seen, h1, h0, h2, h4, h3⟩ := hm; exact ⟨es, clk, seen, h1, h0, h2, h4, fun i p m a b => ⟨(h3 i p m a b).1.mono h, (h3 i p m a b).2.mono h⟩⟩
 | mape b l j st => obtain ⟨es, clk, h1, h2, h3, h4⟩ := hm; exact ⟨es, clk, h1, h2, fun i p m a b => ⟨(h3 i p m a b).1.mono h, (h3 i p m a b).2.mono h⟩, h4⟩
 | bld b T el x v s => exact hm

/-- It hangs on the object's own blocks alone. -/
theorem MSat.of_same {I : Imm} {w w' : World} {m : MObj} (hs : ∀ b ∈ m.blocks, w'.heap[b]? = w.heap[b]?) (hm : MSat I w m) : MSat I w' m := by
 cases m with
 | cells b cs =>
   obtain ⟨rc, el, fr, h1, h2, h3⟩ := hm
   exact ⟨rc, el, fr, by rw [hs b (by simp [MObj.blocks])]; exact h1, h2, h3⟩
 | arr v sz es =>
   rcases hm with hm | ⟨b, off, cap, rc, el, fr, h1, h2, h3, h4, h5, h6, h7⟩
   ·exact .inl hm
   ·subst h1
    exact .inr ⟨b, off, cap, rc, el, fr, rfl, by rw [hs b (by simp [MObj.blocks])]; exact h2, h3, h4, h5, h6, h7⟩
 | obj b o => simp only [MSat] at *; rw [hs b (by simp [MObj.blocks])]; exact hm
 | map b l => obtain ⟨es, clk, h1, h2, h3⟩ := hm; exact ⟨es, clk, by rw [hs b (by simp [MObj.blocks])]; exact h1, h2, h3⟩
 | iter r b l vis => obtain ⟨es, clk, seen, h1, h0, h2, h4, h3⟩ := hm; exact ⟨es, clk, seen, by rw [hs b (by simp [MObj.blocks])]; exact h1, by rw [hs r (by simp [MObj.blocks])]; exact h0, h2, h4, h3⟩
 | mape b l j st => obtain ⟨es, clk, h1, h2⟩ := hm; exact ⟨es, clk, by rw [hs b (by simp [MObj.blocks])]; exact h1, h2⟩
 | bld b T el x v s =>
   obtain ⟨⟨h0, p, h1, h2⟩, h3⟩ := hm
   refine ⟨⟨h0, p, h1, ?_⟩, ?_⟩
   ·rw [hs b (by simp [MObj.blocks])]; exact h2
   ·rcases h3 with h3 | ⟨g, cap, rc, rfl, h4, h5, h6⟩
    ·exact .inl h3
    ·exact .inr ⟨g, cap, rc, rfl, by rw [hs g (by simp [MObj.blocks, zp0])]; exact h4, h5, h6⟩

theorem MSat.lies {I : Imm} {w : World} {m : MObj} (hm : MSat I w m) {b : Nat} (hb : b ∈ m.blocks) : ∃ o, w.heap[b]? = some o := by
 cases m with
 | cells b' cs =>
   obtain ⟨rc, el, fr, h1, _⟩ := hm
   simp [MObj.blocks] at hb; subst hb; exact ⟨_, h1⟩
 | arr v sz es =>
   rcases hm with ⟨rfl, _⟩ | ⟨b', off, cap, rc, el, fr, h1, h2, _⟩
   ·simp [MObj.blocks] at hb
   ·subst h1; simp [MObj.blocks] at hb; subst hb; exact ⟨_, h2⟩
 | obj b' o => simp [MObj.blocks] at hb; subst hb; exact ⟨_, hm⟩
 | map b' l => obtain ⟨es, clk, h1, _⟩ := hm; simp [MObj.blocks] at hb; subst hb; exact ⟨_, h1⟩
 | iter r b' l vis =>
   obtain ⟨es, clk, seen, h1, h0, _⟩ := hm
   simp [MObj.blocks] at hb
   rcases hb with rfl | rfl
   ·exact ⟨_, h0⟩
   ·exact ⟨_, h1⟩
 | mape b' l j st => obtain ⟨es, clk, h1, _⟩ := hm; simp [MObj.blocks] at hb; subst hb; exact ⟨_, h1⟩
 | bld b' T el x v s =>
   obtain ⟨⟨h0, p, h1, h2⟩, h3⟩ := hm
   rcases h3 with ⟨rfl, _⟩ | ⟨g, cap, rc, rfl, h4, h5, h6⟩
   ·simp [MObj.blocks, zp0] at hb; subst hb; exact ⟨_, h2⟩
   ·simp [MObj.blocks, zp0] at hb
    rcases hb with rfl | rfl
    ·exact ⟨_, h2⟩
    ·exact ⟨_, h4⟩

def blocks (M : List MObj) : List Nat := M.flatMap MObj.blocks

/-- The library's table, if the program has it, lies in immutable memory; and so does the library's greatest length of what is searched fast. -/
def TabI (P : Program) (I : Imm) : Prop := (∀ g, P.globalNamed "internal/strconv.uint64pow10" = some g → ∃ t fr, I.heap g = some (.cells (Lib.pow10Tab.map fun z => Value.int .u64 z).toArray t fr)) ∧
 ∀ g, P.globalNamed "internal/bytealg.MaxLen" = some g → ∃ c t fr m, I.heap g = some (.cells c t fr) ∧ c[0]? = some (.int .i64 m)
theorem TabI.mono [Tracks] {P : Program} {I J : Imm} (h : Le I J) (ht : TabI P I) : TabI P J := ⟨fun g hg =>
 let ⟨t, fr, h1⟩ := ht.1 g hg; ⟨t, fr, h.heap _ _ h1⟩, fun g hg =>
 let ⟨c, t, fr, m, h1, h2⟩ := ht.2 g hg; ⟨c, t, fr, m, h.heap _ _ h1, h2⟩⟩
variable {P : Program}
structure Sat [Tracks] (P : Program) (I : Imm) (M : List MObj) (w : World) : Prop where
 imm : ∀ b o, I.heap b = some o → w.heap[b]? = some o
 obj : ∀ m ∈ M, MSat I w m
 nodup : (blocks M).Nodup
 apart : ∀ b ∈ blocks M, I.heap b = none
 os : w.os = I.os
 output : w.output = I.output
 tape : w.tape = I.tape
 tab : TabI P I
 low : Tracks.on = true → I.low ≤ w.drawn

theorem Sat.perm [Tracks] {I : Imm} {M N : List MObj} {w : World} (h : Sat P I M w) (hp : M.Perm N) : Sat P I N w where
 imm := h.imm
 obj m hm := h.obj m (hp.mem_iff.2 hm)
 nodup := (hp.flatMap_right MObj.blocks).nodup_iff.1 h.nodup
 apart b hb := h.apart b ((hp.flatMap_right MObj.blocks).mem_iff.2 hb)
 os := h.os
 output := h.output
 tape := h.tape
 tab := h.tab
 low := h.low

/-- Objects can be dropped. -/
theorem Sat.drop [Tracks] {I : Imm} {m : MObj} {M : List MObj} {w : World} (h : Sat P I (m :: M) w) : Sat P I M w where
 imm := h.imm
 obj x hx := h.obj x (List.mem_cons_of_mem _ hx)
 nodup := by have := h.nodup; simp only [blocks, List.flatMap_cons] at this; exact (List.nodup_append.1 this).2.1
 apart b hb := h.apart b (by simp only [blocks, List.flatMap_cons]; exact List.mem_append_right _ hb)
 os := h.os
 output := h.output
 tape := h.tape
 tab := h.tab
 low := h.low

theorem Sat.fresh [Tracks] {I : Imm} {M : List MObj} {w : World} (h : Sat P I M w) : I.heap w.heap.size = none ∧ w.heap.size ∉ blocks M := by
 constructor
 ·cases hi : I.heap w.heap.size with
  | none => rfl
  | some o => have := h.imm _ _ hi; simp at this
 ·intro hb
  simp only [blocks, List.mem_flatMap] at hb
  obtain ⟨m, hm, hb⟩ := hb
  obtain ⟨o, ho⟩ := (h.obj m hm).lies hb
  simp at ho

/-- A world that differs outside what is claimed. -/
theorem Sat.of_same [Tracks] {I : Imm} {M : List MObj} {w w' : World} (h : Sat P I M w) (hi : ∀ b, (∃ o, I.heap b = some o) → w'.heap[b]? = w.heap[b]?)
 (hm : ∀ b ∈ blocks M, w'.heap[b]? = w.heap[b]?) (h1 : w'.os = w.os) (h2 : w'.output = w.output) (h3 : w'.tape = w.tape) (h4 : Tracks.on = true → w.drawn ≤ w'.drawn := by intro _; first | exact Nat.le_refl _ | exact Nat.le_succ _ | exact Nat.le_add_right _ _ | (simp; done) | omega) : Sat P I M w' where
 imm b o hb := by rw [hi b ⟨o, hb⟩]; exact h.imm b o hb
 obj m hx := (h.obj m hx).of_same fun b hb => hm b (by simp only [blocks, List.mem_flatMap]; exact ⟨m, hx, hb⟩)
 nodup := h.nodup
 apart := h.apart
 os := h1.trans h.os
 output := h2.trans h.output
 tape := h3.trans h.tape
 tab := h.tab
 low := fun ht => Nat.le_trans (h.low ht) (h4 ht)

/-- One more immutable block. -/
def Imm.add (I : Imm) (b : Nat) (o : Obj) : Imm := { I with heap := fun x => if x = b then some o else I.heap x }

theorem Imm.le_add [Tracks] {I : Imm} {b : Nat} {o : Obj} (h : I.heap b = none) : Le I (I.add b o) :=
 ⟨fun x o' hx => by
  by_cases e : x = b
  ·subst e; rw [h] at hx; cases hx
  ·simp [Imm.add, e, hx], rfl, rfl, rfl, fun _ => Nat.le_refl _⟩
theorem Imm.add_self {I : Imm} {b : Nat} {o : Obj} : (I.add b o).heap b = some o := by simp [Imm.add]

abbrev push (w : World) (o : Obj) : World := { w with heap := w.heap.push o }

/-- A new block that nobody will write. -/
theorem Sat.new_imm [Tracks] {I : Imm} {M : List MObj} {w : World} (h : Sat P I M w) (o : Obj) :
 Le I (I.add w.heap.size o) ∧ Sat P (I.add w.heap.size o) M (push w o) := by
 obtain ⟨h1, h2⟩ := h.fresh
 have hle := Imm.le_add (o := o) h1
 refine ⟨hle, ?_⟩
 exact {
  imm := fun b o' hb => by
   by_cases e : b = w.heap.size
   ·subst e; simp [Imm.add] at hb; simp [hb]
   ·simp [Imm.add, e] at hb
    have := h.imm _ _ hb
    simp only [push, Array.getElem?_push, e, if_false]; exact this
  obj := fun m hm => by
   refine ((h.obj m hm).mono hle).of_same fun b hb => ?_
   have : b ≠ w.heap.size := fun e => h2 (by subst e; simp only [blocks, List.mem_flatMap]; exact ⟨m, hm, hb⟩)
   simp [push, Array.getElem?_push, this]
  nodup := h.nodup
  apart := fun b hb => by
   have : b ≠ w.heap.size := fun e => h2 (e ▸ hb)
   simp [Imm.add, this, h.apart b hb]
  os := h.os
  output := h.output
  tape := h.tape
  tab := h.tab.mono hle
  low := h.low }

/-- A new block that is owned. -/
theorem Sat.new_own [Tracks] {I : Imm} {M : List MObj} {w : World} (h : Sat P I M w) (o : Obj) (m : MObj) (hb : m.blocks = [w.heap.size]) (hm : MSat I (push w o) m) :
 Sat P I (m :: M) (push w o) := by
 obtain ⟨h1, h2⟩ := h.fresh
 exact {
  imm := fun b o' hb => by
   have e : b ≠ w.heap.size := fun e => by subst e; rw [h1] at hb; cases hb
   simp only [push, Array.getElem?_push, e, if_false]; exact h.imm _ _ hb
  obj := fun x hx => by
   rcases List.mem_cons.1 hx with rfl | hx
   ·exact hm
   ·refine (h.obj x hx).of_same fun b hb => ?_
    have : b ≠ w.heap.size := fun e => h2 (by subst e; simp only [blocks, List.mem_flatMap]; exact ⟨x, hx, hb⟩)
    simp [push, Array.getElem?_push, this]
  nodup := by
   simp only [blocks, List.flatMap_cons, hb, List.singleton_append, List.nodup_cons]
   exact ⟨h2, h.nodup⟩
  apart := fun b hb' => by
   simp only [blocks, List.flatMap_cons, hb, List.singleton_append, List.mem_cons] at hb'
   rcases hb' with rfl | hb'
   ·exact h1
   ·exact h.apart b hb'
  os := h.os
  output := h.output
  tape := h.tape
  tab := h.tab
  low := h.low }

/-- An owned block becomes immutable. -/
theorem Sat.freeze [Tracks] {I : Imm} {M : List MObj} {m : MObj} {w : World} {b : Nat} {o : Obj} (h : Sat P I (m :: M) w) (hb : m.blocks = [b]) (ho : w.heap[b]? = some o) :
 Le I (I.add b o) ∧ Sat P (I.add b o) M w := by
 have h1 : I.heap b = none := h.apart b (by simp [blocks, hb])
 have hle := Imm.le_add (o := o) h1
 have hn := h.nodup
 simp only [blocks, List.flatMap_cons, hb, List.singleton_append, List.nodup_cons] at hn
 refine ⟨hle, ?_⟩
 exact {
  imm := fun x o' hx => by
   by_cases e : x = b
   ·subst e; simp [Imm.add] at hx; rw [ho, hx]
   ·simp [Imm.add, e] at hx; exact h.imm _ _ hx
  obj := fun x hx => (h.obj x (List.mem_cons_of_mem _ hx)).mono hle
  nodup := hn.2
  apart := fun x hx => by
   have : x ≠ b := fun e => hn.1 (e ▸ hx)
   simp [Imm.add, this]
   exact h.apart x (by simp only [blocks, List.flatMap_cons]; exact List.mem_append_right _ hx)
  os := h.os
  output := h.output
  tape := h.tape
  tab := h.tab.mono hle
  low := h.low }

/-- An owned object is replaced (its blocks may be new ones): what is not its own stays. -/
theorem Sat.change [Tracks] {I : Imm} {M : List MObj} {m m' : MObj} {w w' : World} (h : Sat P I (m :: M) w)
 (hs : ∀ b, b < w.heap.size → b ∉ m.blocks → w'.heap[b]? = w.heap[b]?)
 (hb : ∀ b ∈ m'.blocks, b ∈ m.blocks ∨ w.heap.size ≤ b) (hn : m'.blocks.Nodup) (hm : MSat I w' m')
 (h1 : w'.os = w.os) (h2 : w'.output = w.output) (h3 : w'.tape = w.tape) (h4 : Tracks.on = true → w.drawn ≤ w'.drawn := by intro _; first | exact Nat.le_refl _ | exact Nat.le_succ _ | exact Nat.le_add_right _ _ | (simp; done) | omega) : Sat P I (m' :: M) w' := by
 have hd := h.drop
 have hnd := h.nodup
 simp only [blocks, List.flatMap_cons] at hnd
 have hlt : ∀ b ∈ blocks M, b < w.heap.size := fun b hb => by
  simp only [blocks, List.mem_flatMap] at hb
  obtain ⟨x, hx, hb⟩ := hb
  obtain ⟨o, ho⟩ := (hd.obj x hx).lies hb
  rcases Nat.lt_or_ge b w.heap.size with h' | h'
  ·exact h'
  ·simp [Array.getElem?_eq_none h'] at ho
 have hnot : ∀ b ∈ blocks M, b ∉ m.blocks := fun b hb hb' => (List.nodup_append.1 hnd).2.2 b hb' b hb rfl
 have hilt : ∀ b o, I.heap b = some o → b < w.heap.size := fun b o ho => by
  have := h.imm b o ho
  rcases Nat.lt_or_ge b w.heap.size with h' | h'
  ·exact h'
  ·simp [Array.getElem?_eq_none h'] at this
 have hinot : ∀ b o, I.heap b = some o → b ∉ m.blocks := fun b o ho hb => by
  have := h.apart b (by simp only [blocks, List.flatMap_cons]; exact List.mem_append_left _ hb)
  rw [this] at ho; cases ho
 exact {
  imm := fun b o ho => by rw [hs b (hilt b o ho) (hinot b o ho)]; exact h.imm b o ho
  obj := fun x hx => by
   rcases List.mem_cons.1 hx with rfl | hx
   ·exact hm
   ·exact (hd.obj x hx).of_same fun b hb =>
     have hb' : b ∈ blocks M := by simp only [blocks, List.mem_flatMap]; exact ⟨x, hx, hb⟩
     hs b (hlt b hb') (hnot b hb')
  nodup := by
   simp only [blocks, List.flatMap_cons]
   refine List.nodup_append.2 ⟨hn, hd.nodup, fun a ha b hb' e => ?_⟩
   subst e
   rcases hb a ha with h' | h'
   ·exact hnot a hb' h'
   ·exact absurd (hlt a hb') (by omega)
  apart := fun b hb' => by
   simp only [blocks, List.flatMap_cons, List.mem_append] at hb'
   rcases hb' with hb' | hb'
   ·rcases hb b hb' with h' | h'
    ·exact h.apart b (by simp only [blocks, List.flatMap_cons]; exact List.mem_append_left _ h')
    ·cases hi : I.heap b with
     | none => rfl
     | some o => exact absurd (hilt b o hi) (by omega)
   ·exact hd.apart b hb'
  os := h1.trans h.os
  output := h2.trans h.output
  tape := h3.trans h.tape
  tab := h.tab
  low := fun ht => Nat.le_trans (h.low ht) (h4 ht) }

end
section
variable {P : Program}

abbrev Env := Nat → Option HVal
def upd (e : Env) (d : Nat) (h : HVal) : Env := fun t => match Nat.beq t d with | true => some h | false => e t
def zci (e : Env) (d : Option Tmp) (h : HVal) : Env := match d with | some d => upd e d h | none => e

theorem zdM (e : Env) (d : Nat) (h : HVal) : upd e d h d = some h := by simp [upd]
theorem zdi (e : Env) {d t : Nat} (h : HVal) (hn : t ≠ d) : upd e d h t = e t := by
 have : Nat.beq t d = false := by
  cases hb : Nat.beq t d with
  | false => rfl
  | true => exact absurd (Nat.eq_of_beq_eq_true hb) hn
 simp [upd, this]
theorem zsL [Tracks] (e : Env) {d d' : Nat} (h h' : HVal) (hn : d ≠ d') : upd (upd e d h) d' h' = upd (upd e d' h') d h := by
 funext t
 by_cases h1 : t = d
 ·subst h1; rw [zdi _ _ hn, zdM, zdM]
 ·by_cases h2 : t = d'
  ·subst h2; rw [zdM, zdi _ _ h1, zdM]
  ·rw [zdi _ _ h2, zdi _ _ h1, zdi _ _ h1, zdi _ _ h2]
theorem zm8 [Tracks] (e : Env) {x y : Option Tmp} (h h' : HVal) (hn : ∀ d, x = some d → y ≠ some d) : zci (zci e x h) y h' = zci (zci e y h') x h := by
 cases x with
 | none => rfl
 | some d =>
   cases y with
   | none => rfl
   | some d' => exact zsL e h h' (fun e => hn d rfl (by rw [e]))

/-- e' says no more than e. -/
def Sub (e' e : Env) : Prop := ∀ t h, e' t = some h → e t = some h
theorem Sub.refl (e : Env) : Sub e e := fun _ _ h => h
theorem Sub.upd [Tracks] {e' e : Env} {t : Nat} {h : HVal} (ht : e t = some h) (hs : Sub e' e) : Sub (upd e' t h) e := fun x y hx => by
 by_cases hh : x = t
 ·subst hh; rw [zdM] at hx; rw [← hx]; exact ht
 ·rw [zdi _ _ hh] at hx; exact hs x y hx

def EnvV (I : Imm) (e : Env) (tmps : Array Value) : Prop := ∀ t h, e t = some h → ∃ v, tmps[t]? = some v ∧ V I h v

theorem EnvV.mono [Tracks] {I J : Imm} (hl : Le I J) {e : Env} {tmps : Array Value} (h : EnvV I e tmps) : EnvV J e tmps :=
 fun t c hc => let ⟨v, h1, h2⟩ := h t c hc; ⟨v, h1, h2.mono hl⟩
theorem EnvV.sub {I : Imm} {e e' : Env} {tmps : Array Value} (hs : Sub e' e) (h : EnvV I e tmps) : EnvV I e' tmps := fun t c hc => h t c (hs t c hc)

theorem EnvV.put [Tracks] {I : Imm} {e : Env} {a : Act} {d : Option Tmp} {h : HVal} {v : Value} (he : EnvV I e a.tmps) (hd : ∀ t, d = some t → t < a.tmps.size) (hv : V I h v) :
 EnvV I (zci e d h) (a.put d v).tmps := by
 cases d with
 | none => exact he
 | some d =>
   intro t c hc
   by_cases ht : t = d
   ·subst ht
    simp only [zci, zdM, Option.some.injEq] at hc
    subst hc
    exact ⟨v, by simp [Act.put, hd t rfl], hv⟩
   ·simp only [zci, zdi _ _ ht] at hc
    obtain ⟨u, h1, h2⟩ := he t c hc
    exact ⟨u, by simp [Act.put, Array.getElem?_setIfInBounds_ne (Ne.symm ht), h1], h2⟩

/-- The content tree of a constant. -/
def zfB : Value → HVal
 | .bool b => .bool b
 | .int k n => .int k n
 | .string s => .str s.data.toList
 | .agg _ => .junk
 | .tuple _ => .junk
 | v => .raw v
def zbp : Value → HVal
 | .agg cs => .agg (cs.toList.map zfB)
 | v => zfB v

theorem zkd (I : Imm) (v : Value) : V I (zfB v) v := by
 cases v with
 | bool b => exact .bool b
 | int k n => exact .int k n
 | string s => exact (by have h := V.str (I := I) s.data.toList; simp only [Array.toArray_toList] at h; exact h)
 | agg _ => exact .junk _
 | tuple _ => exact .junk _
 | _ => exact .raw _ rfl
theorem zc7 [Tracks] (I : Imm) (v : Value) : V I (zbp v) v := by
 cases v with
 | agg cs =>
   refine .agg (by simp) fun j c v h1 h2 => ?_
   simp only [List.getElem?_map, Array.getElem?_toList, h2, Option.map_some, Option.some.injEq] at h1
   rw [← h1]; exact zkd I v
 | bool b => exact .bool b
 | int k n => exact .int k n
 | string s => exact zkd I (.string s)
 | tuple _ => exact .junk _
 | _ => exact .raw _ rfl

def zu (e : Env) : Operand → Option HVal
 | .tmp t => e t
 | .const v => some (zbp v)
 | .global g => some (.raw (.pointer (some ⟨g, 0, none⟩)))
 | .func f => some (.fn (.func f) [] [])

theorem EnvV.eval [Tracks] {I : Imm} {e : Env} {a : Act} (he : EnvV I e a.tmps) {x : Operand} {h : HVal} (hx : zu e x = some h) : V I h (a.eval x) := by
 cases x with
 | tmp t =>
   obtain ⟨v, h1, h2⟩ := he t h hx
   simpa [Act.eval, h1] using h2
 | const v => simp only [zu, Option.some.injEq] at hx; subst hx; exact zc7 I v
 | global g => simp only [zu, Option.some.injEq] at hx; subst hx; exact .raw _ rfl
 | func f =>
   simp only [zu, Option.some.injEq] at hx; subst hx
   exact .fn rfl rfl (fun j c v h _ => by simp at h) (fun j c v h _ => by simp at h)

/-- The operands of o read as e says. -/
def Opds (I : Imm) (e : Env) (a : Act) (o : Oper) : Prop := ∀ x ∈ o.op.operands, ∀ h, zu e x = some h → V I h (a.eval x)
theorem EnvV.opds [Tracks] {I : Imm} {e : Env} {a : Act} (he : EnvV I e a.tmps) (o : Oper) : Opds I e a o := fun _ _ _ hx => he.eval hx

def NoQ : Exit → Act → World → Prop := fun _ _ _ => False

theorem Oper.wp_noQ {P : Program} {o : Oper} {a : Act} {w : World} {K K' : Act → World → Prop} {Q : Exit → Act → World → Prop} (hk : ∀ a w, K a w → K' a w)
 (h : o.wp P a w K NoQ) : o.wp P a w K' Q := by
 unfold Oper.wp at *
 generalize (execOp a.eval o).run P w = r at *
 cases r with
 | ok n w' =>
   cases n <;> simp only [Oper.upon] at h ⊢
   case value v => exact hk _ _ h
   case skip => exact hk _ _ h
   case defer d => exact hk _ _ h
   case enter f args =>
    refine Calls.mono h fun e w'' he => ?_
    cases e with
    | returned v => exact hk _ _ he
    | panicked c => exact (he : False).elim
    | outgrown => obtain ⟨_, _, hf⟩ := he; exact (hf : False).elim
   case row r args => exact Rows.mono h fun _ _ he => hk _ _ he
   all_goals exact h.elim
 | halt x w' =>
   cases x <;> simp only [Oper.upon] at h ⊢
   all_goals exact (h : False).elim

/-- An operation: from the state (e, M) it yields a value and objects of which K holds. -/
def EOp [Tracks] (P : Program) (e : Env) (M : List MObj) (o : Oper) (K : HVal → List MObj → Prop) : Prop :=
 ∀ I F a w, Opds I e a o → Sat P I (M ++ F) w →
  o.wp P a w (fun a' w' => ∃ v h M' J, a' = a.put o.dst v ∧ Le I J ∧ K h M' ∧ V J h v ∧ Sat P J (M' ++ F) w') NoQ

/-- An operation that changes no owned object, and yields what reads as h, whatever objects there are. -/
def POp [Tracks] (P : Program) (e : Env) (o : Oper) (h : HVal) : Prop :=
 ∀ I F a w, Opds I e a o → Sat P I F w → o.wp P a w (fun a' w' => ∃ v J, a' = a.put o.dst v ∧ Le I J ∧ V J h v ∧ Sat P J F w') NoQ

theorem POp.eop [Tracks] {P : Program} {e : Env} {o : Oper} {h : HVal} (hp : POp P e o h) {M : List MObj} {K : HVal → List MObj → Prop} (hk : K h M) : EOp P e M o K :=
 fun I F a w ho hs => Oper.wp_noQ (fun _ _ ⟨v, J, h1, h2, h3, h4⟩ => ⟨v, h, M, J, h1, h2, hk, h3, h4⟩) (hp I (M ++ F) a w ho hs)

/-- The easy way: the operation runs to a value. -/
theorem POp.of_run [Tracks] {P : Program} {e : Env} {o : Oper} {h : HVal}
 (hr : ∀ I F a w, Opds I e a o → Sat P I F w → ∃ v w' J, (execOp a.eval o).run P w = .ok (.value v) w' ∧ Le I J ∧ V J h v ∧ Sat P J F w') : POp P e o h :=
 fun I F a w ho hs => by
  obtain ⟨v, w', J, h1, h2, h3, h4⟩ := hr I F a w ho hs
  simp only [Oper.wp, h1, Oper.upon]
  exact ⟨v, J, rfl, h2, h3, h4⟩
theorem POp.of_val [Tracks] {P : Program} {e : Env} {o : Oper} {h : HVal}
 (hr : ∀ I a w, Opds I e a o → ∃ v, (execOp a.eval o).run P w = .ok (.value v) w ∧ V I h v) : POp P e o h :=
 POp.of_run fun I F a w ho hs => let ⟨v, h1, h2⟩ := hr I a w ho; ⟨v, w, I, h1, .refl I, h2, hs⟩

theorem EOp.of_run [Tracks] {P : Program} {e : Env} {M : List MObj} {o : Oper} {K : HVal → List MObj → Prop}
 (hr : ∀ I F a w, Opds I e a o → Sat P I (M ++ F) w → ∃ v h M' w' J, (execOp a.eval o).run P w = .ok (.value v) w' ∧ Le I J ∧ K h M' ∧ V J h v ∧ Sat P J (M' ++ F) w') : EOp P e M o K :=
 fun I F a w ho hs => by
  obtain ⟨v, h, M', w', J, h1, h2, h3, h4, h5⟩ := hr I F a w ho hs
  simp only [Oper.wp, h1, Oper.upon]
  exact ⟨v, h, M', J, rfl, h2, h3, h4, h5⟩
theorem EOp.of_skip [Tracks] {P : Program} {e : Env} {M : List MObj} {o : Oper} {K : HVal → List MObj → Prop}
 (hr : ∀ I F a w, Opds I e a o → Sat P I (M ++ F) w → ∃ M' w' J, (execOp a.eval o).run P w = .ok .skip w' ∧ Le I J ∧ K .junk M' ∧ Sat P J (M' ++ F) w') : EOp P e M o K :=
 fun I F a w ho hs => by
  obtain ⟨M', w', J, h1, h2, h3, h5⟩ := hr I F a w ho hs
  simp only [Oper.wp, h1, Oper.upon]
  exact ⟨undef, .junk, M', J, rfl, h2, h3, .junk _, h5⟩

theorem EOp.mono [Tracks] {P : Program} {e : Env} {M : List MObj} {o : Oper} {K K' : HVal → List MObj → Prop} (hk : ∀ h M, K h M → K' h M) (h : EOp P e M o K) : EOp P e M o K' :=
 fun I F a w ho hs => Oper.wp_noQ (fun _ _ ⟨v, x, M', J, h1, h2, h3, h4, h5⟩ => ⟨v, x, M', J, h1, h2, hk _ _ h3, h4, h5⟩) (h I F a w ho hs)

theorem EOp.perm [Tracks] {P : Program} {e : Env} {M N : List MObj} {o : Oper} {K : HVal → List MObj → Prop} (hp : N.Perm M) (h : EOp P e M o K) : EOp P e N o K :=
 fun I F a w ho hs => h I F a w ho (hs.perm (hp.append_right F))

/-- The frame rule. -/
theorem EOp.frame [Tracks] {P : Program} {e : Env} {M : List MObj} {o : Oper} {K : HVal → List MObj → Prop} (h : EOp P e M o K) (R : List MObj) :
 EOp P e (M ++ R) o (fun x M' => ∃ N, M' = N ++ R ∧ K x N) :=
 fun I F a w ho hs => Oper.wp_noQ (fun _ _ ⟨v, x, M', J, h1, h2, h3, h4, h5⟩ => ⟨v, x, M' ++ R, J, h1, h2, ⟨M', rfl, h3⟩, h4, by rw [List.append_assoc]; exact h5⟩)
  (h I (R ++ F) a w ho (by rw [← List.append_assoc]; exact hs))

/-- A change of view: the same state, seen otherwise. -/
def Ghost [Tracks] (e : Env) (M : List MObj) (e' : Env) (M' : List MObj) : Prop :=
 ∀ ⦃P : Program⦄ (I : Imm) (F : List MObj) (tmps : Array Value) (w : World), EnvV I e tmps → Sat P I (M ++ F) w → ∃ J, Le I J ∧ EnvV J e' tmps ∧ Sat P J (M' ++ F) w

/-! regions -/
/-- Is the operation carried out? -/
def zdP (ops : Array Oper) (e : Env) (j : Nat) (want : Bool) : Option Bool :=
 match (ops[j]?).bind (·.dst) with
 | some d => match e d with
   | some (.bool b) => some (b == want)
   | some (.opt c (.bool b)) => some (c && (b == want))
   | _ => none
 | none => none

def WantIs (ops : Array Oper) (e : Env) (o : Oper) (c : Bool) : Prop :=
 match o.guard with
 | none => c = true
 | some (j, want) => zdP ops e j want = some c

theorem WantIs.real {I : Imm} {ops : Array Oper} {e : Env} {tmps : Array Value} (he : EnvV I e tmps) {o : Oper} {c : Bool} (h : WantIs ops e o c) : Region.wanted o (yielded ops tmps) = c := by
 unfold WantIs at h
 unfold Region.wanted
 cases hg : o.guard with
 | none => rw [hg] at h; simp only at h; rw [h]
 | some p =>
   obtain ⟨j, want⟩ := p
   rw [hg] at h
   simp only at h ⊢
   unfold zdP at h
   unfold yielded
   cases hd : (ops[j]?).bind (·.dst) with
   | none => rw [hd] at h; simp at h
   | some d =>
     rw [hd] at h
     simp only at h
     cases hh : e d with
     | none => rw [hh] at h; simp at h
     | some x =>
       rw [hh] at h
       obtain ⟨v, h1, h2⟩ := he d _ hh
       cases x with
       | bool b =>
         simp only [Option.some.injEq] at h
         cases h2
         simp [h1, ← h]
       | opt c' y =>
         cases y with
         | bool b =>
           simp only [Option.some.injEq] at h
           cases h2 with
           | opt h3 h4 =>
             cases c' with
             | true =>
               have h5 := h3 rfl
               cases h5
               simp [h1, ← h]
             | false =>
               have h5 := h4 rfl
               subst h5
               simp [h1, ← h, undef]
         | _ => simp at h
       | _ => simp at h

/-- One operation of a region. -/
def HOp [Tracks] (P : Program) (ops : Array Oper) (n : Nat) (o : Oper) (e : Env) (M : List MObj) (K : Env → List MObj → Prop) : Prop :=
 (∀ t, o.dst = some t → t < n) ∧ ∃ c, WantIs ops e o c ∧ (c = true → EOp P e M o fun h M' => K (zci e o.dst h) M') ∧ (c = false → ∃ h, K (zci e o.dst (.opt false h)) M)

def Post [Tracks] (P : Program) (n : Nat) (I : Imm) (F : List MObj) (Q : Exit → Env → List MObj → Prop) : Exit → Act → World → Prop :=
 fun x a w => a.defers = [] ∧ a.tmps.size = n ∧ ∃ J e M, Le I J ∧ Q x e M ∧ EnvV J e a.tmps ∧ Sat P J (M ++ F) w

theorem Post.le [Tracks] {n : Nat} {I J : Imm} {F : List MObj} {Q : Exit → Env → List MObj → Prop} {x : Exit} {a : Act} {w : World} (hl : Le I J) (h : Post P n J F Q x a w) : Post P n I F Q x a w :=
 let ⟨h1, h2, J', e, M, h3, h4⟩ := h; ⟨h1, h2, J', e, M, hl.trans h3, h4⟩

theorem zoK (a : Act) (d : Option Tmp) (v : Value) : (a.put d v).tmps.size = a.tmps.size := by cases d <;> simp [Act.put]
theorem zlH (a : Act) (d : Option Tmp) (v : Value) : (a.put d v).defers = a.defers := by cases d <;> simp [Act.put]

theorem HOp.sound [Tracks] {P : Program} {ops : Array Oper} {n : Nat} {o : Oper} {e : Env} {M : List MObj} {K : Env → List MObj → Prop} (h : HOp P ops n o e M K)
 {i : Nat} (hi : ops[i]? = some o) {Q : Exit → Act → World → Prop} {I : Imm} {F : List MObj} {a : Act} {w : World} (hd : a.defers = []) (hn : a.tmps.size = n)
 (he : EnvV I e a.tmps) (hs : Sat P I (M ++ F) w) {K' : Act → World → Prop}
 (hk : ∀ J e' M' a' w', Le I J → K e' M' → a'.defers = [] → a'.tmps.size = n → EnvV J e' a'.tmps → Sat P J (M' ++ F) w' → K' a' w') : wpOp P ops Q i K' a w := by
 unfold wpOp
 simp only [hi]
 obtain ⟨hdst, c, hw, ht, hf⟩ := h
 rw [hw.real he]
 cases c with
 | false =>
   simp only [Bool.false_eq_true, if_false]
   obtain ⟨h, hh⟩ := hf rfl
   exact hk I _ M _ _ (.refl I) hh (by rw [zlH]; exact hd) (by rw [zoK]; exact hn) (he.put (by rw [hn]; exact hdst) (.opt (fun h => by cases h) (fun _ => rfl))) hs
 | true =>
   simp only [if_true]
   refine .inl (Oper.wp_noQ ?_ (ht rfl I F a w (he.opds o) hs))
   rintro a' w' ⟨v, x, M', J, rfl, h2, h3, h4, h5⟩
   exact hk J _ M' _ _ h2 h3 (by rw [zlH]; exact hd) (by rw [zoK]; exact hn) ((he.mono h2).put (by rw [hn]; exact hdst) h4) h5

/-- The operations of a region in the order of the text. -/
def Der [Tracks] (P : Program) (ops : Array Oper) (n : Nat) (K : Env → List MObj → Prop) : List Oper → Env → List MObj → Prop
 | [], e, M => K e M
 | o :: rest, e, M => HOp P ops n o e M (Der P ops n K rest)

theorem Der.sound [Tracks] {P : Program} {ops : Array Oper} {n : Nat} {K : Env → List MObj → Prop} {I : Imm} {F : List MObj} {Q : Exit → Act → World → Prop}
 (hq : ∀ J e M a w, Le I J → K e M → a.defers = [] → a.tmps.size = n → EnvV J e a.tmps → Sat P J (M ++ F) w → Q .normal a w) :
 ∀ (l : List Oper) (k : Nat), (∀ j, ops[k + j]? = l[j]?) → ∀ (J : Imm) (e : Env) (M : List MObj) (a : Act) (w : World), Le I J → Der P ops n K l e M →
  a.defers = [] → a.tmps.size = n → EnvV J e a.tmps → Sat P J (M ++ F) w → wpOps P ops Q (List.range' k l.length) a w := by
 intro l
 induction l with
 | nil => intro k _ J e M a w hl h hd hn he hs; exact hq J e M a w hl h hd hn he hs
 | cons o rest ih =>
   intro k hk J e M a w hl h hd hn he hs
   rw [List.length_cons, List.range'_succ, wpOps_cons]
   have hi : ops[k]? = some o := by simpa using hk 0
   refine HOp.sound h hi hd hn he hs fun J' e' M' a' w' hl' hK hd' hn' he' hs' => ?_
   exact ih (k + 1) (fun j => by have := hk (j + 1); simp only [List.getElem?_cons_succ] at this; rw [← this]; congr 1; omega) J' e' M' a' w' (hl.trans hl') hK hd' hn' he' hs'

section
variable {P : Program} {ops : Array Oper} {n : Nat} {K : Env → List MObj → Prop} {rest : List Oper} {e : Env} {M : List MObj} {d : Nat} {op : Op} {ty : TypeId} {pos : String} {af : Array Edge} {h : HVal}
theorem zdN {a b : Nat} (h : Nat.blt a b = true) : a < b := Nat.le_of_ble_eq_true h
/-- A pure operation. -/
theorem dp [Tracks] (hd : Nat.blt d n = true) (hp : POp P e ⟨some d, op, ty, pos, af, none⟩ h) (k : Der P ops n K rest (upd e d h) M) : Der P ops n K (⟨some d, op, ty, pos, af, none⟩ :: rest) e M :=
 ⟨fun t ht => by simp at ht; subst ht; exact zdN hd, true, rfl, fun _ => hp.eop k, fun h => by cases h⟩
/-- An operation that acts on owned objects. -/
theorem de [Tracks] (hd : Nat.blt d n = true) (hp : EOp P e M ⟨some d, op, ty, pos, af, none⟩ fun h M' => Der P ops n K rest (upd e d h) M') : Der P ops n K (⟨some d, op, ty, pos, af, none⟩ :: rest) e M :=
 ⟨fun t ht => by simp at ht; subst ht; exact zdN hd, true, rfl, fun _ => hp, fun h => by cases h⟩
theorem de0 [Tracks] (hp : EOp P e M ⟨none, op, ty, pos, af, none⟩ fun _ M' => Der P ops n K rest e M') : Der P ops n K (⟨none, op, ty, pos, af, none⟩ :: rest) e M :=
 ⟨fun t ht => by simp at ht, true, rfl, fun _ => hp, fun h => by cases h⟩
/-- e2 says what e says where the conditions hold. -/
def OpenTo (e e2 : Env) : Prop := ∀ t h, e2 t = some h → e t = some h ∨ ∃ c, e t = some (.opt c h) ∧ c = true
theorem OpenTo.refl (e : Env) : OpenTo e e := fun _ _ h => .inl h
theorem OpenTo.upd [Tracks] {e e2 : Env} {t : Nat} {c : Bool} {h : HVal} (ht : e t = some (.opt c h)) (hc : c = true) (ho : OpenTo e e2) : OpenTo e (upd e2 t h) := fun x y hx => by
 by_cases hh : x = t
 ·subst hh; rw [zdM] at hx; cases hx; exact .inr ⟨c, ht, hc⟩
 ·rw [zdi _ _ hh] at hx; exact ho x y hx
theorem Opds.open {I : Imm} {e e2 : Env} {a : Act} {o : Oper} (ho : OpenTo e e2) (h : Opds I e a o) : Opds I e2 a o := fun x hx c hc => by
 cases x with
 | tmp t =>
   rcases ho t c hc with h1 | ⟨b, h1, h2⟩
   ·exact h _ hx _ h1
   ·have := h _ hx _ h1
    cases this with
    | opt h3 h4 => exact h3 h2
 | const v => exact h _ hx c hc
 | global g => exact h _ hx c hc
 | func f => exact h _ hx c hc
theorem POp.open [Tracks] {e e2 : Env} {o : Oper} (ho : OpenTo e e2) (hp : POp P e2 o h) : POp P e o h := fun I F a w hop hs => hp I F a w (hop.open ho) hs
/-- A pure operation under a guard. -/
theorem dg [Tracks] {j : Nat} {want c : Bool} (hd : Nat.blt d n = true) (hg : zdP ops e j want = some c) (hp : c = true → ∃ e2, OpenTo e e2 ∧ POp P e2 ⟨some d, op, ty, pos, af, some (j, want)⟩ h)
 (k : Der P ops n K rest (upd e d (.opt c h)) M) : Der P ops n K (⟨some d, op, ty, pos, af, some (j, want)⟩ :: rest) e M :=
 ⟨fun t ht => by simp at ht; subst ht; exact zdN hd, c, hg, fun hc => by
  obtain ⟨e2, h1, h2⟩ := hp hc
  intro I F a w ho hs
  exact Oper.wp_noQ (fun _ _ ⟨v, J, h3, h4, h5, h6⟩ => ⟨v, .opt c h, M, J, h3, h4, k, .opt (fun _ => h5) (fun hf => by rw [hc] at hf; cases hf), h6⟩) ((h2.open h1) I (M ++ F) a w ho hs),
  fun hc => ⟨h, by subst hc; exact k⟩⟩
theorem dn [Tracks] (k : K e M) : Der P ops n K [] e M := k
end

/-! code -/
def HWp [Tracks] (P : Program) (n : Nat) (c : Code) (e : Env) (M : List MObj) (Q : Exit → Env → List MObj → Prop) : Prop :=
 ∀ I F a w, a.defers = [] → a.tmps.size = n → EnvV I e a.tmps → Sat P I (M ++ F) w → c.wp P (Post P n I F Q) a w

section
variable {P : Program} {n : Nat} {e e' : Env} {M M' : List MObj} {Q Q' : Exit → Env → List MObj → Prop} {c c' : Code}

theorem zf2 [Tracks] (h : HWp P n c e M Q) (hq : ∀ x e M, Q x e M → Q' x e M) : HWp P n c e M Q' :=
 fun I F a w h1 h2 h3 h4 => wp_mono (h I F a w h1 h2 h3 h4) fun _ _ _ ⟨p1, p2, J, e, M, p3, p4, p5⟩ => ⟨p1, p2, J, e, M, p3, hq _ _ _ p4, p5⟩

theorem zI [Tracks] (hg : Ghost e M e' M') (h : HWp P n c e' M' Q) : HWp P n c e M Q := fun I F a w h1 h2 h3 h4 => by
 obtain ⟨J, hl, he, hs⟩ := hg I F a.tmps w h3 h4
 exact wp_mono (h J F a w h1 h2 he hs) fun _ _ _ hp => hp.le hl

theorem Ghost.sub [Tracks] (h : Sub e' e) : Ghost e M e' M := fun _ I F tmps w h1 h2 => ⟨I, .refl I, h1.sub h, h2⟩
theorem Ghost.perm [Tracks] (h : M.Perm M') : Ghost e M e M' := fun _ I F tmps w h1 h2 => ⟨I, .refl I, h1, h2.perm (h.append_right F)⟩
theorem Ghost.drop [Tracks] {m : MObj} : Ghost e (m :: M) e M := fun _ I F tmps w h1 h2 => ⟨I, .refl I, h1, h2.drop⟩
theorem Ghost.trans [Tracks] {e'' : Env} {M'' : List MObj} (h : Ghost e M e' M') (h' : Ghost e' M' e'' M'') : Ghost e M e'' M'' := fun _ I F tmps w h1 h2 => by
 obtain ⟨J, a1, a2, a3⟩ := h I F tmps w h1 h2
 obtain ⟨K, b1, b2, b3⟩ := h' J F tmps w a2 a3
 exact ⟨K, a1.trans b1, b2, b3⟩

def zp1 [Tracks] (P : Program) (n : Nat) (c : Code) (Q : Exit → Env → List MObj → Prop) : Exit → Env → List MObj → Prop
 | .normal, e, M => HWp P n c e M Q
 | x, e, M => Q x e M

theorem zh [Tracks] (h : HWp P n c e M (zp1 P n c' Q)) : HWp P n (.seq c c') e M Q := fun I F a w h1 h2 h3 h4 => by
 refine wp_seq (wp_mono (h I F a w h1 h2 h3 h4) ?_)
 rintro x a' w' ⟨p1, p2, J, e', M', p3, p4, p5, p6⟩
 cases x with
 | normal => exact wp_mono (p4 J F a' w' p1 p2 p5 p6) fun _ _ _ hp => hp.le p3
 | _ => exact ⟨p1, p2, J, e', M', p3, p4, p5, p6⟩

theorem zmQ [Tracks] {id : Nat} {ops : Array Oper} {l : List Oper} (hl : ops = l.toArray) (h : Der P ops n (fun e M => Q .normal e M) l e M) : HWp P n (.region id ops false) e M Q :=
 fun I F a w h1 h2 h3 h4 => by
  refine wp_region ?_
  have := Der.sound (P := P) (ops := ops) (n := n) (K := fun e M => Q .normal e M) (I := I) (F := F) (Q := Post P n I F Q)
   (fun J e M a w hl hK hd hn he hs => ⟨hd, hn, J, e, M, hl, hK, he, hs⟩) l 0 (fun j => by simp [hl]) I e M a w (.refl I) h h1 h2 h3 h4
  rw [List.range_eq_range']
  simpa [hl] using this

/-- A region, and what follows it. -/
theorem zb [Tracks] {id : Nat} {l : List Oper} (h : Der P l.toArray n (fun e M => HWp P n c e M Q) l e M) : HWp P n (.seq (.region id l.toArray false) c) e M Q :=
 zh (zmQ rfl h)
theorem zy [Tracks] {id : Nat} {l : List Oper} (h : Der P l.toArray n (fun e M => Q .normal e M) l e M) : HWp P n (.region id l.toArray false) e M Q :=
 zmQ rfl h

theorem zk [Tracks] (h : Q .normal e M) : HWp P n .skip e M Q := fun I F a w h1 h2 h3 h4 => wp_skip ⟨h1, h2, I, e, M, .refl I, h, h3, h4⟩
theorem zn [Tracks] (h : Q .ret e M) : HWp P n .ret e M Q := fun I F a w h1 h2 h3 h4 => wp_ret ⟨h1, h2, I, e, M, .refl I, h, h3, h4⟩
theorem zN [Tracks] {id : Nat} (h : Q (.exit id) e M) : HWp P n (.exit id) e M Q := fun I F a w h1 h2 h3 h4 => wp_exit ⟨h1, h2, I, e, M, .refl I, h, h3, h4⟩

theorem zj [Tracks] {x : Operand} {b : Bool} (hx : zu e x = some (.bool b)) (ht : b = true → HWp P n c e M Q) (hf : b = false → HWp P n c' e M Q) : HWp P n (.cond x c c') e M Q :=
 fun I F a w h1 h2 h3 h4 => by
  have hv := h3.eval hx
  have : a.eval x = .bool b := by generalize a.eval x = y at *; cases hv; rfl
  exact wp_cond_split this (fun h => ht h I F a w h1 h2 h3 h4) (fun h => hf h I F a w h1 h2 h3 h4)
theorem zmW [Tracks] {x : Operand} (hx : zu e x = some (.bool true)) (ht : HWp P n c e M Q) : HWp P n (.cond x c c') e M Q :=
 zj hx (fun _ => ht) (fun h => by cases h)
theorem zcS [Tracks] {x : Operand} (hx : zu e x = some (.bool false)) (ht : HWp P n c' e M Q) : HWp P n (.cond x c c') e M Q :=
 zj hx (fun h => by cases h) (fun _ => ht)

def zgr (id : Nat) (Q : Exit → Env → List MObj → Prop) : Exit → Env → List MObj → Prop
 | .exit id', e, M => if id' = id then Q .normal e M else Q (.exit id') e M
 | x, e, M => Q x e M

theorem zl [Tracks] {id : Nat} (h : HWp P n c e M (zgr id Q)) : HWp P n (.block id c) e M Q := fun I F a w h1 h2 h3 h4 => by
 refine wp_block (wp_mono (h I F a w h1 h2 h3 h4) ?_)
 rintro x a' w' ⟨p1, p2, J, e', M', p3, p4, p5, p6⟩
 cases x with
 | exit id' =>
   simp only [Exit.inBlock, zgr] at *
   split
   ·rename_i hh; rw [if_pos hh] at p4; exact ⟨p1, p2, J, e', M', p3, p4, p5, p6⟩
   ·rename_i hh; rw [if_neg hh] at p4; exact ⟨p1, p2, J, e', M', p3, p4, p5, p6⟩
 | _ => exact ⟨p1, p2, J, e', M', p3, p4, p5, p6⟩

/-- What a round hands on: a state of the invariant with a smaller measure; every other exit leaves the loop. -/
def zuF [Tracks] {ι : Type} (E : ι → Env) (MM : ι → List MObj) (Iv : ι → Prop) (μ : ι → Nat) (i : ι) (Q : Exit → Env → List MObj → Prop) : Exit → Env → List MObj → Prop
 | .normal, e, M => ∃ j, Iv j ∧ μ j < μ i ∧ Ghost e M (E j) (MM j)
 | x, e, M => Q x e M

theorem ztL [Tracks] {ι : Type} (E : ι → Env) (MM : ι → List MObj) (Iv : ι → Prop) (μ : ι → Nat) (i : ι) (h0 : Iv i) (hg : Ghost e M (E i) (MM i))
 (hb : ∀ i, Iv i → HWp P n c (E i) (MM i) (zuF E MM Iv μ i Q)) : HWp P n (.loop c) e M Q := fun I F a w h1 h2 h3 h4 => by
 obtain ⟨J0, hl0, he0, hs0⟩ := hg I F a.tmps w h3 h4
 refine wp_loop_ghost (fun k a w => ∃ i J, μ i = k ∧ Iv i ∧ Le I J ∧ a.defers = [] ∧ a.tmps.size = n ∧ EnvV J (E i) a.tmps ∧ Sat P J (MM i ++ F) w) (μ i)
  ⟨i, J0, rfl, h0, hl0, h1, h2, he0, hs0⟩ ?_
 rintro k a w ⟨i, J, rfl, hi, hl, h1, h2, h3, h4⟩
 refine wp_mono (hb i hi J F a w h1 h2 h3 h4) ?_
 rintro x a' w' ⟨p1, p2, J', e', M', p3, p4, p5, p6⟩
 cases x with
 | normal =>
   obtain ⟨j, hj, hlt, hg'⟩ := p4
   obtain ⟨J2, hl2, he2, hs2⟩ := hg' J' F a'.tmps w' p5 p6
   exact ⟨μ j, hlt, j, J2, rfl, hj, (hl.trans p3).trans hl2, p1, p2, he2, hs2⟩
 | _ => exact ⟨p1, p2, J', e', M', hl.trans p3, p4, p5, p6⟩
end

/-! loops, and the places where ways meet again, by the slots that are written -/
def zi2 : List (Nat × HVal) → Nat → Option HVal
 | [], _ => none
 | (k, h) :: r, t => match Nat.beq k t with | true => some h | false => zi2 r t
def inL : List Nat → Nat → Bool
 | [], _ => false
 | k :: r, t => match Nat.beq k t with | true => true | false => inL r t
/-- e, but for the slots ks, of which only W is known. -/
def loopE (e : Env) (ks : List Nat) (W : List (Nat × HVal)) : Env := fun t =>
 match zi2 W t with
 | some h => some h
 | none => match inL ks t with
   | true => none
   | false => e t
def zcT (e : Env) : List (Nat × HVal) → Prop
 | [] => True
 | (t, h) :: r => e t = some h ∧ zcT e r
def zd3 (ks : List Nat) (e e' : Env) : Prop := ∀ t, inL ks t = false → e' t = e t
theorem zo {ks : List Nat} {e : Env} : zd3 ks e e := fun _ _ => rfl
theorem zt [Tracks] {ks : List Nat} {e e' : Env} {d : Nat} {h : HVal} (hd : inL ks d = true) (hk : zd3 ks e e') : zd3 ks e (upd e' d h) := fun t ht => by
 have : t ≠ d := fun h => by subst h; rw [hd] at ht; cases ht
 rw [zdi _ _ this]; exact hk t ht
def zpS : List (Nat × HVal) → List Nat → Bool
 | [], _ => true
 | (k, _) :: r, ks => match inL ks k with | true => zpS r ks | false => false
def zqo : List Nat → List Nat → Bool
 | [], _ => true
 | k :: r, ks => match inL ks k with | true => zqo r ks | false => false
theorem zpL {ks : List Nat} : ∀ {W : List (Nat × HVal)} {t : Nat}, zpS W ks = true → inL ks t = false → zi2 W t = none
 | [], _, _, _ => rfl
 | (k, h) :: r, t, hs, ht => by
   simp only [zpS] at hs
   cases hk : inL ks k with
   | false => rw [hk] at hs; simp at hs
   | true =>
     rw [hk] at hs
     simp only [zi2]
     cases hb : Nat.beq k t with
     | true => have := Nat.eq_of_beq_eq_true hb; subst this; rw [hk] at ht; cases ht
     | false => exact zpL hs ht
theorem zpQ {ks : List Nat} : ∀ {l : List Nat} {t : Nat}, zqo l ks = true → inL ks t = false → inL l t = false
 | [], _, _, _ => rfl
 | k :: r, t, hs, ht => by
   simp only [zqo] at hs
   cases hk : inL ks k with
   | false => rw [hk] at hs; simp at hs
   | true =>
     rw [hk] at hs
     simp only [inL]
     cases hb : Nat.beq k t with
     | true => have := Nat.eq_of_beq_eq_true hb; subst this; rw [hk] at ht; cases ht
     | false => exact zpQ hs ht
theorem zp [Tracks] {ks l : List Nat} {e e1 : Env} {W : List (Nat × HVal)} (h1 : zpS W ks = true) (h2 : zqo l ks = true) (hk : zd3 ks e e1) : zd3 ks e (loopE e1 l W) := fun t ht => by
 unfold loopE
 rw [zpL h1 ht, zpQ h2 ht]
 exact hk t ht
theorem Sub.loopE {ks : List Nat} {e e' : Env} {W : List (Nat × HVal)} (hW : zcT e' W) (hk : zd3 ks e e') : Sub (loopE e ks W) e' := fun t h ht => by
 unfold HL.loopE at ht
 cases hg : zi2 W t with
 | some x =>
   rw [hg] at ht; simp only [Option.some.injEq] at ht; subst ht
   have key : ∀ (W : List (Nat × HVal)), zcT e' W → zi2 W t = some x → e' t = some x := fun W => by
    induction W with
    | nil => intro _ h; simp [zi2] at h
    | cons p r ih =>
      obtain ⟨k, y⟩ := p
      intro hh h
      simp only [zi2] at h
      cases hb : Nat.beq k t with
      | true => rw [hb] at h; simp only [Option.some.injEq] at h; subst h; have := Nat.eq_of_beq_eq_true hb; subst this; exact hh.1
      | false => rw [hb] at h; exact ih hh.2 h
   exact key W hW hg
 | none =>
   rw [hg] at ht
   simp only at ht
   cases hi : inL ks t with
   | true => rw [hi] at ht; simp at ht
   | false => rw [hi] at ht; simp only at ht; rw [hk t hi]; exact ht

section
variable {P : Program} {n : Nat} {e e' : Env} {M M' : List MObj} {Q Q' : Exit → Env → List MObj → Prop} {c c' : Code}
def ztm {ι : Type} (e : Env) (ks : List Nat) (W : ι → List (Nat × HVal)) (MM : ι → List MObj) (Iv : ι → Prop) (μ : ι → Nat) (i : ι) (Q : Exit → Env → List MObj → Prop) : Exit → Env → List MObj → Prop
 | .normal, e', M => ∃ j, Iv j ∧ μ j < μ i ∧ zcT e' (W j) ∧ zd3 ks e e' ∧ M.Perm (MM j)
 | x, e', M => Q x e' M
theorem zZ [Tracks] {ι : Type} (ks : List Nat) (W : ι → List (Nat × HVal)) (MM : ι → List MObj) (Iv : ι → Prop) (μ : ι → Nat) (i : ι) (h0 : Iv i) (hW : zcT e (W i)) (hM : M.Perm (MM i))
 (hb : ∀ i, Iv i → HWp P n c (loopE e ks (W i)) (MM i) (ztm e ks W MM Iv μ i Q)) : HWp P n (.loop c) e M Q := by
 refine ztL (fun i => loopE e ks (W i)) MM Iv μ i h0 ((Ghost.sub (Sub.loopE hW zo)).trans (Ghost.perm hM)) fun i hi => zf2 (hb i hi) ?_
 intro x e1 M1 hq
 cases x with
 | normal =>
   obtain ⟨j, h1, h2, h3, h4, h5⟩ := hq
   exact ⟨j, h1, h2, (Ghost.sub (Sub.loopE h3 h4)).trans (Ghost.perm h5)⟩
 | _ => exact hq
/-- Ways that meet again. -/
def zuL {ι : Type} (e : Env) (ks : List Nat) (W : ι → List (Nat × HVal)) (MM : ι → List MObj) (Iv : ι → Prop) (Q : Exit → Env → List MObj → Prop) : Exit → Env → List MObj → Prop
 | .normal, e', M => ∃ j, Iv j ∧ zcT e' (W j) ∧ zd3 ks e e' ∧ M.Perm (MM j)
 | x, e', M => Q x e' M
theorem zf3 [Tracks] {ι : Type} (ks : List Nat) (W : ι → List (Nat × HVal)) (MM : ι → List MObj) (Iv : ι → Prop) (h1 : HWp P n c e M (zuL e ks W MM Iv Q))
 (h2 : ∀ i, Iv i → HWp P n c' (loopE e ks (W i)) (MM i) Q) : HWp P n (.seq c c') e M Q := by
 refine zh (zf2 h1 ?_)
 intro x e1 M1 hq
 cases x with
 | normal =>
   obtain ⟨j, a1, a2, a3, a4⟩ := hq
   exact zI ((Ghost.sub (Sub.loopE a2 a3)).trans (Ghost.perm a4)) (h2 j a1)
 | _ => exact hq
theorem zf [Tracks] (h : HWp P n c e M Q) : zp1 P n c Q .normal e M := h
theorem zT [Tracks] {id : Nat} (h : Q (.exit id) e M) : zp1 P n c Q (.exit id) e M := h
theorem zah {ι : Type} {e0 : Env} {ks : List Nat} {W : ι → List (Nat × HVal)} {MM : ι → List MObj} {Iv : ι → Prop} {μ : ι → Nat} {i : ι} {id : Nat} (h : Q (.exit id) e M) : ztm e0 ks W MM Iv μ i Q (.exit id) e M := h
theorem zz {id : Nat} (h : Q .normal e M) : zgr id Q .normal e M := h
theorem zD {id : Nat} (h : Q .normal e M) : zgr id Q (.exit id) e M := by simp only [zgr, if_true]; exact h
theorem zgI {id id' : Nat} (hn : Nat.beq id' id = false) (h : Q (.exit id') e M) : zgr id Q (.exit id') e M := by
 have : id' ≠ id := fun h => by subst h; simp at hn
 simp only [zgr, if_neg this]; exact h
end

/-! functions -/
/-- h' says no more than h. -/
def Weak (h h' : HVal) : Prop := ∀ I v, V I h v → V I h' v
theorem Weak.refl (h : HVal) : Weak h h := fun _ _ h => h

def Con [Tracks] (P : Program) (f : FuncId) (hargs : List HVal) (M : List MObj) (Q : HVal → List MObj → Prop) : Prop :=
 ∀ I F w args, VL I hargs args → Sat P I (M ++ F) w → Calls P f args.toArray w fun x w' =>
  ∃ v h M' J, x = .returned v ∧ Le I J ∧ Q h M' ∧ V J h v ∧ Sat P J (M' ++ F) w'

theorem Con.perm [Tracks] {P : Program} {f : FuncId} {hargs : List HVal} {M N : List MObj} {Q : HVal → List MObj → Prop} (hp : N.Perm M) (h : Con P f hargs M Q) : Con P f hargs N Q :=
 fun I F w args h1 h2 => h I F w args h1 (h2.perm (hp.append_right F))

/-- A function that changes nothing that there is and yields what reads as h. -/
def ConP [Tracks] (P : Program) (f : FuncId) (hargs : List HVal) (h : HVal) : Prop := Con P f hargs [] fun x M' => x = h ∧ M' = []

/-- The result variables. -/
def ziE (e : Env) : List ResultVar → Option (List HVal)
 | [] => some []
 | .tmp t :: r => match e t, ziE e r with
   | some h, some l => some (h :: l)
   | _, _ => none
 | .cell _ _ :: _ => none
def zgQ (e : Env) (rs : List ResultVar) : Option HVal :=
 match ziE e rs with
 | some [h] => some h
 | some l => some (.tup l)
 | none => none

def zir [Tracks] (rs : List ResultVar) (Q : HVal → List MObj → Prop) : Exit → Env → List MObj → Prop
 | .normal, e, M | .ret, e, M => ∃ e' M', Ghost e M e' M' ∧ ∃ h h', zgQ e' rs = some h ∧ Weak h h' ∧ Q h' M'
 | _, _, _ => False

def zsZ (hs : List HVal) : Env := fun t => hs[t]?

def zfG (tmps : Array Value) : ResultVar → Sem Value
 | .tmp t => pure (tmps.getD t undef)
 | .cell a t => do loadVar t (← asAddr (tmps.getD a undef))
theorem zkJ (fn : Func) (tmps : Array Value) : results fn tmps = (do let vs ← fn.results.mapM (zfG tmps); pure (if h : vs.size = 1 then vs[0] else .tuple vs)) := by
 unfold results
 congr 1

theorem zsN [Tracks] {I : Imm} {e : Env} {tmps : Array Value} (he : EnvV I e tmps) (P : Program) (w : World) : ∀ (rs : List ResultVar) (l : List HVal), ziE e rs = some l →
 ∃ vs : List Value, (rs.mapM (zfG tmps)).run P w = .ok vs w ∧ VL I l vs := by
 intro rs
 induction rs with
 | nil => intro l h; simp [ziE] at h; subst h; exact ⟨[], by simp, VL.nil⟩
 | cons r rs ih =>
   intro l h
   cases r with
   | tmp t =>
     simp only [ziE] at h
     cases h1 : e t with
     | none => rw [h1] at h; simp at h
     | some x =>
       cases h2 : ziE e rs with
       | none => rw [h1, h2] at h; simp at h
       | some l' =>
         rw [h1, h2] at h; simp at h; subst h
         obtain ⟨vs, h3, h4⟩ := ih l' h2
         obtain ⟨v, h5, h6⟩ := he t x h1
         refine ⟨v :: vs, ?_, VL.cons h6 h4⟩
         simp only [List.mapM_cons, zfG, Sem.run_bind, Sem.run_pure, Result.andThen_ok, h3]
         simp [h5]
   | cell a t => simp [ziE] at h

theorem Con.of_body [Tracks] {P : Program} {f : FuncId} {fn : Func} {c : Code} {hargs : List HVal} {M : List MObj} {Q : HVal → List MObj → Prop}
 {n : Nat} (hf : P.funcs[f]? = some fn) (hb : fn.body = some c) (hnt : fn.ntmps = n) (hn' : Nat.ble hargs.length n = true) {rs : List ResultVar} (hrs : fn.results.toList = rs) (h : HWp P n c (zsZ hargs) M (zir rs Q)) : Con P f hargs M Q := by
 have hn := Nat.le_of_ble_eq_true hn'
 subst hnt hrs
 intro I F w args h1 h2
 refine calls_of_wp hf hb ?_
 have hlen := h1.1
 refine wp_mono (h I F _ w rfl (by simp; omega) ?_ h2) ?_
 ·intro t x hx
  obtain ⟨v, h3, h4⟩ := h1.get hx
  have hlt : t < args.length := by
   rcases Nat.lt_or_ge t args.length with h' | h'
   ·exact h'
   ·simp [List.getElem?_eq_none h'] at h3
  refine ⟨v, ?_, h4⟩
  rw [Array.getElem?_append_left (by simpa using hlt)]
  simpa using h3
 ·have key : ∀ (a' : Act) (w' : World), a'.defers = [] → (∃ J e M', Le I J ∧ (∃ e' M'', Ghost e M' e' M'' ∧ ∃ h h', zgQ e' fn.results.toList = some h ∧ Weak h h' ∧ Q h' M'') ∧ EnvV J e a'.tmps ∧ Sat P J (M' ++ F) w') →
   a'.defers = [] ∧ ∃ v, (results fn a'.tmps).run P w' = .ok v w' ∧ (∃ v_1 h M' J, Ending.returned v = Ending.returned v_1 ∧ Le I J ∧ Q h M' ∧ V J h v_1 ∧ Sat P J (M' ++ F) w') := by
   rintro a' w' hd ⟨J, e, M', hl, ⟨e', M'', hg, h, h', hr, hw, hq⟩, he, hs⟩
   obtain ⟨J2, hl2, he2, hs2⟩ := hg J F a'.tmps w' he hs
   refine ⟨hd, ?_⟩
   unfold zgQ at hr
   cases hrl : ziE e' fn.results.toList with
   | none => rw [hrl] at hr; simp at hr
   | some l =>
     obtain ⟨vs, h3, h4⟩ := zsN he2 P w' _ _ hrl
     have hrun : (results fn a'.tmps).run P w' = .ok (if h : vs.length = 1 then vs[0] else .tuple vs.toArray) w' := by
      rw [zkJ]
      have hm : (fn.results.mapM (zfG a'.tmps)).run P w' = .ok vs.toArray w' := by
       rw [Array.mapM_eq_mapM_toList]
       simp only [Sem.run_map, h3, Result.andThen_ok]
      simp only [Sem.run_bind, Sem.run_pure]
      rw [hm]
      simp
     refine ⟨_, hrun, _, h', M'', J2, rfl, hl.trans hl2, hq, ?_, hs2⟩
     rw [hrl] at hr
     apply hw
     match l, hr, h4 with
     | [], hr, h4 =>
       simp at hr; subst hr
       have : vs = [] := by have := h4.1; simpa using this
       subst this
       exact .tup (by simp) (fun j c v h _ => by simp at h)
     | [x], hr, h4 =>
       simp at hr; subst hr
       have hl1 : vs.length = 1 := by have := h4.1; simpa using this
       match vs, hl1, h4 with
       | [v], _, h4 => exact h4.head
     | x :: y :: r, hr, h4 =>
       simp at hr; subst hr
       have hl1 : vs.length = r.length + 2 := by have := h4.1; simpa using this
       rw [dif_neg (by omega)]
       exact .tup (by simp [hl1]) (fun j c v h1 h2 => h4.2 j c v h1 (by simpa using h2))
  rintro x a' w' ⟨p1, p2, J, e, M', p3, p4, p5, p6⟩
  cases x with
  | normal => exact key a' w' p1 ⟨J, e, M', p3, p4, p5, p6⟩
  | ret => exact key a' w' p1 ⟨J, e, M', p3, p4, p5, p6⟩
  | exit id => exact p4.elim
  | goto l => exact p4.elim
  | panic ch => exact p4.elim
  | outgrown => exact p4.elim

theorem zA [Tracks] {rs : List ResultVar} {e : Env} {h h' : HVal} (hr : zgQ e rs = some h) (hh : h = h') : zir rs (fun x M' => x = h' ∧ M' = []) .ret e [] :=
 ⟨e, [], Ghost.sub (Sub.refl _), h, h, hr, Weak.refl _, hh, rfl⟩
theorem zsY [Tracks] {rs : List ResultVar} {e : Env} {h h' : HVal} (hr : zgQ e rs = some h) (hh : h = h') : zir rs (fun x M' => x = h' ∧ M' = []) .normal e [] :=
 ⟨e, [], Ghost.sub (Sub.refl _), h, h, hr, Weak.refl _, hh, rfl⟩
theorem znA [Tracks] {rs : List ResultVar} {e : Env} {h h' : HVal} (hr : zgQ e rs = some h) (hh : Weak h h') : zir rs (fun x M' => x = h' ∧ M' = []) .ret e [] :=
 ⟨e, [], Ghost.sub (Sub.refl _), h, h', hr, hh, rfl, rfl⟩
theorem zbs [Tracks] {rs : List ResultVar} {e : Env} {M : List MObj} {h : HVal} {Q : HVal → List MObj → Prop} (hr : zgQ e rs = some h) (hh : Q h M) : zir rs Q .ret e M :=
 ⟨e, M, Ghost.sub (Sub.refl _), h, h, hr, Weak.refl _, hh⟩
theorem zbW [Tracks] {rs : List ResultVar} {e e' : Env} {M M' : List MObj} {h : HVal} {Q : HVal → List MObj → Prop} (hg : Ghost e M e' M') (hr : zgQ e' rs = some h) (hh : Q h M') : zir rs Q .ret e M :=
 ⟨e', M', hg, h, h, hr, Weak.refl _, hh⟩
theorem zcC (sz : Nat) : Weak (.raw (.slice none 0 0)) (.slice sz []) := fun I v h => by cases h; exact .slice0 _ _ _
/-- A tuple says no more if its parts say no more. -/
theorem znU : ∀ {l l' : List HVal}, l.length = l'.length → (∀ (j : Nat) (h h' : HVal), l[j]? = some h → l'[j]? = some h' → Weak h h') → Weak (.tup l) (.tup l') := by
 intro l l' hl hw I v hv
 cases hv with
 | tup h1 h2 =>
   refine .tup (by rw [h1, hl]) fun j c x h3 h4 => ?_
   have hj : j < l.length := by
    rcases Nat.lt_or_ge j l.length with h | h
    ·exact h
    ·rw [List.getElem?_eq_none (by omega)] at h3; cases h3
   exact hw j l[j] c (List.getElem?_eq_getElem hj) h3 I x (h2 j l[j] x (List.getElem?_eq_getElem hj) h4)
theorem zcN [Tracks] {a b a' b' : HVal} (h1 : Weak a a') (h2 : Weak b b') : Weak (.tup [a, b]) (.tup [a', b']) :=
 znU rfl fun j h h' x y => by
  match j, x, y with
  | 0, x, y => simp at x y; subst x y; exact h1
  | 1, x, y => simp at x y; subst x y; exact h2
theorem zrv [Tracks] {a b c a' b' c' : HVal} (h1 : Weak a a') (h2 : Weak b b') (h3 : Weak c c') : Weak (.tup [a, b, c]) (.tup [a', b', c']) :=
 znU rfl fun j h h' x y => by
  match j, x, y with
  | 0, x, y => simp at x y; subst x y; exact h1
  | 1, x, y => simp at x y; subst x y; exact h2
  | 2, x, y => simp at x y; subst x y; exact h3
end
section

/-- A slim description of a type. -/
inductive TD where
 | bool | int (k : IntKind) | str | ptr (e : Nat) | slice (e : Nat) | arr (n e : Nat) | map (k e : Nat) | struct (fs : List (Nat × Nat)) | func | iface | tuple | other

def zeQ : TypeDesc → TD
 | .bool => .bool
 | .int k => .int k
 | .string => .str
 | .pointer e => .ptr e
 | .slice e => .slice e
 | .array n e => .arr n e
 | .map k e => .map k e
 | .struct fs => .struct (fs.toList.map fun f => (f.offset, f.type))
 | .func .. => .func
 | .interface .. => .iface
 | .tuple .. => .tuple
 | _ => .other

structure Fits (P : Program) (t : TypeId) (d : TD) (size bytes : Nat) (zero : Value) : Prop where
 und : (P.underlying t).map zeQ = some d
 info : (P.info? t).map (fun x => (x.size, x.bytes, x.zero)) = some (size, bytes, some zero)

def TD.isAgg : TD → Bool
 | .struct _ | .arr _ _ => true
 | _ => false

section
variable {P : Program} {t : TypeId} {d : TD} {size bytes : Nat} {zero : Value}

theorem Fits.underlying (h : Fits P t d size bytes zero) : ∃ x, P.underlying t = some x ∧ zeQ x = d := by
 have := h.und
 cases hu : P.underlying t with
 | none => rw [hu] at this; simp at this
 | some x => rw [hu] at this; simp at this; exact ⟨x, rfl, this⟩
theorem Fits.typeInfo (h : Fits P t d size bytes zero) : ∃ i, P.info? t = some i ∧ i.size = size ∧ i.bytes = bytes ∧ i.zero = some zero := by
 have := h.info
 cases hu : P.info? t with
 | none => rw [hu] at this; simp at this
 | some x => rw [hu] at this; simp at this; exact ⟨x, rfl, this.1, this.2.1, this.2.2⟩
theorem Fits.run_sizeOf [Tracks] (h : Fits P t d size bytes zero) (w : World) : (sizeOf t).run P w = .ok size w := by
 obtain ⟨i, h1, h2, h3, h4⟩ := h.typeInfo
 simp [sizeOf, Go.typeInfo, h1, h2]
theorem Fits.run_zero [Tracks] (h : Fits P t d size bytes zero) (w : World) : (zeroValue t).run P w = .ok zero w := by
 obtain ⟨i, h1, h2, h3, h4⟩ := h.typeInfo
 simp [zeroValue, Go.typeInfo, h1, h4]
theorem Fits.run_isAgg [Tracks] (h : Fits P t d size bytes zero) (w : World) : (isAgg t).run P w = .ok d.isAgg w := by
 obtain ⟨x, h1, h2⟩ := h.underlying
 unfold isAgg
 simp only [Sem.run_bind, run_underlying h1, Result.andThen_ok]
 subst h2
 cases x <;> rfl
theorem Fits.slice [Tracks] {e : Nat} (h : Fits P t (.slice e) size bytes zero) : P.underlying t = some (.slice e) := by
 obtain ⟨x, h1, h2⟩ := h.underlying
 cases x <;> simp [zeQ] at h2
 subst h2; exact h1
theorem Fits.strD [Tracks] (h : Fits P t .str size bytes zero) : P.underlying t = some .string := by
 obtain ⟨x, h1, h2⟩ := h.underlying
 cases x <;> simp [zeQ] at h2
 exact h1
theorem Fits.boolD [Tracks] (h : Fits P t .bool size bytes zero) : P.underlying t = some .bool := by
 obtain ⟨x, h1, h2⟩ := h.underlying
 cases x <;> simp [zeQ] at h2
 exact h1
theorem Fits.intD [Tracks] {k : IntKind} (h : Fits P t (.int k) size bytes zero) : P.underlying t = some (.int k) := by
 obtain ⟨x, h1, h2⟩ := h.underlying
 cases x <;> simp [zeQ] at h2
 subst h2; exact h1
theorem Fits.structD [Tracks] {fs : List (Nat × Nat)} (h : Fits P t (.struct fs) size bytes zero) : ∃ gs : Array Field, P.underlying t = some (.struct gs) ∧ gs.toList.map (fun f => (f.offset, f.type)) = fs := by
 obtain ⟨x, h1, h2⟩ := h.underlying
 cases x <;> simp [zeQ] at h2
 exact ⟨_, h1, h2⟩
end

/-! inversions -/
section
variable {I : Imm}
theorem V.int_inv {k : IntKind} {n : Int} {v : Value} (h : V I (.int k n) v) : v = .int k n := by cases h; rfl
theorem V.bool_inv {b : Bool} {v : Value} (h : V I (.bool b) v) : v = .bool b := by cases h; rfl
theorem V.str_inv {s : List UInt8} {v : Value} (h : V I (.str s) v) : v = .string ⟨s.toArray⟩ := by cases h; rfl
theorem V.raw_inv {x v : Value} (h : V I (.raw x) v) : v = x := by cases h; rfl
theorem V.agg_inv {cs : List HVal} {v : Value} (h : V I (.agg cs) v) : ∃ vs : Array Value, v = .agg vs ∧ VL I cs vs.toList := by
 cases h with
 | agg hl hV => exact ⟨_, rfl, by simpa using hl, fun j c v h1 h2 => hV j c v h1 (by simpa using h2)⟩
theorem V.tup_inv {cs : List HVal} {v : Value} (h : V I (.tup cs) v) : ∃ vs : Array Value, v = .tuple vs ∧ VL I cs vs.toList := by
 cases h with
 | tup hl hV => exact ⟨_, rfl, by simpa using hl, fun j c v h1 h2 => hV j c v h1 (by simpa using h2)⟩
theorem V.fn_inv {f : Fn} {c1 c2 : List HVal} {v : Value} (h : V I (.fn f c1 c2) v) : ∃ v1 v2 : Array Value, v = .func f v1 v2 ∧ VL I c1 v1.toList ∧ VL I c2 v2.toList := by
 cases h with
 | fn hl1 hl2 h1 h2 => exact ⟨_, _, rfl, ⟨by simpa using hl1, fun j c v a b => h1 j c v a (by simpa using b)⟩, ⟨by simpa using hl2, fun j c v a b => h2 j c v a (by simpa using b)⟩⟩
theorem V.mk_agg {cs : List HVal} {vs : Array Value} (h : VL I cs vs.toList) : V I (.agg cs) (.agg vs) :=
 .agg (by simpa using h.1) fun j c v h1 h2 => h.2 j c v h1 (by simpa using h2)
theorem V.vptr_inv {cs : List HVal} {off : Nat} {v : Value} (h : V I (.vptr cs off) v) : ∃ b base rc el fr, v = .pointer (some ⟨b, base + off, none⟩) ∧ I.heap b = some (.cells rc el fr) ∧ base + cs.length ≤ rc.size ∧
 ∀ (j : Nat) (c : HVal) (v : Value), cs[j]? = some c → rc[base + j]? = some v → V I c v := by
 cases h with
 | vptr hI hb hV => exact ⟨_, _, _, _, _, rfl, hI, hb, hV⟩
theorem V.slice_inv {sz : Nat} {es : List HVal} {v : Value} (h : V I (.slice sz es) v) : (es = [] ∧ ∃ a cap, v = .slice a 0 cap) ∨
 ∃ b off cap rc el fr, v = .slice (some ⟨b, off, none⟩) es.length cap ∧ I.heap b = some (.cells rc el fr) ∧ (∀ e ∈ es, (zm e).length = sz) ∧ es.length ≤ cap ∧ off + es.length * sz ≤ rc.size ∧
  ∀ (i j : Nat) (e c : HVal) (v : Value), es[i]? = some e → (zm e)[j]? = some c → rc[off + i * sz + j]? = some v → V I c v := by
 cases h with
 | slice0 sz a cap => exact .inl ⟨rfl, a, cap, rfl⟩
 | slice hI hsz hcap hb hV => exact .inr ⟨_, _, _, _, _, _, rfl, hI, hsz, hcap, hb, hV⟩
theorem V.slice_len [Tracks] {sz : Nat} {es : List HVal} {v : Value} (h : V I (.slice sz es) v) : ∃ a cap, v = .slice a es.length cap := by
 rcases h.slice_inv with ⟨rfl, a, cap, rfl⟩ | ⟨b, off, cap, rc, el, fr, rfl, _⟩
 ·exact ⟨a, cap, rfl⟩
 ·exact ⟨_, cap, rfl⟩
end

section
variable {P : Program} {e : Env} {dst : Option Tmp} {ty : TypeId} {pos : String} {af : Array Edge} {g : Option (Nat × Bool)}

theorem Opds.one {I : Imm} {e : Env} {a : Act} {o : Oper} (h : Opds I e a o) {x : Operand} (hx : x ∈ o.op.operands) {c : HVal} (hc : zu e x = some c) : V I c (a.eval x) := h x hx c hc

/-! copies -/
theorem zg [Tracks] {x : Operand} {h : HVal} (hx : zu e x = some h) : POp P e ⟨dst, .move x, ty, pos, af, g⟩ h :=
 POp.of_val fun I a w ho => ⟨a.eval x, rfl, ho.one (by simp [Op.operands]) hx⟩
theorem zaW [Tracks] {x : Operand} {h : HVal} (hx : zu e x = some h) : POp P e ⟨dst, .assign x, ty, pos, af, g⟩ h :=
 POp.of_val fun I a w ho => ⟨a.eval x, rfl, ho.one (by simp [Op.operands]) hx⟩
theorem zcy [Tracks] {o : Oper} {h h' : HVal} (hp : POp P e o h) (hh : h = h') : POp P e o h' := hh ▸ hp

/-- The operands of a choice may be under conditions. -/
def zoj (e : Env) (x : Operand) (c : Bool) (b : Bool) : Prop := zu e x = some (.bool b) ∨ ∃ c', zu e x = some (.opt c' (.bool b)) ∧ (c = true → c' = true)
theorem zB [Tracks] {x y z : Operand} {b p q : Bool} (hx : zu e x = some (.bool b)) (hy : zoj e y b p) (hz : zoj e z (!b) q) :
 POp P e ⟨dst, .pick x y z, ty, pos, af, g⟩ (.bool (bif b then p else q)) :=
 POp.of_val fun I a w ho => by
  have h1 := (ho.one (x := x) (by simp [Op.operands]) hx).bool_inv
  have key : ∀ (u : Operand), u ∈ (⟨dst, .pick x y z, ty, pos, af, g⟩ : Oper).op.operands → ∀ c r, zoj e u c r → c = true → V I (.bool r) (a.eval u) := fun u hu c r hb hc => by
   rcases hb with hb | ⟨c', hb, hcc⟩
   ·exact ho.one hu hb
   ·have := ho.one hu hb
    cases this with
    | opt h3 _ => exact h3 (hcc hc)
  cases b with
  | true => exact ⟨a.eval y, by simp [execOp, h1, asBool], key y (by simp [Op.operands]) _ _ hy rfl⟩
  | false => exact ⟨a.eval z, by simp [execOp, h1, asBool], key z (by simp [Op.operands]) _ _ hz rfl⟩

/-! integers -/
section
variable {x y : Operand} {k : IntKind} {m n : Int} {t t' : TypeId}
theorem zha [Tracks] (hx : zu e x = some (.int k m)) (hy : zu e y = some (.int k n)) : POp P e ⟨dst, .binOp .add t x y t', ty, pos, af, g⟩ (.int k (k.wrap (m + n))) :=
 POp.of_val fun I a w ho => ⟨.int k (k.wrap (m + n)), by
  have h1 := (ho.one (x := x) (by simp [Op.operands]) hx).int_inv
  have h2 := (ho.one (x := y) (by simp [Op.operands]) hy).int_inv
  simp [execOp, h1, h2, eqGuard, binOp, Op.intArith], .int _ _⟩
theorem zts [Tracks] (hx : zu e x = some (.int k m)) (hy : zu e y = some (.int k n)) : POp P e ⟨dst, .binOp .sub t x y t', ty, pos, af, g⟩ (.int k (k.wrap (m - n))) :=
 POp.of_val fun I a w ho => ⟨.int k (k.wrap (m - n)), by
  have h1 := (ho.one (x := x) (by simp [Op.operands]) hx).int_inv
  have h2 := (ho.one (x := y) (by simp [Op.operands]) hy).int_inv
  simp [execOp, h1, h2, eqGuard, binOp, Op.intArith], .int _ _⟩
theorem zhi [Tracks] (hx : zu e x = some (.int k m)) (hy : zu e y = some (.int k n)) : POp P e ⟨dst, .binOp .mul t x y t', ty, pos, af, g⟩ (.int k (k.wrap (m * n))) :=
 POp.of_val fun I a w ho => ⟨.int k (k.wrap (m * n)), by
  have h1 := (ho.one (x := x) (by simp [Op.operands]) hx).int_inv
  have h2 := (ho.one (x := y) (by simp [Op.operands]) hy).int_inv
  simp [execOp, h1, h2, eqGuard, binOp, Op.intArith], .int _ _⟩
theorem ztB [Tracks] (hx : zu e x = some (.int k m)) (hy : zu e y = some (.int k n)) (hn : n ≠ 0) : POp P e ⟨dst, .binOp .quo t x y t', ty, pos, af, g⟩ (.int k (k.wrap (m.tdiv n))) :=
 POp.of_val fun I a w ho => ⟨.int k (k.wrap (m.tdiv n)), by
  have h1 := (ho.one (x := x) (by simp [Op.operands]) hx).int_inv
  have h2 := (ho.one (x := y) (by simp [Op.operands]) hy).int_inv
  simp [execOp, h1, h2, eqGuard, binOp, Op.intDiv, hn], .int _ _⟩
theorem zg8 [Tracks] (hx : zu e x = some (.int k m)) (hy : zu e y = some (.int k n)) (hn : n ≠ 0) : POp P e ⟨dst, .binOp .rem t x y t', ty, pos, af, g⟩ (.int k (m.tmod n)) :=
 POp.of_val fun I a w ho => ⟨.int k (m.tmod n), by
  have h1 := (ho.one (x := x) (by simp [Op.operands]) hx).int_inv
  have h2 := (ho.one (x := y) (by simp [Op.operands]) hy).int_inv
  simp [execOp, h1, h2, eqGuard, binOp, Op.intDiv, hn], .int _ _⟩
theorem zhb {n : Int} (h1 : -9223372036854775808 ≤ n) (h2 : n ≤ 9223372036854775807) : IntKind.wrap .i64 n = n := by
 simp [IntKind.wrap, IntKind.bits, IntKind.signed]; omega
theorem zv [Tracks] (hx : zu e x = some (.int .i64 m)) (hy : zu e y = some (.int .i64 n)) (h1 : -9223372036854775808 ≤ m + n) (h2 : m + n ≤ 9223372036854775807) :
 POp P e ⟨dst, .binOp .add t x y t', ty, pos, af, g⟩ (.int .i64 (m + n)) := by
 have := zha (P := P) (dst := dst) (ty := ty) (pos := pos) (af := af) (g := g) (t := t) (t' := t') hx hy
 rwa [zhb h1 h2] at this
theorem zal [Tracks] (hx : zu e x = some (.int .i64 m)) (hy : zu e y = some (.int .i64 n)) (h1 : -9223372036854775808 ≤ m - n) (h2 : m - n ≤ 9223372036854775807) :
 POp P e ⟨dst, .binOp .sub t x y t', ty, pos, af, g⟩ (.int .i64 (m - n)) := by
 have := zts (P := P) (dst := dst) (ty := ty) (pos := pos) (af := af) (g := g) (t := t) (t' := t') hx hy
 rwa [zhb h1 h2] at this
theorem zrK [Tracks] (hx : zu e x = some (.int .i64 m)) (hy : zu e y = some (.int .i64 n)) (h1 : -9223372036854775808 ≤ m * n) (h2 : m * n ≤ 9223372036854775807) :
 POp P e ⟨dst, .binOp .mul t x y t', ty, pos, af, g⟩ (.int .i64 (m * n)) := by
 have := zhi (P := P) (dst := dst) (ty := ty) (pos := pos) (af := af) (g := g) (t := t) (t' := t') hx hy
 rwa [zhb h1 h2] at this
theorem zaA [Tracks] (hx : zu e x = some (.int k m)) (hy : zu e y = some (.int k n)) : POp P e ⟨dst, .binOp .eql t x y t', ty, pos, af, g⟩ (.bool (m == n)) :=
 POp.of_val fun I a w ho => ⟨.bool (m == n), by
  have h1 := (ho.one (x := x) (by simp [Op.operands]) hx).int_inv
  have h2 := (ho.one (x := y) (by simp [Op.operands]) hy).int_inv
  simp [execOp, h1, h2, eqGuard, binOp, Op.intCmp], .bool _⟩
theorem zaM [Tracks] (hx : zu e x = some (.int k m)) (hy : zu e y = some (.int k n)) : POp P e ⟨dst, .binOp .neq t x y t', ty, pos, af, g⟩ (.bool (m != n)) :=
 POp.of_val fun I a w ho => ⟨.bool (m != n), by
  have h1 := (ho.one (x := x) (by simp [Op.operands]) hx).int_inv
  have h2 := (ho.one (x := y) (by simp [Op.operands]) hy).int_inv
  simp [execOp, h1, h2, eqGuard, binOp, Op.intCmp], .bool _⟩
theorem zO [Tracks] (hx : zu e x = some (.int k m)) (hy : zu e y = some (.int k n)) : POp P e ⟨dst, .binOp .lss t x y t', ty, pos, af, g⟩ (.bool (decide (m < n))) :=
 POp.of_val fun I a w ho => ⟨.bool (decide (m < n)), by
  have h1 := (ho.one (x := x) (by simp [Op.operands]) hx).int_inv
  have h2 := (ho.one (x := y) (by simp [Op.operands]) hy).int_inv
  simp [execOp, h1, h2, eqGuard, binOp, Op.intCmp], .bool _⟩
theorem zda [Tracks] (hx : zu e x = some (.int k m)) (hy : zu e y = some (.int k n)) : POp P e ⟨dst, .binOp .leq t x y t', ty, pos, af, g⟩ (.bool (decide (m ≤ n))) :=
 POp.of_val fun I a w ho => ⟨.bool (decide (m ≤ n)), by
  have h1 := (ho.one (x := x) (by simp [Op.operands]) hx).int_inv
  have h2 := (ho.one (x := y) (by simp [Op.operands]) hy).int_inv
  simp [execOp, h1, h2, eqGuard, binOp, Op.intCmp], .bool _⟩
theorem zai [Tracks] (hx : zu e x = some (.int k m)) (hy : zu e y = some (.int k n)) : POp P e ⟨dst, .binOp .gtr t x y t', ty, pos, af, g⟩ (.bool (decide (n < m))) :=
 POp.of_val fun I a w ho => ⟨.bool (decide (n < m)), by
  have h1 := (ho.one (x := x) (by simp [Op.operands]) hx).int_inv
  have h2 := (ho.one (x := y) (by simp [Op.operands]) hy).int_inv
  simp [execOp, h1, h2, eqGuard, binOp, Op.intCmp], .bool _⟩
theorem zbJ [Tracks] (hx : zu e x = some (.int k m)) (hy : zu e y = some (.int k n)) : POp P e ⟨dst, .binOp .geq t x y t', ty, pos, af, g⟩ (.bool (decide (n ≤ m))) :=
 POp.of_val fun I a w ho => ⟨.bool (decide (n ≤ m)), by
  have h1 := (ho.one (x := x) (by simp [Op.operands]) hx).int_inv
  have h2 := (ho.one (x := y) (by simp [Op.operands]) hy).int_inv
  simp [execOp, h1, h2, eqGuard, binOp, Op.intCmp], .bool _⟩
theorem zbX [Tracks] {d' : TypeId} {k' : IntKind} {s1 s2 b1 b2 : Nat} {z1 z2 : Value} {ds : TD} (hs : Fits P t ds s1 b1 z1) (hf : Fits P d' (.int k') s2 b2 z2) (hx : zu e x = some (.int k m)) :
 POp P e ⟨dst, .convert t d' x, ty, pos, af, g⟩ (.int k' (k'.wrap m)) :=
 POp.of_val fun I a w ho => ⟨.int k' (k'.wrap m), by
  have h1 := (ho.one (x := x) (by simp [Op.operands]) hx).int_inv
  obtain ⟨u, hu, _⟩ := hs.underlying
  simp only [execOp, h1, convert, Sem.run_bind, run_underlying hu, run_underlying hf.intD, Result.andThen_ok, Sem.run_pure, Conv.intToInt], .int _ _⟩
end
theorem zao [Tracks] {x : Operand} {b : Bool} {t : TypeId} (hx : zu e x = some (.bool b)) : POp P e ⟨dst, .unOp .not t x, ty, pos, af, g⟩ (.bool (!b)) :=
 POp.of_val fun I a w ho => ⟨.bool (!b), by
  have h1 := (ho.one (x := x) (by simp [Op.operands]) hx).bool_inv
  simp [execOp, h1, Op.unary], .bool _⟩
theorem zmv {t : TypeId} (hu : P.underlying t = some .bool) (b c : Bool) (w : World) : (Op.equal t (.bool b) (.bool c)).run P w = .ok (b == c) w := by
 have h : ∀ d, (Op.equalIn (d + 1) t (.bool b) (.bool c)).run P w = .ok (b == c) w := fun d => by
  simp only [Op.equalIn, Sem.run_bind, run_underlying hu, Result.andThen_ok, Sem.run_pure]
 exact h 9999
theorem zoA [Tracks] {x y : Operand} {b c : Bool} {t t' : TypeId} {s by' : Nat} {z : Value} (hf : Fits P t .bool s by' z) (hx : zu e x = some (.bool b)) (hy : zu e y = some (.bool c)) :
 POp P e ⟨dst, .binOp .eql t x y t', ty, pos, af, g⟩ (.bool (b == c)) :=
 POp.of_val fun I a w ho => ⟨.bool (b == c), by
  have h1 := (ho.one (x := x) (by simp [Op.operands]) hx).bool_inv
  have h2 := (ho.one (x := y) (by simp [Op.operands]) hy).bool_inv
  simp [execOp, h1, h2, eqGuard, binOp, zmv hf.boolD], .bool _⟩
section
variable {x y : Operand} {s u : List UInt8} {t t' : TypeId}
theorem zg2 (op : BinOp) {a : Act} {w : World} (h1 : a.eval x = .string ⟨s.toArray⟩) (h2 : a.eval y = .string ⟨u.toArray⟩) (hop : op ≠ .shl ∧ op ≠ .shr) :
 (execOp a.eval ⟨dst, .binOp op t x y t', ty, pos, af, g⟩).run P w = ((Op.stringOp op ⟨s.toArray⟩ ⟨u.toArray⟩).run P w).andThen (fun v w => .ok (.value v) w) := by
 cases op <;> simp [execOp, h1, h2, eqGuard, binOp] at hop ⊢
theorem zaX [Tracks] (hx : zu e x = some (.str s)) (hy : zu e y = some (.str u)) : POp P e ⟨dst, .binOp .eql t x y t', ty, pos, af, g⟩ (.bool (s == u)) :=
 POp.of_val fun I a w ho => ⟨.bool (s == u), by
  rw [zg2 .eql (ho.one (x := x) (by simp [Op.operands]) hx).str_inv (ho.one (x := y) (by simp [Op.operands]) hy).str_inv (by simp)]
  simp [Op.stringOp, ByteArray.toList_eq], .bool _⟩
theorem zgg [Tracks] (hx : zu e x = some (.str s)) (hy : zu e y = some (.str u)) : POp P e ⟨dst, .binOp .neq t x y t', ty, pos, af, g⟩ (.bool (!(s == u))) :=
 POp.of_val fun I a w ho => ⟨.bool (!(s == u)), by
  rw [zg2 .neq (ho.one (x := x) (by simp [Op.operands]) hx).str_inv (ho.one (x := y) (by simp [Op.operands]) hy).str_inv (by simp)]
  simp [Op.stringOp, ByteArray.toList_eq], .bool _⟩
theorem znT [Tracks] (hx : zu e x = some (.str s)) (hy : zu e y = some (.str u)) : POp P e ⟨dst, .binOp .lss t x y t', ty, pos, af, g⟩ (.bool (Op.bytesLess s u)) :=
 POp.of_val fun I a w ho => ⟨.bool (Op.bytesLess s u), by
  rw [zg2 .lss (ho.one (x := x) (by simp [Op.operands]) hx).str_inv (ho.one (x := y) (by simp [Op.operands]) hy).str_inv (by simp)]
  simp [Op.stringOp, ByteArray.toList_eq], .bool _⟩
theorem zdv [Tracks] (hx : zu e x = some (.str s)) (hy : zu e y = some (.str u)) : POp P e ⟨dst, .binOp .leq t x y t', ty, pos, af, g⟩ (.bool (Op.bytesLess s u || s == u)) :=
 POp.of_val fun I a w ho => ⟨.bool (Op.bytesLess s u || s == u), by
  rw [zg2 .leq (ho.one (x := x) (by simp [Op.operands]) hx).str_inv (ho.one (x := y) (by simp [Op.operands]) hy).str_inv (by simp)]
  simp [Op.stringOp, ByteArray.toList_eq], .bool _⟩
theorem znF [Tracks] (hx : zu e x = some (.str s)) (hy : zu e y = some (.str u)) (hl : s.length + u.length ≤ 9223372036854775807) : POp P e ⟨dst, .binOp .add t x y t', ty, pos, af, g⟩ (.str (s ++ u)) :=
 POp.of_val fun I a w ho => ⟨.string ⟨(s ++ u).toArray⟩, by
  rw [zg2 .add (ho.one (x := x) (by simp [Op.operands]) hx).str_inv (ho.one (x := y) (by simp [Op.operands]) hy).str_inv (by simp)]
  have h1 : ¬ (((⟨s.toArray⟩ : ByteArray).size + (⟨u.toArray⟩ : ByteArray).size : Nat) : Int) > IntKind.i64.max := by
   have : IntKind.i64.max = 9223372036854775807 := by decide
   rw [this]; simp [ByteArray.size]; omega
  simp only [Op.stringOp, if_neg h1, Sem.run_pure, Result.andThen_ok]
  congr 4, .str _⟩
theorem zcb [Tracks] {k : IntKind} {i : Int} {j : Nat} {b : UInt8} {sz by' : Nat} {z : Value} (hf : Fits P t .str sz by' z) (hx : zu e x = some (.str s)) (hy : zu e y = some (.int k i)) (hi : i = (j : Int)) (hj : s[j]? = some b) :
 POp P e ⟨dst, .index t x y, ty, pos, af, g⟩ (.int .u8 b.toNat) :=
 POp.of_val fun I a w ho => ⟨.int .u8 b.toNat, by
  have h1 := (ho.one (x := x) (by simp [Op.operands]) hx).str_inv
  have h2 := (ho.one (x := y) (by simp [Op.operands]) hy).int_inv
  subst hi
  have h3 : (⟨s.toArray⟩ : ByteArray)[j]? = some b := by
   have hlt : j < s.length := by
    rcases Nat.lt_or_ge j s.length with h | h
    ·exact h
    ·simp [List.getElem?_eq_none h] at hj
   have hs : j < (⟨s.toArray⟩ : ByteArray).size := by simpa [ByteArray.size] using hlt
   rw [getElem?_pos (⟨s.toArray⟩ : ByteArray) j hs]
   rw [List.getElem?_eq_getElem hlt] at hj
   rw [← hj]; rfl
  simp [execOp, h1, h2, Instr.index, asIntOf, run_underlying hf.strD, h3], .int _ _⟩
end

/-! tuples, structs -/
theorem z6 [Tracks] {x : Operand} {vs : List HVal} {h : HVal} {i : Nat} (hx : zu e x = some (.tup vs)) (hi : vs[i]? = some h) : POp P e ⟨dst, .extract x i, ty, pos, af, g⟩ h :=
 POp.of_val fun I a w ho => by
  obtain ⟨rs, h1, h2⟩ := (ho.one (x := x) (by simp [Op.operands]) hx).tup_inv
  obtain ⟨v, h3, h4⟩ := h2.get hi
  refine ⟨v, ?_, h4⟩
  have h5 : rs[i]? = some v := by simpa using h3
  simp [execOp, h1, Instr.extract, h5]
end

section
theorem dq [Tracks] {P : Program} {ops : Array Oper} {n : Nat} {K : Env → List MObj → Prop} {rest : List Oper} {e : Env} {M : List MObj} {d : Nat} {op : Op} {ty : TypeId} {pos : String} {af : Array Edge} {h : HVal} (hp : POp P e ⟨some d, op, ty, pos, af, none⟩ h) (k : Der P ops n K rest (upd e d h) M) (hd : Nat.blt d n = true := by rfl) : Der P ops n K (⟨some d, op, ty, pos, af, none⟩ :: rest) e M := dp hd hp k
theorem dmv [Tracks] {P : Program} {ops : Array Oper} {n : Nat} {K : Env → List MObj → Prop} {rest : List Oper} {e : Env} {M : List MObj} {d : Nat} {x : Operand} {ty : TypeId} {pos : String} {af : Array Edge} {h : HVal} (hx : zu e x = some h) (k : Der P ops n K rest (upd e d h) M) (hd : Nat.blt d n = true := by rfl) : Der P ops n K (⟨some d, .move x, ty, pos, af, none⟩ :: rest) e M := dp hd (zg hx) k
theorem das [Tracks] {P : Program} {ops : Array Oper} {n : Nat} {K : Env → List MObj → Prop} {rest : List Oper} {e : Env} {M : List MObj} {d : Nat} {x : Operand} {ty : TypeId} {pos : String} {af : Array Edge} {h : HVal} (hx : zu e x = some h) (k : Der P ops n K rest (upd e d h) M) (hd : Nat.blt d n = true := by rfl) : Der P ops n K (⟨some d, .assign x, ty, pos, af, none⟩ :: rest) e M := dp hd (zaW hx) k
end
end
section

theorem zb6 (b o n : Nat) : (⟨b, o, none⟩ : Addr).add n = ⟨b, o + n, none⟩ := by
 unfold Addr.add
 split
 ·rename_i h; subst h; rfl
 ·rfl
theorem zd7 {w : World} {b : Nat} {rc : Array Value} {el : TypeId} {fr : Nat × Nat} (h : w.heap[b]? = some (.cells rc el fr)) (o : Nat) : w.cell? ⟨b, o, none⟩ = rc[o]? := by
 simp [World.cell?, h]
theorem zo4 {P : Program} {w : World} {a : Addr} {v : Value} (h : w.cell? a = some v) : (load a).run P w = .ok v w := by
 simp [h]

theorem zvm (s : List UInt8) : (⟨s.toArray⟩ : ByteArray).size = s.length := by simp [ByteArray.size]

theorem zC {α : Type} {l : List α} {i : Nat} {x : α} (h : l[i]? = some x) : i < l.length := by
 rcases Nat.lt_or_ge i l.length with h' | h'
 ·exact h'
 ·simp [List.getElem?_eq_none h'] at h

/-- A variable that lies in a run of known cells is loaded. -/
theorem zel [Tracks] {P : Program} {I : Imm} {w : World} {t : TypeId} {d : TD} {size bytes : Nat} {zero : Value} (hf : Fits P t d size bytes zero) {b o : Nat} {rc : Array Value} {el : TypeId} {fr : Nat × Nat}
 (hw : w.heap[b]? = some (.cells rc el fr)) {cs : List HVal} {off base : Nat} (ho : o = base + off) (hb : base + cs.length ≤ rc.size)
 (hV : ∀ (j : Nat) (c : HVal) (v : Value), cs[j]? = some c → rc[base + j]? = some v → V I c v) {h : HVal}
 (hh : (d.isAgg = false ∧ cs[off]? = some h) ∨ (d.isAgg = true ∧ off + size ≤ cs.length ∧ h = .agg ((cs.drop off).take size))) :
 ∃ v, (loadVar t ⟨b, o, none⟩).run P w = .ok v w ∧ V I h v := by
 subst ho
 rcases hh with ⟨hd, hc⟩ | ⟨hd, hle, rfl⟩
 ·have hlt := zC hc
  have hr : base + off < rc.size := by omega
  have hcell : w.cell? ⟨b, base + off, none⟩ = some rc[base + off] := by rw [zd7 hw]; exact Array.getElem?_eq_getElem hr
  refine ⟨rc[base + off], ?_, hV off h _ hc (Array.getElem?_eq_getElem hr)⟩
  unfold loadVar
  simp only [Sem.run_bind, hf.run_isAgg, Result.andThen_ok, hd, Bool.false_eq_true, if_false]
  exact zo4 hcell
 ·let vs : List Value := (rc.toList.drop (base + off)).take size
  have hlen : vs.length = size := by simp [vs]; omega
  have zm : ∀ (j : Nat) (v : Value), vs[j]? = some v → rc[base + off + j]? = some v := fun j v hj => by
   simp only [vs, List.getElem?_take] at hj
   split at hj
   ·simpa [List.getElem?_drop] using hj
   ·simp at hj
  have hrun : (loadCells ⟨b, base + off, none⟩ vs.length).run P w = .ok vs.toArray w :=
   run_loadCells_list w _ _ fun j v hj => by rw [zb6, zd7 hw]; exact zm j v hj
  refine ⟨.agg vs.toArray, ?_, ?_⟩
  ·unfold loadVar
   simp only [Sem.run_bind, hf.run_isAgg, Result.andThen_ok, hd, if_true, hf.run_sizeOf]
   rw [hlen] at hrun
   simp only [hrun, Result.andThen_ok, Sem.run_pure]
  ·refine V.mk_agg ⟨by simp only [List.toList_toArray, hlen, List.length_take, List.length_drop]; omega, fun j c v h1 h2 => ?_⟩
   have h3 := zm j v (by simpa using h2)
   simp only [List.getElem?_take] at h1
   split at h1
   ·rw [List.getElem?_drop] at h1
    exact hV (off + j) c v h1 (by rw [← Nat.add_assoc]; exact h3)
   ·simp at h1

/-! lists of operands -/
def zcK (e : Env) : List Operand → Option (List HVal)
 | [] => some []
 | x :: r => match zu e x, zcK e r with
   | some h, some l => some (h :: l)
   | _, _ => none

theorem zeJ [Tracks] {I : Imm} {e : Env} {f : Operand → Value} : ∀ (xs : List Operand) (hs : List HVal), zcK e xs = some hs → (∀ x ∈ xs, ∀ h, zu e x = some h → V I h (f x)) → VL I hs (xs.map f)
 | [], hs, h, _ => by simp [zcK] at h; subst h; exact VL.nil
 | x :: r, hs, h, hv => by
   simp only [zcK] at h
   cases h1 : zu e x with
   | none => rw [h1] at h; simp at h
   | some a =>
     cases h2 : zcK e r with
     | none => rw [h1, h2] at h; simp at h
     | some l =>
       rw [h1, h2] at h; simp at h; subst h
       exact VL.cons (hv x (by simp) a h1) (zeJ r l h2 fun y hy => hv y (by simp [hy]))

def WeakL : List HVal → List HVal → Prop
 | [], [] => True
 | h :: r, h' :: r' => Weak h h' ∧ WeakL r r'
 | _, _ => False
theorem WeakL.refl [Tracks] : ∀ l, WeakL l l
 | [] => trivial
 | _ :: r => ⟨Weak.refl _, WeakL.refl r⟩
theorem WeakL.vl [Tracks] {I : Imm} : ∀ {hs hs' : List HVal} {vs : List Value}, WeakL hs hs' → VL I hs vs → VL I hs' vs
 | [], [], _, _, h => h
 | h :: r, h' :: r', [], _, hv => by have := hv.1; simp at this
 | h :: r, h' :: r', v :: vs, hw, hv => VL.cons (hw.1 I v hv.head) (WeakL.vl hw.2 hv.tail)
 | [], _ :: _, _, hw, _ => hw.elim
 | _ :: _, [], _, hw, _ => hw.elim

/-- Contents that can lie in memory, of sz cells. -/
def zdz (sz : Nat) : HVal → Bool
 | .junk => false
 | .opt _ _ => false
 | .agg cs => Nat.beq cs.length sz
 | _ => Nat.beq sz 1
theorem zcB {sz : Nat} {h : HVal} (ho : zdz sz h = true) : (zm h).length = sz ∧ zdU h = true := by
 cases h <;> simp [zdz, zm, zdU] at ho ⊢ <;> first | exact ho | exact ho.symm

theorem V.cells_size [Tracks] {I : Imm} {sz : Nat} {h : HVal} {v : Value} (hv : V I h v) (ho : zdz sz h = true) : v.cells.size = sz ∧ VL I (zm h) v.cells.toList := by
 obtain ⟨h1, h2⟩ := zcB ho
 have := hv.cells h2
 exact ⟨by have := this.1; simp at this; omega, this⟩

/-! fill -/
theorem ziB (off : Nat) : ∀ (vs : List Value) (k : Nat) (cs : Array Value),
 let r := (vs.zipIdx k).foldl (fun cs (p : Value × Nat) => cs.setIfInBounds (off + p.2) p.1) cs
 r.size = cs.size ∧ ∀ x, r[x]? = if off + k ≤ x ∧ x < off + k + vs.length ∧ x < cs.size then vs[x - off - k]? else cs[x]?
 | [], k, cs => by
   refine ⟨rfl, fun x => ?_⟩
   simp only [List.zipIdx_nil, List.foldl_nil, List.length_nil]
   rw [if_neg (by omega)]
 | v :: vs, k, cs => by
   have ih := ziB off vs (k + 1) (cs.setIfInBounds (off + k) v)
   simp only [List.zipIdx_cons, List.foldl_cons] at ih ⊢
   refine ⟨by rw [ih.1]; simp, fun x => ?_⟩
   rw [ih.2 x]
   simp only [Array.size_setIfInBounds, List.length_cons]
   by_cases h1 : x = off + k
   ·subst h1
    rw [if_neg (by omega)]
    by_cases h2 : off + k < cs.size
    ·rw [if_pos ⟨by omega, by omega, h2⟩]
     have : off + k - off - k = 0 := by omega
     simp [h2, this]
    ·rw [if_neg (by omega)]
     rw [Array.getElem?_eq_none (by simp; omega), Array.getElem?_eq_none (by omega)]
   ·by_cases h2 : off + (k + 1) ≤ x ∧ x < off + (k + 1) + vs.length ∧ x < cs.size
    ·rw [if_pos h2, if_pos (by omega)]
     have : x - off - k = (x - off - (k + 1)) + 1 := by omega
     rw [this, List.getElem?_cons_succ]
    ·rw [if_neg h2, if_neg (by omega), Array.getElem?_setIfInBounds_ne (by omega)]

theorem zjV (off : Nat) (vs cs : Array Value) :
 vs.zipIdx.foldl (fun cs (p : Value × Nat) => cs.setIfInBounds (off + p.2) p.1) cs = (vs.toList.zipIdx 0).foldl (fun cs (p : Value × Nat) => cs.setIfInBounds (off + p.2) p.1) cs := by
 rw [← Array.foldl_toList]
 simp

/-- A part is laid over cells that are known. -/
def z8 (cs : List HVal) (off : Nat) (hs : List HVal) : List HVal := cs.take off ++ hs ++ cs.drop (off + hs.length)

theorem zsw [Tracks] {I : Imm} {cs hs : List HVal} {rc vs : Array Value} {off : Nat} (hc : VL I cs rc.toList) (hv : VL I hs vs.toList) (hle : off + hs.length ≤ cs.length) :
 VL I (z8 cs off hs) (vs.zipIdx.foldl (fun cs (p : Value × Nat) => cs.setIfInBounds (off + p.2) p.1) rc).toList := by
 rw [zjV]
 obtain ⟨h1, h2⟩ := ziB off vs.toList 0 rc
 have hcl := hc.1
 have hvl := hv.1
 refine ⟨?_, fun j c v h3 h4 => ?_⟩
 ·simp only [Array.length_toList] at *
  rw [h1]
  simp [z8]; omega
 ·rw [Array.getElem?_toList, h2 j] at h4
  simp only [z8] at h3
  by_cases ha : j < off
  ·rw [if_neg (by omega)] at h4
   rw [List.append_assoc, List.getElem?_append_left (by simp; omega), List.getElem?_take_of_lt ha] at h3
   exact hc.2 j c v h3 (by simpa using h4)
  ·by_cases hb : j < off + hs.length
   ·simp only [Array.length_toList] at *
    rw [if_pos ⟨by omega, by omega, by omega⟩] at h4
    rw [List.getElem?_append_left (by simp; omega), List.getElem?_append_right (by simp; omega)] at h3
    have e1 : (cs.take off).length = off := by simp; omega
    rw [e1] at h3
    exact hv.2 (j - off) c v h3 (by simpa using h4)
   ·simp only [Array.length_toList] at *
    rw [if_neg (by omega)] at h4
    rw [List.getElem?_append_right (by simp; omega)] at h3
    have e1 : (cs.take off ++ hs).length = off + hs.length := by simp; omega
    rw [e1, List.getElem?_drop] at h3
    have e2 : off + hs.length + (j - (off + hs.length)) = j := by omega
    rw [e2] at h3
    exact hc.2 j c v h3 (by simpa using h4)

/-- The parts of a struct, laid over its zero. -/
def zlq (e : Env) (places : List (Nat × Nat)) (cs : List HVal) : List (Nat × Operand) → Option (List HVal)
 | [] => some cs
 | (i, x) :: r =>
   match places[i]?, zu e x with
   | some (off, sz), some h =>
     match zdz sz h, Nat.ble (off + sz) cs.length with
     | true, true => zlq e places (z8 cs off (zm h)) r
     | _, _ => none
   | _, _ => none

theorem zjI {cs hs : List HVal} {off : Nat} (h : off + hs.length ≤ cs.length) : (z8 cs off hs).length = cs.length := by
 simp [z8]; omega

theorem zm4 [Tracks] {I : Imm} {e : Env} {f : Operand → Value} {places : List (Nat × Nat)} : ∀ (parts : List (Nat × Operand)) (cs cs' : List HVal) (rc : Array Value),
 zlq e places cs parts = some cs' → (∀ x ∈ parts.map (·.2), ∀ h, zu e x = some h → V I h (f x)) → VL I cs rc.toList →
 ∃ rc', Instr.fill (places[·]?) rc (parts.map fun p => (p.1, f p.2)) = some rc' ∧ VL I cs' rc'.toList
 | [], cs, cs', rc, h, _, hc => by
   simp [zlq] at h; subst h
   exact ⟨rc, rfl, hc⟩
 | (i, x) :: r, cs, cs', rc, h, hv, hc => by
   simp only [zlq] at h
   cases h1 : places[i]? with
   | none => rw [h1] at h; simp at h
   | some p =>
     obtain ⟨off, sz⟩ := p
     cases h2 : zu e x with
     | none => rw [h1, h2] at h; simp at h
     | some y =>
       rw [h1, h2] at h
       simp only at h
       cases h3 : zdz sz y with
       | false => rw [h3] at h; simp at h
       | true =>
         cases h4 : Nat.ble (off + sz) cs.length with
         | false => rw [h3, h4] at h; simp at h
         | true =>
           rw [h3, h4] at h
           simp only at h
           have h4' : off + sz ≤ cs.length := Nat.le_of_ble_eq_true h4
           obtain ⟨h5, h6⟩ := (hv x (by simp) y h2).cells_size h3
           obtain ⟨h7, _⟩ := zcB h3
           have hcl := hc.1
           simp only [Array.length_toList] at hcl
           obtain ⟨rc', h8, h9⟩ := zm4 r _ cs' _ h (fun z hz => hv z (by simp at hz ⊢; exact .inr hz)) (zsw hc h6 (by omega))
           refine ⟨rc', ?_, h9⟩
           simp only [List.map_cons, Instr.fill, h1]
           rw [if_neg (by simp [h5]; omega)]
           exact h8

section
variable {P : Program} {e : Env} {dst : Option Tmp} {ty : TypeId} {pos : String} {af : Array Edge} {g : Option (Nat × Bool)}

/-! addresses and loads in immutable memory -/
theorem ze [Tracks] {x : Operand} {t : TypeId} {d : TD} {size bytes : Nat} {zero : Value} {cs : List HVal} {off : Nat} {h : HVal} (hf : Fits P t d size bytes zero)
 (hx : zu e x = some (.vptr cs off)) (hd : d.isAgg = false) (hc : cs[off]? = some h) : POp P e ⟨dst, .load t x, ty, pos, af, g⟩ h :=
 POp.of_run fun I F a w ho hs => by
  obtain ⟨b, base, rc, el, fr, h1, h2, h3, h4⟩ := (ho.one (x := x) (by simp [Op.operands]) hx).vptr_inv
  obtain ⟨v, h5, h6⟩ := zel hf (hs.imm _ _ h2) rfl h3 h4 (.inl ⟨hd, hc⟩)
  exact ⟨v, w, I, by simp [execOp, h1, Instr.loadAt, Instr.sureAddr, h5], .refl I, h6, hs⟩
theorem zqX [Tracks] {x : Operand} {t : TypeId} {d : TD} {size bytes : Nat} {zero : Value} {cs : List HVal} {off : Nat} (hf : Fits P t d size bytes zero)
 (hx : zu e x = some (.vptr cs off)) (hd : d.isAgg = true) (hc : off + size ≤ cs.length) : POp P e ⟨dst, .load t x, ty, pos, af, g⟩ (.agg ((cs.drop off).take size)) :=
 POp.of_run fun I F a w ho hs => by
  obtain ⟨b, base, rc, el, fr, h1, h2, h3, h4⟩ := (ho.one (x := x) (by simp [Op.operands]) hx).vptr_inv
  obtain ⟨v, h5, h6⟩ := zel hf (hs.imm _ _ h2) rfl h3 h4 (.inr ⟨hd, hc, rfl⟩)
  exact ⟨v, w, I, by simp [execOp, h1, Instr.loadAt, Instr.sureAddr, h5], .refl I, h6, hs⟩

/-- A whole variable. -/
theorem zV [Tracks] {x : Operand} {t : TypeId} {d : TD} {size bytes : Nat} {zero : Value} {h : HVal} (hf : Fits P t d size bytes zero)
 (hx : zu e x = some (.vptr (zm h) 0)) (hd : d.isAgg = true) (hh : h = .agg (zm h)) (hc : (zm h).length = size) : POp P e ⟨dst, .load t x, ty, pos, af, g⟩ h := by
 have := zqX (P := P) (dst := dst) (ty := ty) (pos := pos) (af := af) (g := g) hf hx hd (by omega)
 rw [List.drop_zero, ← hc, List.take_length, ← hh] at this
 exact this

theorem zjU [Tracks] {t : TypeId} {fs : List (Nat × Nat)} {size bytes : Nat} {zero : Value} (hf : Fits P t (.struct fs) size bytes zero) {f foff ft : Nat} (hfs : fs[f]? = some (foff, ft))
 {d : TD} {s2 b2 : Nat} {z2 : Value} (hft : Fits P ft d s2 b2 z2) (hs : s2 ≠ 0) (b o : Nat) (w : World) :
 (Instr.fieldAt t (.pointer (some ⟨b, o, none⟩)) f).run P w = .ok (.pointer (some ⟨b, o + foff, none⟩)) w := by
 obtain ⟨gs, h1, h2⟩ := hf.structD
 have h3 : (gs.toList.map fun f => (f.offset, f.type))[f]? = some (foff, ft) := by rw [h2]; exact hfs
 rw [List.getElem?_map] at h3
 cases hg : gs.toList[f]? with
 | none => rw [hg] at h3; simp at h3
 | some fl =>
   rw [hg] at h3
   simp at h3
   obtain ⟨h4, h5⟩ := h3
   have hg' : gs[f]? = some fl := by simpa using hg
   simp [Instr.fieldAt, run_underlying h1, hg', Instr.sureAddr, fieldPlace, h5, hft.run_sizeOf, hs, h4, zb6]

theorem zc [Tracks] {x : Operand} {t : TypeId} {fs : List (Nat × Nat)} {size bytes : Nat} {zero : Value} {f foff ft : Nat} {d : TD} {s2 b2 : Nat} {z2 : Value} {cs : List HVal} {off : Nat}
 (hf : Fits P t (.struct fs) size bytes zero) (hfs : fs[f]? = some (foff, ft)) (hft : Fits P ft d s2 b2 z2) (hs : s2 ≠ 0) (hx : zu e x = some (.vptr cs off)) :
 POp P e ⟨dst, .fieldAddr t x f, ty, pos, af, g⟩ (.vptr cs (off + foff)) :=
 POp.of_val fun I a w ho => by
  obtain ⟨b, base, rc, el, fr, h1, h2, h3, h4⟩ := (ho.one (x := x) (by simp [Op.operands]) hx).vptr_inv
  refine ⟨.pointer (some ⟨b, base + off + foff, none⟩), ?_, ?_⟩
  ·simp [execOp, h1, zjU hf hfs hft hs]
  ·rw [Nat.add_assoc]; exact .vptr h2 h3 h4
theorem zw [Tracks] {x : Operand} {t : TypeId} {fs : List (Nat × Nat)} {size bytes : Nat} {zero : Value} {f foff ft : Nat} {d : TD} {s2 b2 : Nat} {z2 : Value} {b o : Nat}
 (hf : Fits P t (.struct fs) size bytes zero) (hfs : fs[f]? = some (foff, ft)) (hft : Fits P ft d s2 b2 z2) (hs : s2 ≠ 0) (hx : zu e x = some (.raw (.pointer (some ⟨b, o, none⟩)))) :
 POp P e ⟨dst, .fieldAddr t x f, ty, pos, af, g⟩ (.raw (.pointer (some ⟨b, o + foff, none⟩))) :=
 POp.of_val fun I a w ho => by
  have h1 := (ho.one (x := x) (by simp [Op.operands]) hx).raw_inv
  exact ⟨_, by simp [execOp, h1, zjU hf hfs hft hs], .raw _ rfl⟩

theorem zjT [Tracks] {t el : TypeId} {size bytes sz b2 : Nat} {zero z2 : Value} {d : TD} (hf : Fits P t (.slice el) size bytes zero) (hel : Fits P el d sz b2 z2) {k : IntKind} {j len cap b o : Nat} (hj : j < len) (w : World) :
 (Instr.indexAt t (.slice (some ⟨b, o, none⟩) len cap) (.int k (j : Int))).run P w = .ok (.pointer (some ⟨b, o + j * sz, none⟩)) w := by
 have h1 : (0 : Int) ≤ (j : Int) ∧ (j : Int) < (len : Int) := by omega
 simp [Instr.indexAt, asIntOf, run_underlying hf.slice, h1, hel.run_sizeOf, zb6]
 intro h; omega

theorem znn [Tracks] {x y : Operand} {t el : TypeId} {size bytes sz b2 : Nat} {zero z2 : Value} {d : TD} {es : List HVal} {k : IntKind} {i : Int} {j : Nat} {h : HVal}
 (hf : Fits P t (.slice el) size bytes zero) (hel : Fits P el d sz b2 z2) (hx : zu e x = some (.slice sz es)) (hy : zu e y = some (.int k i)) (hi : i = (j : Int)) (hj : es[j]? = some h) :
 POp P e ⟨dst, .indexAddr t x y, ty, pos, af, g⟩ (.vptr (zm h) 0) :=
 POp.of_val fun I a w ho => by
  subst hi
  have h2 := (ho.one (x := y) (by simp [Op.operands]) hy).int_inv
  have hlt := zC hj
  rcases (ho.one (x := x) (by simp [Op.operands]) hx).slice_inv with ⟨rfl, _⟩ | ⟨b, off, cap, rc, el', fr, h1, h3, h4, h5, h6, h7⟩
  ·simp at hlt
  ·refine ⟨.pointer (some ⟨b, off + j * sz + 0, none⟩), by simp [execOp, h1, h2, zjT hf hel hlt], ?_⟩
   have hl := h4 h (List.mem_of_getElem? hj)
   refine .vptr h3 ?_ fun k c v h8 h9 => h7 j k h c v hj h8 h9
   have : (j + 1) * sz ≤ es.length * sz := Nat.mul_le_mul_right _ hlt
   rw [Nat.add_mul] at this
   omega

theorem zJ [Tracks] {α : Type} {x y : Operand} {t el : TypeId} {size bytes sz b2 : Nat} {zero z2 : Value} {d : TD} {f : α → HVal} {l : List α} {k : IntKind} {i : Int} {j : Nat} {a : α}
 (hf : Fits P t (.slice el) size bytes zero) (hel : Fits P el d sz b2 z2) (hx : zu e x = some (.slice sz (l.map f))) (hy : zu e y = some (.int k i)) (hi : i = (j : Int)) (hj : l[j]? = some a) :
 POp P e ⟨dst, .indexAddr t x y, ty, pos, af, g⟩ (.vptr (zm (f a)) 0) := znn hf hel hx hy hi (by rw [List.getElem?_map, hj]; rfl)

/-! lengths -/
theorem zhd {t : TypeId} {ats : Array TypeId} {ρ : Operand → Value} {x : Operand} (w : World) :
 (execOp ρ ⟨dst, .call ⟨.builtin .len, #[x], #[t]⟩, ty, pos, af, g⟩).run P w = ((Builtin.len_ #[t] ty #[ρ x]).run P w).andThen (fun v w => .ok (.value v) w) := by
 simp [execOp, resolve, invoke, builtin]
theorem ztP [Tracks] {x : Operand} {t el : TypeId} {size bytes : Nat} {zero : Value} {sz : Nat} {es : List HVal} (hf : Fits P t (.slice el) size bytes zero) (hx : zu e x = some (.slice sz es)) :
 POp P e ⟨dst, .call ⟨.builtin .len, #[x], #[t]⟩, ty, pos, af, g⟩ (.int .i64 es.length) :=
 POp.of_val fun I a w ho => by
  obtain ⟨b, cap, h1⟩ := (ho.one (x := x) (by simp [Op.operands, Call.operands]) hx).slice_len
  exact ⟨_, by rw [zhd (ats := #[])]; simp [h1, Builtin.len_, run_underlying hf.slice, goInt], .int _ _⟩
theorem zF [Tracks] {α : Type} {x : Operand} {t el : TypeId} {size bytes : Nat} {zero : Value} {sz : Nat} {f : α → HVal} {l : List α} (hf : Fits P t (.slice el) size bytes zero) (hx : zu e x = some (.slice sz (l.map f))) :
 POp P e ⟨dst, .call ⟨.builtin .len, #[x], #[t]⟩, ty, pos, af, g⟩ (.int .i64 l.length) := by
 have := ztP (P := P) (dst := dst) (ty := ty) (pos := pos) (af := af) (g := g) hf hx
 rwa [List.length_map] at this
theorem zft [Tracks] {x : Operand} {t el : TypeId} {size bytes : Nat} {zero : Value} {b : Option Addr} {n cap : Nat} (hf : Fits P t (.slice el) size bytes zero) (hx : zu e x = some (.raw (.slice b n cap))) :
 POp P e ⟨dst, .call ⟨.builtin .len, #[x], #[t]⟩, ty, pos, af, g⟩ (.int .i64 n) :=
 POp.of_val fun I a w ho => by
  have h1 := (ho.one (x := x) (by simp [Op.operands, Call.operands]) hx).raw_inv
  exact ⟨_, by rw [zhd (ats := #[])]; simp [h1, Builtin.len_, run_underlying hf.slice, goInt], .int _ _⟩
theorem zdy [Tracks] {x : Operand} {t : TypeId} {size bytes : Nat} {zero : Value} {s : List UInt8} (hf : Fits P t .str size bytes zero) (hx : zu e x = some (.str s)) :
 POp P e ⟨dst, .call ⟨.builtin .len, #[x], #[t]⟩, ty, pos, af, g⟩ (.int .i64 s.length) :=
 POp.of_val fun I a w ho => by
  have h1 := (ho.one (x := x) (by simp [Op.operands, Call.operands]) hx).str_inv
  exact ⟨_, by rw [zhd (ats := #[])]; simp [h1, Builtin.len_, run_underlying hf.strD, goInt, zvm], .int _ _⟩
theorem zrU {b : Builtin} {xs : Array Operand} {ats : Array TypeId} {ρ : Operand → Value} (w : World) (hb : b = .min ∨ b = .max) :
 (execOp ρ ⟨dst, .call ⟨.builtin b, xs, ats⟩, ty, pos, af, g⟩).run P w = ((if b = .min then Builtin.min_ ats ty (xs.map ρ) else Builtin.max_ ats ty (xs.map ρ)).run P w).andThen (fun v w => .ok (.value v) w) := by
 rcases hb with rfl | rfl <;> simp [execOp, resolve, invoke, builtin]
theorem zt2 [Tracks] {x y : Operand} {ats : Array TypeId} {k : IntKind} {m n : Int} (hx : zu e x = some (.int k m)) (hy : zu e y = some (.int k n)) :
 POp P e ⟨dst, .call ⟨.builtin .min, #[x, y], ats⟩, ty, pos, af, g⟩ (.int k (if n < m then n else m)) :=
 POp.of_val fun I a w ho => by
  have h1 := (ho.one (x := x) (by simp [Op.operands, Call.operands]) hx).int_inv
  have h2 := (ho.one (x := y) (by simp [Op.operands, Call.operands]) hy).int_inv
  exact ⟨_, by rw [zrU w (.inl rfl)]; simp [h1, h2, Builtin.min_, Builtin.min2], .int _ _⟩
theorem ztt [Tracks] {x y : Operand} {ats : Array TypeId} {k : IntKind} {m n : Int} (hx : zu e x = some (.int k m)) (hy : zu e y = some (.int k n)) :
 POp P e ⟨dst, .call ⟨.builtin .max, #[x, y], ats⟩, ty, pos, af, g⟩ (.int k (if n > m then n else m)) :=
 POp.of_val fun I a w ho => by
  have h1 := (ho.one (x := x) (by simp [Op.operands, Call.operands]) hx).int_inv
  have h2 := (ho.one (x := y) (by simp [Op.operands, Call.operands]) hy).int_inv
  exact ⟨_, by rw [zrU w (.inr rfl)]; simp [h1, h2, Builtin.max_, Builtin.max2], .int _ _⟩

/-! slicing -/
def zbl (e : Env) (x : Option Operand) (dflt n : Nat) : Prop :=
 match x with
 | none => n = dflt
 | some o => ∃ k i, zu e o = some (.int k i) ∧ i = (n : Int)

theorem zbO {k : IntKind} {n y : Nat} (h : n ≤ y) (code : BoundsCode) (w : World) : (Instr.sliceBound (.int k (n : Int)) y code).run P w = .ok n w := by
 have h1 : (0 : Int) ≤ (n : Int) ∧ (n : Int) ≤ (y : Int) := by omega
 simp [Instr.sliceBound, asIntOf, h1]

theorem zfV [Tracks] {I : Imm} {a : Act} {o : Oper} (ho : Opds I e a o) {lo hi : Option Operand} (hlo : ∀ x, lo = some x → x ∈ o.op.operands) (hhi : ∀ x, hi = some x → x ∈ o.op.operands)
 {len cap l h : Nat} (h1 : zbl e lo 0 l) (h2 : zbl e hi len h) (h3 : l ≤ h) (h4 : h ≤ len) (h5 : len ≤ cap) (b : Bool) (w : World) :
 (Instr.sliceBounds b len cap (lo.map a.eval) (hi.map a.eval) none).run P w = .ok (l, h, cap) w := by
 unfold Instr.sliceBounds
 cases lo with
 | none =>
   simp only [zbl] at h1
   subst h1
   cases hi with
   | none => simp only [zbl] at h2; subst h2; simp
   | some y =>
     obtain ⟨k, i, h6, rfl⟩ := h2
     have h7 := (ho.one (hhi y rfl) h6).int_inv
     simp [h7, zbO (Nat.le_trans h4 h5)]
 | some x =>
   obtain ⟨k', i', h8, rfl⟩ := h1
   have h9 := (ho.one (hlo x rfl) h8).int_inv
   cases hi with
   | none => simp only [zbl] at h2; subst h2; simp [h9, zbO h3]
   | some y =>
     obtain ⟨k, i, h6, rfl⟩ := h2
     have h7 := (ho.one (hhi y rfl) h6).int_inv
     simp [h7, h9, zbO (Nat.le_trans h4 h5), zbO h3]

theorem V.slice_sub [Tracks] {I : Imm} {sz : Nat} {es : List HVal} {v : Value} (hv : V I (.slice sz es) v) {l h : Nat} (h1 : l ≤ h) (h2 : h ≤ es.length) :
 ∃ a cap, v = .slice a es.length cap ∧ es.length ≤ max cap es.length ∧ (es.length ≤ cap ∨ es = []) ∧ V I (.slice sz ((es.take h).drop l)) (.slice (if cap = l then a else a.map (·.add (l * sz))) (h - l) (cap - l)) := by
 rcases hv.slice_inv with ⟨rfl, a, cap, rfl⟩ | ⟨b, off, cap, rc, el, fr, rfl, h3, h4, h5, h6, h7⟩
 ·simp at h2
  obtain rfl : h = 0 := h2
  obtain rfl : l = 0 := by omega
  exact ⟨a, cap, rfl, by simp, .inr rfl, by simpa using V.slice0 sz _ cap⟩
 ·refine ⟨_, cap, rfl, by omega, .inl h5, ?_⟩
  have hl : ((es.take h).drop l).length = h - l := by simp; omega
  by_cases hlh : h = l
  ·subst hlh
   have : (es.take h).drop h = [] := by simp
   rw [this, Nat.sub_self]
   exact .slice0 _ _ _
  ·rw [if_neg (by omega)]
   simp only [Option.map_some, zb6]
   rw [← hl]
   refine .slice h3 (fun x hx => h4 x (List.mem_of_mem_take (List.mem_of_mem_drop hx))) (by omega) ?_ fun i j x c v h8 h9 h10 => ?_
   ·rw [hl]
    have : (l + (h - l)) * sz ≤ es.length * sz := Nat.mul_le_mul_right _ (by omega)
    rw [Nat.add_mul] at this
    omega
   ·rw [List.getElem?_drop, List.getElem?_take] at h8
    split at h8
    ·refine h7 (l + i) j x c v h8 h9 ?_
     rw [Nat.add_mul, ← Nat.add_assoc]
     exact h10
    ·simp at h8

theorem zqT [Tracks] {x : Operand} {lo hi : Option Operand} {t el : TypeId} {size bytes sz b2 : Nat} {zero z2 : Value} {d : TD} {es : List HVal} {l h : Nat}
 (hf : Fits P t (.slice el) size bytes zero) (hel : Fits P el d sz b2 z2) (hx : zu e x = some (.slice sz es)) (h1 : zbl e lo 0 l) (h2 : zbl e hi es.length h) (h3 : l ≤ h) (h4 : h ≤ es.length) :
 POp P e ⟨dst, .slice t x lo hi none, ty, pos, af, g⟩ (.slice sz ((es.take h).drop l)) :=
 POp.of_val fun I a w ho => by
  have hv := ho.one (x := x) (by simp [Op.operands]) hx
  obtain ⟨p, cap, h5, _, h6, h7⟩ := hv.slice_sub h3 h4
  refine ⟨_, ?_, h7⟩
  have hb : (Instr.sliceBounds true es.length cap (lo.map a.eval) (hi.map a.eval) none).run P w = .ok (l, h, cap) w := by
   rcases h6 with h6 | h6
   ·exact zfV ho (by intro y hy; simp [Op.operands, hy]) (by intro y hy; simp [Op.operands, hy]) h1 h2 h3 h4 h6 true w
   ·subst h6
    simp at h4
    subst h4
    obtain rfl : l = 0 := by omega
    exact zfV ho (by intro y hy; simp [Op.operands, hy]) (by intro y hy; simp [Op.operands, hy]) h1 h2 (Nat.le_refl _) (Nat.zero_le _) (Nat.zero_le _) true w
  simp [execOp, Instr.sliceAt, run_underlying hf.slice, h5, Instr.slice, hb, hel.run_sizeOf]

theorem zdx [Tracks] {α : Type} {x : Operand} {lo hi : Option Operand} {t el : TypeId} {size bytes sz b2 : Nat} {zero z2 : Value} {d : TD} {f : α → HVal} {es : List α} {l h : Nat}
 (hf : Fits P t (.slice el) size bytes zero) (hel : Fits P el d sz b2 z2) (hx : zu e x = some (.slice sz (es.map f))) (h1 : zbl e lo 0 l) (h2 : zbl e hi es.length h) (h3 : l ≤ h) (h4 : h ≤ es.length) :
 POp P e ⟨dst, .slice t x lo hi none, ty, pos, af, g⟩ (.slice sz (((es.take h).drop l).map f)) := by
 have := zqT (P := P) (dst := dst) (ty := ty) (pos := pos) (af := af) (g := g) hf hel hx h1 (by rw [List.length_map]; exact h2) h3 (by rw [List.length_map]; exact h4)
 rwa [← List.map_take, ← List.map_drop] at this

theorem zpV (s : List UInt8) (l h : Nat) : (⟨s.toArray⟩ : ByteArray).extract l h = ⟨((s.take h).drop l).toArray⟩ := by
 apply ByteArray.ext
 simp [ByteArray.data_extract, List.extract_eq_take_drop, List.drop_take]
theorem zly [Tracks] {x : Operand} {lo hi : Option Operand} {t : TypeId} {size bytes : Nat} {zero : Value} {s : List UInt8} {l h : Nat}
 (hf : Fits P t .str size bytes zero) (hx : zu e x = some (.str s)) (h1 : zbl e lo 0 l) (h2 : zbl e hi s.length h) (h3 : l ≤ h) (h4 : h ≤ s.length) :
 POp P e ⟨dst, .slice t x lo hi none, ty, pos, af, g⟩ (.str ((s.take h).drop l)) :=
 POp.of_val fun I a w ho => by
  have hv := (ho.one (x := x) (by simp [Op.operands]) hx).str_inv
  refine ⟨.string ⟨((s.take h).drop l).toArray⟩, ?_, .str _⟩
  have hb := zfV (P := P) ho (by intro y hy; simp [Op.operands, hy]) (by intro y hy; simp [Op.operands, hy]) h1 h2 h3 h4 (Nat.le_refl _) false w
  have hsz : (⟨s.toArray⟩ : ByteArray).size = s.length := by simp [ByteArray.size]
  simp [execOp, Instr.sliceAt, run_underlying hf.strD, hv, Instr.slice, hsz, hb, zpV]

/-! new immutable memory -/
theorem zaC [Tracks] {x : Operand} {t : TypeId} {h : HVal} (hx : zu e x = some h) (hj : zdU h = true) : POp P e ⟨dst, .box t x, ty, pos, af, g⟩ (.vptr (zm h) 0) :=
 POp.of_run fun I F a w ho hs => by
  have hv := ho.one (x := x) (by simp [Op.operands]) hx
  obtain ⟨h1, h2⟩ := hs.new_imm (.cells (a.eval x).cells t (0, 0))
  refine ⟨.pointer (some ⟨w.heap.size, 0, none⟩), _, _, by simp [execOp, Instr.box, newVar, newRow], h1, ?_, h2⟩
  have h3 := (hv.mono h1).cells hj
  refine .vptr (base := 0) (off := 0) Imm.add_self (by have := h3.1; simp at this; omega) fun j c v h4 h5 => h3.2 j c v h4 (by simpa using h5)

def Places (P : Program) : List (Nat × Nat) → List (Nat × Nat) → Prop
 | [], [] => True
 | f :: r, p :: r' => f.1 = p.1 ∧ (∃ d b z, Fits P f.2 d p.2 b z) ∧ Places P r r'
 | _, _ => False

theorem zlF [Tracks] (w : World) : ∀ (fs : List Field) (places : List (Nat × Nat)), Places P (fs.map fun f => (f.offset, f.type)) places →
 (fs.mapM (fun f => do pure (f.offset, ← sizeOf f.type) : Field → Sem (Nat × Nat))).run P w = .ok places w
 | [], [], _ => by simp
 | [], _ :: _, h => h.elim
 | _ :: _, [], h => h.elim
 | f :: r, (o, s) :: r', h => by
   obtain ⟨h1, ⟨d, b, z, h2⟩, h3⟩ := h
   simp only at h1 h2
   subst h1
   simp only [List.mapM_cons, Sem.run_bind, h2.run_sizeOf, Result.andThen_ok, Sem.run_pure, zlF w r r' h3]

theorem zaG [Tracks] {t : TypeId} {fs : List (Nat × Nat)} {size bytes : Nat} {zs : Array Value} {parts : Array (Nat × Operand)} {places : List (Nat × Nat)} {cs : List HVal}
 (hf : Fits P t (.struct fs) size bytes (.agg zs)) (hp : Places P fs places)
 (hr : zlq e places (zs.toList.map zfB) parts.toList = some cs) : POp P e ⟨dst, .build t parts, ty, pos, af, g⟩ (.agg cs) :=
 POp.of_val fun I a w ho => by
  obtain ⟨gs, h1, h2⟩ := hf.structD
  have hz : VL I (zs.toList.map zfB) zs.toList := ⟨by simp, fun j c v h3 h4 => by
   rw [List.getElem?_map, h4] at h3; simp at h3; subst h3; exact zkd I v⟩
  obtain ⟨rc, h3, h4⟩ := zm4 (I := I) (e := e) (f := a.eval) parts.toList _ _ zs hr (fun x hx h hh => ho.one (by simpa [Op.operands] using hx) hh) hz
  refine ⟨.agg rc, ?_, V.mk_agg h4⟩
  have hpl : (gs.mapM (fun f => do pure (f.offset, ← sizeOf f.type) : Field → Sem (Nat × Nat))).run P w = .ok places.toArray w := by
   rw [Array.mapM_eq_mapM_toList]
   simp only [Sem.run_map]
   rw [zlF w gs.toList places (by rw [h2]; exact hp)]
   rfl
  have hfill : Instr.fill (fun x => places.toArray[x]?) zs (parts.map fun x => (x.1, a.eval x.2)).toList = some rc := by
   simpa using h3
  simp only [execOp, Instr.build, Sem.run_bind, hf.run_zero, Result.andThen_ok, run_underlying h1, hpl, Value.cells, hfill, Sem.run_pure]

/-- All parts of a slice's literal, in their order. -/
def zgp (e : Env) (sz : Nat) : Nat → List (Nat × Operand) → Option (List HVal)
 | _, [] => some []
 | k, (i, x) :: r =>
   match Nat.beq i k, zu e x, zgp e sz (k + 1) r with
   | true, some h, some l => match zdz sz h with
     | true => some (h :: l)
     | false => none
   | _, _, _ => none

theorem zhO [Tracks] {I : Imm} {sz : Nat} {f : Operand → Value} : ∀ (parts : List (Nat × Operand)) (k : Nat) (hs : List HVal) (rc : Array Value), zgp e sz k parts = some hs →
 (∀ x ∈ parts.map (·.2), ∀ h, zu e x = some h → V I h (f x)) → rc.size = (k + parts.length) * sz →
 ∃ rc', Instr.fill (fun i => some (i * sz, sz)) rc (parts.map fun p => (p.1, f p.2)) = some rc' ∧ rc'.size = rc.size ∧ (∀ x, x < k * sz → rc'[x]? = rc[x]?) ∧
  hs.length = parts.length ∧ (∀ h ∈ hs, (zm h).length = sz) ∧ ∀ (i j : Nat) (h c : HVal) (v : Value), hs[i]? = some h → (zm h)[j]? = some c → rc'[(k + i) * sz + j]? = some v → V I c v
 | [], k, hs, rc, h, _, hsz => by
   simp [zgp] at h; subst h
   exact ⟨rc, rfl, rfl, fun _ _ => rfl, rfl, by simp, fun i j h c v h1 => by simp at h1⟩
 | (i, x) :: r, k, hs, rc, h, hv, hsz => by
   simp only [zgp] at h
   cases h1 : Nat.beq i k with
   | false => rw [h1] at h; simp at h
   | true =>
     cases h2 : zu e x with
     | none => rw [h1, h2] at h; simp at h
     | some y =>
       cases h3 : zgp e sz (k + 1) r with
       | none => rw [h1, h2, h3] at h; simp at h
       | some l =>
         rw [h1, h2, h3] at h
         simp only at h
         cases h4 : zdz sz y with
         | false => rw [h4] at h; simp at h
         | true =>
           rw [h4] at h
           simp at h
           subst h
           obtain rfl : i = k := Nat.eq_of_beq_eq_true h1
           obtain ⟨h5, h6⟩ := (hv x (by simp) y h2).cells_size h4
           obtain ⟨h7, _⟩ := zcB h4
           simp only [List.length_cons] at hsz
           have hroom : i * sz + sz ≤ rc.size := by
            rw [hsz, ← Nat.succ_mul]; exact Nat.mul_le_mul_right _ (by omega)
           have hfold := ziB (i * sz) (f x).cells.toList 0 rc
           rw [← zjV] at hfold
           obtain ⟨g1, g2⟩ := hfold
           obtain ⟨rc', a1, a2, a3, a4, a5, a6⟩ := zhO r (i + 1) l _ h3 (fun z hz => hv z (by simp at hz ⊢; exact .inr hz)) (by rw [g1, hsz]; congr 1; omega)
           refine ⟨rc', ?_, by rw [a2, g1], fun z hz => ?_, by simp [a4], fun z hz => ?_, fun i' j' h' c' v' b1 b2 b3 => ?_⟩
           ·simp only [List.map_cons, Instr.fill]
            rw [if_neg (by simp [h5]; omega)]
            exact a1
           ·have hlt : i * sz ≤ (i + 1) * sz := Nat.mul_le_mul_right _ (by omega)
            rw [a3 z (by omega), g2 z, if_neg (by omega)]
           ·rcases List.mem_cons.1 hz with rfl | hz
            ·exact h7
            ·exact a5 z hz
           ·cases i' with
            | zero =>
              simp at b1
              subst b1
              have hj : j' < sz := by have := zC b2; omega
              have e1 : (i + 1) * sz = i * sz + sz := Nat.succ_mul _ _
              rw [Nat.add_zero, a3 _ (by omega), g2] at b3
              simp only [Array.length_toList, h5] at b3
              rw [if_pos (by omega)] at b3
              have e2 : i * sz + j' - i * sz - 0 = j' := by omega
              rw [e2] at b3
              exact h6.2 j' c' v' b2 b3
            | succ i' =>
              refine a6 i' j' h' c' v' (by simpa using b1) b2 ?_
              have : i + 1 + i' = i + (i' + 1) := by omega
              rw [this]; exact b3

theorem zK [Tracks] {t el : TypeId} {size bytes sz b2 n : Nat} {zero z2 : Value} {d : TD} {parts : Array (Nat × Operand)} {hs : List HVal}
 (hf : Fits P t (.slice el) size bytes zero) (hel : Fits P el d sz b2 z2) (hz : z2.cells.size = sz) (hn : parts.toList.length = n) (hsz : n * sz ≤ 16777216) (h0 : n * sz ≠ 0)
 (hr : zgp e sz 0 parts.toList = some hs) : POp P e ⟨dst, .buildSlice t n parts, ty, pos, af, g⟩ (.slice sz hs) :=
 POp.of_run fun I F a w ho hs' => by
  let zr : Array Value := (Array.range (n * sz)).map (z2.cells[· % z2.cells.size]!)
  obtain ⟨rc, h1, h2, h3, h4, h5, h6⟩ := zhO (I := I) (f := a.eval) parts.toList 0 hs zr hr (fun x hx h hh => ho.one (by simpa [Op.operands] using hx) hh) (by simp [zr, hn])
  obtain ⟨g1, g2⟩ := hs'.new_imm (.cells rc el (0, 0))
  refine ⟨.slice (some ⟨w.heap.size, 0, none⟩) n n, _, _, ?_, g1, ?_, g2⟩
  ·have hp : (parts.map fun x => (x.1, a.eval x.2)).toList = parts.toList.map fun p => (p.1, a.eval p.2) := by simp
   have hle : ¬ n * sz > 2 ^ 24 := by omega
   simp only [execOp, Instr.buildSlice, Sem.run_bind, run_underlying hf.slice, Result.andThen_ok, hel.run_sizeOf]
   rw [if_neg hle]
   simp only [Sem.run_pure, Result.andThen_ok]
   rw [if_neg h0]
   simp only [Sem.run_bind, hel.run_zero, Result.andThen_ok, Sem.run_pure, hp]
   have h1' : Instr.fill (fun i => some (i * sz, sz)) ((Array.range (n * sz)).map fun x => z2.cells[x % z2.cells.size]!) (parts.toList.map fun p => (p.1, a.eval p.2)) = some rc := h1
   rw [h1']
   simp [newRow]
  ·have hl : hs.length = n := by omega
   have hv : V (I.add w.heap.size (.cells rc el (0, 0))) (.slice sz hs) (.slice (some ⟨w.heap.size, 0, none⟩) hs.length n) :=
    .slice Imm.add_self h5 (by omega) (by rw [h2]; simp [zr, hl]) fun i j x c v b1 b2 b3 => (h6 i j x c v b1 b2 (by simpa using b3)).mono g1
   rwa [hl] at hv

/-! functions, interfaces, pointers -/
theorem zcx [Tracks] {f : Fn} {fst cap : Array Operand} {h1 h2 : List HVal} (hf : zcK e fst.toList = some h1) (hc : zcK e cap.toList = some h2) :
 POp P e ⟨dst, .makeFunc f fst cap, ty, pos, af, g⟩ (.fn f h1 h2) :=
 POp.of_val fun I a w ho => ⟨_, rfl, by
  have v1 := zeJ (I := I) (f := a.eval) _ _ hf fun x hx h hh => ho.one (by simp only [Op.operands]; exact Array.mem_append_left _ (by simpa using hx)) hh
  have v2 := zeJ (I := I) (f := a.eval) _ _ hc fun x hx h hh => ho.one (by simp only [Op.operands]; exact Array.mem_append_right _ (by simpa using hx)) hh
  exact .fn (by simpa using v1.1) (by simpa using v2.1) (fun j c v b1 b2 => v1.2 j c v b1 (by simpa using b2)) (fun j c v b1 b2 => v2.2 j c v b1 (by simpa using b2))⟩
theorem zaq [Tracks] {x : Operand} {cs : List HVal} {off : Nat} (hx : zu e x = some (.vptr cs off)) : POp P e ⟨dst, .nilCheck x, ty, pos, af, g⟩ (.vptr cs off) :=
 POp.of_val fun I a w ho => by
  have hv := ho.one (x := x) (by simp [Op.operands]) hx
  obtain ⟨b, base, rc, el, fr, h1, _⟩ := hv.vptr_inv
  exact ⟨a.eval x, by simp [execOp, h1], hv⟩
theorem zW [Tracks] {x : Operand} {p : Addr} (hx : zu e x = some (.raw (.pointer (some p)))) : POp P e ⟨dst, .nilCheck x, ty, pos, af, g⟩ (.raw (.pointer (some p))) :=
 POp.of_val fun I a w ho => by
  have hv := ho.one (x := x) (by simp [Op.operands]) hx
  exact ⟨a.eval x, by simp [execOp, hv.raw_inv], hv⟩
end

/-! calls -/
structure Callable (P : Program) (f : FuncId) : Prop where
 h : ∃ fn, P.funcs[f]? = some fn ∧ (fn.name == "runtime.NumGoroutine") = false ∧ fn.body.isNone = false

theorem zdd {P : Program} {f : FuncId} (hc : Callable P f) (args : Array Value) (w : World) : (callFunc f args).run P w = .ok (.enter f args) w := by
 obtain ⟨fn, h1, h2, h3⟩ := hc.h
 simp only [callFunc, Sem.run_bind, run_program, Result.andThen_ok, h1, h2, h3, Bool.false_eq_true, if_false, Sem.run_pure]

section
variable {P : Program} {e : Env} {dst : Option Tmp} {ty : TypeId} {pos : String} {af : Array Edge} {g : Option (Nat × Bool)}

theorem zhH [Tracks] {f : FuncId} {args : Array Operand} {ats : Array TypeId} {hs hs' : List HVal} {M : List MObj} {Q : HVal → List MObj → Prop} (hc : Callable P f) (ha : zcK e args.toList = some hs)
 (hw : WeakL hs hs') (h : Con P f hs' M Q) : EOp P e M ⟨dst, .call ⟨.value (.func f), args, ats⟩, ty, pos, af, g⟩ Q := fun I F a w ho hs => by
 have hrun : (execOp a.eval ⟨dst, .call ⟨.value (.func f), args, ats⟩, ty, pos, af, g⟩).run P w = .ok (.enter f (args.toList.map a.eval).toArray) w := by
  simp [execOp, resolve, Act.eval, Deferred.ofValue, invoke, zdd hc]
  apply Array.ext'; simp
 have hv := zeJ (I := I) (f := a.eval) _ _ ha fun x hx h hh => ho.one (by simp only [Op.operands, Call.operands]; exact Array.mem_append_right _ (by simpa using hx)) hh
 simp only [Oper.wp, hrun, Oper.upon]
 refine (h I F w _ (hw.vl hv) hs).mono ?_
 rintro x w' ⟨v, y, M', J, rfl, h1, h2, h3, h4⟩
 exact ⟨v, y, M', J, rfl, h1, h2, h3, h4⟩

theorem zfF [Tracks] {x : Operand} {f : FuncId} {fst cap : List HVal} {args : Array Operand} {ats : Array TypeId} {hs hs' : List HVal} {M : List MObj} {Q : HVal → List MObj → Prop} (hc : Callable P f)
 (hx : zu e x = some (.fn (.func f) fst cap)) (ha : zcK e args.toList = some hs) (hw : WeakL (fst ++ hs ++ cap) hs') (h : Con P f hs' M Q) :
 EOp P e M ⟨dst, .call ⟨.value x, args, ats⟩, ty, pos, af, g⟩ Q := fun I F a w ho hs => by
 obtain ⟨v1, v2, h1, h2, h3⟩ := (ho.one (x := x) (by simp [Op.operands, Call.operands]) hx).fn_inv
 have hrun : (execOp a.eval ⟨dst, .call ⟨.value x, args, ats⟩, ty, pos, af, g⟩).run P w = .ok (.enter f (v1.toList ++ args.toList.map a.eval ++ v2.toList).toArray) w := by
  have : (v1.toList ++ args.toList.map a.eval ++ v2.toList).toArray = v1 ++ args.map a.eval ++ v2 := by apply Array.ext'; simp
  rw [this]
  simp [execOp, resolve, h1, Deferred.ofValue, invoke, zdd hc]
 have hv := zeJ (I := I) (f := a.eval) _ _ ha fun x hx h hh => ho.one (by simp only [Op.operands, Call.operands]; exact Array.mem_append_right _ (by simpa using hx)) hh
 simp only [Oper.wp, hrun, Oper.upon]
 refine (h I F w _ (hw.vl ((h2.append hv).append h3)) hs).mono ?_
 rintro x w' ⟨v, y, M', J, rfl, h1, h2, h3, h4⟩
 exact ⟨v, y, M', J, rfl, h1, h2, h3, h4⟩

theorem zkO [Tracks] {o : Oper} {h : HVal} (hp : EOp P e [] o fun x M' => x = h ∧ M' = []) : POp P e o h := fun I F a w ho hs =>
 Oper.wp_noQ (fun _ _ ⟨v, x, M', J, h1, h2, ⟨h3, h4⟩, h5, h6⟩ => ⟨v, J, h1, h2, h3 ▸ h5, by subst h4; exact h6⟩) (hp I F a w ho hs)
theorem zq [Tracks] {f : FuncId} {args : Array Operand} {ats : Array TypeId} {hs hs' : List HVal} {h : HVal} (hc : Callable P f) (ha : zcK e args.toList = some hs)
 (hw : WeakL hs hs') (hp : ConP P f hs' h) : POp P e ⟨dst, .call ⟨.value (.func f), args, ats⟩, ty, pos, af, g⟩ h := zkO (zhH hc ha hw hp)
theorem zdj [Tracks] {x : Operand} {f : FuncId} {fst cap : List HVal} {args : Array Operand} {ats : Array TypeId} {hs hs' : List HVal} {h : HVal} (hc : Callable P f)
 (hx : zu e x = some (.fn (.func f) fst cap)) (ha : zcK e args.toList = some hs) (hw : WeakL (fst ++ hs ++ cap) hs') (hp : ConP P f hs' h) :
 POp P e ⟨dst, .call ⟨.value x, args, ats⟩, ty, pos, af, g⟩ h := zkO (zfF hc hx ha hw hp)
end

end
section
variable {P : Program}

theorem zmB {α : Type} : ∀ {M : List α} {i : Nat} {m : α}, M[i]? = some m → M.Perm (m :: M.eraseIdx i)
 | [], i, m, h => by simp at h
 | x :: r, 0, m, h => by simp at h; subst h; simp
 | x :: r, i + 1, m, h => by
   simp at h
   have := zmB (M := r) h
   simp only [List.eraseIdx_cons_succ]
   exact (this.cons x).trans (List.Perm.swap _ _ _)
theorem zog {α : Type} : ∀ {M : List α} {i : Nat} {m : α} (m' : α), M[i]? = some m → (M.set i m').Perm (m' :: M.eraseIdx i)
 | [], i, m, m', h => by simp at h
 | x :: r, 0, m, m', h => by simp
 | x :: r, i + 1, m, m', h => by
   simp at h
   have := zog (M := r) m' h
   simp only [List.set_cons_succ, List.eraseIdx_cons_succ]
   exact (this.cons x).trans (List.Perm.swap _ _ _)

theorem Sat.pull [Tracks] {I : Imm} {M F : List MObj} {w : World} (h : Sat P I (M ++ F) w) {i : Nat} {m : MObj} (hi : M[i]? = some m) : Sat P I (m :: (M.eraseIdx i ++ F)) w :=
 h.perm (by have := (zmB hi).append_right F; simpa using this)
theorem Sat.unpull [Tracks] {I : Imm} {M F : List MObj} {w : World} {i : Nat} {m m' : MObj} (hi : M[i]? = some m) (h : Sat P I (m' :: (M.eraseIdx i ++ F)) w) : Sat P I (M.set i m' ++ F) w :=
 h.perm (by have := ((zog m' hi).append_right F).symm; simpa using this)

/-- Cells are stored into a block that may be written. -/
theorem zcs [Tracks] {P : Program} (b : Nat) (el : TypeId) (fr : Nat × Nat) (off : Nat) : ∀ (vs : List Value) (i : Nat) (w : World) (rc : Array Value), w.heap[b]? = some (.cells rc el fr) → Free fr rc.size →
 (∀ v ∈ vs, v.oneCell' = true) → off + i + vs.length ≤ rc.size →
 ∃ w' rc', (storeCells ⟨b, off, none⟩ vs i).run P w = .ok () w' ∧ w'.heap[b]? = some (.cells rc' el fr) ∧ rc'.size = rc.size ∧
  (∀ x, rc'[x]? = if off + i ≤ x ∧ x < off + i + vs.length then vs[x - off - i]? else rc[x]?) ∧ (∀ k, k ≠ b → w'.heap[k]? = w.heap[k]?) ∧ w'.heap.size = w.heap.size ∧
  w'.os = w.os ∧ w'.output = w.output ∧ (w'.tape = w.tape ∧ w'.drawn = w.drawn)
 | [], i, w, rc, hw, _, _, _ => ⟨w, rc, by simp [storeCells], hw, rfl, fun x => by rw [if_neg (by simp)], fun _ _ => rfl, rfl, rfl, rfl, rfl, rfl⟩
 | v :: vs, i, w, rc, hw, hf, ho, hle => by
   simp only [List.length_cons] at hle
   have hc : w.cell? ⟨b, off + i, none⟩ = some rc[off + i] := by rw [zd7 hw]; exact Array.getElem?_eq_getElem (by omega)
   have hz : w.frozen? ⟨b, off + i, none⟩ = false := by
    have := hf (off + i) (by omega)
    simp only [World.frozen?, hw]
    cases h : (decide (fr.1 ≤ off + i) && decide (off + i < fr.2)) with
    | false => rfl
    | true => simp at h; exact absurd h this
   have hset : (w.setCell ⟨b, off + i, none⟩ v).heap[b]? = some (.cells (rc.setIfInBounds (off + i) v) el fr) := by
    simp [World.setCell, Array.getElem?_modify, hw]
   obtain ⟨w', rc', h1, h2, h3, h4, h5, h6, h7, h8, h9⟩ := zcs (P := P) b el fr off vs (i + 1) (w.setCell ⟨b, off + i, none⟩ v) (rc.setIfInBounds (off + i) v) hset (by simpa using hf)
    (fun x hx => ho x (by simp [hx])) (by simp; omega)
   refine ⟨w', rc', ?_, h2, by rw [h3]; simp, fun x => ?_, fun k hk => ?_, by rw [h6]; simp [World.setCell], by rw [h7]; rfl, by rw [h8]; rfl, by rw [h9.1]; rfl, by rw [h9.2]; rfl⟩
   ·have hst : (store ((⟨b, off, none⟩ : Addr).add i) v).run P w = .ok () (w.setCell ⟨b, off + i, none⟩ v) := by
     rw [zb6]
     rw [run_store P w _ v _ (ho v (by simp))]
     simp [hc, hz]
    simp only [storeCells, Sem.run_bind, hst, Result.andThen_ok]
    exact h1
   ·rw [h4 x]
    simp only [List.length_cons]
    by_cases e1 : x = off + i
    ·subst e1
     rw [if_neg (by omega), if_pos (by omega)]
     have : off + i - off - i = 0 := by omega
     rw [this, Array.getElem?_setIfInBounds_self_of_lt (by omega)]
     rfl
    ·by_cases e2 : off + (i + 1) ≤ x ∧ x < off + (i + 1) + vs.length
     ·rw [if_pos e2, if_pos (by omega)]
      have : x - off - i = (x - off - (i + 1)) + 1 := by omega
      rw [this, List.getElem?_cons_succ]
     ·rw [if_neg e2, if_neg (by omega), Array.getElem?_setIfInBounds_ne (by omega)]
   ·rw [h5 k hk]
    simp [World.setCell, Array.getElem?_modify]
    intro h; exact absurd h.symm hk

/-- The cells of a content are single cells. -/
def zaD : List HVal → Bool
 | [] => true
 | .agg _ :: _ => false
 | .junk :: _ => false
 | .opt _ _ :: _ => false
 | .tup _ :: _ => false
 | _ :: r => zaD r
theorem zfh [Tracks] {I : Imm} : ∀ {cs : List HVal} {vs : List Value}, VL I cs vs → zaD cs = true → ∀ v ∈ vs, v.oneCell' = true
 | [], [], _, _, v, hv => by simp at hv
 | [], _ :: _, h, _, v, hv => by have := h.1; simp at this
 | _ :: _, [], h, _, v, hv => by simp at hv
 | c :: cs, u :: vs, h, hf, v, hv => by
   have h1 := h.head
   have hr : zaD cs = true := by cases c <;> simp [zaD] at hf <;> exact hf
   rcases List.mem_cons.1 hv with rfl | hv
   ·cases h1 <;> first | rfl | assumption | (simp [zaD] at hf; done)
   ·exact zfh h.tail hr v hv

section
variable {P : Program} {e : Env} {dst : Option Tmp} {ty : TypeId} {pos : String} {af : Array Edge} {g : Option (Nat × Bool)} {M : List MObj} {K : HVal → List MObj → Prop}

theorem zX [Tracks] {t : TypeId} {d : TD} {size bytes : Nat} {zero : Value} (hf : Fits P t d size bytes zero) (hz : zdU (zbp zero) = true)
 (hk : ∀ b, K (.raw (.pointer (some ⟨b, 0, none⟩))) (.cells b (zm (zbp zero)) :: M)) : EOp P e M ⟨dst, .alloc t, ty, pos, af, g⟩ K :=
 EOp.of_run fun I F a w ho hs => by
  refine ⟨.pointer (some ⟨w.heap.size, 0, none⟩), _, _, push w (.cells zero.cells t (0, 0)), I, ?_, .refl I, hk w.heap.size, .raw _ rfl, ?_⟩
  ·simp [execOp, Instr.alloc, hf.run_zero, newVar, newRow]
  ·refine hs.new_own _ _ rfl ?_
   exact ⟨zero.cells, t, (0, 0), by simp [push], Free.zero _, (zc7 I zero).cells hz⟩

/-- A variable that is boxed and will be written. -/
theorem zpE [Tracks] {x : Operand} {t : TypeId} {h : HVal} (hx : zu e x = some h) (hj : zdU h = true)
 (hk : ∀ b, K (.raw (.pointer (some ⟨b, 0, none⟩))) (.cells b (zm h) :: M)) : EOp P e M ⟨dst, .box t x, ty, pos, af, g⟩ K :=
 EOp.of_run fun I F a w ho hs => by
  have hv := ho.one (x := x) (by simp [Op.operands]) hx
  refine ⟨.pointer (some ⟨w.heap.size, 0, none⟩), _, _, push w (.cells (a.eval x).cells t (0, 0)), I, ?_, .refl I, hk w.heap.size, .raw _ rfl, ?_⟩
  ·simp [execOp, Instr.box, newVar, newRow]
  ·refine hs.new_own _ _ rfl ?_
   exact ⟨_, t, (0, 0), by simp [push], Free.zero _, hv.cells hj⟩

theorem zP [Tracks] {x : Operand} {t : TypeId} {d : TD} {size bytes : Nat} {zero : Value} {i b off : Nat} {cs : List HVal} {h : HVal} (hf : Fits P t d size bytes zero)
 (hx : zu e x = some (.raw (.pointer (some ⟨b, off, none⟩)))) (hm : M[i]? = some (.cells b cs)) (hh : (d.isAgg = false ∧ cs[off]? = some h) ∨ (d.isAgg = true ∧ off + size ≤ cs.length ∧ h = .agg ((cs.drop off).take size)))
 (hk : K h M) : EOp P e M ⟨dst, .load t x, ty, pos, af, g⟩ K :=
 EOp.of_run fun I F a w ho hs => by
  have h1 := (ho.one (x := x) (by simp [Op.operands]) hx).raw_inv
  obtain ⟨rc, el, fr, h2, h3, h4⟩ := hs.obj (.cells b cs) (List.mem_append_left _ (List.mem_of_getElem? hm))
  obtain ⟨v, h5, h6⟩ := zel (I := I) (o := off) hf h2 (base := 0) (by simp) (by have := h4.1; simp at this; omega) (fun j c v a1 a2 => h4.2 j c v a1 (by simpa using a2)) hh
  exact ⟨v, h, M, w, I, by simp [execOp, h1, Instr.loadAt, Instr.sureAddr, h5], .refl I, hk, h6, hs⟩

theorem zx [Tracks] {x y : Operand} {t : TypeId} {d : TD} {size bytes : Nat} {zero : Value} {i b off : Nat} {cs : List HVal} {h : HVal} (hf : Fits P t d size bytes zero)
 (hx : zu e x = some (.raw (.pointer (some ⟨b, off, none⟩)))) (hy : zu e y = some h) (hm : M[i]? = some (.cells b cs)) (ho : zdz size h = true) (hfl : zaD (zm h) = true) (hle : off + size ≤ cs.length)
 (hk : K .junk (M.set i (.cells b (z8 cs off (zm h))))) : EOp P e M ⟨dst, .store t x y, ty, pos, af, g⟩ K :=
 EOp.of_skip fun I F a w hop hs => by
  have h1 := (hop.one (x := x) (by simp [Op.operands]) hx).raw_inv
  obtain ⟨h2, h3⟩ := (hop.one (x := y) (by simp [Op.operands]) hy).cells_size ho
  obtain ⟨h0, _⟩ := zcB ho
  have hp := hs.pull hm
  obtain ⟨rc, el, fr, h4, h5, h6⟩ := hp.obj _ (List.mem_cons_self)
  have hl6 := h6.1
  simp only [Array.length_toList] at hl6
  obtain ⟨w', rc', g1, g2, g3, g4, g5, g6, g7, g8, g9⟩ := zcs (P := P) b el fr off (a.eval y).cells.toList 0 w rc h4 h5 (zfh h3 hfl) (by simp; omega)
  refine ⟨_, w', I, ?_, .refl I, hk, ?_⟩
  ·simp only [execOp, h1, Instr.storeAt, Instr.sureAddr, Sem.run_bind, Sem.run_pure, Result.andThen_ok, storeVar, hf.run_sizeOf]
   rw [if_neg (by simp [h2])]
   simp only [Sem.run_pure, Result.andThen_ok, g1]
  ·refine Sat.unpull hm (hp.change (m' := .cells b (z8 cs off (zm h))) (fun k hk hnk => g5 k (by simpa [MObj.blocks] using hnk)) (by simp [MObj.blocks]) (by simp [MObj.blocks]) ?_ g7 g8 g9.1 (fun _ => Nat.le_of_eq g9.2.symm))
   refine ⟨rc', el, fr, g2, by rw [g3]; exact h5, ?_, fun j c v a1 a2 => ?_⟩
   ·simp only [Array.length_toList]; rw [g3, zjI (by omega)]; omega
   ·rw [Array.getElem?_toList, g4 j] at a2
    simp only [Nat.add_zero, Nat.sub_zero, Array.length_toList, h2] at a2
    simp only [z8] at a1
    by_cases ha : j < off
    ·rw [if_neg (by omega)] at a2
     rw [List.append_assoc, List.getElem?_append_left (by simp; omega), List.getElem?_take_of_lt ha] at a1
     exact h6.2 j c v a1 (by simpa using a2)
    ·by_cases hb : j < off + size
     ·rw [if_pos (by omega)] at a2
      rw [List.getElem?_append_left (by simp; omega), List.getElem?_append_right (by simp; omega)] at a1
      have e1 : (cs.take off).length = off := by simp; omega
      rw [e1] at a1
      exact h3.2 (j - off) c v a1 a2
     ·rw [if_neg (by omega)] at a2
      rw [List.getElem?_append_right (by simp; omega)] at a1
      have e1 : (cs.take off ++ zm h).length = off + size := by simp; omega
      rw [e1, List.getElem?_drop, h0] at a1
      have e2 : off + size + (j - (off + size)) = j := by omega
      rw [e2] at a1
      exact h6.2 j c v a1 (by simpa using a2)

/-! growing slices -/
theorem zmO (need : Nat) : ∀ (r c : Nat), c < need → Builtin.growBy need r c ≤ need + need / 4 + 192
 | 0, c, h => by simp only [Builtin.growBy]; omega
 | r + 1, c, h => by
   simp only [Builtin.growBy]
   rw [if_neg (by omega)]
   by_cases h1 : c + (c + 768) / 4 < need
   ·exact zmO need r _ h1
   ·cases r with
    | zero => simp only [Builtin.growBy]; omega
    | succ r => simp only [Builtin.growBy]; rw [if_pos (by omega)]; omega
theorem zk8 [Tracks] {need cap : Nat} (h : cap < need) : Builtin.nextslicecap need cap ≤ 2 * need + 192 := by
 unfold Builtin.nextslicecap
 split
 ·omega
 ·split
  ·omega
  ·have := zmO need 4 cap h; omega

theorem zhC {at' : Array TypeId} {xs : Array Operand} {ρ : Operand → Value} (w : World) :
 (execOp ρ ⟨dst, .call ⟨.builtin .append, xs, at'⟩, ty, pos, af, g⟩).run P w = ((Builtin.append_ at' ty (xs.map ρ)).run P w).andThen (fun v w => .ok (.value v) w) := by
 simp [execOp, resolve, invoke, builtin]

theorem zhn {z : Array Value} (n : Nat) : (Builtin.zeroCells z n).size = n * z.size := by simp [Builtin.zeroCells]

theorem zam [Tracks] {x y : Operand} {t el : TypeId} {size bytes sz b2 : Nat} {zero z2 : Value} {d : TD} {i : Nat} {v : Value} {es ys : List HVal}
 (hf : Fits P t (.slice el) size bytes zero) (hel : Fits P el d sz b2 z2) (hz : z2.cells.size = sz) (hby : Nat.ble b2 100000 = true)
 (hx : zu e x = some (.raw v)) (hy : zu e y = some (.slice sz ys)) (hm : M[i]? = some (.arr v sz es)) (hfl : ∀ y ∈ ys, zaD (zm y) = true) (hlen : es.length + ys.length ≤ 1000000000)
 (hk : ∀ v', K (.raw v') (M.set i (.arr v' sz (es ++ ys)))) : EOp P e M ⟨dst, .call ⟨.builtin .append, #[x, y], #[t, t]⟩, ty, pos, af, g⟩ K :=
 EOp.of_run fun I F a w ho hs => by
  have h1 := (ho.one (x := x) (by simp [Op.operands, Call.operands]) hx).raw_inv
  have hyv := ho.one (x := y) (by simp [Op.operands, Call.operands]) hy
  have hp := hs.pull hm
  have hobj := hp.obj _ (List.mem_cons_self)
  obtain ⟨ya, yc, hylen⟩ := hyv.slice_len
  have hysz : ∀ y ∈ ys, (zm y).length = sz := by
   rcases hyv.slice_inv with ⟨rfl, _⟩ | ⟨b, off, cap', rc, el', fr, h2, h3, h4, h5, h6, h7⟩
   ·simp
   ·exact h4
  -- the appended cells
  obtain ⟨nv, hnv, hnl, hnV⟩ : ∃ nv : List Value, (∀ w1 : World, w1.heap = w.heap → (Builtin.firstCells sz ys.length (a.eval y)).run P w1 = .ok nv.toArray w1) ∧ nv.length = ys.length * sz ∧
   (∀ (i j : Nat) (x c : HVal) (u : Value), ys[i]? = some x → (zm x)[j]? = some c → nv[i * sz + j]? = some u → V I c u) := by
   rcases hyv.slice_inv with ⟨rfl, a', cap', h2⟩ | ⟨b, off, cap', rc, el', fr, h2, h3, h4, h5, h6, h7⟩
   ·refine ⟨[], fun w1 _ => ?_, by simp, fun i j x c u h => by simp at h⟩
    rw [h2]
    cases a' with
    | none => simp [Builtin.firstCells]
    | some a' => simp [Builtin.firstCells, loadCells, loadCellsFrom]
   ·refine ⟨(rc.toList.drop off).take (ys.length * sz), fun w1 hw1 => ?_, by simp; omega, fun i j x c u a1 a2 a3 => h7 i j x c u a1 a2 ?_⟩
    ·rw [h2]
     have hl : ((rc.toList.drop off).take (ys.length * sz)).length = ys.length * sz := by simp; omega
     have h3' : w1.heap[b]? = some (.cells rc el' fr) := by rw [hw1]; exact hs.imm _ _ h3
     have := run_loadCells_list (P := P) w1 ⟨b, off, none⟩ ((rc.toList.drop off).take (ys.length * sz)) fun j u hj => by
      rw [zb6, zd7 h3']
      rw [List.getElem?_take] at hj
      split at hj
      ·simpa [List.getElem?_drop] using hj
      ·simp at hj
     rw [hl] at this
     simp only [Builtin.firstCells]
     exact this
    ·rw [List.getElem?_take] at a3
     split at a3
     ·rw [List.getElem?_drop] at a3
      rw [Nat.add_assoc]
      simpa using a3
     ·simp at a3
  have hesz : ∀ x ∈ es, (zm x).length = sz := by
   rcases hobj with ⟨_, rfl⟩ | ⟨b, off, cap, rc, el', fr, _, _, _, h, _⟩
   ·simp
   ·exact h
  have hboth : ∀ x ∈ es ++ ys, (zm x).length = sz := fun x hx => by
   rcases List.mem_append.1 hx with h | h
   ·exact hesz x h
   ·exact hysz x h
  -- the new block
  have grows : ∀ (base : Option Addr) (cap : Nat) (ov : List Value), v = .slice base es.length cap → cap < es.length + ys.length →
   (∀ w1 : World, w1.heap = w.heap → (Builtin.firstCells sz es.length v).run P w1 = .ok ov.toArray w1) → ov.length = es.length * sz →
   (∀ (i j : Nat) (x c : HVal) (u : Value), es[i]? = some x → (zm x)[j]? = some c → ov[i * sz + j]? = some u → V I c u) →
   ∃ v' w', (execOp a.eval ⟨dst, .call ⟨.builtin .append, #[x, y], #[t, t]⟩, ty, pos, af, g⟩).run P w = .ok (.value v') w' ∧ Sat P I (.arr v' sz (es ++ ys) :: (M.eraseIdx i ++ F)) w' := by
   intro base cap ov hv hcap hov hol hoV
   let nc := (Question.appendCap (es.length + ys.length) cap el).cut (w.tape w.drawn (.appendCap (es.length + ys.length) cap el))
   have hnc : es.length + ys.length ≤ nc := by simp only [nc, Question.cut]; omega
   have hnm : nc ≤ 9223372036854775807 := by
    simp only [nc, Question.cut]
    have := Nat.mod_lt (w.tape w.drawn (.appendCap (es.length + ys.length) cap el)) (show 0 < 2 ^ 63 - (es.length + ys.length) by omega)
    omega
   let cells : Array Value := ov.toArray ++ nv.toArray ++ Builtin.zeroCells z2.cells (nc - (es.length + ys.length))
   refine ⟨.slice (some ⟨w.heap.size, 0, none⟩) (es.length + ys.length) nc, { w with heap := w.heap.push (.cells cells el (0, 0)), drawn := w.drawn + 1 }, ?_, ?_⟩
   ·rw [zhC]
    have hb1 : ¬ es.length + ys.length ≤ cap := by omega
    have hb2 : ¬ ((((es.length + ys.length : Nat) : Int) > IntKind.i64.max) ∧ (False ∨ b2 = 0)) := by
     have : IntKind.i64.max = 9223372036854775807 := by decide
     rw [this]; omega
    have hb3 : ¬ Builtin.nextslicecap (es.length + ys.length) cap * b2 > 2 ^ 48 := by
     have e1 := zk8 hcap
     have e2 : b2 ≤ 100000 := Nat.le_of_ble_eq_true hby
     have : Builtin.nextslicecap (es.length + ys.length) cap * b2 ≤ (2 * 1000000000 + 192) * 100000 := Nat.mul_le_mul (by omega) e2
     omega
    obtain ⟨ti, t1, t2, t3, t4⟩ := hel.typeInfo
    have hti : ∀ w1, (Go.typeInfo el).run P w1 = .ok ti w1 := fun w1 => by simp [Go.typeInfo, t1]
    have hlenof : (Builtin.lenOf (a.eval y)).run P w = .ok ys.length w := by rw [hylen]; simp [Builtin.lenOf]
    simp only [List.map_toArray, List.map_cons, List.map_nil, h1, Builtin.append_, List.getElem?_toArray, List.getElem?_cons_zero, List.getElem?_cons_succ, hv, Sem.run_bind, run_underlying hf.slice, Result.andThen_ok,
     hel.run_sizeOf, Sem.run_pure, Bool.false_eq_true, if_false, hlenof, hb1, hti, t3]
    rw [if_neg (by simpa using hb2)]
    simp only [Sem.run_bind, Sem.run_pure, Result.andThen_ok, hti, t3]
    rw [if_neg hb3]
    have hch : (choose (.appendCap (es.length + ys.length) cap el)).run P w = .ok nc { w with drawn := w.drawn + 1 } := by
     simp [Question.forced, nc]
    simp only [Sem.run_pure, Sem.run_bind, Result.andThen_ok, hch, run_askRoom, hti]
    rw [← hv]
    have hov' := hov { w with drawn := w.drawn + 1 } rfl
    have hnv' := hnv { w with drawn := w.drawn + 1 } rfl
    simp only [hov', Bool.not_false, if_true, hnv', Result.andThen_ok, hel.run_zero, newRow, Sem.run_bind, Sem.run_pure, run_newObj]
    rfl
   ·have hs1 : Sat P I (M.eraseIdx i ++ F) { w with drawn := w.drawn + 1 } := hp.drop.of_same (fun _ _ => rfl) (fun _ _ => rfl) rfl rfl rfl
    refine hs1.new_own (.cells cells el (0, 0)) _ rfl (.inr ⟨w.heap.size, 0, nc, cells, el, (0, 0), by simp, by simp [push], Free.zero _, hboth, by simp; omega, ?_, fun i j x c u a1 a2 a3 => ?_⟩)
    ·have : cells.size = nc * sz := by
      simp only [cells, Array.size_append, List.size_toArray, hol, hnl, zhn, hz]
      rw [← Nat.add_mul, ← Nat.add_mul]; congr 1; omega
     omega
    ·have hj : j < sz := by have := zC a2; have := hboth x (List.mem_of_getElem? a1); omega
     rw [Nat.zero_add] at a3
     by_cases hi : i < es.length
     ·rw [List.getElem?_append_left hi] at a1
      refine hoV i j x c u a1 a2 ?_
      have hlt : i * sz + j < es.length * sz := by
       have : (i + 1) * sz ≤ es.length * sz := Nat.mul_le_mul_right _ hi
       rw [Nat.add_mul] at this; omega
      simp only [cells] at a3
      rw [Array.getElem?_append_left (by simp; omega), Array.getElem?_append_left (by simp; omega)] at a3
      simpa using a3
     ·rw [List.getElem?_append_right (by omega)] at a1
      refine hnV (i - es.length) j x c u a1 a2 ?_
      have hi2 := zC a1
      have e1 : i * sz + j = es.length * sz + ((i - es.length) * sz + j) := by
       rw [← Nat.add_assoc, ← Nat.add_mul]; congr 2; omega
      have hlt : (i - es.length) * sz + j < ys.length * sz := by
       have : (i - es.length + 1) * sz ≤ ys.length * sz := Nat.mul_le_mul_right _ hi2
       rw [Nat.add_mul] at this; omega
      simp only [cells] at a3
      rw [e1, Array.getElem?_append_left (by simp; omega), Array.getElem?_append_right (by simp; omega)] at a3
      simp only [List.size_toArray, hol] at a3
      rw [Nat.add_sub_cancel_left] at a3
      simpa using a3
  have done : (∃ v' w', (execOp a.eval ⟨dst, .call ⟨.builtin .append, #[x, y], #[t, t]⟩, ty, pos, af, g⟩).run P w = .ok (.value v') w' ∧ Sat P I (.arr v' sz (es ++ ys) :: (M.eraseIdx i ++ F)) w') →
   ∃ v h M' w' J, (execOp a.eval ⟨dst, .call ⟨.builtin .append, #[x, y], #[t, t]⟩, ty, pos, af, g⟩).run P w = .ok (.value v) w' ∧ Le I J ∧ K h M' ∧ V J h v ∧ Sat P J (M' ++ F) w' := by
   rintro ⟨v', w', r1, r2⟩
   refine ⟨v', .raw v', _, w', I, r1, .refl I, hk v', .raw _ ?_, Sat.unpull hm r2⟩
   rcases r2.obj _ List.mem_cons_self with ⟨rfl, _⟩ | ⟨b, off, cap, rc, el', fr, rfl, _⟩ <;> rfl
  apply done
  rcases hobj with ⟨hv, rfl⟩ | ⟨b, off, cap, rc, el', fr, hv, hw, hfr, _, hcap, hroom, hcV⟩
  ·by_cases hy0 : ys = []
   ·subst hy0
    refine ⟨.slice none 0 0, w, ?_, ?_⟩
    ·rw [zhC]
     have hnv' := hnv w rfl
     have hlenof : (Builtin.lenOf (a.eval y)).run P w = .ok 0 w := by rw [hylen]; simp [Builtin.lenOf]
     simp only [List.length_nil] at hnv'
     simp only [List.map_toArray, List.map_cons, List.map_nil, h1, Builtin.append_, List.getElem?_toArray, List.getElem?_cons_zero, List.getElem?_cons_succ, hv, Sem.run_bind, run_underlying hf.slice, Result.andThen_ok,
      hel.run_sizeOf, Sem.run_pure, Bool.false_eq_true, if_false, hlenof, Nat.le_refl, if_true, Bool.not_false, hnv', Nat.add_zero]
    ·rw [hv] at hp; simpa using hp
   ·have hpos : 0 < ys.length := by cases ys with | nil => exact absurd rfl hy0 | cons _ _ => simp
    exact grows none 0 [] (by rw [hv]; rfl) (by simpa using hpos) (fun w1 _ => by rw [hv]; simp [Builtin.firstCells]) (by simp) (fun i j x c u h => by simp at h)
  ·by_cases hfit : es.length + ys.length ≤ cap
   ·-- in place
    have hroom2 : off + es.length * sz + 0 + nv.length ≤ rc.size := by
     have : (es.length + ys.length) * sz ≤ cap * sz := Nat.mul_le_mul_right _ hfit
     rw [Nat.add_mul] at this
     omega
    have hone : ∀ u ∈ nv, u.oneCell' = true := by
     intro u hu
     obtain ⟨k, hk, rfl⟩ := List.getElem_of_mem hu
     rw [hnl] at hk
     have hsz0 : 0 < sz := by
      rcases Nat.eq_zero_or_pos sz with h | h
      ·rw [h] at hk; simp at hk
      ·exact h
     have hi : k / sz < ys.length := Nat.div_lt_of_lt_mul (by rw [Nat.mul_comm]; exact hk)
     have hm' : k % sz < sz := Nat.mod_lt _ hsz0
     have hy1 := List.getElem?_eq_getElem hi
     have hsz1 := hysz _ (List.getElem_mem hi)
     have hj : k % sz < (zm ys[k / sz]).length := by omega
     have hc1 := List.getElem?_eq_getElem hj
     have e1 : k / sz * sz + k % sz = k := by rw [Nat.mul_comm]; exact Nat.div_add_mod k sz
     have hv1 := hnV (k / sz) (k % sz) _ _ nv[k] hy1 hc1 (by rw [e1]; exact List.getElem?_eq_getElem (by omega))
     have hflat := hfl _ (List.getElem_mem hi)
     have hmem := List.getElem_mem hj
     have key : ∀ (cs : List HVal) (c : HVal), c ∈ cs → zaD cs = true → ∀ u, V I c u → u.oneCell' = true := by
      intro cs
      induction cs with
      | nil => intro c hc; simp at hc
      | cons d r ih =>
        intro c hc hf u hu
        have hr : zaD r = true := by cases d <;> simp [zaD] at hf <;> exact hf
        rcases List.mem_cons.1 hc with rfl | hc
        ·cases hu <;> first | rfl | assumption | (simp [zaD] at hf; done)
        ·exact ih c hc hr u hu
     exact key _ _ hmem hflat _ hv1
    obtain ⟨w', rc', g1, g2, g3, g4, g5, g6, g7, g8, g9⟩ := zcs (P := P) b el' fr (off + es.length * sz) nv 0 w rc hw hfr hone hroom2
    refine ⟨.slice (some ⟨b, off, none⟩) (es.length + ys.length) cap, w', ?_, ?_⟩
    ·rw [zhC]
     have hnv' := hnv w rfl
     have hlenof : (Builtin.lenOf (a.eval y)).run P w = .ok ys.length w := by rw [hylen]; simp [Builtin.lenOf]
     simp only [List.map_toArray, List.map_cons, List.map_nil, h1, Builtin.append_, List.getElem?_toArray, List.getElem?_cons_zero, List.getElem?_cons_succ, hv, Sem.run_bind, run_underlying hf.slice, Result.andThen_ok,
      hel.run_sizeOf, Sem.run_pure, Bool.false_eq_true, if_false, hlenof, hfit, if_true, Bool.not_false, hnv', zb6, g1]
    ·refine hp.change (m' := .arr (.slice (some ⟨b, off, none⟩) (es.length + ys.length) cap) sz (es ++ ys)) (fun k hk hnk => g5 k ?_) ?_ (by simp [MObj.blocks]) ?_ g7 g8 g9.1 (fun _ => Nat.le_of_eq g9.2.symm)
     ·rw [hv] at hnk; simpa [MObj.blocks] using hnk
     ·intro k hk; left; rw [hv]; exact hk
     ·refine .inr ⟨b, off, cap, rc', el', fr, by simp, g2, by rw [g3]; exact hfr, hboth, by simp; omega, by rw [g3]; exact hroom, fun i j x c u a1 a2 a3 => ?_⟩
      have hj : j < sz := by have := zC a2; have := hboth x (List.mem_of_getElem? a1); omega
      rw [g4] at a3
      by_cases hi : i < es.length
      ·rw [List.getElem?_append_left hi] at a1
       have hlt : i * sz + j < es.length * sz := by
        have : (i + 1) * sz ≤ es.length * sz := Nat.mul_le_mul_right _ hi
        rw [Nat.add_mul] at this; omega
       rw [if_neg (by omega)] at a3
       exact hcV i j x c u a1 a2 a3
      ·rw [List.getElem?_append_right (by omega)] at a1
       have hi2 := zC a1
       have e1 : i * sz + j = es.length * sz + ((i - es.length) * sz + j) := by
        rw [← Nat.add_assoc, ← Nat.add_mul]; congr 2; omega
       have hlt : (i - es.length) * sz + j < ys.length * sz := by
        have : (i - es.length + 1) * sz ≤ ys.length * sz := Nat.mul_le_mul_right _ hi2
        rw [Nat.add_mul] at this; omega
       rw [if_pos (by omega)] at a3
       have e2 : off + i * sz + j - (off + es.length * sz) - 0 = (i - es.length) * sz + j := by omega
       rw [e2] at a3
       exact hnV (i - es.length) j x c u a1 a2 a3
   ·refine grows (some ⟨b, off, none⟩) cap ((rc.toList.drop off).take (es.length * sz)) hv (by omega) (fun w1 hw1 => ?_) ?_ (fun i j x c u a1 a2 a3 => hcV i j x c u a1 a2 ?_)
    ·rw [hv]
     have hes : es.length * sz ≤ cap * sz := Nat.mul_le_mul_right _ hcap.1
     have hl : ((rc.toList.drop off).take (es.length * sz)).length = es.length * sz := by simp; omega
     have h3' : w1.heap[b]? = some (.cells rc el' fr) := by rw [hw1]; exact hw
     have := run_loadCells_list (P := P) w1 ⟨b, off, none⟩ ((rc.toList.drop off).take (es.length * sz)) fun j u hj => by
      rw [zb6, zd7 h3']
      rw [List.getElem?_take] at hj
      split at hj
      ·simpa [List.getElem?_drop] using hj
      ·simp at hj
     rw [hl] at this
     simp only [Builtin.firstCells]
     exact this
    ·have hes : es.length * sz ≤ cap * sz := Nat.mul_le_mul_right _ hcap.1
     simp; omega
    ·rw [List.getElem?_take] at a3
     split at a3
     ·rw [List.getElem?_drop] at a3
      rw [Nat.add_assoc]
      simpa using a3
     ·simp at a3
end
end
section
variable {P : Program}

theorem Ghost.arr_nil [Tracks] {e : Env} {M : List MObj} (sz : Nat) : Ghost e M e (.arr (.slice none 0 0) sz [] :: M) := fun _ I F tmps w he hs =>
 ⟨I, .refl I, he, {
  imm := hs.imm
  obj := fun m hm => by
   rcases List.mem_cons.1 hm with rfl | hm
   ·exact .inl ⟨rfl, rfl⟩
   ·exact hs.obj m hm
  nodup := by simp only [List.cons_append, blocks, List.flatMap_cons, MObj.blocks, List.nil_append]; exact hs.nodup
  apart := fun b hb => hs.apart b (by simpa only [List.cons_append, blocks, List.flatMap_cons, MObj.blocks, List.nil_append] using hb)
  os := hs.os
  output := hs.output
  tape := hs.tape
  tab := hs.tab
  low := hs.low }⟩

/-- What an owned slice reads as once it is immutable. -/
theorem Sat.freeze_arr [Tracks] {I : Imm} {M : List MObj} {v : Value} {sz : Nat} {es : List HVal} {w : World} (h : Sat P I (.arr v sz es :: M) w) : ∃ J, Le I J ∧ Sat P J M w ∧ V J (.slice sz es) v := by
 rcases h.obj _ List.mem_cons_self with ⟨rfl, rfl⟩ | ⟨b, off, cap, rc, el, fr, rfl, h2, h3, h4, h5, h6, h7⟩
 ·exact ⟨I, .refl I, h.drop, .slice0 _ _ _⟩
 ·obtain ⟨hl, hs⟩ := h.freeze (b := b) rfl h2
  refine ⟨_, hl, hs, .slice Imm.add_self h4 h5.1 ?_ fun i j x c u a1 a2 a3 => (h7 i j x c u a1 a2 a3).mono hl⟩
  have : es.length * sz ≤ cap * sz := Nat.mul_le_mul_right _ h5.1
  omega
theorem Sat.freeze_cells [Tracks] {I : Imm} {M : List MObj} {b : Nat} {cs : List HVal} {w : World} (h : Sat P I (.cells b cs :: M) w) : ∃ J, Le I J ∧ Sat P J M w ∧ ∀ off, V J (.vptr cs off) (.pointer (some ⟨b, off, none⟩)) := by
 obtain ⟨rc, el, fr, h2, h3, h4⟩ := h.obj _ List.mem_cons_self
 obtain ⟨hl, hs⟩ := h.freeze (b := b) rfl h2
 refine ⟨_, hl, hs, fun off => ?_⟩
 have := V.vptr (I := I.add b (.cells rc el fr)) (cs := cs) (off := off) (base := 0) Imm.add_self (by have := h4.1; simp at this; omega) fun j c v a1 a2 => ((h4.2 j c v a1 (by simpa using a2)).mono hl)
 rwa [Nat.zero_add] at this

theorem Ghost.freeze_arr [Tracks] {e e' : Env} {M : List MObj} {i : Nat} {v : Value} {sz : Nat} {es : List HVal} (hm : M[i]? = some (.arr v sz es))
 (he : ∀ J, V J (.slice sz es) v → ∀ t h', e' t = some h' → ∃ h, e t = some h ∧ ∀ x, V J h x → V J h' x) : Ghost e M e' (M.eraseIdx i) := fun _ I F tmps w h1 hs => by
 obtain ⟨J, hl, hs', hv⟩ := (hs.pull hm).freeze_arr
 refine ⟨J, hl, fun t h' ht => ?_, hs'⟩
 obtain ⟨h, h2, h3⟩ := he J hv t h' ht
 obtain ⟨x, h4, h5⟩ := h1 t h h2
 exact ⟨x, h4, h3 x (h5.mono hl)⟩
theorem Ghost.freeze_cells [Tracks] {e e' : Env} {M : List MObj} {i b : Nat} {cs : List HVal} (hm : M[i]? = some (.cells b cs))
 (he : ∀ J, (∀ off, V J (.vptr cs off) (.pointer (some ⟨b, off, none⟩))) → ∀ t h', e' t = some h' → ∃ h, e t = some h ∧ ∀ x, V J h x → V J h' x) : Ghost e M e' (M.eraseIdx i) := fun _ I F tmps w h1 hs => by
 obtain ⟨J, hl, hs', hv⟩ := (hs.pull hm).freeze_cells
 refine ⟨J, hl, fun t h' ht => ?_, hs'⟩
 obtain ⟨h, h2, h3⟩ := he J hv t h' ht
 obtain ⟨x, h4, h5⟩ := h1 t h h2
 exact ⟨x, h4, h3 x (h5.mono hl)⟩
theorem zrz [Tracks] {J : Imm} {e e' : Env} {t : Nat} {h h' : HVal} (ht : e t = some h) (hv : ∀ x, V J h x → V J h' x) (hr : ∀ s y, e' s = some y → ∃ z, e s = some z ∧ ∀ x, V J z x → V J y x) :
 ∀ s y, upd e' t h' s = some y → ∃ z, e s = some z ∧ ∀ x, V J z x → V J y x := fun s y hs => by
 by_cases hh : s = t
 ·subst hh; rw [zdM] at hs; cases hs; exact ⟨h, ht, hv⟩
 ·rw [zdi _ _ hh] at hs; exact hr s y hs
theorem zpB {J : Imm} {e : Env} : ∀ s y, e s = some y → ∃ z, e s = some z ∧ ∀ x, V J z x → V J y x := fun s y hs => ⟨y, hs, fun _ h => h⟩
/-- The slice in slot t. -/
theorem Ghost.fa [Tracks] {e : Env} {M : List MObj} {i : Nat} {v : Value} {sz : Nat} {es : List HVal} (t : Nat) (hm : M[i]? = some (.arr v sz es)) (ht : e t = some (.raw v)) :
 Ghost e M (upd e t (.slice sz es)) (M.eraseIdx i) :=
 Ghost.freeze_arr hm fun J hv => zrz ht (fun x hx => by rw [hx.raw_inv]; exact hv) zpB
/-- The variable whose address is in slot t. -/
theorem Ghost.fc [Tracks] {e : Env} {M : List MObj} {i b off : Nat} {cs : List HVal} (t : Nat) (hm : M[i]? = some (.cells b cs)) (ht : e t = some (.raw (.pointer (some ⟨b, off, none⟩)))) :
 Ghost e M (upd e t (.vptr cs off)) (M.eraseIdx i) :=
 Ghost.freeze_cells hm fun J hv => zrz ht (fun x hx => by rw [hx.raw_inv]; exact hv off) zpB
/-- The slice in a cell of an owned variable. -/
theorem Ghost.fcell [Tracks] {e : Env} {M : List MObj} {i k : Nat} {v : Value} {sz b j : Nat} {es cs : List HVal} (hm : M[i]? = some (.arr v sz es)) (hc : (M.eraseIdx i)[k]? = some (.cells b cs)) (hj : cs[j]? = some (.raw v)) :
 Ghost e M e ((M.eraseIdx i).set k (.cells b (cs.set j (.slice sz es)))) := fun _ I F tmps w h1 hs => by
 obtain ⟨J, hl, hs', hv⟩ := (hs.pull hm).freeze_arr
 refine ⟨J, hl, h1.mono hl, Sat.unpull hc ((hs'.pull hc).change (m' := .cells b (cs.set j (.slice sz es))) (fun _ _ _ => rfl) (fun x hx => .inl hx) (by simp [MObj.blocks]) ?_ rfl rfl rfl)⟩
 obtain ⟨rc, el, fr, a1, a2, a3⟩ := (hs'.pull hc).obj _ List.mem_cons_self
 refine ⟨rc, el, fr, a1, a2, by rw [a3.1]; simp, fun n c u b1 b2 => ?_⟩
 by_cases hn : n = j
 ·subst hn
  have hlt := zC hj
  simp [hlt] at b1
  subst b1
  have := a3.2 n _ u hj b2
  rw [this.raw_inv]; exact hv
 ·rw [List.getElem?_set_ne (Ne.symm hn)] at b1
  exact a3.2 n c u b1 b2

section
variable {P : Program} {e : Env} {dst : Option Tmp} {ty : TypeId} {pos : String} {af : Array Edge} {g : Option (Nat × Bool)} {M : List MObj} {K : HVal → List MObj → Prop}

theorem MSat.arr_len {I : Imm} {w : World} {v : Value} {sz : Nat} {es : List HVal} (h : MSat I w (.arr v sz es)) : ∃ a cap, v = .slice a es.length cap := by
 rcases h with ⟨rfl, rfl⟩ | ⟨b, off, cap, rc, el, fr, h, _⟩
 ·exact ⟨none, 0, rfl⟩
 ·exact ⟨_, cap, h⟩

theorem zpK [Tracks] {x : Operand} {t el : TypeId} {size bytes : Nat} {zero : Value} {i : Nat} {v : Value} {sz : Nat} {es : List HVal} (hf : Fits P t (.slice el) size bytes zero) (hx : zu e x = some (.raw v))
 (hm : M[i]? = some (.arr v sz es)) (hk : K (.int .i64 es.length) M) : EOp P e M ⟨dst, .call ⟨.builtin .len, #[x], #[t]⟩, ty, pos, af, g⟩ K :=
 EOp.of_run fun I F a w ho hs => by
  have h1 := (ho.one (x := x) (by simp [Op.operands, Call.operands]) hx).raw_inv
  obtain ⟨b, cap, h2⟩ := (hs.obj _ (List.mem_append_left _ (List.mem_of_getElem? hm))).arr_len
  exact ⟨.int .i64 es.length, _, M, w, I, by rw [zhd (ats := #[])]; simp [h1, h2, Builtin.len_, run_underlying hf.slice, goInt], .refl I, hk, .int _ _, hs⟩

theorem ze2 [Tracks] {x : Operand} {t : TypeId} {d : TD} {size bytes : Nat} {zero : Value} {i b off cap n sz j f o : Nat} {es : List HVal} {y h : HVal} (hf : Fits P t d size bytes zero)
 (hx : zu e x = some (.raw (.pointer (some ⟨b, o, none⟩)))) (ho' : o = off + j * sz + f) (hm : M[i]? = some (.arr (.slice (some ⟨b, off, none⟩) n cap) sz es)) (hj : es[j]? = some y)
 (hh : (d.isAgg = false ∧ (zm y)[f]? = some h) ∨ (d.isAgg = true ∧ f + size ≤ (zm y).length ∧ h = .agg (((zm y).drop f).take size)))
 (hk : K h M) : EOp P e M ⟨dst, .load t x, ty, pos, af, g⟩ K :=
 EOp.of_run fun I F a w ho hs => by
  have h1 := (ho.one (x := x) (by simp [Op.operands]) hx).raw_inv
  have hlt := zC hj
  rcases hs.obj _ (List.mem_append_left _ (List.mem_of_getElem? hm)) with ⟨hbad, _⟩ | ⟨b', off', cap', rc, el', fr, h3, h4, h5, h6, h7, h8, h9⟩
  ·simp at hbad
  ·simp at h3
   obtain ⟨⟨rfl, rfl⟩, _, rfl⟩ := h3
   have hy := h6 y (List.mem_of_getElem? hj)
   have hle : (j + 1) * sz ≤ cap * sz := Nat.mul_le_mul_right _ (by omega)
   rw [Nat.add_mul] at hle
   obtain ⟨v, a1, a2⟩ := zel (I := I) (o := o) hf h4 (base := off + j * sz) (off := f) ho' (by omega) (fun k c v b1 b2 => h9 j k y c v hj b1 b2) hh
   exact ⟨v, h, M, w, I, by simp [execOp, h1, Instr.loadAt, Instr.sureAddr, a1], .refl I, hk, a2, hs⟩

theorem zaR [Tracks] {x z : Operand} {t : TypeId} {d : TD} {size bytes : Nat} {zero : Value} {i b off cap n sz j f o : Nat} {es : List HVal} {y h y' : HVal} (hf : Fits P t d size bytes zero)
 (hx : zu e x = some (.raw (.pointer (some ⟨b, o, none⟩)))) (ho' : o = off + j * sz + f) (hz : zu e z = some h) (hm : M[i]? = some (.arr (.slice (some ⟨b, off, none⟩) n cap) sz es)) (hj : es[j]? = some y)
 (hok : zdz size h = true) (hfl : zaD (zm h) = true) (hle : f + size ≤ (zm y).length) (hy' : zm y' = z8 (zm y) f (zm h))
 (hk : K .junk (M.set i (.arr (.slice (some ⟨b, off, none⟩) n cap) sz (es.set j y')))) : EOp P e M ⟨dst, .store t x z, ty, pos, af, g⟩ K :=
 EOp.of_skip fun I F a w hop hs => by
  have h1 := (hop.one (x := x) (by simp [Op.operands]) hx).raw_inv
  obtain ⟨h2, h3⟩ := (hop.one (x := z) (by simp [Op.operands]) hz).cells_size hok
  obtain ⟨h0, _⟩ := zcB hok
  have hp := hs.pull hm
  have hlt := zC hj
  rcases hp.obj _ (List.mem_cons_self) with ⟨hbad, _⟩ | ⟨b', off', cap', rc, el', fr, h4, h5, h6, h7, h8, h9, h10⟩
  ·simp at hbad
  ·simp at h4
   obtain ⟨⟨rfl, rfl⟩, rfl, rfl⟩ := h4
   have hyl := h7 y (List.mem_of_getElem? hj)
   have hle2 : (j + 1) * sz ≤ cap * sz := Nat.mul_le_mul_right _ (by omega)
   rw [Nat.add_mul] at hle2
   subst ho'
   obtain ⟨w', rc', g1, g2, g3, g4, g5, g6, g7, g8, g9⟩ := zcs (P := P) b el' fr (off + j * sz + f) (a.eval z).cells.toList 0 w rc h5 h6 (zfh h3 hfl) (by simp; omega)
   refine ⟨_, w', I, ?_, .refl I, hk, ?_⟩
   ·simp only [execOp, h1, Instr.storeAt, Instr.sureAddr, Sem.run_bind, Sem.run_pure, Result.andThen_ok, storeVar, hf.run_sizeOf]
    rw [if_neg (by simp [h2])]
    simp only [Sem.run_pure, Result.andThen_ok, g1]
   ·have hl' : (zm y').length = sz := by rw [hy', zjI (by omega)]; exact hyl
    refine Sat.unpull hm (hp.change (m' := .arr (.slice (some ⟨b, off, none⟩) es.length cap) sz (es.set j y')) (fun k hk hnk => g5 k (by simpa [MObj.blocks] using hnk)) (fun k hk => .inl hk) (by simp [MObj.blocks]) ?_ g7 g8 g9.1 (fun _ => Nat.le_of_eq g9.2.symm))
    refine .inr ⟨b, off, cap, rc', el', fr, by simp, g2, by rw [g3]; exact h6, fun q hq => ?_, by simpa using h8, by rw [g3]; exact h9, fun p q q1 c u a1 a2 a3 => ?_⟩
    ·rcases List.mem_or_eq_of_mem_set hq with hq | rfl
     ·exact h7 q hq
     ·exact hl'
    ·rw [g4] at a3
     simp only [Nat.add_zero, Nat.sub_zero, Array.length_toList, h2] at a3
     by_cases hpj : p = j
     ·subst hpj
      simp [hlt] at a1
      subst a1
      have hq := zC a2
      rw [hy'] at a2
      simp only [z8] at a2
      by_cases c1 : q < f
      ·rw [if_neg (by omega)] at a3
       rw [List.append_assoc, List.getElem?_append_left (by simp; omega), List.getElem?_take_of_lt c1] at a2
       exact h10 p q y c u hj a2 a3
      ·by_cases c2 : q < f + size
       ·rw [if_pos (by omega)] at a3
        rw [List.getElem?_append_left (by simp; omega), List.getElem?_append_right (by simp; omega)] at a2
        have e1 : ((zm y).take f).length = f := by simp; omega
        rw [e1] at a2
        have e2 : off + p * sz + q - (off + p * sz + f) = q - f := by omega
        rw [e2] at a3
        exact h3.2 (q - f) c u a2 a3
       ·rw [if_neg (by omega)] at a3
        rw [List.getElem?_append_right (by simp; omega)] at a2
        have e1 : ((zm y).take f ++ zm h).length = f + size := by simp; omega
        rw [e1, List.getElem?_drop, h0] at a2
        have e2 : f + size + (q - (f + size)) = q := by omega
        rw [e2] at a2
        exact h10 p q y c u hj a2 a3
     ·rw [List.getElem?_set_ne (Ne.symm hpj)] at a1
      have hql := zC a2
      have hq1 := h7 q1 (List.mem_of_getElem? a1)
      have hp1 := zC a1
      have hne : ¬ (off + j * sz + f ≤ off + p * sz + q ∧ off + p * sz + q < off + j * sz + f + size) := by
       rcases Nat.lt_or_gt_of_ne hpj with hlt' | hgt
       ·have : (p + 1) * sz ≤ j * sz := Nat.mul_le_mul_right _ hlt'
        rw [Nat.add_mul] at this; omega
       ·have : (j + 1) * sz ≤ p * sz := Nat.mul_le_mul_right _ hgt
        rw [Nat.add_mul] at this; omega
      rw [if_neg hne] at a3
      exact h10 p q q1 c u a1 a2 a3

/-! calls that only read owned objects -/
mutual
def zeT : HVal → Bool
 | .bool _ | .int _ _ | .str _ => true
 | .agg cs => zeI cs
 | .tup cs => zeI cs
 | .raw _ => true
 | _ => false
def zeI : List HVal → Bool
 | [] => true
 | c :: r => zeT c && zeI r
end
theorem zfp : ∀ {cs : List HVal}, zeI cs = true → ∀ (j : Nat) (c : HVal), cs[j]? = some c → zeT c = true
 | [], _, j, c, h => by simp at h
 | d :: r, hg, 0, c, h => by simp [zeI] at hg; simp at h; subst h; exact hg.1
 | d :: r, hg, j + 1, c, h => by simp [zeI] at hg; simp at h; exact zfp hg.2 j c h
theorem zj6 [Tracks] {I J : Imm} {c : HVal} {v : Value} (h : V I c v) : zeT c = true → V J c v := by
 induction h with
 | bool b => intro _; exact .bool b
 | int k n => intro _; exact .int k n
 | str s => intro _; exact .str s
 | raw v h1 => intro _; exact .raw v h1
 | agg hl _ ih => intro hg; simp [zeT] at hg; exact .agg hl fun j c v a b => ih j c v a b (zfp hg j c a)
 | tup hl _ ih => intro hg; simp [zeT] at hg; exact .tup hl fun j c v a b => ih j c v a b (zfp hg j c a)
 | _ => intro hg; simp [zeT] at hg

def zbz (w : World) : Imm := ⟨fun b => w.heap[b]?, w.os, w.output, w.tape, w.drawn⟩
theorem Sat.le_all [Tracks] {I : Imm} {M : List MObj} {w : World} (h : Sat P I M w) : Le I (zbz w) := ⟨h.imm, h.os, h.output, h.tape, h.low⟩
theorem zlQ [Tracks] {I : Imm} {M : List MObj} {w : World} (h : Sat P I M w) : Sat P (zbz w) [] w := ⟨fun _ _ h => h, fun _ h => by simp at h, by simp [blocks], fun _ h => by simp [blocks] at h, rfl, rfl, rfl, h.tab.mono h.le_all, fun _ => Nat.le_refl _⟩
theorem Sat.back [Tracks] {I J : Imm} {M M' : List MObj} {w w' : World} (h : Sat P I M w) (hl : Le (zbz w) J) (h' : Sat P J M' w') : Sat P I M w' :=
 h.of_same (fun b ⟨o, ho⟩ => by rw [h.imm b o ho]; exact h'.imm b o (hl.heap b o (h.imm b o ho)))
  (fun b hb => by
    simp only [blocks, List.mem_flatMap] at hb
    obtain ⟨m, hm, hb⟩ := hb
    obtain ⟨o, ho⟩ := (h.obj m hm).lies hb
    rw [ho]; exact h'.imm b o (hl.heap b o ho)) (h'.os.trans hl.os) (h'.output.trans hl.output) (h'.tape.trans hl.tape) (fun ht => Nat.le_trans (hl.low ht) (h'.low ht))

/-- h, seen as h' while it is only read. -/
inductive Bor (M : List MObj) : HVal → HVal → Prop
 | weak {h h' : HVal} (hw : Weak h h') : Bor M h h'
 | arr {i : Nat} {v : Value} {sz : Nat} {es : List HVal} (hm : M[i]? = some (.arr v sz es)) : Bor M (.raw v) (.slice sz es)
 | cells {i b off : Nat} {cs : List HVal} (hm : M[i]? = some (.cells b cs)) : Bor M (.raw (.pointer (some ⟨b, off, none⟩))) (.vptr cs off)
 | agg {l l' : List HVal} (hl : l.length = l'.length) (h : ∀ (j : Nat) (c c' : HVal), l[j]? = some c → l'[j]? = some c' → Bor M c c') : Bor M (.agg l) (.agg l')
def BorL (M : List MObj) : List HVal → List HVal → Prop
 | [], [] => True
 | h :: r, h' :: r' => Bor M h h' ∧ BorL M r r'
 | _, _ => False

theorem Bor.v [Tracks] {I : Imm} {F : List MObj} {w : World} {h h' : HVal} (hb : Bor M h h') (hs : Sat P I (M ++ F) w) : ∀ {v : Value}, V I h v → V (zbz w) h' v := by
 induction hb with
 | weak hw => intro v hv; exact hw _ _ (hv.mono hs.le_all)
 | @arr i u sz es hm =>
   intro v hv
   rw [hv.raw_inv]
   rcases hs.obj _ (List.mem_append_left _ (List.mem_of_getElem? hm)) with ⟨rfl, rfl⟩ | ⟨b, off, cap, rc, el, fr, rfl, h2, h3, h4, h5, h6, h7⟩
   ·exact .slice0 _ _ _
   ·refine .slice (I := zbz w) h2 h4 h5.1 ?_ fun i j x c u a1 a2 a3 => (h7 i j x c u a1 a2 a3).mono hs.le_all
    have : es.length * sz ≤ cap * sz := Nat.mul_le_mul_right _ h5.1
    omega
 | @cells i b off cs hm =>
   intro v hv
   rw [hv.raw_inv]
   obtain ⟨rc, el, fr, h2, h3, h4⟩ := hs.obj _ (List.mem_append_left _ (List.mem_of_getElem? hm))
   have := V.vptr (I := zbz w) (cs := cs) (off := off) (base := 0) h2 (by have := h4.1; simp at this; omega) fun j c v a1 a2 => ((h4.2 j c v a1 (by simpa using a2)).mono hs.le_all)
   rwa [Nat.zero_add] at this
 | agg hl _ ih =>
   intro v hv
   obtain ⟨vs, rfl, h1⟩ := hv.agg_inv
   refine V.mk_agg ⟨by rw [h1.1, hl], fun j c u a1 a2 => ?_⟩
   have hj := zC a1
   have hj' := List.getElem?_eq_getElem (l := _) (by rw [hl]; exact hj)
   exact ih j _ c hj' a1 (h1.2 j _ u hj' a2)
theorem BorL.vl [Tracks] {I : Imm} {F : List MObj} {w : World} (hs : Sat P I (M ++ F) w) : ∀ {hs1 hs2 : List HVal} {vs : List Value}, BorL M hs1 hs2 → VL I hs1 vs → VL (zbz w) hs2 vs
 | [], [], vs, _, h => ⟨by have := h.1; simpa using this, fun j c v h1 _ => by simp at h1⟩
 | h :: r, h' :: r', [], _, hv => by have := hv.1; simp at this
 | h :: r, h' :: r', v :: vs, hb, hv => VL.cons (hb.1.v hs hv.head) (BorL.vl hs hb.2 hv.tail)
 | [], _ :: _, _, hb, _ => hb.elim
 | _ :: _, [], _, hb, _ => hb.elim

/-- A function that changes nothing, called while objects are owned that it reads; what it yields hangs on no memory. -/
theorem zrN [Tracks] {f : FuncId} {args : Array Operand} {ats : Array TypeId} {hs hs' : List HVal} {h : HVal} (hc : Callable P f) (ha : zcK e args.toList = some hs) (hb : BorL M hs hs') (hp : ConP P f hs' h)
 (hg : zeT h = true) (hk : K h M) : EOp P e M ⟨dst, .call ⟨.value (.func f), args, ats⟩, ty, pos, af, g⟩ K := fun I F a w ho hsat => by
 have hrun : (execOp a.eval ⟨dst, .call ⟨.value (.func f), args, ats⟩, ty, pos, af, g⟩).run P w = .ok (.enter f (args.toList.map a.eval).toArray) w := by
  simp [execOp, resolve, Act.eval, Deferred.ofValue, invoke, zdd hc]
  apply Array.ext'; simp
 have hv := zeJ (I := I) (f := a.eval) _ _ ha fun x hx h hh => ho.one (by simp only [Op.operands, Call.operands]; exact Array.mem_append_right _ (by simpa using hx)) hh
 simp only [Oper.wp, hrun, Oper.upon]
 refine (hp (zbz w) [] w _ (hb.vl hsat hv) (by simpa using zlQ hsat)).mono ?_
 rintro x w' ⟨v, y, M', J, rfl, h1, ⟨rfl, rfl⟩, h3, h4⟩
 exact ⟨v, _, M, I, rfl, .refl I, hk, zj6 h3 hg, hsat.back h1 h4⟩

/-- The same, where the result is a new slice of which each element hangs on no memory. -/
theorem zqm [Tracks] {f : FuncId} {args : Array Operand} {ats : Array TypeId} {hs hs' : List HVal} {sz : Nat} {es : List HVal} (hc : Callable P f) (ha : zcK e args.toList = some hs) (hb : BorL M hs hs')
 (hp : Con P f hs' [] fun x M' => ∃ v, x = .raw v ∧ M' = [.arr v sz es])
 (hg : ∀ y ∈ es, zeI (zm y) = true) (hk : ∀ v, K (.raw v) (.arr v sz es :: M)) : EOp P e M ⟨dst, .call ⟨.value (.func f), args, ats⟩, ty, pos, af, g⟩ K := fun I F a w ho hsat => by
 have hrun : (execOp a.eval ⟨dst, .call ⟨.value (.func f), args, ats⟩, ty, pos, af, g⟩).run P w = .ok (.enter f (args.toList.map a.eval).toArray) w := by
  simp [execOp, resolve, Act.eval, Deferred.ofValue, invoke, zdd hc]
  apply Array.ext'; simp
 have hv := zeJ (I := I) (f := a.eval) _ _ ha fun x hx h hh => ho.one (by simp only [Op.operands, Call.operands]; exact Array.mem_append_right _ (by simpa using hx)) hh
 simp only [Oper.wp, hrun, Oper.upon]
 refine (hp (zbz w) [] w _ (hb.vl hsat hv) (by simpa using zlQ hsat)).mono ?_
 rintro x w' ⟨v, y, M', J, rfl, h1, ⟨v', rfl, rfl⟩, h3, h4⟩
 have hb1 := hsat.back h1 h4
 have hobj := h4.obj _ (List.mem_append_left _ (List.mem_singleton_self _))
 have hone : v'.oneCell' = true := by rcases hobj with ⟨rfl, _⟩ | ⟨b, off, cap, rc, el, fr, rfl, _⟩ <;> rfl
 refine ⟨v, .raw v', _, I, rfl, .refl I, hk v', by rw [h3.raw_inv]; exact .raw _ hone, ?_⟩
 have hold : ∀ b, b < w.heap.size → b ∉ (MObj.arr v' sz es).blocks := fun b hb' hmem => by
  have := h4.apart b (by simp only [List.append_nil, blocks, List.flatMap_cons, List.flatMap_nil]; simpa using hmem)
  rw [hl_none h1 hb'] at this; cases this
 exact {
  imm := hb1.imm
  obj := fun m hm => by
   rcases List.mem_cons.1 hm with rfl | hm
   ·rcases hobj with h5 | ⟨b, off, cap, rc, el, fr, b1, b2, b3, b4, b5, b6, b7⟩
    ·exact .inl h5
    ·exact .inr ⟨b, off, cap, rc, el, fr, b1, b2, b3, b4, b5, b6, fun i j x c u a1 a2 a3 => zj6 (b7 i j x c u a1 a2 a3) (zfp (hg x (List.mem_of_getElem? a1)) j c a2)⟩
   ·exact hb1.obj m hm
  nodup := by
   simp only [List.cons_append, blocks, List.flatMap_cons]
   refine List.nodup_append.2 ⟨?_, hb1.nodup, fun x hx y hy hxy => ?_⟩
   ·have := h4.nodup; simpa [blocks] using this
   ·subst hxy
    have : x < w.heap.size := by
     simp only [List.mem_flatMap] at hy
     obtain ⟨m, hm, hx2⟩ := hy
     obtain ⟨o, ho⟩ := (hsat.obj m hm).lies hx2
     rcases Nat.lt_or_ge x w.heap.size with h' | h'
     ·exact h'
     ·simp [Array.getElem?_eq_none h'] at ho
    exact hold x this hx
  apart := fun b hb' => by
   simp only [List.cons_append, blocks, List.flatMap_cons, List.mem_append] at hb'
   rcases hb' with hb' | hb'
   ·cases hi : I.heap b with
    | none => rfl
    | some o =>
      have h9 := hsat.imm b o hi
      have : b < w.heap.size := by
       rcases Nat.lt_or_ge b w.heap.size with h' | h'
       ·exact h'
       ·simp [Array.getElem?_eq_none h'] at h9
      exact absurd hb' (hold b this)
   ·exact hb1.apart b (by simpa [blocks] using hb')
  os := hb1.os
  output := hb1.output
  tape := hb1.tape
  tab := hb1.tab
  low := hb1.low }
where
 hl_none {w : World} {J : Imm} (h1 : Le (zbz w) J) {b : Nat} (hb : b < w.heap.size) : J.heap b = some w.heap[b] := h1.heap b _ (Array.getElem?_eq_getElem hb)
end
end
section

section
variable {P : Program} {ops : Array Oper} {n : Nat} {S : List MObj → Prop} {ld : List Nat} {K : Env → List MObj → Prop}

/-- All loads of ld come before o. -/
def zbC (ld : List Nat) (o : Oper) : Prop := ∀ l ∈ ld, ∃ ed ∈ o.after, Region.binds .any ed = true ∧ ed.on = l

def HAny [Tracks] (P : Program) (ops : Array Oper) (n : Nat) (S : List MObj → Prop) (ld : List Nat) (K : Env → List MObj → Prop) : Nat → Array Bool → Env → List MObj → Prop
 | 0, listed, e, M => Region.ready .any ops listed = [] ∧ K e M
 | fuel + 1, listed, e, M => (Region.ready .any ops listed = [] → K e M) ∧ ∀ i ∈ Region.ready .any ops listed, ∀ o, ops[i]? = some o →
    HOp P ops n o e M fun e' M' => (S M → S M' ∨ zbC ld o) ∧ HAny P ops n S ld K fuel (listed.setIfInBounds i true) e' M'

theorem HAny.sound [Tracks] {I : Imm} {F : List MObj} {Q : Exit → Act → World → Prop}
 (hq : ∀ J e M a w, Le I J → K e M → a.defers = [] → a.tmps.size = n → EnvV J e a.tmps → Sat P J (M ++ F) w → Q .normal a w) :
 ∀ (fuel : Nat) (listed : Array Bool) (J : Imm) (e : Env) (M : List MObj) (a : Act) (w : World), Le I J → HAny P ops n S ld K fuel listed e M →
  a.defers = [] → a.tmps.size = n → EnvV J e a.tmps → Sat P J (M ++ F) w → wpAny P .any ops Q fuel listed a w
 | 0, listed, J, e, M, a, w, hl, h, hd, hn, he, hs => ⟨h.1, hq J e M a w hl h.2 hd hn he hs⟩
 | fuel + 1, listed, J, e, M, a, w, hl, h, hd, hn, he, hs => by
   refine ⟨fun h0 => hq J e M a w hl (h.1 h0) hd hn he hs, fun i hi => ?_⟩
   obtain ⟨_, o, ho, _⟩ := mem_ready.1 hi
   refine HOp.sound (h.2 i hi o ho) ho hd hn he hs fun J' e' M' a' w' hl' hK hd' hn' he' hs' => ?_
   exact HAny.sound hq fuel _ J' e' M' a' w' (hl.trans hl') hK.2 hd' hn' he' hs'

theorem za9 [Tracks] {c : Code} {id : Nat} {l : List Oper} {e : Env} {M : List MObj} {Q : Exit → Env → List MObj → Prop} (S : List MObj → Prop) (ld : List Nat) (hm : P.follows .mixedOrders = true)
 (h : HAny P l.toArray n S ld (fun e M => HWp P n c e M Q) l.length (Array.replicate l.length false) e M) : HWp P n (.seq (.region id l.toArray true) c) e M Q :=
 zh fun I F a w h1 h2 h3 h4 => by
  refine wp_region_any hm ?_
  have := HAny.sound (Q := Post P n I F (zp1 P n c Q)) (fun J e M a w hl hK hd hn he hs => ⟨hd, hn, J, e, M, hl, hK, he, hs⟩) l.length (Array.replicate l.length false) I e M a { w with drawn := w.drawn + 1 } (.refl I) h h1 h2 h3
   (h4.of_same (fun _ _ => rfl) (fun _ _ => rfl) rfl rfl rfl)
  simpa using this
theorem zbV [Tracks] {id : Nat} {l : List Oper} {e : Env} {M : List MObj} {Q : Exit → Env → List MObj → Prop} (S : List MObj → Prop) (ld : List Nat) (hm : P.follows .mixedOrders = true)
 (h : HAny P l.toArray n S ld (fun e M => Q .normal e M) l.length (Array.replicate l.length false) e M) : HWp P n (.region id l.toArray true) e M Q :=
 fun I F a w h1 h2 h3 h4 => by
  refine wp_region_any hm ?_
  have := HAny.sound (Q := Post P n I F Q) (fun J e M a w hl hK hd hn he hs => ⟨hd, hn, J, e, M, hl, hK, he, hs⟩) l.length (Array.replicate l.length false) I e M a { w with drawn := w.drawn + 1 } (.refl I) h h1 h2 h3
   (h4.of_same (fun _ _ => rfl) (fun _ _ => rfl) rfl rfl rfl)
  simpa using this

/-! what an operation looks at -/
theorem zm1 [Tracks] {e : Env} {x : Operand} {d : Option Tmp} {h : HVal} (hx : ∀ t, d = some t → x ≠ .tmp t) : zu (zci e d h) x = zu e x := by
 cases d with
 | none => rfl
 | some d =>
   cases x with
   | tmp t =>
     have : t ≠ d := fun hh => hx d rfl (by rw [hh])
     simp only [zu, zci]
     exact zdi _ _ this
   | _ => rfl
theorem zmJ {o : Oper} {t : Tmp} (h : Operand.tmp t ∈ o.op.operands) : t ∈ o.looksAt ops :=
 List.mem_append_left _ (List.mem_filterMap.2 ⟨.tmp t, by simpa using h, rfl⟩)
theorem Opds.put [Tracks] {I : Imm} {e : Env} {a : Act} {o : Oper} {d : Option Tmp} {h : HVal} (hd : ∀ t, d = some t → t ∉ o.looksAt ops) : Opds I (zci e d h) a o ↔ Opds I e a o := by
 constructor
 ·intro ho x hx c hc
  refine ho x hx c ?_
  rw [zm1 fun t ht hxt => hd t ht (by subst hxt; exact zmJ hx)]; exact hc
 ·intro ho x hx c hc
  refine ho x hx c ?_
  rw [zm1 fun t ht hxt => hd t ht (by subst hxt; exact zmJ hx)] at hc; exact hc
theorem WantIs.put [Tracks] {e : Env} {o : Oper} {d : Option Tmp} {h : HVal} {c : Bool} (hd : ∀ t, d = some t → t ∉ o.looksAt ops) : WantIs ops (zci e d h) o c ↔ WantIs ops e o c := by
 unfold WantIs
 cases hg : o.guard with
 | none => simp
 | some p =>
   obtain ⟨j, want⟩ := p
   have : zdP ops (zci e d h) j want = zdP ops e j want := by
    unfold zdP
    cases hj : (ops[j]?).bind (·.dst) with
    | none => rfl
    | some t =>
      cases d with
      | none => rfl
      | some d =>
        have hne : t ≠ d := fun hh => hd d rfl (by subst hh; simp [Oper.looksAt, hg, hj])
        simp only [zci]
        rw [zdi _ _ hne]
   simp only [this]

/-- An operation that yields what reads as h, whenever it is carried out where T holds of the objects. -/
def DStep [Tracks] (P : Program) (ops : Array Oper) (T : List MObj → Prop) (e : Env) (o : Oper) (h : HVal) : Prop :=
 ∃ c, WantIs ops e o c ∧ (c = true → ∀ M, T M → EOp P e M o fun x M' => x = h ∧ M' = M) ∧ (c = false → ∃ x, h = .opt false x)

theorem DStep.put [Tracks] {T : List MObj → Prop} {e : Env} {o : Oper} {h x : HVal} {d : Option Tmp} (hd : ∀ t, d = some t → t ∉ o.looksAt ops) (hs : DStep P ops T e o h) : DStep P ops T (zci e d x) o h := by
 obtain ⟨c, h1, h2, h3⟩ := hs
 exact ⟨c, (WantIs.put hd).2 h1, fun hc M hM I F a w ho hsat => h2 hc M hM I F a w ((Opds.put hd).1 ho) hsat, h3⟩

theorem DStep.hop [Tracks] {T : List MObj → Prop} {e : Env} {o : Oper} {h : HVal} {M : List MObj} {K' : Env → List MObj → Prop} (hs : DStep P ops T e o h) (hdst : ∀ t, o.dst = some t → t < n) (hT : T M) (k : K' (zci e o.dst h) M) : HOp P ops n o e M K' := by
 obtain ⟨c, h1, h2, h3⟩ := hs
 refine ⟨hdst, c, h1, fun hc => (h2 hc M hT).mono ?_, fun hc => ?_⟩
 ·rintro x M' ⟨rfl, rfl⟩; exact k
 ·obtain ⟨x, rfl⟩ := h3 hc
  exact ⟨x, k⟩

theorem HOp.put [Tracks] {e : Env} {o : Oper} {h : HVal} {d : Option Tmp} {M : List MObj} {K' : Env → List MObj → Prop} (hd : ∀ t, d = some t → t ∉ o.looksAt ops) (hne : ∀ t, d = some t → o.dst ≠ some t)
 (hh : HOp P ops n o (zci e d h) M K') : HOp P ops n o e M fun e' M' => K' (zci e' d h) M' := by
 obtain ⟨h1, c, h2, h3, h4⟩ := hh
 refine ⟨h1, c, (WantIs.put hd).1 h2, fun hc I F a w ho hs => ?_, fun hc => ?_⟩
 ·have := h3 hc I F a w ((Opds.put hd).2 ho) hs
  refine Oper.wp_noQ ?_ this
  rintro a' w' ⟨v, x, M', J, p1, p2, p3, p4, p5⟩
  exact ⟨v, x, M', J, p1, p2, by show K' (zci (zci e o.dst x) d h) M'; rw [zm8 e x h (fun t ht h' => hne t h' ht)]; exact p3, p4, p5⟩
 ·obtain ⟨x, hx⟩ := h4 hc
  exact ⟨x, by show K' (zci (zci e o.dst (.opt false x)) d h) M; rw [zm8 e _ h (fun t ht h' => hne t h' ht)]; exact hx⟩

theorem HOp.mono [Tracks] {e : Env} {o : Oper} {M : List MObj} {K1 K2 : Env → List MObj → Prop} (hk : ∀ e M, K1 e M → K2 e M) (h : HOp P ops n o e M K1) : HOp P ops n o e M K2 := by
 obtain ⟨h1, c, h2, h3, h4⟩ := h
 exact ⟨h1, c, h2, fun hc => (h3 hc).mono fun _ _ h => hk _ _ h, fun hc => let ⟨x, hx⟩ := h4 hc; ⟨x, hk _ _ hx⟩⟩
theorem HOp.and [Tracks] {e : Env} {o : Oper} {M : List MObj} {K1 : Env → List MObj → Prop} (h : HOp P ops n o e M K1) : HOp P ops n o e M fun e' M' => K1 e' M' ∧ ∃ x, e' = zci e o.dst x := by
 obtain ⟨h1, c, h2, h3, h4⟩ := h
 exact ⟨h1, c, h2, fun hc => (h3 hc).mono fun x _ h => ⟨h, x, rfl⟩, fun hc => let ⟨x, hx⟩ := h4 hc; ⟨x, hx, _, rfl⟩⟩

theorem HAny.first [Tracks] {T : List MObj → Prop} {i : Nat} {oi : Oper} {h : HVal} (hi : ops[i]? = some oi) (hdst : ∀ t, oi.dst = some t → t < n) (hT : (∀ M, T M) ∨ (T = S ∧ i ∈ ld)) :
 ∀ (fuel : Nat) (listed : Array Bool) (e : Env) (M : List MObj),
  (∀ j oj, ops[j]? = some oj → j ≠ i → listed.getD j true = false → (∀ ed ∈ oj.after, Region.binds .any ed = true → ed.on ≠ i) → oi.apart ops oj = true) →
  i ∈ Region.ready .any ops listed → DStep P ops T e oi h → T M →
  HAny P ops n S ld K fuel (listed.setIfInBounds i true) (zci e oi.dst h) M → HAny P ops n S ld K (fuel + 1) listed e M := by
 intro fuel
 induction fuel with
 | zero =>
   intro listed e M _ hr hd hTM H
   refine ⟨fun h => (by rw [h] at hr; cases hr), fun j hj o ho => ?_⟩
   by_cases hji : j = i
   ·subst hji
    rw [hi] at ho; cases ho
    exact hd.hop hdst hTM ⟨fun hS => .inl hS, H⟩
   ·have := ready_mono hj hji
    rw [H.1] at this
    cases this
 | succ fuel ih =>
   intro listed e M hfree hr hd hTM H
   refine ⟨fun h => (by rw [h] at hr; cases hr), fun j hj o ho => ?_⟩
   by_cases hji : j = i
   ·subst hji
    rw [hi] at ho; cases ho
    exact hd.hop hdst hTM ⟨fun hS => .inl hS, H⟩
   ·have h1 := H.2 j (ready_mono hj hji) o ho
    obtain ⟨hjun, oj, hoj, hall⟩ := mem_ready.1 hj
    rw [ho] at hoj; cases hoj
    have hnot : ∀ ed ∈ o.after, Region.binds .any ed = true → ed.on ≠ i := fun ed he hb heq => by
     have h1 := hall ed he hb
     have h0 := (mem_ready.1 hr).1
     rw [heq] at h1
     rcases Nat.lt_or_ge i listed.size with h' | h'
     ·simp [h'] at h0 h1; rw [h0] at h1; cases h1
     ·simp [Array.getElem?_eq_none h'] at h1
    obtain ⟨a1, a2, a3⟩ := Oper.apart_spec (hfree j o ho hji hjun hnot)
    have hfree' : ∀ k ok, ops[k]? = some ok → k ≠ i → (listed.setIfInBounds j true).getD k true = false →
     (∀ ed ∈ ok.after, Region.binds .any ed = true → ed.on ≠ i) → oi.apart ops ok = true := fun k ok hk hki hun hno => by
     refine hfree k ok hk hki ?_ hno
     by_cases hjk : j = k
     ·subst hjk; exact hjun
     ·rw [getD_set_ne true hjk] at hun; exact hun
    have h2 := (HOp.put a1 a2 h1).and
    refine h2.mono ?_
    rintro e' M' ⟨⟨hS, hA⟩, x, rfl⟩
    refine ⟨hS, ih (listed.setIfInBounds j true) _ M' hfree' (ready_mono hr (Ne.symm hji)) (hd.put a3) ?_ ?_⟩
    ·rcases hT with hT | ⟨rfl, hl⟩
     ·exact hT M'
     ·rcases hS hTM with h' | h'
      ·exact h'
      ·obtain ⟨ed, he, hb, hon⟩ := h' i hl
       exact absurd hon (hnot ed he hb)
    ·rw [Array.setIfInBounds_comm _ _ hji]
     exact hA

/-! as the scripts use it -/
variable {e : Env} {M : List MObj} {listed : Array Bool} {fuel : Nat} {d : Nat} {op : Op} {ty : TypeId} {pos : String} {af : Array Edge} {h : HVal}

/-- A pure operation is taken first. -/
theorem ahp [Tracks] (i : Nat) (hi : ops[i]? = some ⟨some d, op, ty, pos, af, none⟩) (hd : Nat.blt d n = true) (hf : Region.free .any ops listed i = true) (hr : (Region.ready .any ops listed).contains i = true)
 (hp : POp P e ⟨some d, op, ty, pos, af, none⟩ h) (k : HAny P ops n S ld K fuel (listed.setIfInBounds i true) (upd e d h) M) : HAny P ops n S ld K (fuel + 1) listed e M :=
 HAny.first (T := fun _ => True) hi (fun t ht => by simp at ht; subst ht; exact zdN hd) (.inl fun _ => trivial) fuel listed e M (Region.free_spec hi hf) (by simpa using hr)
  ⟨true, rfl, fun _ M _ => hp.eop ⟨rfl, rfl⟩, fun h => by cases h⟩ trivial k
/-- A pure operation under a guard. -/
theorem ahg [Tracks] (i : Nat) {j : Nat} {want c : Bool} (hi : ops[i]? = some ⟨some d, op, ty, pos, af, some (j, want)⟩) (hd : Nat.blt d n = true) (hf : Region.free .any ops listed i = true) (hr : (Region.ready .any ops listed).contains i = true)
 (hg : zdP ops e j want = some c) (hp : c = true → ∃ e2, OpenTo e e2 ∧ POp P e2 ⟨some d, op, ty, pos, af, some (j, want)⟩ h)
 (k : HAny P ops n S ld K fuel (listed.setIfInBounds i true) (upd e d (.opt c h)) M) : HAny P ops n S ld K (fuel + 1) listed e M :=
 HAny.first (T := fun _ => True) hi (fun t ht => by simp at ht; subst ht; exact zdN hd) (.inl fun _ => trivial) fuel listed e M (Region.free_spec hi hf) (by simpa using hr)
  ⟨c, hg, fun hc M _ => by
   obtain ⟨e2, h1, h2⟩ := hp hc
   intro I F a w ho hs
   exact Oper.wp_noQ (fun _ _ ⟨v, J, h3, h4, h5, h6⟩ => ⟨v, .opt c h, M, J, h3, h4, ⟨rfl, rfl⟩, .opt (fun _ => h5) (fun hf => by rw [hc] at hf; cases hf), h6⟩) ((h2.open h1) I (M ++ F) a w ho hs),
   fun hc => ⟨h, by rw [hc]⟩⟩ trivial k
/-- A load out of owned objects of which S knows enough is taken first. -/
theorem ahl [Tracks] (i : Nat) (hi : ops[i]? = some ⟨some d, op, ty, pos, af, none⟩) (hd : Nat.blt d n = true) (hf : Region.free .any ops listed i = true) (hr : (Region.ready .any ops listed).contains i = true) (hl : i ∈ ld) (hS : S M)
 (hp : ∀ M, S M → EOp P e M ⟨some d, op, ty, pos, af, none⟩ fun x M' => x = h ∧ M' = M) (k : HAny P ops n S ld K fuel (listed.setIfInBounds i true) (upd e d h) M) : HAny P ops n S ld K (fuel + 1) listed e M :=
 HAny.first (T := S) hi (fun t ht => by simp at ht; subst ht; exact zdN hd) (.inr ⟨rfl, hl⟩) fuel listed e M (Region.free_spec hi hf) (by simpa using hr)
  ⟨true, rfl, fun _ M hM => hp M hM, fun h => by cases h⟩ hS k
/-- The one operation that can come next. -/
theorem ahe [Tracks] (i : Nat) {o : Oper} (hi : ops[i]? = some o) (hr : Region.ready .any ops listed = [i]) (k : HOp P ops n o e M fun e' M' => (S M → S M' ∨ zbC ld o) ∧ HAny P ops n S ld K fuel (listed.setIfInBounds i true) e' M') :
 HAny P ops n S ld K (fuel + 1) listed e M :=
 ⟨fun h => (by rw [hr] at h; cases h), fun j hj o' ho' => by rw [hr] at hj; simp at hj; subst hj; rw [hi] at ho'; cases ho'; exact k⟩
theorem zmo [Tracks] (i i' : Nat) {o o' : Oper} (hi : ops[i]? = some o) (hi' : ops[i']? = some o') (hr : Region.ready .any ops listed = [i, i'])
 (k : HOp P ops n o e M fun e' M' => (S M → S M' ∨ zbC ld o) ∧ HAny P ops n S ld K fuel (listed.setIfInBounds i true) e' M')
 (k' : HOp P ops n o' e M fun e' M' => (S M → S M' ∨ zbC ld o') ∧ HAny P ops n S ld K fuel (listed.setIfInBounds i' true) e' M') : HAny P ops n S ld K (fuel + 1) listed e M :=
 ⟨fun h => (by rw [hr] at h; cases h), fun j hj q hq => by
  rw [hr] at hj; simp at hj
  rcases hj with rfl | rfl
  ·rw [hi] at hq; cases hq; exact k
  ·rw [hi'] at hq; cases hq; exact k'⟩
/-- The end. -/
theorem ahz [Tracks] (hr : Region.ready .any ops listed = []) (k : K e M) : HAny P ops n S ld K fuel listed e M := by
 cases fuel with
 | zero => exact ⟨hr, k⟩
 | succ f => exact ⟨fun _ => k, by rw [hr]; simp⟩
theorem zH [Tracks] {rest : Env → List MObj → Prop} (hd : Nat.blt d n = true) (hp : EOp P e M ⟨some d, op, ty, pos, af, none⟩ fun h M' => rest (upd e d h) M') : HOp P ops n ⟨some d, op, ty, pos, af, none⟩ e M rest :=
 ⟨fun t ht => by simp at ht; subst ht; exact zdN hd, true, rfl, fun _ => hp, fun h => by cases h⟩
theorem zau [Tracks] {rest : Env → List MObj → Prop} (hp : EOp P e M ⟨none, op, ty, pos, af, none⟩ fun _ M' => rest e M') : HOp P ops n ⟨none, op, ty, pos, af, none⟩ e M rest :=
 ⟨fun t ht => by simp at ht, true, rfl, fun _ => hp, fun h => by cases h⟩
end
end
section
theorem zL {α : Type} {M N : List α} (h : M = N) : M.Perm N := h ▸ List.Perm.refl _
theorem Ghost.fc0 [Tracks] {e : Env} {M : List MObj} {b off : Nat} {cs : List HVal} (t : Nat) (ht : e t = some (.raw (.pointer (some ⟨b, off, none⟩)))) : Ghost e (.cells b cs :: M) (upd e t (.vptr cs off)) M :=
 Ghost.fc (i := 0) t rfl ht
theorem Ghost.fa0 [Tracks] {e : Env} {M : List MObj} {v : Value} {sz : Nat} {es : List HVal} (t : Nat) (ht : e t = some (.raw v)) : Ghost e (.arr v sz es :: M) (upd e t (.slice sz es)) M :=
 Ghost.fa (i := 0) t rfl ht
theorem Ghost.of_eq [Tracks] {e : Env} {M M' : List MObj} (h : M = M') : Ghost e M e M' := h ▸ Ghost.sub (Sub.refl _)
section
variable {P : Program} {e : Env} {dst : Option Tmp} {ty : TypeId} {pos : String} {af : Array Edge} {g : Option (Nat × Bool)} {M : List MObj} {K : HVal → List MObj → Prop}
theorem zom {cs hs : List HVal} (h : hs.length = cs.length) : z8 cs 0 hs = hs := by
 simp [z8, h]
/-- A new variable is given its first value. -/
theorem zag [Tracks] {x y : Operand} {t : TypeId} {d : TD} {size bytes : Nat} {zero : Value} {b : Nat} {cs : List HVal} {h : HVal} (hf : Fits P t d size bytes zero)
 (hx : zu e x = some (.raw (.pointer (some ⟨b, 0, none⟩)))) (hy : zu e y = some h) (ho : zdz size h = true) (hfl : zaD (zm h) = true) (hc : cs.length = size)
 (hk : K .junk (.cells b (zm h) :: M)) : EOp P e (.cells b cs :: M) ⟨dst, .store t x y, ty, pos, af, g⟩ K := by
 obtain ⟨h1, _⟩ := zcB ho
 refine zx (i := 0) hf hx hy rfl ho hfl (by omega) ?_
 rw [zom (by omega)]
 exact hk
end
section
variable {P : Program} {n : Nat} {e e' : Env} {M M' : List MObj} {Q Q' : Exit → Env → List MObj → Prop} {c c' : Code}
def zrV {α β : Type} (e : Env) (ks : List Nat) (W : α → β → List (Nat × HVal)) (MM : α → β → List MObj) (Iv : α → β → Prop) (μ : α → β → Nat) (x : α) (y : β) (Q : Exit → Env → List MObj → Prop) : Exit → Env → List MObj → Prop
 | .normal, e', M => ∃ j k, Iv j k ∧ μ j k < μ x y ∧ zcT e' (W j k) ∧ zd3 ks e e' ∧ M.Perm (MM j k)
 | z, e', M => Q z e' M
theorem za3 {α β : Type} {e0 : Env} {ks : List Nat} {W : α → β → List (Nat × HVal)} {MM : α → β → List MObj} {Iv : α → β → Prop} {μ : α → β → Nat} {x : α} {y : β} {id : Nat} (h : Q (.exit id) e M) :
 zrV e0 ks W MM Iv μ x y Q (.exit id) e M := h
theorem zaS [Tracks] {α β : Type} (ks : List Nat) (W : α → β → List (Nat × HVal)) (MM : α → β → List MObj) (Iv : α → β → Prop) (μ : α → β → Nat) (x : α) (y : β) (h0 : Iv x y) (hW : zcT e (W x y)) (hM : M.Perm (MM x y))
 (hb : ∀ x y, Iv x y → HWp P n c (loopE e ks (W x y)) (MM x y) (zrV e ks W MM Iv μ x y Q)) : HWp P n (.loop c) e M Q := by
 refine zZ (ι := α × β) ks (fun p => W p.1 p.2) (fun p => MM p.1 p.2) (fun p => Iv p.1 p.2) (fun p => μ p.1 p.2) (x, y) h0 hW hM fun p hp => zf2 (hb p.1 p.2 hp) ?_
 intro z e1 M1 hq
 cases z with
 | normal => obtain ⟨j, k, h⟩ := hq; exact ⟨(j, k), h⟩
 | _ => exact hq
def zrm {α β γ : Type} (e : Env) (ks : List Nat) (W : α → β → γ → List (Nat × HVal)) (MM : α → β → γ → List MObj) (Iv : α → β → γ → Prop) (μ : α → β → γ → Nat) (x : α) (y : β) (u : γ) (Q : Exit → Env → List MObj → Prop) : Exit → Env → List MObj → Prop
 | .normal, e', M => ∃ j k l, Iv j k l ∧ μ j k l < μ x y u ∧ zcT e' (W j k l) ∧ zd3 ks e e' ∧ M.Perm (MM j k l)
 | z, e', M => Q z e' M
theorem zeA {α β γ : Type} {e0 : Env} {ks : List Nat} {W : α → β → γ → List (Nat × HVal)} {MM : α → β → γ → List MObj} {Iv : α → β → γ → Prop} {μ : α → β → γ → Nat} {x : α} {y : β} {u : γ} {id : Nat} (h : Q (.exit id) e M) :
 zrm e0 ks W MM Iv μ x y u Q (.exit id) e M := h
theorem zdn [Tracks] {α β γ : Type} (ks : List Nat) (W : α → β → γ → List (Nat × HVal)) (MM : α → β → γ → List MObj) (Iv : α → β → γ → Prop) (μ : α → β → γ → Nat) (x : α) (y : β) (u : γ) (h0 : Iv x y u) (hW : zcT e (W x y u)) (hM : M.Perm (MM x y u))
 (hb : ∀ x y u, Iv x y u → HWp P n c (loopE e ks (W x y u)) (MM x y u) (zrm e ks W MM Iv μ x y u Q)) : HWp P n (.loop c) e M Q := by
 refine zZ (ι := α × β × γ) ks (fun p => W p.1 p.2.1 p.2.2) (fun p => MM p.1 p.2.1 p.2.2) (fun p => Iv p.1 p.2.1 p.2.2) (fun p => μ p.1 p.2.1 p.2.2) (x, y, u) h0 hW hM fun p hp => zf2 (hb p.1 p.2.1 p.2.2 hp) ?_
 intro z e1 M1 hq
 cases z with
 | normal => obtain ⟨j, k, l, h⟩ := hq; exact ⟨(j, k, l), h⟩
 | _ => exact hq
end
/-- A function that yields a new slice of its own. -/
def zon [Tracks] (P : Program) (f : FuncId) (hargs : List HVal) (sz : Nat) (es : List HVal) : Prop := Con P f hargs [] fun x M' => ∃ v, x = .raw v ∧ M' = [.arr v sz es]
theorem zuS [Tracks] {rs : List ResultVar} {e : Env} {v : Value} {sz : Nat} {es es' : List HVal} (hr : zgQ e rs = some (.raw v)) (hh : es = es') : zir rs (fun x M' => ∃ v, x = .raw v ∧ M' = [.arr v sz es']) .ret e [.arr v sz es] :=
 ⟨e, _, Ghost.sub (Sub.refl _), _, _, hr, Weak.refl _, v, rfl, by rw [hh]⟩
theorem ziC [Tracks] {rs : List ResultVar} {e : Env} {M : List MObj} {v : Value} {sz : Nat} {es : List HVal} {h h' : HVal} (t : Nat) (ht : e t = some (.raw v)) (hr : zgQ (upd e t (.slice sz es)) rs = some h) (hh : h = h') :
 zir rs (fun x M' => x = h' ∧ M' = []) .ret e [.arr v sz es] :=
 ⟨_, _, Ghost.fa0 t ht, h, h, hr, Weak.refl _, hh, rfl⟩
theorem zeK [Tracks] {P : Program} {e : Env} {dst : Option Tmp} {ty : TypeId} {pos : String} {af : Array Edge} {g : Option (Nat × Bool)} {M : List MObj} {K : HVal → List MObj → Prop} {f : FuncId} {args : Array Operand} {ats : Array TypeId}
 {hs hs' : List HVal} {sz : Nat} {es : List HVal} (hc : Callable P f) (ha : zcK e args.toList = some hs) (hw : WeakL hs hs') (hp : zon P f hs' sz es) (hk : ∀ v, K (.raw v) (.arr v sz es :: M)) :
 EOp P e M ⟨dst, .call ⟨.value (.func f), args, ats⟩, ty, pos, af, g⟩ K := by
 have := (zhH (dst := dst) (ty := ty) (pos := pos) (af := af) (g := g) (ats := ats) hc ha hw hp).frame M
 refine EOp.mono ?_ this
 rintro h M' ⟨N, rfl, v, rfl, rfl⟩
 exact hk v
/-- A call on some of the owned objects. -/
theorem zbP [Tracks] {P : Program} {e : Env} {dst : Option Tmp} {ty : TypeId} {pos : String} {af : Array Edge} {g : Option (Nat × Bool)} {M M1 R : List MObj} {K Q : HVal → List MObj → Prop} {f : FuncId} {args : Array Operand} {ats : Array TypeId}
 {hs hs' : List HVal} (hc : Callable P f) (ha : zcK e args.toList = some hs) (hw : WeakL hs hs') (hm : M.Perm (M1 ++ R)) (hp : Con P f hs' M1 Q) (hk : ∀ h M', Q h M' → K h (M' ++ R)) :
 EOp P e M ⟨dst, .call ⟨.value (.func f), args, ats⟩, ty, pos, af, g⟩ K := by
 have := (zhH (dst := dst) (ty := ty) (pos := pos) (af := af) (g := g) (ats := ats) hc ha hw hp).frame R
 refine EOp.perm hm (EOp.mono ?_ this)
 rintro h M' ⟨N, rfl, hq⟩
 exact hk h N hq
end
section
section
variable {P : Program} {e : Env} {dst : Option Tmp} {ty : TypeId} {pos : String} {af : Array Edge} {g : Option (Nat × Bool)} {M : List MObj} {K : HVal → List MObj → Prop}

theorem zh1 {t el : TypeId} (hu : P.underlying t = some (.slice el)) (a : Option Addr) (n cap : Nat) (w : World) : (Op.equal t (.slice a n cap) (.slice none 0 0)).run P w = .ok a.isNone w := by
 have h : ∀ d, (Op.equalIn (d + 1) t (.slice a n cap) (.slice none 0 0)).run P w = .ok a.isNone w := fun d => by
  cases a <;> simp only [Op.equalIn, Sem.run_bind, run_underlying hu, Result.andThen_ok, Sem.run_pure, Option.isNone]
 exact h 9999
theorem zq2 [Tracks] {x y : Operand} {t t' el : TypeId} {size bytes sz : Nat} {zero : Value} {es : List HVal} (hf : Fits P t (.slice el) size bytes zero) (hx : zu e x = some (.slice sz es)) (hy : zu e y = some (.raw (.slice none 0 0)))
 (hk : ∀ b : Bool, (b = true → es = []) → K (.bool b) M) : EOp P e M ⟨dst, .binOp .eql t x y t', ty, pos, af, g⟩ K :=
 EOp.of_run fun I F a w ho hs => by
  have hv := ho.one (x := x) (by simp [Op.operands]) hx
  have h2 := (ho.one (x := y) (by simp [Op.operands]) hy).raw_inv
  obtain ⟨p, cap, h1⟩ := hv.slice_len
  refine ⟨.bool p.isNone, _, M, w, I, ?_, .refl I, hk p.isNone ?_, .bool _, hs⟩
  ·simp [execOp, h1, h2, eqGuard, binOp, zh1 hf.slice]
  ·intro hp
   rcases hv.slice_inv with ⟨rfl, _⟩ | ⟨b, off, cap', rc, el', fr, h3, _⟩
   ·rfl
   ·rw [h1] at h3
    simp at h3
    rw [h3.1] at hp
    simp at hp
theorem ztu [Tracks] {t el : TypeId} {size bytes sz b2 : Nat} {zero z2 : Value} {d : TD} (hf : Fits P t (.slice el) size bytes zero) (hel : Fits P el d sz b2 z2) (hk : ∀ v, K (.raw v) (.arr v sz [] :: M)) :
 EOp P e M ⟨dst, .buildSlice t 0 #[], ty, pos, af, g⟩ K :=
 EOp.of_run fun I F a w ho hs => by
  refine ⟨.slice (some ⟨w.heap.size, 0, none⟩) 0 0, _, _, push w (.cells #[] el (0, 0)), I, ?_, .refl I, hk _, .raw _ rfl, ?_⟩
  ·simp [execOp, Instr.buildSlice, run_underlying hf.slice, hel.run_sizeOf, Instr.fill, newRow]
   have : Array.range 0 = #[] := by simp [Array.range]
   rw [this, Array.map_empty]
  ·refine hs.new_own _ _ rfl (.inr ⟨w.heap.size, 0, 0, #[], el, (0, 0), rfl, by simp [push], Free.zero _, by simp, by simp, by simp, fun i j x c u h => by simp at h⟩)

theorem zjn [Tracks] {x y : Operand} {t t' : TypeId} {k k' : IntKind} {m n : Int} (hx : zu e x = some (.int k m)) (hy : zu e y = some (.int k' n)) (hn : 0 ≤ n) :
 POp P e ⟨dst, .binOp .shr t x y t', ty, pos, af, g⟩ (.int k (m.fdiv (2 ^ min n.toNat k.bits))) :=
 POp.of_val fun I a w ho => ⟨_, by
  have h1 := (ho.one (x := x) (by simp [Op.operands]) hx).int_inv
  have h2 := (ho.one (x := y) (by simp [Op.operands]) hy).int_inv
  have h3 : ¬ n < 0 := by omega
  simp [execOp, h1, h2, eqGuard, binOp, Op.shift, h3], .int _ _⟩

/-! equal structs of single cells -/
def eqH : HVal → HVal → Bool
 | .int _ a, .int _ b => a == b
 | .str a, .str b => a == b
 | .bool a, .bool b => a == b
 | _, _ => false
def zgs : List HVal → List HVal → Bool
 | [], [] => true
 | a :: r, b :: r' => eqH a b && zgs r r'
 | _, _ => false
/-- The two contents are scalars of the kind of the type. -/
def zdV : TD → HVal → HVal → Bool
 | .int k, .int k1 _, .int k2 _ => decide (k1 = k2)
 | .str, .str _, .str _ => true
 | .bool, .bool _, .bool _ => true
 | _, _, _ => false
def zjq (P : Program) : List (Nat × Nat) → Nat → List HVal → List HVal → Prop
 | [], _, [], [] => True
 | f :: fs, k, a :: r, b :: r' => f.1 = k ∧ (∃ d s by' z, Fits P f.2 d s by' z ∧ zdV d a b = true) ∧ zjq P fs (k + 1) r r'
 | _, _, _, _ => False

theorem zkr [Tracks] {t : TypeId} {d : TD} {s by' : Nat} {z : Value} (hf : Fits P t d s by' z) {a b : HVal} (hk : zdV d a b = true) {I : Imm} {u v : Value} (hu : V I a u) (hv : V I b v) (n : Nat) (w : World) :
 (Op.equalIn (n + 1) t u v).run P w = .ok (eqH a b) w := by
 cases d <;> cases a <;> cases b <;> first | (simp [zdV] at hk; done) | skip
 ·rw [hu.bool_inv, hv.bool_inv]
  simp only [Op.equalIn, Sem.run_bind, run_underlying hf.boolD, Result.andThen_ok, Sem.run_pure, eqH]
 ·simp [zdV] at hk
  subst hk
  rw [hu.int_inv, hv.int_inv]
  simp only [Op.equalIn, Sem.run_bind, run_underlying hf.intD, Result.andThen_ok, Sem.run_pure, eqH, if_true]
 ·rw [hu.str_inv, hv.str_inv]
  simp only [Op.equalIn, Sem.run_bind, run_underlying hf.strD, Result.andThen_ok, Sem.run_pure, eqH]
  congr 1
  rw [beq_toListBytes, ByteArray.toList_eq, ByteArray.toList_eq]

theorem zke [Tracks] {t : TypeId} {d : TD} {s by' : Nat} {z : Value} (hf : Fits P t d s by' z) (hd : d.isAgg = false) {cs : Array Value} {o : Nat} {v : Value} (hv : cs[o]? = some v) (w : World) : (part t cs o).run P w = .ok v w := by
 simp [part, hf.run_isAgg, hd, hv]
theorem zi0 {d : TD} {a b : HVal} (h : zdV d a b = true) : d.isAgg = false := by
 cases d <;> simp [zdV, TD.isAgg] at h ⊢

theorem ziX [Tracks] {I : Imm} {xs ys : Array Value} {cs ds : List HVal} (hx : VL I cs xs.toList) (hy : VL I ds ys.toList) (n : Nat) (w : World) :
 ∀ (fs : List Field) (k : Nat), (∀ f ∈ fs, f.name ≠ "_") → zjq P (fs.map fun f => (f.offset, f.type)) k (cs.drop k) (ds.drop k) → (Op.eqFields (n + 1) xs ys fs).run P w = .ok (zgs (cs.drop k) (ds.drop k)) w
 | [], k, _, hk => by
   simp only [List.map_nil] at hk
   cases hc : cs.drop k with
   | nil =>
     cases hd : ds.drop k with
     | nil => simp [Op.eqFields, zgs]
     | cons _ _ => rw [hc, hd] at hk; exact hk.elim
   | cons _ _ =>
     cases hd : ds.drop k with
     | nil => rw [hc, hd] at hk; exact hk.elim
     | cons _ _ => rw [hc, hd] at hk; exact hk.elim
 | f :: fs, k, hn, hk => by
   simp only [List.map_cons] at hk
   cases hc : cs.drop k with
   | nil =>
     cases hd : ds.drop k with
     | nil => rw [hc, hd] at hk; exact hk.elim
     | cons _ _ => rw [hc, hd] at hk; exact hk.elim
   | cons a r =>
     cases hd : ds.drop k with
     | nil => rw [hc, hd] at hk; exact hk.elim
     | cons b r' =>
       rw [hc, hd] at hk
       obtain ⟨h1, ⟨d, s, by', z, h2, h3⟩, h4⟩ := hk
       simp only at h1 h2
       have ha : cs[k]? = some a := by have := congrArg (fun l : List HVal => l[0]?) hc; simpa using this
       have hb : ds[k]? = some b := by have := congrArg (fun l : List HVal => l[0]?) hd; simpa using this
       obtain ⟨u, hu, hu'⟩ := hx.get ha
       obtain ⟨v, hv, hv'⟩ := hy.get hb
       have hr : cs.drop (k + 1) = r := by rw [← List.drop_drop (i := 1), hc]; rfl
       have hr' : ds.drop (k + 1) = r' := by rw [← List.drop_drop (i := 1), hd]; rfl
       have ih := ziX hx hy n w fs (k + 1) (fun f hf => hn f (by simp [hf])) (by rw [hr, hr']; exact h4)
       rw [hr, hr'] at ih
       subst h1
       have hag := zi0 h3
       simp only [Op.eqFields]
       rw [if_pos (hn f (by simp))]
       simp only [Sem.run_bind, zke h2 hag (by simpa using hu), zke h2 hag (by simpa using hv), Result.andThen_ok, zkr h2 h3 hu' hv' n]
       cases hq : eqH a b with
       | true => simp only [Bool.not_true, Bool.false_eq_true, if_false, ih, zgs, hq, Bool.true_and]
       | false => simp only [Bool.not_false, if_true, Sem.run_pure, zgs, hq, Bool.false_and]

/-- What the program's tables say of a struct type that is compared. -/
structure EqOk (P : Program) (t : TypeId) : Prop where
 held : P.stoodInHeld t = false
 guard : P.eqGuardType P.depth t = false
 names : (P.fieldsOf t).toList.all (fun f => f.name != "_") = true

theorem zgh [Tracks] {t : TypeId} {fs : List (Nat × Nat)} {s by' : Nat} {z : Value} (hf : Fits P t (.struct fs) s by' z) (hq : EqOk P t) {I : Imm} {xs ys : Array Value} {cs ds : List HVal} (hx : VL I cs xs.toList) (hy : VL I ds ys.toList)
 (hk : zjq P fs 0 cs ds) (w : World) : (Op.equal t (.agg xs) (.agg ys)).run P w = .ok (zgs cs ds) w := by
 obtain ⟨gs, h1, h2⟩ := hf.structD
 have h3 : P.fieldsOf t = gs := by simp [Program.fieldsOf, h1]
 have hn := hq.names
 rw [h3] at hn
 have h : ∀ n, (Op.equalIn (n + 2) t (.agg xs) (.agg ys)).run P w = .ok (zgs cs ds) w := fun n => by
  rw [run_equalIn_struct w (n + 1) t xs ys (by rw [h3]; exact h1) hq.held, h3]
  have := ziX (P := P) hx hy n w gs.toList 0 (fun f hf => by have := List.all_eq_true.1 hn f hf; simpa using this) (by rw [h2]; exact hk)
  simpa using this
 exact h 9998
theorem zih {op : BinOp} {t : TypeId} (hq : EqOk P t) {x y : Operand} {xs ys : Array Value} (w : World) : (eqGuard op t x y (.agg xs) (.agg ys)).run P w = .ok () w := by
 exact run_eqGuard_agg w op t x y xs ys hq.guard
theorem zsm [Tracks] {x y : Operand} {t t' : TypeId} {fs : List (Nat × Nat)} {s by' : Nat} {z : Value} {cs ds : List HVal} (hf : Fits P t (.struct fs) s by' z) (hq : EqOk P t) (hx : zu e x = some (.agg cs)) (hy : zu e y = some (.agg ds)) (hk : zjq P fs 0 cs ds) :
 POp P e ⟨dst, .binOp .eql t x y t', ty, pos, af, g⟩ (.bool (zgs cs ds)) :=
 POp.of_val fun I a w ho => by
  obtain ⟨xs, h1, h2⟩ := (ho.one (x := x) (by simp [Op.operands]) hx).agg_inv
  obtain ⟨ys, h3, h4⟩ := (ho.one (x := y) (by simp [Op.operands]) hy).agg_inv
  refine ⟨_, ?_, .bool _⟩
  simp only [execOp, h1, h3, Sem.run_bind, zih hq, Result.andThen_ok, binOp, zgh hf hq h2 h4 hk, Sem.run_pure]
theorem zqQ [Tracks] {f : FuncId} {fn : Func} {args : Array Operand} {ats : Array TypeId} {x y : Operand} {s u : List UInt8} (hf : P.funcs[f]? = some fn) (h1 : (fn.name == "runtime.NumGoroutine") = false) (h2 : fn.body.isNone = true)
 (h3 : (Extern.findNext fn).isNone = true) (h4 : Extern.find fn = some Extern.BytealgCompare.compare) (ha : args = #[x, y]) (hx : zu e x = some (.str s)) (hy : zu e y = some (.str u)) :
 POp P e ⟨dst, .call ⟨.value (.func f), args, ats⟩, ty, pos, af, g⟩ (.int .i64 (Lib.compareBytes s u)) :=
 POp.of_val fun I a w ho => by
  subst ha
  have e1 := (ho.one (x := x) (by simp [Op.operands, Call.operands]) hx).str_inv
  have e2 := (ho.one (x := y) (by simp [Op.operands, Call.operands]) hy).str_inv
  refine ⟨_, ?_, .int _ _⟩
  have h3' : Extern.findNext fn = none := by cases h : Extern.findNext fn with | none => rfl | some _ => rw [h] at h3; simp at h3
  have hcmp : (Extern.BytealgCompare.compare #[.string ⟨s.toArray⟩, .string ⟨u.toArray⟩]).run P w = .ok (.int .i64 (Lib.compareBytes s u)) w := by
   have := Lib.run_compareString (P := P) ⟨s.toArray⟩ ⟨u.toArray⟩ w
   simpa using this
  have hev : a.eval (.func f) = .func (.func f) #[] #[] := rfl
  have hmap : (#[x, y] : Array Operand).map a.eval = #[.string ⟨s.toArray⟩, .string ⟨u.toArray⟩] := by simp [e1, e2]
  have hargs : (#[] : Array Value) ++ #[.string ⟨s.toArray⟩, .string ⟨u.toArray⟩] ++ #[] = #[.string ⟨s.toArray⟩, .string ⟨u.toArray⟩] := rfl
  simp only [execOp, resolve, hev, hmap, Deferred.ofValue, invoke, callFunc, Sem.run_bind, Sem.run_pure, Result.andThen_ok, run_program, hf, h1, h2, h3', h4, Bool.false_eq_true, if_false, if_true, run_mark, hargs, hcmp]
end
end
end Go.HL
section
namespace Go.HL
/-- The first entry with that key. -/
def zan (s : List UInt8) : List (List UInt8 × HVal) → Option (Nat × HVal)
 | [] => none
 | (k, h) :: r => if s = k then some (0, h) else (zan s r).map fun p => (p.1 + 1, p.2)
def zdp (s : List UInt8) (h : HVal) (l : List (List UInt8 × HVal)) : List (List UInt8 × HVal) :=
 match zan s l with
 | some (j, _) => l.set j (s, h)
 | none => l ++ [(s, h)]
def sk (l : List (List UInt8 × HVal)) : List (HVal × HVal) := l.map fun p => (.str p.1, p.2)

theorem zjc (s k : List UInt8) : ((⟨s.toArray⟩ : ByteArray) == ⟨k.toArray⟩) = decide (s = k) := by
 rw [beq_toListBytes, ByteArray.toList_eq, ByteArray.toList_eq]
 simp
 rw [Bool.eq_iff_iff]; simp

theorem zoX {s : List UInt8} : ∀ {l : List (List UInt8 × HVal)} {j : Nat} {h : HVal}, zan s l = some (j, h) → l[j]? = some (s, h)
 | [], j, h, hh => by simp [zan] at hh
 | (k, x) :: r, j, h, hh => by
   simp only [zan] at hh
   by_cases hk : s = k
   ·rw [if_pos hk] at hh
    simp at hh
    obtain ⟨rfl, rfl⟩ := hh
    simp [hk]
   ·rw [if_neg hk] at hh
    cases hr : zan s r with
    | none => rw [hr] at hh; simp at hh
    | some p =>
      rw [hr] at hh
      simp at hh
      obtain ⟨rfl, rfl⟩ := hh
      simpa using zoX hr

theorem zfv [Tracks] {I : Imm} {s : List UInt8} : ∀ (es : List MapEntry) (ls : List (List UInt8 × HVal)) (i : Nat), es.length = ls.length →
 (∀ (j : Nat) (p : List UInt8 × HVal) (m : MapEntry), ls[j]? = some p → es[j]? = some m → m.key = .string ⟨p.1.toArray⟩ ∧ V I p.2 m.val) →
 (zan s ls = none → Instr.findNow .string (.string ⟨s.toArray⟩) es i = some none) ∧
 ∀ j h, zan s ls = some (j, h) → ∃ v, Instr.findNow .string (.string ⟨s.toArray⟩) es i = some (some (i + j, v)) ∧ V I h v
 | [], [], i, _, _ => ⟨fun _ => rfl, fun j h hh => by simp [zan] at hh⟩
 | [], _ :: _, i, hl, _ => by simp at hl
 | _ :: _, [], i, hl, _ => by simp at hl
 | m :: es, (k, x) :: ls, i, hl, hv => by
   obtain ⟨h1, h2⟩ := hv 0 (k, x) m rfl rfl
   simp only at h1
   have ih := zfv (I := I) (s := s) es ls (i + 1) (by simpa using hl) fun j p m a b => hv (j + 1) p m (by simpa using a) (by simpa using b)
   simp only [Instr.findNow, h1, Instr.sameNow, zjc]
   by_cases hk : s = k
   ·simp only [hk, decide_true]
    refine ⟨fun h => by simp [zan] at h, fun j h hh => ?_⟩
    simp [zan] at hh
    obtain ⟨rfl, rfl⟩ := hh
    exact ⟨m.val, rfl, h2⟩
   ·simp only [hk, decide_false]
    refine ⟨fun h => ih.1 ?_, fun j h hh => ?_⟩
    ·simp only [zan, if_neg hk] at h
     cases hr : zan s ls with
     | none => rfl
     | some p => rw [hr] at h; simp at h
    ·simp only [zan, if_neg hk] at hh
     cases hr : zan s ls with
     | none => rw [hr] at hh; simp at hh
     | some p =>
       rw [hr] at hh
       simp at hh
       obtain ⟨rfl, rfl⟩ := hh
       obtain ⟨v, g1, g2⟩ := ih.2 p.1 p.2 hr
       exact ⟨v, by rw [g1]; congr 3; omega, g2⟩

theorem zeY [Tracks] {I : Imm} {ls : List (List UInt8 × HVal)} {es : Array MapEntry} (hl : es.size = (sk ls).length)
 (hv : ∀ (i : Nat) (p : HVal × HVal) (m : MapEntry), (sk ls)[i]? = some p → es[i]? = some m → V I p.1 m.key ∧ V I p.2 m.val) :
 es.toList.length = ls.length ∧ ∀ (j : Nat) (p : List UInt8 × HVal) (m : MapEntry), ls[j]? = some p → es.toList[j]? = some m → m.key = .string ⟨p.1.toArray⟩ ∧ V I p.2 m.val := by
 refine ⟨by simpa [sk] using hl, fun j p m a b => ?_⟩
 obtain ⟨h1, h2⟩ := hv j (.str p.1, p.2) m (by simp [sk, a]) (by simpa using b)
 exact ⟨h1.str_inv, h2⟩

section
variable {P : Program} {e : Env} {dst : Option Tmp} {ty : TypeId} {pos : String} {af : Array Edge} {g : Option (Nat × Bool)} {M : List MObj} {K : HVal → List MObj → Prop}

theorem Fits.mapD [Tracks] {t : TypeId} {k el size bytes : Nat} {zero : Value} (h : Fits P t (.map k el) size bytes zero) : P.underlying t = some (.map k el) := by
 obtain ⟨x, h1, h2⟩ := h.underlying
 cases x <;> simp [zeQ] at h2
 obtain ⟨rfl, rfl⟩ := h2
 exact h1

theorem zbU [Tracks] {t : TypeId} (hk : ∀ b, K (.raw (.map (some b))) (.map b [] :: M)) : EOp P e M ⟨dst, .makeMap t none, ty, pos, af, g⟩ K :=
 EOp.of_run fun I F a w ho hs => by
  refine ⟨.map (some w.heap.size), _, _, push w (.map #[] 0), I, by simp [execOp, Instr.makeMap], .refl I, hk _, .raw _ rfl, ?_⟩
  exact hs.new_own _ _ rfl ⟨#[], 0, by simp [push], ⟨rfl, BornOk.nil⟩, fun i p m h => by simp at h⟩

theorem zbQ {kt : TypeId} (hu : P.underlying kt = some .string) (b : Bool) (s : ByteArray) (w : World) : (Instr.checkKey b 10000 kt (.string s)).run P w = .ok () w := by
 have h : ∀ n, (Instr.checkKey b (n + 1) kt (.string s)).run P w = .ok () w := fun n => by
  simp only [Instr.checkKey, Sem.run_bind, run_underlying hu, Result.andThen_ok, Sem.run_pure]
 exact h 9999
theorem zaK {w : World} {b : Nat} {es : Array MapEntry} {clk : Nat} (h : w.heap[b]? = some (.map es clk)) : (getObj b).run P w = .ok (.map es clk) w := by
 simp [getObj, Sem.run, h]

theorem zlm [Tracks] {x y : Operand} {t kt et : TypeId} {size bytes s2 b2 s3 b3 : Nat} {zero z2 z3 : Value} {d : TD} {i b : Nat} {ls : List (List UInt8 × HVal)} {s : List UInt8}
 (hf : Fits P t (.map kt et) size bytes zero) (hkt : Fits P kt .str s2 b2 z2) (het : Fits P et d s3 b3 z3) (hx : zu e x = some (.raw (.map (some b)))) (hy : zu e y = some (.str s)) (hm : M[i]? = some (.map b (sk ls)))
 (hk : K (match zan s ls with | some p => p.2 | none => zbp z3) M) : EOp P e M ⟨dst, .lookup t x y false, ty, pos, af, g⟩ K :=
 EOp.of_run fun I F a w ho hs => by
  have h1 := (ho.one (x := x) (by simp [Op.operands]) hx).raw_inv
  have h2 := (ho.one (x := y) (by simp [Op.operands]) hy).str_inv
  obtain ⟨es, clk, h3, h4, h5⟩ := hs.obj _ (List.mem_append_left _ (List.mem_of_getElem? hm))
  obtain ⟨h6, h7⟩ := zeY h4.1 h5
  obtain ⟨n1, n2⟩ := zfv (I := I) (s := s) es.toList ls 0 h6 h7
  cases hq : zan s ls with
  | none =>
    rw [hq] at hk
    refine ⟨z3, _, M, w, I, ?_, .refl I, hk, zc7 I z3, hs⟩
    simp only [execOp, h1, h2, Instr.lookup, Sem.run_bind, run_underlying hf.mapD, Result.andThen_ok, zaK h3, Sem.run_pure, zbQ hkt.strD, Instr.findKey, run_underlying hkt.strD, n1 hq, het.run_zero]
    simp
  | some p =>
    obtain ⟨j, h⟩ := p
    rw [hq] at hk
    obtain ⟨v, g1, g2⟩ := n2 j h hq
    refine ⟨v, _, M, w, I, ?_, .refl I, hk, g2, hs⟩
    simp only [execOp, h1, h2, Instr.lookup, Sem.run_bind, run_underlying hf.mapD, Result.andThen_ok, zaK h3, Sem.run_pure, zbQ hkt.strD, Instr.findKey, run_underlying hkt.strD, g1]
    simp

theorem zdq {w : World} {b : Nat} {es : Array MapEntry} {clk : Nat} (h : w.heap[b]? = some (.map es clk)) (o : Obj) : (setObj b o).run P w = .ok () { w with heap := w.heap.setIfInBounds b o } := by
 simp [setObj, Sem.run, h]

theorem zfK [Tracks] {x y z : Operand} {t kt et : TypeId} {size bytes s2 b2 : Nat} {zero z2 : Value} {i b : Nat} {ls : List (List UInt8 × HVal)} {s : List UInt8} {h : HVal}
 (hf : Fits P t (.map kt et) size bytes zero) (hkt : Fits P kt .str s2 b2 z2) (hx : zu e x = some (.raw (.map (some b)))) (hy : zu e y = some (.str s)) (hz : zu e z = some h) (hm : M[i]? = some (.map b (sk ls)))
 (hk : K .junk (M.set i (.map b (sk (zdp s h ls))))) : EOp P e M ⟨dst, .mapUpdate t x y z, ty, pos, af, g⟩ K :=
 EOp.of_skip fun I F a w ho hs => by
  have h1 := (ho.one (x := x) (by simp [Op.operands]) hx).raw_inv
  have h2 := (ho.one (x := y) (by simp [Op.operands]) hy).str_inv
  have h0 := ho.one (x := z) (by simp [Op.operands]) hz
  have hp := hs.pull hm
  obtain ⟨es, clk, h3, h4, h5⟩ := hp.obj _ List.mem_cons_self
  obtain ⟨h6, h7⟩ := zeY h4.1 h5
  obtain ⟨n1, n2⟩ := zfv (I := I) (s := s) es.toList ls 0 h6 h7
  have hlt : b < w.heap.size := by
   rcases Nat.lt_or_ge b w.heap.size with h' | h'
   ·exact h'
   ·simp [Array.getElem?_eq_none h'] at h3
  have fin : ∀ (es' : Array MapEntry) (clk' : Nat), es'.size = (sk (zdp s h ls)).length ∧ BornOk es' clk' →
   (∀ (i : Nat) (p : HVal × HVal) (m : MapEntry), (sk (zdp s h ls))[i]? = some p → es'[i]? = some m → V I p.1 m.key ∧ V I p.2 m.val) →
   Sat P I (M.set i (.map b (sk (zdp s h ls))) ++ F) { w with heap := w.heap.setIfInBounds b (.map es' clk') } := fun es' clk' e1 e2 => by
   refine Sat.unpull hm (hp.change (m' := .map b (sk (zdp s h ls))) (fun k hk hnk => ?_) (fun k hk => .inl hk) (by simp [MObj.blocks]) ⟨es', clk', by simp [hlt], e1, e2⟩ rfl rfl rfl)
   have : k ≠ b := by simpa [MObj.blocks] using hnk
   simp [Array.getElem?_setIfInBounds_ne (Ne.symm this)]
  cases hq : zan s ls with
  | none =>
    refine ⟨_, _, I, ?_, .refl I, hk, fin (es.push ⟨.string ⟨s.toArray⟩, a.eval z, clk⟩) (clk + 1) ?_ fun j p m a1 a2 => ?_⟩
    ·simp only [execOp, h1, h2, Instr.mapUpdate, Sem.run_bind, run_underlying hf.mapD, Result.andThen_ok, zaK h3, zbQ hkt.strD, Instr.findKey, run_underlying hkt.strD, n1 hq, Sem.run_pure, zdq h3]
    ·exact ⟨by simp [zdp, hq, sk]; simpa [sk] using h4.1, h4.2.push rfl⟩
    ·have hsz : es.size = ls.length := by simpa [sk] using h4.1
     simp only [zdp, hq, sk, List.map_append, List.map_cons, List.map_nil] at a1
     by_cases hj : j < ls.length
     ·rw [List.getElem?_append_left (by simpa using hj)] at a1
      rw [Array.getElem?_push, if_neg (by omega)] at a2
      exact h5 j p m (by simpa [sk] using a1) a2
     ·rw [List.getElem?_append_right (by simp; omega)] at a1
      rw [Array.getElem?_push] at a2
      by_cases hje : j = es.size
      ·rw [if_pos hje] at a2
       simp at a2
       subst a2
       have : j - (ls.map fun p => (HVal.str p.1, p.2)).length = 0 := by simp; omega
       rw [this] at a1
       simp at a1
       subst a1
       exact ⟨.str _, h0⟩
      ·rw [if_neg hje, Array.getElem?_eq_none (by omega)] at a2
       cases a2
  | some q =>
    obtain ⟨j0, h'⟩ := q
    obtain ⟨v, g1, g2⟩ := n2 j0 h' hq
    have hj0 := zoX hq
    have hjl := zC hj0
    have hsz : es.size = ls.length := by simpa [sk] using h4.1
    have hent : ∃ m0, es[j0]? = some m0 := ⟨es[j0], Array.getElem?_eq_getElem (by omega)⟩
    obtain ⟨m0, hm0⟩ := hent
    have hkey := (h7 j0 (s, h') m0 hj0 (by simpa using hm0)).1
    refine ⟨_, _, I, ?_, .refl I, hk, fin (es.modify j0 fun e => { e with key := .string ⟨s.toArray⟩, val := a.eval z }) clk ?_ fun j p m a1 a2 => ?_⟩
    ·have hstay : (Instr.keyThatStays (((es[j0]?).map (·.key)).getD (.string ⟨s.toArray⟩)) (.string ⟨s.toArray⟩)).run P w = .ok (.string ⟨s.toArray⟩) w := by
      rw [hm0]
      simp only [Option.map_some, Option.getD_some, hkey, Instr.keyThatStays]
      have hsb : Instr.sameBits 10000 (.string ⟨s.toArray⟩) (.string ⟨s.toArray⟩) = true := by
       have : ∀ n, Instr.sameBits n (.string ⟨s.toArray⟩) (.string ⟨s.toArray⟩) = true := fun n => by
        cases n <;> simp [Instr.sameBits, zjc]
       exact this _
      rw [if_pos hsb]; rfl
     simp only [execOp, h1, h2, Instr.mapUpdate, Sem.run_bind, run_underlying hf.mapD, Result.andThen_ok, zaK h3, zbQ hkt.strD, Instr.findKey, run_underlying hkt.strD, g1, Sem.run_pure, Nat.zero_add, hstay, zdq h3]
    ·exact ⟨by simp [zdp, hq, sk]; exact hsz, h4.2.modify _ fun _ => rfl⟩
    ·simp only [zdp, hq, sk] at a1
     rw [Array.getElem?_modify] at a2
     rw [List.getElem?_map, List.getElem?_set] at a1
     by_cases hj : j0 = j
     ·subst hj
      rw [if_pos rfl, hm0] at a2
      rw [if_pos rfl, if_pos hjl] at a1
      simp at a1 a2
      subst a1 a2
      exact ⟨.str _, h0⟩
     ·rw [if_neg hj] at a1 a2
      exact h5 j p m (by simpa [sk] using a1) a2

/-! a set of strings -/
def zbD (l : List (List UInt8)) : List (List UInt8 × HVal) := l.map fun s => (s, .bool true)
theorem zlb (s : List UInt8) : ∀ l : List (List UInt8), (match zan s (zbD l) with | some p => p.2 | none => HVal.bool false) = .bool (l.contains s) ∧ ((zan s (zbD l)).isSome = l.contains s) ∧ ∀ j h, zan s (zbD l) = some (j, h) → (zbD l).set j (s, .bool true) = zbD l
 | [] => by simp [zbD, zan]
 | x :: r => by
   have ih := zlb s r
   simp only [zbD, List.map_cons, zan] at ih ⊢
   by_cases hx : s = x
   ·subst hx; simp
   ·rw [if_neg hx]
    obtain ⟨i1, i2, i3⟩ := ih
    cases hq : zan s (List.map (fun s => (s, HVal.bool true)) r) with
    | none =>
      rw [hq] at i1 i2
      have hn : r.contains s = false := by simpa using i2.symm
      refine ⟨?_, ?_, fun j h hh => by simp at hh⟩
      ·simp only [Option.map_none, List.contains_cons, hn, Bool.or_false]
       simp [hx]
      ·simp only [Option.map_none, Option.isSome_none, List.contains_cons, hn, Bool.or_false]
       simp [hx]
    | some p =>
      rw [hq] at i1 i2
      have hn : r.contains s = true := by simpa using i2.symm
      refine ⟨?_, ?_, fun j h hh => ?_⟩
      ·simp only [Option.map_some, List.contains_cons, hn, Bool.or_true]
       rw [hn] at i1; exact i1
      ·simp only [Option.map_some, Option.isSome_some, List.contains_cons, hn, Bool.or_true]
      ·simp only [Option.map_some, Option.some.injEq, Prod.mk.injEq] at hh
       obtain ⟨rfl, rfl⟩ := hh
       have := i3 p.1 p.2 (by rw [hq])
       simp only [List.set_cons_succ, this]
def zcj (s : List UInt8) (l : List (List UInt8)) : List (List UInt8) := if l.contains s then l else l ++ [s]
theorem zrM [Tracks] (s : List UInt8) (l : List (List UInt8)) : zdp s (.bool true) (zbD l) = zbD (zcj s l) := by
 obtain ⟨_, i2, i3⟩ := zlb s l
 unfold zdp zcj
 cases hq : zan s (zbD l) with
 | none => rw [hq] at i2; simp at i2; simp [i2, zbD]
 | some p =>
   rw [hq] at i2
   have : l.contains s = true := by simpa using i2.symm
   simp only [this, if_true]
   exact i3 p.1 p.2 (by rw [hq])
end
end Go.HL
namespace Go.HL
section
variable {P : Program} {e : Env} {dst : Option Tmp} {ty : TypeId} {pos : String} {af : Array Edge} {g : Option (Nat × Bool)} {M : List MObj} {K : HVal → List MObj → Prop}
theorem zhg [Tracks] {x y z : Operand} {t kt et : TypeId} {size bytes s2 b2 : Nat} {zero z2 : Value} {i b : Nat} {l : List (List UInt8)} {s : List UInt8}
 (hf : Fits P t (.map kt et) size bytes zero) (hkt : Fits P kt .str s2 b2 z2) (hx : zu e x = some (.raw (.map (some b)))) (hy : zu e y = some (.str s)) (hz : zu e z = some (.bool true)) (hm : M[i]? = some (.map b (sk (zbD l))))
 (hk : K .junk (M.set i (.map b (sk (zbD (zcj s l)))))) : EOp P e M ⟨dst, .mapUpdate t x y z, ty, pos, af, g⟩ K := by
 refine zfK hf hkt hx hy hz hm ?_
 rw [zrM]; exact hk
theorem zeG [Tracks] {x : Operand} {t : TypeId} {d : TD} {size bytes : Nat} {zero : Value} {i b : Nat} {h : HVal} (hf : Fits P t d size bytes zero)
 (hx : zu e x = some (.raw (.pointer (some ⟨b, 0, none⟩)))) (hm : M[i]? = some (.cells b (zm h))) (hd : d.isAgg = true) (hh : h = .agg (zm h)) (hc : (zm h).length = size)
 (hk : K h M) : EOp P e M ⟨dst, .load t x, ty, pos, af, g⟩ K :=
 zP (h := h) hf hx hm (.inr ⟨hd, by omega, by rw [List.drop_zero, ← hc, List.take_length, ← hh]⟩) hk
/-- An element of an owned slice whose header is known. -/
theorem zab [Tracks] {x y : Operand} {t el : TypeId} {size bytes sz b2 : Nat} {zero z2 : Value} {d : TD} {b off n cap : Nat} {k : IntKind} {i : Int} {j : Nat}
 (hf : Fits P t (.slice el) size bytes zero) (hel : Fits P el d sz b2 z2) (hx : zu e x = some (.raw (.slice (some ⟨b, off, none⟩) n cap))) (hy : zu e y = some (.int k i)) (hi : i = (j : Int)) (hj : j < n) :
 POp P e ⟨dst, .indexAddr t x y, ty, pos, af, g⟩ (.raw (.pointer (some ⟨b, off + j * sz, none⟩))) :=
 POp.of_val fun I a w ho => by
  subst hi
  have h1 := (ho.one (x := x) (by simp [Op.operands]) hx).raw_inv
  have h2 := (ho.one (x := y) (by simp [Op.operands]) hy).int_inv
  exact ⟨_, by simp [execOp, h1, h2, zjT hf hel hj], .raw _ rfl⟩
end
section
variable {P : Program} {ops : Array Oper} {n : Nat} {K : Env → List MObj → Prop} {rest : List Oper} {e : Env} {M : List MObj} {d : Nat} {op : Op} {ty : TypeId} {pos : String} {af : Array Edge} {h : HVal}
/-- An operation under a guard that reads owned objects. -/
theorem dgl [Tracks] {j : Nat} {want c : Bool} (hd : Nat.blt d n = true) (hg : zdP ops e j want = some c) (hp : c = true → ∃ e2, OpenTo e e2 ∧ EOp P e2 M ⟨some d, op, ty, pos, af, some (j, want)⟩ fun x M' => x = h ∧ M' = M)
 (k : Der P ops n K rest (upd e d (.opt c h)) M) : Der P ops n K (⟨some d, op, ty, pos, af, some (j, want)⟩ :: rest) e M :=
 ⟨fun t ht => by simp at ht; subst ht; exact zdN hd, c, hg, fun hc => by
  obtain ⟨e2, h1, h2⟩ := hp hc
  intro I F a w ho hs
  exact Oper.wp_noQ (fun _ _ ⟨v, x, M', J, h3, h4, ⟨h5, h6⟩, h7, h8⟩ => ⟨v, .opt c h, M, J, h3, h4, k, .opt (fun _ => h5 ▸ h7) (fun hf => by rw [hc] at hf; cases hf), by subst h6; exact h8⟩) (h2 I F a w (ho.open h1) hs),
  fun hc => ⟨h, by subst hc; exact k⟩⟩
/-- The header of an owned slice is looked at. -/
theorem zup [Tracks] {c : Code} {Q : Exit → Env → List MObj → Prop} {i : Nat} {v : Value} {sz : Nat} {es : List HVal} (hm : M[i]? = some (.arr v sz es))
 (h0 : v = .slice none 0 0 → es = [] → HWp P n c e M Q) (h1 : ∀ b off cap, v = .slice (some ⟨b, off, none⟩) es.length cap → HWp P n c e M Q) : HWp P n c e M Q := fun I F a w a1 a2 a3 a4 => by
 rcases a4.obj _ (List.mem_append_left _ (List.mem_of_getElem? hm)) with ⟨g1, g2⟩ | ⟨b, off, cap, rc, el, fr, g1, _⟩
 ·exact h0 g1 g2 I F a w a1 a2 a3 a4
 ·exact h1 b off cap g1 I F a w a1 a2 a3 a4
end
end Go.HL
end
namespace Go.Proofs.YtcihcbnjfclkbaaGreatDoor
set_option maxRecDepth 100000
section
open Go.HL
theorem ty3 : Fits Tryz.prog 3 (.int .i64) 1 8 (.int .i64 0) := ⟨by kernel_rfl, by kernel_rfl⟩
theorem ty4 : Fits Tryz.prog 4 .bool 1 1 (.bool false) := ⟨by kernel_rfl, by kernel_rfl⟩
theorem ty5 : Fits Tryz.prog 5 (.int .u8) 1 1 (.int .u8 0) := ⟨by kernel_rfl, by kernel_rfl⟩
theorem ty9 : Fits Tryz.prog 9 .str 1 16 (.string ⟨#[]⟩) := ⟨by kernel_rfl, by kernel_rfl⟩
theorem zU : Fits Tryz.prog 22 (.slice 3) 1 24 (.slice none 0 0) := ⟨by kernel_rfl, by kernel_rfl⟩
theorem zgX : Fits Tryz.prog 25 (.struct [(0, 22), (1, 3)]) 2 32 (.agg #[.slice none 0 0, .int .i64 0]) := ⟨by kernel_rfl, by kernel_rfl⟩
theorem zG : Fits Tryz.prog 26 (.slice 9) 1 24 (.slice none 0 0) := ⟨by kernel_rfl, by kernel_rfl⟩
theorem z7 : Fits Tryz.prog 28 (.struct [(0, 26), (1, 3), (2, 3), (3, 3), (4, 3), (5, 3)]) 6 64 (.agg #[.slice none 0 0, .int .i64 0, .int .i64 0, .int .i64 0, .int .i64 0, .int .i64 0]) := ⟨by kernel_rfl, by kernel_rfl⟩
theorem zaV : Fits Tryz.prog 30 (.slice 65) 1 24 (.slice none 0 0) := ⟨by kernel_rfl, by kernel_rfl⟩
theorem zbj : Fits Tryz.prog 32 (.slice 57) 1 24 (.slice none 0 0) := ⟨by kernel_rfl, by kernel_rfl⟩
theorem zqF : Fits Tryz.prog 34 (.int .i64) 1 8 (.int .i64 0) := ⟨by kernel_rfl, by kernel_rfl⟩
theorem zqd : Fits Tryz.prog 40 (.slice 26) 1 24 (.slice none 0 0) := ⟨by kernel_rfl, by kernel_rfl⟩
theorem zef : Fits Tryz.prog 43 (.slice 52) 1 24 (.slice none 0 0) := ⟨by kernel_rfl, by kernel_rfl⟩
theorem zby : Fits Tryz.prog 52 (.struct [(0, 9), (1, 9), (2, 9)]) 3 48 (.agg #[.string ⟨#[]⟩, .string ⟨#[]⟩, .string ⟨#[]⟩]) := ⟨by kernel_rfl, by kernel_rfl⟩
theorem zaj : Fits Tryz.prog 57 (.struct [(0, 9), (1, 26)]) 2 40 (.agg #[.string ⟨#[]⟩, .slice none 0 0]) := ⟨by kernel_rfl, by kernel_rfl⟩
theorem zae : Fits Tryz.prog 65 (.struct [(0, 9), (1, 9)]) 2 32 (.agg #[.string ⟨#[]⟩, .string ⟨#[]⟩]) := ⟨by kernel_rfl, by kernel_rfl⟩
theorem zqq : Fits Tryz.prog 79 (.slice 34) 1 24 (.slice none 0 0) := ⟨by kernel_rfl, by kernel_rfl⟩
theorem zcD : Fits Tryz.prog 84 (.slice 4) 1 24 (.slice none 0 0) := ⟨by kernel_rfl, by kernel_rfl⟩
theorem zbm : Fits Tryz.prog 88 (.slice 22) 1 24 (.slice none 0 0) := ⟨by kernel_rfl, by kernel_rfl⟩
theorem zeD : Fits Tryz.prog 90 (.struct [(0, 88)]) 1 24 (.agg #[.slice none 0 0]) := ⟨by kernel_rfl, by kernel_rfl⟩
theorem znu : Fits Tryz.prog 110 (.slice 130) 1 24 (.slice none 0 0) := ⟨by kernel_rfl, by kernel_rfl⟩
theorem zaa : Fits Tryz.prog 114 (.struct [(0, 9), (1, 3), (2, 3), (3, 3), (4, 9), (5, 9), (6, 9), (7, 3), (8, 3)]) 9 104 (.agg #[.string ⟨#[]⟩, .int .i64 0, .int .i64 0, .int .i64 0, .string ⟨#[]⟩, .string ⟨#[]⟩, .string ⟨#[]⟩, .int .i64 0, .int .i64 0]) := ⟨by kernel_rfl, by kernel_rfl⟩
theorem zec : Fits Tryz.prog 115 (.slice 114) 1 24 (.slice none 0 0) := ⟨by kernel_rfl, by kernel_rfl⟩
theorem zb8 : Fits Tryz.prog 117 (.struct [(0, 26), (1, 3), (2, 3), (3, 26), (4, 3), (5, 3)]) 6 80 (.agg #[.slice none 0 0, .int .i64 0, .int .i64 0, .slice none 0 0, .int .i64 0, .int .i64 0]) := ⟨by kernel_rfl, by kernel_rfl⟩
theorem zaH : Fits Tryz.prog 123 (.struct [(0, 9), (1, 9), (2, 3)]) 3 40 (.agg #[.string ⟨#[]⟩, .string ⟨#[]⟩, .int .i64 0]) := ⟨by kernel_rfl, by kernel_rfl⟩
theorem zch : Fits Tryz.prog 124 (.slice 123) 1 24 (.slice none 0 0) := ⟨by kernel_rfl, by kernel_rfl⟩
theorem zcL : Fits Tryz.prog 126 (.struct [(0, 9), (1, 3)]) 2 24 (.agg #[.string ⟨#[]⟩, .int .i64 0]) := ⟨by kernel_rfl, by kernel_rfl⟩
theorem zhM : Fits Tryz.prog 127 (.slice 126) 1 24 (.slice none 0 0) := ⟨by kernel_rfl, by kernel_rfl⟩
theorem zfS : Fits Tryz.prog 128 (.slice 249) 1 24 (.slice none 0 0) := ⟨by kernel_rfl, by kernel_rfl⟩
theorem zkS : Fits Tryz.prog 130 (.struct [(0, 9), (1, 3), (2, 128)]) 3 48 (.agg #[.string ⟨#[]⟩, .int .i64 0, .slice none 0 0]) := ⟨by kernel_rfl, by kernel_rfl⟩
theorem zfs : Fits Tryz.prog 135 (.int .u64) 1 8 (.int .u64 0) := ⟨by kernel_rfl, by kernel_rfl⟩
theorem zqx : Fits Tryz.prog 141 (.ptr 28) 1 8 (.pointer none) := ⟨by kernel_rfl, by kernel_rfl⟩
theorem zvj : Fits Tryz.prog 148 .func 1 8 (.nilFunc) := ⟨by kernel_rfl, by kernel_rfl⟩
theorem zhz : Fits Tryz.prog 158 (.slice 220) 1 24 (.slice none 0 0) := ⟨by kernel_rfl, by kernel_rfl⟩
theorem znw : Fits Tryz.prog 160 (.slice 164) 1 24 (.slice none 0 0) := ⟨by kernel_rfl, by kernel_rfl⟩
theorem zgH : Fits Tryz.prog 164 (.struct [(0, 3), (1, 9), (2, 9)]) 3 40 (.agg #[.int .i64 0, .string ⟨#[]⟩, .string ⟨#[]⟩]) := ⟨by kernel_rfl, by kernel_rfl⟩
theorem zsX : Fits Tryz.prog 179 (.int .u64) 1 8 (.int .u64 0) := ⟨by kernel_rfl, by kernel_rfl⟩
theorem zgN : Fits Tryz.prog 183 (.arr 256 4) 256 256 (.agg #[.bool false, .bool false, .bool false, .bool false, .bool false, .bool false, .bool false, .bool false, .bool false, .bool false, .bool false, .bool false, .bool false, .bool false, .bool false, .bool false, .bool false, .bool false, .bool false, .bool false, .bool false, .bool false, .bool false, .bool false, .bool false, .bool false, .bool false, .bool false, .bool false, .bool false, .bool false, .bool false, .bool false, .bool false, .bool false, .bool false, .bool false, .bool false, .bool false, .bool false, .bool false, .bool false, .bool false, .bool false, .bool false, .bool false, .bool false, .bool false, .bool false, .bool false, .bool false, .bool false, .bool false, .bool false, .bool false, .bool false, .bool false, .bool false, .bool false, .bool false, .bool false, .bool false, .bool false, .bool false, .bool false, .bool false, .bool false, .bool false, .bool false, .bool false, .bool false, .bool false, .bool false, .bool false, .bool false, .bool false, .bool false, .bool false, .bool false, .bool false, .bool false, .bool false, .bool false, .bool false, .bool false, .bool false, .bool false, .bool false, .bool false, .bool false, .bool false, .bool false, .bool false, .bool false, .bool false, .bool false, .bool false, .bool false, .bool false, .bool false, .bool false, .bool false, .bool false, .bool false, .bool false, .bool false, .bool false, .bool false, .bool false, .bool false, .bool false, .bool false, .bool false, .bool false, .bool false, .bool false, .bool false, .bool false, .bool false, .bool false, .bool false, .bool false, .bool false, .bool false, .bool false, .bool false, .bool false, .bool false, .bool false, .bool false, .bool false, .bool false, .bool false, .bool false, .bool false, .bool false, .bool false, .bool false, .bool false, .bool false, .bool false, .bool false, .bool false, .bool false, .bool false, .bool false, .bool false, .bool false, .bool false, .bool false, .bool false, .bool false, .bool false, .bool false, .bool false, .bool false, .bool false, .bool false, .bool false, .bool false, .bool false, .bool false, .bool false, .bool false, .bool false, .bool false, .bool false, .bool false, .bool false, .bool false, .bool false, .bool false, .bool false, .bool false, .bool false, .bool false, .bool false, .bool false, .bool false, .bool false, .bool false, .bool false, .bool false, .bool false, .bool false, .bool false, .bool false, .bool false, .bool false, .bool false, .bool false, .bool false, .bool false, .bool false, .bool false, .bool false, .bool false, .bool false, .bool false, .bool false, .bool false, .bool false, .bool false, .bool false, .bool false, .bool false, .bool false, .bool false, .bool false, .bool false, .bool false, .bool false, .bool false, .bool false, .bool false, .bool false, .bool false, .bool false, .bool false, .bool false, .bool false, .bool false, .bool false, .bool false, .bool false, .bool false, .bool false, .bool false, .bool false, .bool false, .bool false, .bool false, .bool false, .bool false, .bool false, .bool false, .bool false, .bool false, .bool false, .bool false, .bool false, .bool false, .bool false, .bool false, .bool false, .bool false, .bool false, .bool false, .bool false, .bool false, .bool false, .bool false, .bool false, .bool false, .bool false, .bool false]) := ⟨by kernel_rfl, by kernel_rfl⟩
theorem zdI : Fits Tryz.prog 189 (.map 9 3) 1 8 (.map none) := ⟨by kernel_rfl, by kernel_rfl⟩
theorem zqz : Fits Tryz.prog 204 (.map 9 4) 1 8 (.map none) := ⟨by kernel_rfl, by kernel_rfl⟩
theorem ztp : Fits Tryz.prog 207 (.map 9 9) 1 8 (.map none) := ⟨by kernel_rfl, by kernel_rfl⟩
theorem ztf : Fits Tryz.prog 209 (.map 214 4) 1 8 (.map none) := ⟨by kernel_rfl, by kernel_rfl⟩
theorem znt : Fits Tryz.prog 212 (.map 216 3) 1 8 (.map none) := ⟨by kernel_rfl, by kernel_rfl⟩
theorem zgC : Fits Tryz.prog 214 (.struct [(0, 9), (1, 3)]) 2 24 (.agg #[.string ⟨#[]⟩, .int .i64 0]) := ⟨by kernel_rfl, by kernel_rfl⟩
theorem zhr : Fits Tryz.prog 216 (.struct [(0, 9), (1, 9)]) 2 32 (.agg #[.string ⟨#[]⟩, .string ⟨#[]⟩]) := ⟨by kernel_rfl, by kernel_rfl⟩
theorem zcf : Fits Tryz.prog 220 (.struct [(0, 3), (1, 9), (2, 9)]) 3 40 (.agg #[.int .i64 0, .string ⟨#[]⟩, .string ⟨#[]⟩]) := ⟨by kernel_rfl, by kernel_rfl⟩
theorem zs5 : Fits Tryz.prog 245 (.map 214 114) 1 8 (.map none) := ⟨by kernel_rfl, by kernel_rfl⟩
theorem zqe : Fits Tryz.prog 247 (.map 9 128) 1 8 (.map none) := ⟨by kernel_rfl, by kernel_rfl⟩
theorem zkP : Fits Tryz.prog 249 (.struct [(0, 9), (1, 3)]) 2 24 (.agg #[.string ⟨#[]⟩, .int .i64 0]) := ⟨by kernel_rfl, by kernel_rfl⟩
theorem pl25 : Places Tryz.prog [(0, 22), (1, 3)] [(0, 1), (1, 1)] := ⟨rfl, ⟨_, _, _, zU⟩, ⟨rfl, ⟨_, _, _, ty3⟩, trivial⟩⟩
theorem zkv : Places Tryz.prog [(0, 26), (1, 3), (2, 3), (3, 3), (4, 3), (5, 3)] [(0, 1), (1, 1), (2, 1), (3, 1), (4, 1), (5, 1)] := ⟨rfl, ⟨_, _, _, zG⟩, ⟨rfl, ⟨_, _, _, ty3⟩, ⟨rfl, ⟨_, _, _, ty3⟩, ⟨rfl, ⟨_, _, _, ty3⟩, ⟨rfl, ⟨_, _, _, ty3⟩, ⟨rfl, ⟨_, _, _, ty3⟩, trivial⟩⟩⟩⟩⟩⟩
theorem pl52 : Places Tryz.prog [(0, 9), (1, 9), (2, 9)] [(0, 1), (1, 1), (2, 1)] := ⟨rfl, ⟨_, _, _, ty9⟩, ⟨rfl, ⟨_, _, _, ty9⟩, ⟨rfl, ⟨_, _, _, ty9⟩, trivial⟩⟩⟩
theorem pl57 : Places Tryz.prog [(0, 9), (1, 26)] [(0, 1), (1, 1)] := ⟨rfl, ⟨_, _, _, ty9⟩, ⟨rfl, ⟨_, _, _, zG⟩, trivial⟩⟩
theorem zrZ : Places Tryz.prog [(0, 9), (1, 9)] [(0, 1), (1, 1)] := ⟨rfl, ⟨_, _, _, ty9⟩, ⟨rfl, ⟨_, _, _, ty9⟩, trivial⟩⟩
theorem pl90 : Places Tryz.prog [(0, 88)] [(0, 1)] := ⟨rfl, ⟨_, _, _, zbm⟩, trivial⟩
theorem zu4 : Places Tryz.prog [(0, 9), (1, 3), (2, 3), (3, 3), (4, 9), (5, 9), (6, 9), (7, 3), (8, 3)] [(0, 1), (1, 1), (2, 1), (3, 1), (4, 1), (5, 1), (6, 1), (7, 1), (8, 1)] := ⟨rfl, ⟨_, _, _, ty9⟩, ⟨rfl, ⟨_, _, _, ty3⟩, ⟨rfl, ⟨_, _, _, ty3⟩, ⟨rfl, ⟨_, _, _, ty3⟩, ⟨rfl, ⟨_, _, _, ty9⟩, ⟨rfl, ⟨_, _, _, ty9⟩, ⟨rfl, ⟨_, _, _, ty9⟩, ⟨rfl, ⟨_, _, _, ty3⟩, ⟨rfl, ⟨_, _, _, ty3⟩, trivial⟩⟩⟩⟩⟩⟩⟩⟩⟩
theorem zuI : Places Tryz.prog [(0, 26), (1, 3), (2, 3), (3, 26), (4, 3), (5, 3)] [(0, 1), (1, 1), (2, 1), (3, 1), (4, 1), (5, 1)] := ⟨rfl, ⟨_, _, _, zG⟩, ⟨rfl, ⟨_, _, _, ty3⟩, ⟨rfl, ⟨_, _, _, ty3⟩, ⟨rfl, ⟨_, _, _, zG⟩, ⟨rfl, ⟨_, _, _, ty3⟩, ⟨rfl, ⟨_, _, _, ty3⟩, trivial⟩⟩⟩⟩⟩⟩
theorem zuM : Places Tryz.prog [(0, 9), (1, 9), (2, 3)] [(0, 1), (1, 1), (2, 1)] := ⟨rfl, ⟨_, _, _, ty9⟩, ⟨rfl, ⟨_, _, _, ty9⟩, ⟨rfl, ⟨_, _, _, ty3⟩, trivial⟩⟩⟩
theorem zuK : Places Tryz.prog [(0, 9), (1, 3)] [(0, 1), (1, 1)] := ⟨rfl, ⟨_, _, _, ty9⟩, ⟨rfl, ⟨_, _, _, ty3⟩, trivial⟩⟩
theorem zvp : Places Tryz.prog [(0, 9), (1, 3), (2, 128)] [(0, 1), (1, 1), (2, 1)] := ⟨rfl, ⟨_, _, _, ty9⟩, ⟨rfl, ⟨_, _, _, ty3⟩, ⟨rfl, ⟨_, _, _, zfS⟩, trivial⟩⟩⟩
theorem zuT : Places Tryz.prog [(0, 3), (1, 9), (2, 9)] [(0, 1), (1, 1), (2, 1)] := ⟨rfl, ⟨_, _, _, ty3⟩, ⟨rfl, ⟨_, _, _, ty9⟩, ⟨rfl, ⟨_, _, _, ty9⟩, trivial⟩⟩⟩
theorem zqK : Places Tryz.prog [(0, 9), (1, 3)] [(0, 1), (1, 1)] := ⟨rfl, ⟨_, _, _, ty9⟩, ⟨rfl, ⟨_, _, _, ty3⟩, trivial⟩⟩
theorem zuZ : Places Tryz.prog [(0, 9), (1, 9)] [(0, 1), (1, 1)] := ⟨rfl, ⟨_, _, _, ty9⟩, ⟨rfl, ⟨_, _, _, ty9⟩, trivial⟩⟩
theorem zu5 : Places Tryz.prog [(0, 9), (1, 3)] [(0, 1), (1, 1)] := ⟨rfl, ⟨_, _, _, ty9⟩, ⟨rfl, ⟨_, _, _, ty3⟩, trivial⟩⟩
theorem eq65 : EqOk Tryz.prog 65 := ⟨by kernel_rfl, by kernel_rfl, by kernel_rfl⟩
theorem zvf : EqOk Tryz.prog 214 := ⟨by kernel_rfl, by kernel_rfl, by kernel_rfl⟩
theorem zve : EqOk Tryz.prog 216 := ⟨by kernel_rfl, by kernel_rfl, by kernel_rfl⟩
theorem ca5 : Callable Tryz.prog 5 := ⟨_, Tryz.func5, by kernel_rfl, by kernel_rfl⟩
theorem ca6 : Callable Tryz.prog 6 := ⟨_, Tryz.func6, by kernel_rfl, by kernel_rfl⟩
theorem ca7 : Callable Tryz.prog 7 := ⟨_, Tryz.func7, by kernel_rfl, by kernel_rfl⟩
theorem ca8 : Callable Tryz.prog 8 := ⟨_, Tryz.func8, by kernel_rfl, by kernel_rfl⟩
theorem ca10 : Callable Tryz.prog 10 := ⟨_, Tryz.func10, by kernel_rfl, by kernel_rfl⟩
theorem ca11 : Callable Tryz.prog 11 := ⟨_, Tryz.func11, by kernel_rfl, by kernel_rfl⟩
theorem ca12 : Callable Tryz.prog 12 := ⟨_, Tryz.func12, by kernel_rfl, by kernel_rfl⟩
theorem ca13 : Callable Tryz.prog 13 := ⟨_, Tryz.func13, by kernel_rfl, by kernel_rfl⟩
theorem ca14 : Callable Tryz.prog 14 := ⟨_, Tryz.func14, by kernel_rfl, by kernel_rfl⟩
theorem ca18 : Callable Tryz.prog 18 := ⟨_, Tryz.func18, by kernel_rfl, by kernel_rfl⟩
theorem ca21 : Callable Tryz.prog 21 := ⟨_, Tryz.func21, by kernel_rfl, by kernel_rfl⟩
theorem ca22 : Callable Tryz.prog 22 := ⟨_, Tryz.func22, by kernel_rfl, by kernel_rfl⟩
theorem ca23 : Callable Tryz.prog 23 := ⟨_, Tryz.func23, by kernel_rfl, by kernel_rfl⟩
theorem ca24 : Callable Tryz.prog 24 := ⟨_, Tryz.func24, by kernel_rfl, by kernel_rfl⟩
theorem zi8 : Callable Tryz.prog 25 := ⟨_, Tryz.func25, by kernel_rfl, by kernel_rfl⟩
theorem ca26 : Callable Tryz.prog 26 := ⟨_, Tryz.func26, by kernel_rfl, by kernel_rfl⟩
theorem ca27 : Callable Tryz.prog 27 := ⟨_, Tryz.func27, by kernel_rfl, by kernel_rfl⟩
theorem zqv : Callable Tryz.prog 28 := ⟨_, Tryz.func28, by kernel_rfl, by kernel_rfl⟩
theorem ca29 : Callable Tryz.prog 29 := ⟨_, Tryz.func29, by kernel_rfl, by kernel_rfl⟩
theorem zfk : Callable Tryz.prog 30 := ⟨_, Tryz.func30, by kernel_rfl, by kernel_rfl⟩
theorem zac : Callable Tryz.prog 31 := ⟨_, Tryz.func31, by kernel_rfl, by kernel_rfl⟩
theorem zhu : Callable Tryz.prog 32 := ⟨_, Tryz.func32, by kernel_rfl, by kernel_rfl⟩
theorem zcl : Callable Tryz.prog 33 := ⟨_, Tryz.func33, by kernel_rfl, by kernel_rfl⟩
theorem zfI : Callable Tryz.prog 34 := ⟨_, Tryz.func34, by kernel_rfl, by kernel_rfl⟩
theorem ca35 : Callable Tryz.prog 35 := ⟨_, Tryz.func35, by kernel_rfl, by kernel_rfl⟩
theorem ca36 : Callable Tryz.prog 36 := ⟨_, Tryz.func36, by kernel_rfl, by kernel_rfl⟩
theorem ca37 : Callable Tryz.prog 37 := ⟨_, Tryz.func37, by kernel_rfl, by kernel_rfl⟩
theorem ca38 : Callable Tryz.prog 38 := ⟨_, Tryz.func38, by kernel_rfl, by kernel_rfl⟩
theorem zfj : Callable Tryz.prog 39 := ⟨_, Tryz.func39, by kernel_rfl, by kernel_rfl⟩
theorem ca40 : Callable Tryz.prog 40 := ⟨_, Tryz.func40, by kernel_rfl, by kernel_rfl⟩
theorem zsq : Callable Tryz.prog 41 := ⟨_, Tryz.func41, by kernel_rfl, by kernel_rfl⟩
theorem zlW : Callable Tryz.prog 42 := ⟨_, Tryz.func42, by kernel_rfl, by kernel_rfl⟩
theorem ca43 : Callable Tryz.prog 43 := ⟨_, Tryz.func43, by kernel_rfl, by kernel_rfl⟩
theorem ca44 : Callable Tryz.prog 44 := ⟨_, Tryz.func44, by kernel_rfl, by kernel_rfl⟩
theorem zqf : Callable Tryz.prog 45 := ⟨_, Tryz.func45, by kernel_rfl, by kernel_rfl⟩
theorem ca46 : Callable Tryz.prog 46 := ⟨_, Tryz.func46, by kernel_rfl, by kernel_rfl⟩
theorem zl0 : Callable Tryz.prog 47 := ⟨_, Tryz.func47, by kernel_rfl, by kernel_rfl⟩
theorem ca48 : Callable Tryz.prog 48 := ⟨_, Tryz.func48, by kernel_rfl, by kernel_rfl⟩
theorem ca49 : Callable Tryz.prog 49 := ⟨_, Tryz.func49, by kernel_rfl, by kernel_rfl⟩
theorem ca50 : Callable Tryz.prog 50 := ⟨_, Tryz.func50, by kernel_rfl, by kernel_rfl⟩
theorem ca51 : Callable Tryz.prog 51 := ⟨_, Tryz.func51, by kernel_rfl, by kernel_rfl⟩
theorem ca52 : Callable Tryz.prog 52 := ⟨_, Tryz.func52, by kernel_rfl, by kernel_rfl⟩
theorem ca53 : Callable Tryz.prog 53 := ⟨_, Tryz.func53, by kernel_rfl, by kernel_rfl⟩
theorem ca54 : Callable Tryz.prog 54 := ⟨_, Tryz.func54, by kernel_rfl, by kernel_rfl⟩
theorem zms : Callable Tryz.prog 55 := ⟨_, Tryz.func55, by kernel_rfl, by kernel_rfl⟩
theorem ca63 : Callable Tryz.prog 63 := ⟨_, Tryz.func63, by kernel_rfl, by kernel_rfl⟩
theorem ca64 : Callable Tryz.prog 64 := ⟨_, Tryz.func64, by kernel_rfl, by kernel_rfl⟩
theorem ca65 : Callable Tryz.prog 65 := ⟨_, Tryz.func65, by kernel_rfl, by kernel_rfl⟩
theorem ca66 : Callable Tryz.prog 66 := ⟨_, Tryz.func66, by kernel_rfl, by kernel_rfl⟩
theorem ca67 : Callable Tryz.prog 67 := ⟨_, Tryz.func67, by kernel_rfl, by kernel_rfl⟩
theorem ca68 : Callable Tryz.prog 68 := ⟨_, Tryz.func68, by kernel_rfl, by kernel_rfl⟩
theorem zr6 : Callable Tryz.prog 69 := ⟨_, Tryz.func69, by kernel_rfl, by kernel_rfl⟩
theorem ca70 : Callable Tryz.prog 70 := ⟨_, Tryz.func70, by kernel_rfl, by kernel_rfl⟩
theorem ca72 : Callable Tryz.prog 72 := ⟨_, Tryz.func72, by kernel_rfl, by kernel_rfl⟩
theorem zsK : Callable Tryz.prog 73 := ⟨_, Tryz.func73, by kernel_rfl, by kernel_rfl⟩
theorem ca74 : Callable Tryz.prog 74 := ⟨_, Tryz.func74, by kernel_rfl, by kernel_rfl⟩
theorem ca75 : Callable Tryz.prog 75 := ⟨_, Tryz.func75, by kernel_rfl, by kernel_rfl⟩
theorem ca76 : Callable Tryz.prog 76 := ⟨_, Tryz.func76, by kernel_rfl, by kernel_rfl⟩
theorem zf9 : Callable Tryz.prog 77 := ⟨_, Tryz.func77, by kernel_rfl, by kernel_rfl⟩
theorem ca78 : Callable Tryz.prog 78 := ⟨_, Tryz.func78, by kernel_rfl, by kernel_rfl⟩
theorem ca79 : Callable Tryz.prog 79 := ⟨_, Tryz.func79, by kernel_rfl, by kernel_rfl⟩
theorem ca80 : Callable Tryz.prog 80 := ⟨_, Tryz.func80, by kernel_rfl, by kernel_rfl⟩
theorem ca81 : Callable Tryz.prog 81 := ⟨_, Tryz.func81, by kernel_rfl, by kernel_rfl⟩
theorem ca82 : Callable Tryz.prog 82 := ⟨_, Tryz.func82, by kernel_rfl, by kernel_rfl⟩
theorem ca83 : Callable Tryz.prog 83 := ⟨_, Tryz.func83, by kernel_rfl, by kernel_rfl⟩
theorem ca84 : Callable Tryz.prog 84 := ⟨_, Tryz.func84, by kernel_rfl, by kernel_rfl⟩
theorem ca85 : Callable Tryz.prog 85 := ⟨_, Tryz.func85, by kernel_rfl, by kernel_rfl⟩
theorem zqw : Callable Tryz.prog 86 := ⟨_, Tryz.func86, by kernel_rfl, by kernel_rfl⟩
theorem zqL : Callable Tryz.prog 87 := ⟨_, Tryz.func87, by kernel_rfl, by kernel_rfl⟩
theorem ca88 : Callable Tryz.prog 88 := ⟨_, Tryz.func88, by kernel_rfl, by kernel_rfl⟩
theorem ca93 : Callable Tryz.prog 93 := ⟨_, Tryz.func93, by kernel_rfl, by kernel_rfl⟩
theorem ca94 : Callable Tryz.prog 94 := ⟨_, Tryz.func94, by kernel_rfl, by kernel_rfl⟩
theorem ca95 : Callable Tryz.prog 95 := ⟨_, Tryz.func95, by kernel_rfl, by kernel_rfl⟩
theorem ca96 : Callable Tryz.prog 96 := ⟨_, Tryz.func96, by kernel_rfl, by kernel_rfl⟩
theorem zsS : Callable Tryz.prog 97 := ⟨_, Tryz.func97, by kernel_rfl, by kernel_rfl⟩
theorem ca98 : Callable Tryz.prog 98 := ⟨_, Tryz.func98, by kernel_rfl, by kernel_rfl⟩
theorem ca99 : Callable Tryz.prog 99 := ⟨_, Tryz.func99, by kernel_rfl, by kernel_rfl⟩
theorem zvt : Callable Tryz.prog 100 := ⟨_, Tryz.func100, by kernel_rfl, by kernel_rfl⟩
theorem zuO : Callable Tryz.prog 101 := ⟨_, Tryz.func101, by kernel_rfl, by kernel_rfl⟩
theorem zvr : Callable Tryz.prog 102 := ⟨_, Tryz.func102, by kernel_rfl, by kernel_rfl⟩
theorem zvA : Callable Tryz.prog 103 := ⟨_, Tryz.func103, by kernel_rfl, by kernel_rfl⟩
theorem zvd : Callable Tryz.prog 104 := ⟨_, Tryz.func104, by kernel_rfl, by kernel_rfl⟩
theorem zuW : Callable Tryz.prog 110 := ⟨_, Tryz.func110, by kernel_rfl, by kernel_rfl⟩
theorem zta : Callable Tryz.prog 114 := ⟨_, Tryz.func114, by kernel_rfl, by kernel_rfl⟩
theorem zuP : Callable Tryz.prog 118 := ⟨_, Tryz.func118, by kernel_rfl, by kernel_rfl⟩
theorem zuG : Callable Tryz.prog 119 := ⟨_, Tryz.func119, by kernel_rfl, by kernel_rfl⟩
theorem zuJ : Callable Tryz.prog 120 := ⟨_, Tryz.func120, by kernel_rfl, by kernel_rfl⟩
theorem zvq : Callable Tryz.prog 123 := ⟨_, Tryz.func123, by kernel_rfl, by kernel_rfl⟩
theorem zs1 : Callable Tryz.prog 124 := ⟨_, Tryz.func124, by kernel_rfl, by kernel_rfl⟩
theorem zcR : Callable Tryz.prog 125 := ⟨_, Tryz.func125, by kernel_rfl, by kernel_rfl⟩
theorem zvs : Callable Tryz.prog 126 := ⟨_, Tryz.func126, by kernel_rfl, by kernel_rfl⟩
theorem zvb : Callable Tryz.prog 127 := ⟨_, Tryz.func127, by kernel_rfl, by kernel_rfl⟩
theorem zuN : Callable Tryz.prog 128 := ⟨_, Tryz.func128, by kernel_rfl, by kernel_rfl⟩
theorem zvz : Callable Tryz.prog 129 := ⟨_, Tryz.func129, by kernel_rfl, by kernel_rfl⟩
theorem ztq : Callable Tryz.prog 130 := ⟨_, Tryz.func130, by kernel_rfl, by kernel_rfl⟩
theorem zs6 : Callable Tryz.prog 131 := ⟨_, Tryz.func131, by kernel_rfl, by kernel_rfl⟩
theorem zth : Callable Tryz.prog 132 := ⟨_, Tryz.func132, by kernel_rfl, by kernel_rfl⟩
theorem zu6 : Callable Tryz.prog 133 := ⟨_, Tryz.func133, by kernel_rfl, by kernel_rfl⟩
theorem zqI : Callable Tryz.prog 146 := ⟨_, Tryz.func146, by kernel_rfl, by kernel_rfl⟩
theorem zu3 : Callable Tryz.prog 147 := ⟨_, Tryz.func147, by kernel_rfl, by kernel_rfl⟩
theorem zu8 : Callable Tryz.prog 148 := ⟨_, Tryz.func148, by kernel_rfl, by kernel_rfl⟩
theorem zvw : Callable Tryz.prog 149 := ⟨_, Tryz.func149, by kernel_rfl, by kernel_rfl⟩
theorem zuE : Callable Tryz.prog 150 := ⟨_, Tryz.func150, by kernel_rfl, by kernel_rfl⟩
theorem zuR : Callable Tryz.prog 151 := ⟨_, Tryz.func151, by kernel_rfl, by kernel_rfl⟩
theorem zvi : Callable Tryz.prog 152 := ⟨_, Tryz.func152, by kernel_rfl, by kernel_rfl⟩
theorem zqy : Callable Tryz.prog 153 := ⟨_, Tryz.func153, by kernel_rfl, by kernel_rfl⟩
theorem zvl : Callable Tryz.prog 154 := ⟨_, Tryz.func154, by kernel_rfl, by kernel_rfl⟩
theorem zuD : Callable Tryz.prog 155 := ⟨_, Tryz.func155, by kernel_rfl, by kernel_rfl⟩
theorem zuU : Callable Tryz.prog 156 := ⟨_, Tryz.func156, by kernel_rfl, by kernel_rfl⟩
theorem zvn : Callable Tryz.prog 157 := ⟨_, Tryz.func157, by kernel_rfl, by kernel_rfl⟩
theorem zvx : Callable Tryz.prog 158 := ⟨_, Tryz.func158, by kernel_rfl, by kernel_rfl⟩
theorem ztk : Callable Tryz.prog 164 := ⟨_, Tryz.func164, by kernel_rfl, by kernel_rfl⟩
theorem ztb : Callable Tryz.prog 169 := ⟨_, Tryz.func169, by kernel_rfl, by kernel_rfl⟩
theorem ztg : Callable Tryz.prog 174 := ⟨_, Tryz.func174, by kernel_rfl, by kernel_rfl⟩
theorem zvg : Callable Tryz.prog 175 := ⟨_, Tryz.func175, by kernel_rfl, by kernel_rfl⟩
theorem zuC : Callable Tryz.prog 176 := ⟨_, Tryz.func176, by kernel_rfl, by kernel_rfl⟩
theorem zs3 : Callable Tryz.prog 181 := ⟨_, Tryz.func181, by kernel_rfl, by kernel_rfl⟩
theorem zuQ : Callable Tryz.prog 182 := ⟨_, Tryz.func182, by kernel_rfl, by kernel_rfl⟩
theorem zvv : Callable Tryz.prog 183 := ⟨_, Tryz.func183, by kernel_rfl, by kernel_rfl⟩
theorem zvo : Callable Tryz.prog 184 := ⟨_, Tryz.func184, by kernel_rfl, by kernel_rfl⟩
theorem zu1 : Callable Tryz.prog 185 := ⟨_, Tryz.func185, by kernel_rfl, by kernel_rfl⟩
theorem zvk : Callable Tryz.prog 186 := ⟨_, Tryz.func186, by kernel_rfl, by kernel_rfl⟩
theorem zvy : Callable Tryz.prog 187 := ⟨_, Tryz.func187, by kernel_rfl, by kernel_rfl⟩
theorem zu2 : Callable Tryz.prog 188 := ⟨_, Tryz.func188, by kernel_rfl, by kernel_rfl⟩
theorem zu7 : Callable Tryz.prog 189 := ⟨_, Tryz.func189, by kernel_rfl, by kernel_rfl⟩
theorem zvc : Callable Tryz.prog 199 := ⟨_, Tryz.func199, by kernel_rfl, by kernel_rfl⟩
theorem zvu : Callable Tryz.prog 206 := ⟨_, Tryz.func206, by kernel_rfl, by kernel_rfl⟩
theorem zu0 : Callable Tryz.prog 221 := ⟨_, Tryz.func221, by kernel_rfl, by kernel_rfl⟩
theorem mixed : Tryz.prog.follows .mixedOrders = true := by kernel_rfl
end
end Go.Proofs.YtcihcbnjfclkbaaGreatDoor
namespace Go.HL
section
abbrev Str := List UInt8
theorem zQ {α : Type} {l : List α} {k : Nat} {x : α} (h : l[k]? = some x) : l.drop k = x :: l.drop (k + 1) := by
 have hlt := zC h
 rw [List.getElem?_eq_getElem hlt] at h
 rw [List.drop_eq_getElem_cons hlt]
 simp at h
 rw [h]
theorem zaN {α : Type} {l : List α} {k : Nat} {x : α} (h : l[k]? = some x) : l.take (k + 1) = l.take k ++ [x] := by
 have hlt := zC h
 rw [List.getElem?_eq_getElem hlt] at h
 rw [List.take_succ_eq_append_getElem hlt]
 simp at h
 rw [h]
theorem zad {α : Type} {l : List α} {k : Nat} (h : l.length ≤ k) : l.drop k = [] := List.drop_eq_nil_of_le h

theorem hd0 {s : Str} (h : s ≠ []) : s[0]? = some (s.headD 0) := by
 cases s with
 | nil => exact absurd rfl h
 | cons a r => rfl
abbrev eSs (l : List Str) : HVal := .slice 1 (l.map .str)
abbrev eIs (l : List Int) : HVal := .slice 1 (l.map (.int .i64))

def out (n lo hi : Int) : Bool := decide (n < lo) || decide (hi < n)
theorem zeu {n lo hi : Int} (h : out n lo hi = false) : lo ≤ n ∧ n ≤ hi := by simp [out] at h; omega
theorem zus {a b A B : Int} (h1 : 0 ≤ a) (h2 : a ≤ A) (h3 : 0 ≤ b) (h4 : b ≤ B) : 0 ≤ a * b ∧ a * b ≤ A * B :=
 ⟨Int.mul_nonneg h1 h3, Int.mul_le_mul h2 h4 h3 (by omega)⟩
def zcX (n : Int) : Bool := !(out n 0 345686399999)
def zfU (c : UInt8) : Bool := (decide (97 ≤ c.toNat) && decide (c.toNat ≤ 122)) || (decide (48 ≤ c.toNat) && decide (c.toNat ≤ 57)) || c.toNat == 45 || c.toNat == 95
def zgA (s : Str) : Bool := s != [] && decide (s.length ≤ 40) && decide (97 ≤ (s.headD 0).toNat) && decide ((s.headD 0).toNat ≤ 122)
theorem ztD {s : Str} (h : ((¬s = [] ∧ (s.length : Int) ≤ 40) ∧ 97 ≤ (((List.head? s).getD 0).toNat : Int)) ∧ (((List.head? s).getD 0).toNat : Int) ≤ 122) : zgA s = true := by
 obtain ⟨⟨⟨h1, h2⟩, h3⟩, h4⟩ := h
 simp [zgA]; exact ⟨⟨⟨h1, by omega⟩, by omega⟩, by omega⟩
theorem zty {s : Str} (h : ((s = [] ∨ 40 < (s.length : Int)) ∨ (((List.head? s).getD 0).toNat : Int) < 97) ∨ 122 < (((List.head? s).getD 0).toNat : Int)) : zgA s = false := by
 rw [Bool.eq_false_iff]; simp [zgA]
 intro h1 h2 h3
 rcases h with ((h | h) | h) | h
 ·exact absurd h h1
 all_goals omega
theorem zt0 {x : UInt8} (h : (x.toNat : Int) < 97 ∨ 122 < (x.toNat : Int) → (x.toNat : Int) < 48 ∨ 57 < (x.toNat : Int) → ¬(x.toNat : Int) = 45 → (x.toNat : Int) = 95) : zfU x = true := by
 simp [zfU]; omega
theorem zt5 {x : UInt8} (h : ((((x.toNat : Int) < 97 ∨ 122 < (x.toNat : Int)) ∧ ((x.toNat : Int) < 48 ∨ 57 < (x.toNat : Int))) ∧ ¬(x.toNat : Int) = 45) ∧ ¬(x.toNat : Int) = 95) : zfU x = false := by
 rw [Bool.eq_false_iff]; simp [zfU]; omega
def key (s : Str) : Bool := zgA s && s.all zfU
/-- slices.Index of strings -/
def zcn (s : Str) : List Str → Int → Int
 | [], _ => -1
 | x :: r, k => if s = x then k else zcn s r (k + 1)
theorem zin (s : Str) : ∀ (l : List Str) (k : Int), 0 ≤ k → decide (0 ≤ zcn s l k) = l.contains s
 | [], k, h => by simp [zcn]
 | x :: r, k, h => by
   have ih := zin s r (k + 1) (by omega)
   by_cases hx : s = x
   ·simp [zcn, hx, h]
   ·have e1 : zcn s (x :: r) k = zcn s r (k + 1) := by simp [zcn, hx]
    rw [e1, ih]; simp [hx]
end
end Go.HL
namespace Go.Proofs.YtcihcbnjfclkbaaGreatDoor
set_option maxRecDepth 100000
set_option linter.unusedVariables false
set_option linter.unusedSimpArgs false
section
open Go.HL
/-- benchwarmer/base.Out -/
theorem za5 [Tracks] {n lo hi : Int}  : ConP Tryz.prog 125 [.int .i64 n, .int .i64 lo, .int .i64 hi] (.bool (out n lo hi)) := by
 refine Con.of_body Tryz.func125 rfl Tryz.ntmps125 rfl rfl ?_
 refine zb ?_
 refine das rfl ?_
 refine dn ?_
 refine zb ?_
 refine dmv rfl ?_
 refine dmv rfl ?_
 refine dq (zO rfl rfl) ?_
 refine dmv rfl ?_
 refine dg rfl rfl (fun hc => ⟨_, OpenTo.refl _, zg rfl⟩) ?_
 refine dg rfl rfl (fun hc => ⟨_, OpenTo.refl _, zg rfl⟩) ?_
 refine dg rfl rfl (fun hc => ⟨_, OpenTo.upd (t := 12) rfl (hc) (OpenTo.upd (t := 11) rfl (hc) (OpenTo.refl _)), zai rfl rfl⟩) ?_
 refine dq (zB rfl (.inl rfl) (.inr ⟨_, rfl, fun h => by simp_all⟩)) ?_
 refine das rfl ?_
 refine dn ?_
 refine zn ?_
 refine zA rfl ?_
 simp [out]

/-- benchwarmer/base.Moment -/
theorem zfL [Tracks] {n : Int}  : ConP Tryz.prog 97 [.int .i64 n] (.bool (zcX n)) := by
 refine Con.of_body Tryz.func97 rfl Tryz.ntmps97 rfl rfl ?_
 refine zb ?_
 refine das rfl ?_
 refine dn ?_
 refine zb ?_
 refine dmv rfl ?_
 refine dq (zq zcR rfl (WeakL.refl _) za5) ?_
 refine dq (zao rfl) ?_
 refine das rfl ?_
 refine dn ?_
 refine zn ?_
 refine zA rfl ?_
 rfl

/-- benchwarmer/base.Key -/
theorem zbZ [Tracks] {s : Str}  : ConP Tryz.prog 77 [.str s] (.bool (key s)) := by
 refine Con.of_body Tryz.func77 rfl Tryz.ntmps77 rfl rfl ?_
 refine zb ?_
 refine das rfl ?_
 refine dn ?_
 refine zh ?_
 refine zb ?_
 refine dmv rfl ?_
 refine dq (zaX rfl rfl) ?_
 refine dmv rfl ?_
 refine dg rfl rfl (fun hc => ⟨_, OpenTo.refl _, zg rfl⟩) ?_
 refine dg rfl rfl (fun hc => ⟨_, OpenTo.upd (t := 8) rfl (hc) (OpenTo.refl _), zdy ty9 rfl⟩) ?_
 refine dg rfl rfl (fun hc => ⟨_, OpenTo.upd (t := 9) rfl (hc) (OpenTo.refl _), zai rfl rfl⟩) ?_
 refine dq (zB rfl (.inl rfl) (.inr ⟨_, rfl, fun h => by simp_all⟩)) ?_
 refine dmv rfl ?_
 refine dg rfl rfl (fun hc => ⟨_, OpenTo.refl _, zg rfl⟩) ?_
 refine dg rfl rfl (fun hc => ⟨_, OpenTo.upd (t := 13) rfl (hc) (OpenTo.refl _), zcb (j := 0) (b := s.headD 0) ty9 rfl rfl rfl (hd0 (by simp_all))⟩) ?_
 refine dg rfl rfl (fun hc => ⟨_, OpenTo.upd (t := 14) rfl (hc) (OpenTo.refl _), zO rfl rfl⟩) ?_
 refine dq (zB rfl (.inl rfl) (.inr ⟨_, rfl, fun h => by simp_all⟩)) ?_
 refine dmv rfl ?_
 refine dg rfl rfl (fun hc => ⟨_, OpenTo.refl _, zg rfl⟩) ?_
 refine dg rfl rfl (fun hc => ⟨_, OpenTo.upd (t := 18) rfl (hc) (OpenTo.refl _), zcb (j := 0) (b := s.headD 0) ty9 rfl rfl rfl (hd0 (by simp_all))⟩) ?_
 refine dg rfl rfl (fun hc => ⟨_, OpenTo.upd (t := 19) rfl (hc) (OpenTo.refl _), zai rfl rfl⟩) ?_
 refine dq (zB rfl (.inl rfl) (.inr ⟨_, rfl, fun h => by simp_all⟩)) ?_
 refine dn ?_
 refine zj rfl (fun h1 => ?_) (fun h2 => ?_)
 ·try simp at h1
  refine zb ?_
  refine das rfl ?_
  refine dn ?_
  refine zn ?_
  refine zA rfl ?_
  (rw [key, zty h1]; rfl)
 ·try simp at h2
  refine zk ?_
  refine zf ?_
  refine zh ?_
  refine zb ?_
  refine dmv rfl ?_
  refine dq (zdy ty9 rfl) ?_
  refine dmv rfl ?_
  refine dn ?_
  refine zl ?_
  refine zZ [2, 3, 4, 24, 25, 26, 27, 28, 29, 30, 31, 32, 33, 34, 35, 36, 37, 38, 39, 40, 41, 42, 43, 44, 45, 46, 47, 48, 49, 50, 51, 52, 53] (fun (k : Nat) => [(24, .int .i64 k)]) (fun (k : Nat) => []) (fun (k : Nat) => k ≤ s.length ∧ key s = (s.drop k).all zfU) (fun (k : Nat) => s.length - k) (0) ?_ ?_ ?_ ?_
  ·exact ⟨Nat.zero_le _, by rw [key, ztD h2]; rfl⟩
  ·exact ⟨rfl, trivial⟩
  ·exact List.Perm.refl _
  ·intro k hinv
   obtain ⟨hk, hg⟩ := hinv
   refine zb ?_
   refine dq (zO rfl rfl) ?_
   refine dn ?_
   refine zh ?_
   refine zj rfl (fun h3 => ?_) (fun h4 => ?_)
   ·try simp at h3
    obtain ⟨x, hx⟩ : ∃ x, s[k]? = some x := ⟨_, List.getElem?_eq_getElem h3⟩
    have hd := zQ hx
    rw [hd] at hg
    refine zk ?_
    refine zf ?_
    refine zh ?_
    refine zl ?_
    refine zb ?_
    refine dmv rfl ?_
    refine das rfl ?_
    refine dn ?_
    refine zb ?_
    refine dmv rfl ?_
    refine dmv rfl ?_
    refine dq (zcb ty9 rfl rfl rfl (by assumption)) ?_
    refine das rfl ?_
    refine dn ?_
    refine zb ?_
    refine dmv rfl ?_
    refine dq (zbJ rfl rfl) ?_
    refine dmv rfl ?_
    refine dg rfl rfl (fun hc => ⟨_, OpenTo.refl _, zg rfl⟩) ?_
    refine dg rfl rfl (fun hc => ⟨_, OpenTo.upd (t := 33) rfl (hc) (OpenTo.refl _), zda rfl rfl⟩) ?_
    refine dq (zB rfl (.inr ⟨_, rfl, fun h => by simp_all⟩) (.inl rfl)) ?_
    refine dmv rfl ?_
    refine dg rfl rfl (fun hc => ⟨_, OpenTo.refl _, zg rfl⟩) ?_
    refine dg rfl rfl (fun hc => ⟨_, OpenTo.upd (t := 37) rfl (hc) (OpenTo.refl _), zbJ rfl rfl⟩) ?_
    refine dg rfl rfl (fun hc => ⟨_, OpenTo.upd (t := 38) rfl (hc) (OpenTo.refl _), zg rfl⟩) ?_
    refine dg rfl rfl (fun hc => ⟨_, OpenTo.refl _, zg rfl⟩) ?_
    refine dg rfl rfl (fun hc => ⟨_, OpenTo.upd (t := 40) rfl (hc) (OpenTo.refl _), zda rfl rfl⟩) ?_
    refine dg rfl rfl (fun hc => ⟨_, OpenTo.upd (t := 39) rfl (hc) (OpenTo.refl _), zB rfl (.inr ⟨_, rfl, fun h => by simp_all⟩) (.inl rfl)⟩) ?_
    refine dq (zB rfl (.inl rfl) (.inr ⟨_, rfl, fun h => by simp_all⟩)) ?_
    refine dmv rfl ?_
    refine dg rfl rfl (fun hc => ⟨_, OpenTo.refl _, zg rfl⟩) ?_
    refine dg rfl rfl (fun hc => ⟨_, OpenTo.upd (t := 45) rfl (hc) (OpenTo.refl _), zaA rfl rfl⟩) ?_
    refine dq (zB rfl (.inl rfl) (.inr ⟨_, rfl, fun h => by simp_all⟩)) ?_
    refine dmv rfl ?_
    refine dg rfl rfl (fun hc => ⟨_, OpenTo.refl _, zg rfl⟩) ?_
    refine dg rfl rfl (fun hc => ⟨_, OpenTo.upd (t := 49) rfl (hc) (OpenTo.refl _), zaA rfl rfl⟩) ?_
    refine dq (zB rfl (.inl rfl) (.inr ⟨_, rfl, fun h => by simp_all⟩)) ?_
    refine dq (zao rfl) ?_
    refine dn ?_
    refine zj rfl (fun h5 => ?_) (fun h6 => ?_)
    ·try simp at h5
     refine zb ?_
     refine das rfl ?_
     refine dn ?_
     refine zn ?_
     refine zA rfl ?_
     (rw [hg, List.all_cons, zt5 h5]; rfl)
    ·try simp at h6
     refine zk ?_
     refine zz ?_
     refine zf ?_
     refine zy ?_
     refine dq (zv rfl rfl (by omega) (by omega)) ?_
     refine dmv rfl ?_
     refine dn ?_
     refine ⟨k + 1, ?_, ?_, ⟨rfl, trivial⟩, (by repeat (first | exact zo | refine zt rfl ?_ | refine zp rfl rfl ?_)), List.Perm.refl _⟩
     ·refine ⟨by omega, ?_⟩
      rw [hg, List.all_cons, zt0 h6]; rfl
     ·dsimp only; omega
   ·try simp at h4
    rw [zad (by omega)] at hg
    refine zN ?_
    refine zT ?_
    refine zah ?_
    refine zD ?_
    refine zf ?_
    refine zb ?_
    refine das rfl ?_
    refine dn ?_
    refine zn ?_
    refine zA rfl ?_
    (rw [hg]; rfl)

/-- slices.Index[[]string,string] -/
theorem zdg [Tracks] {l : List Str} {s : Str} (hl : l.length ≤ 1000000000) : ConP Tryz.prog 67 [eSs l, .str s] (.int .i64 (zcn s l 0)) := by
 refine Con.of_body Tryz.func67 rfl Tryz.ntmps67 rfl rfl ?_
 refine zb ?_
 refine das rfl ?_
 refine dn ?_
 refine zh ?_
 refine zb ?_
 refine dmv rfl ?_
 refine dq (zF zG rfl) ?_
 refine dmv rfl ?_
 refine dn ?_
 refine zl ?_
 refine zZ [4, 5, 8, 9, 10, 11, 12, 13, 14, 15, 16, 17, 18] (fun (k : Nat) => [(8, .int .i64 k)]) (fun (k : Nat) => []) (fun (k : Nat) => k ≤ l.length ∧ zcn s l 0 = zcn s (l.drop k) k) (fun (k : Nat) => l.length - k) (0) ?_ ?_ ?_ ?_
 ·simp
 ·exact ⟨rfl, trivial⟩
 ·exact List.Perm.refl _
 ·intro k hinv
  obtain ⟨hk, hg⟩ := hinv
  refine zb ?_
  refine dq (zO rfl rfl) ?_
  refine dn ?_
  refine zh ?_
  refine zj rfl (fun h1 => ?_) (fun h2 => ?_)
  ·try simp at h1
   obtain ⟨x, hx⟩ : ∃ x, l[k]? = some x := ⟨_, List.getElem?_eq_getElem h1⟩
   have hd := zQ hx
   rw [hd] at hg
   refine zk ?_
   refine zf ?_
   refine zh ?_
   refine zl ?_
   refine zb ?_
   refine dmv rfl ?_
   refine das rfl ?_
   refine dn ?_
   refine zb ?_
   refine dmv rfl ?_
   refine dmv rfl ?_
   refine dmv rfl ?_
   refine dq (zJ zG ty9 rfl rfl rfl (by assumption)) ?_
   refine dq (ze ty9 rfl rfl rfl) ?_
   refine dq (zaX rfl rfl) ?_
   refine dn ?_
   refine zj rfl (fun h3 => ?_) (fun h4 => ?_)
   ·try simp at h3
    refine zb ?_
    refine dmv rfl ?_
    refine das rfl ?_
    refine dn ?_
    refine zn ?_
    refine zA rfl ?_
    (congr 1; simp_all [zcn])
   ·try simp at h4
    refine zk ?_
    refine zz ?_
    refine zf ?_
    refine zy ?_
    refine dq (zv rfl rfl (by omega) (by omega)) ?_
    refine dmv rfl ?_
    refine dn ?_
    refine ⟨k + 1, ?_, ?_, ⟨rfl, trivial⟩, (by repeat (first | exact zo | refine zt rfl ?_ | refine zp rfl rfl ?_)), List.Perm.refl _⟩
    ·refine ⟨by omega, ?_⟩
     rw [hg, zcn, if_neg h4]; rfl
    ·dsimp only; omega
  ·try simp at h2
   rw [zad (by simp_all)] at hg
   refine zN ?_
   refine zT ?_
   refine zah ?_
   refine zD ?_
   refine zf ?_
   refine zb ?_
   refine das rfl ?_
   refine dn ?_
   refine zn ?_
   refine zA rfl ?_
   (rw [hg]; rfl)

/-- slices.Contains[[]string,string] -/
theorem zay [Tracks] {l : List Str} {s : Str} (hl : l.length ≤ 1000000000) : ConP Tryz.prog 25 [eSs l, .str s] (.bool (l.contains s)) := by
 refine Con.of_body Tryz.func25 rfl Tryz.ntmps25 rfl rfl ?_
 refine zb ?_
 refine das rfl ?_
 refine dn ?_
 refine zb ?_
 refine dmv rfl ?_
 refine dmv rfl ?_
 refine dq (zq ca67 rfl (WeakL.refl _) (zdg (by assumption))) ?_
 refine dq (zbJ rfl rfl) ?_
 refine das rfl ?_
 refine dn ?_
 refine zn ?_
 refine zA rfl ?_
 congr 1; exact zin s l 0 (by omega)
end
end Go.Proofs.YtcihcbnjfclkbaaGreatDoor
namespace Go.HL
section
theorem getD_some {α : Type} {l : List α} {k : Nat} {d : α} (h : k < l.length) : l[k]? = some (l.getD k d) := by
 simp [List.getElem?_eq_getElem h, List.getD]
def leS (s p : Str) : Bool := Op.bytesLess s p || s == p
structure Room where
 Teams : List Str
 Rounds : Int
 Way : Int
 Players : List Str
 Clock : Int
 Start : Int
structure Keep where
 Team : Str
 Player : Str
 Round : Int
structure Swap where
 Round : Int
 Of : Str
 Team : Str
structure Pick where
 No : Int
 Team : Str
 Player : Str
 At : Int
 Auto : Bool
structure Turn where
 round : Int
 of : Str
 team : Str
abbrev zk3 (r : Room) : HVal := .agg [eSs r.Teams, .int .i64 r.Rounds, .int .i64 r.Way, eSs r.Players, .int .i64 r.Clock, .int .i64 r.Start]
abbrev zuX (x : Swap) : HVal := .agg [.int .i64 x.Round, .str x.Of, .str x.Team]
abbrev zlo (x : Turn) : HVal := .agg [.int .i64 x.round, .str x.of, .str x.team]
abbrev ziI (l : List Swap) : HVal := .slice 3 (l.map zuX)
abbrev zuv (l : List Turn) : HVal := .slice 3 (l.map zlo)
def zny : Swap := ⟨0, [], []⟩
def zs8 : Keep := ⟨[], [], 0⟩

def za8 (l : List Str) : Nat → List Str → Int
 | _, [] => 0
 | k, s :: r => if !key s then 5 else if decide (0 < k) && leS s (l.getD (k - 1) []) then 7 else za8 l (k + 1) r
def zeb (l : List Str) : Int := za8 l 0 l
def zfa (l : List Str) : Nat → List Str → Int
 | _, [] => 0
 | k, s :: r => if !key s then 5 else if (l.take k).contains s then 6 else zfa l (k + 1) r
def teamsFault (l : List Str) : Int := if l.length = 0 then 8 else if 20 < l.length then 2 else zfa l 0 l
def playersFault (l : List Str) : Int := if 500 < l.length then 2 else zeb l
def za0 (r : Room) : Int :=
 if teamsFault r.Teams != 0 then teamsFault r.Teams
 else if out r.Rounds 1 30 then 1 else if out r.Way 1 3 then 4
 else if playersFault r.Players != 0 then playersFault r.Players
 else if out r.Clock 1000 86400000 || !(zcX r.Start) then 1
 else if (r.Players.length : Int) < r.Teams.length * r.Rounds then 12 else 0
def backwards (way round : Int) : Bool :=
 if way = 2 then round.tmod 2 == 0 else if way = 3 then round == 2 || (decide (2 < round) && round.tmod 2 == 1) else false
def owner (round : Int) (of : Str) : List Swap → Str
 | [] => of
 | s :: r => if s.Round = round ∧ s.Of = of then s.Team else owner round of r
end
end Go.HL
