/- Part 2 of the proof: a program logic, contracts of functions and plain facts; no conditions. -/
import Derived.Test.YtbfikmihcpfgaaaGreatDoorPSwapsWeighed1
import Derived.Carry
import Derived.Ground.Names2Prog
import Derived.Laws.MakeOwn
import Derived.Lib.LaidTab
import Derived.Lib.SlicesCompact
import Derived.OpenShut
import Derived.Shelf.Slices.CompactS
import Derived.Shelf.Slices.Delete
import Derived.Shelf.Sort.Plain
import Derived.Shelf.Strconv.Atoi
import Derived.Shelf.Strconv.Itoa3
import Derived.Shelf.Strings.Prefix
import Derived.Sort.EncStr
import Derived.Sort.Grow
import Derived.Test.YtbfikmihcpfgaaaGreatDoorProg
import GoSem.ClaimJoined
set_option linter.unusedVariables false
set_option linter.unusedSimpArgs false
section
namespace Go.HL
def ResC (P : Program) (e : Env) : List ResultVar → List HVal → Prop
 | [], [] => True
 | .tmp t :: r, h :: l => e t = some h ∧ ResC P e r l
 | .cell a t :: r, h :: l => (∃ cs d size bytes zero, e a = some (.vptr cs 0) ∧ Fits P t d size bytes zero ∧ ((d.isAgg = false ∧ cs[0]? = some h) ∨ (d.isAgg = true ∧ size = cs.length ∧ h = .agg cs))) ∧ ResC P e r l
 | _, _ => False
def tupOf : List HVal → HVal
 | [h] => h
 | l => .tup l
def RetC [Tracks] (P : Program) (rs : List ResultVar) (Q : HVal → List MObj → Prop) : Exit → Env → List MObj → Prop
 | .normal, e, M | .ret, e, M => ∃ e' M', Ghost e M e' M' ∧ ∃ l h', ResC P e' rs l ∧ Weak (tupOf l) h' ∧ Q h' M'
 | _, _, _ => False
theorem resC_run [Tracks] {P : Program} {I : Imm} {e : Env} {tmps : Array Value} (he : EnvV I e tmps) {M : List MObj} {w : World} (hs : Sat P I M w) : ∀ (rs : List ResultVar) (l : List HVal), ResC P e rs l →
 ∃ vs : List Value, (rs.mapM (resRun tmps)).run P w = .ok vs w ∧ VL I l vs := by
 intro rs
 induction rs with
 | nil =>
   intro l h
   cases l with
   | nil => exact ⟨[], by simp, VL.nil⟩
   | cons _ _ => exact h.elim
 | cons r rs ih =>
   intro l h
   cases l with
   | nil => cases r <;> exact h.elim
   | cons x l =>
     cases r with
     | tmp t =>
       obtain ⟨h1, h2⟩ := h
       obtain ⟨vs, h3, h4⟩ := ih l h2
       obtain ⟨v, h5, h6⟩ := he t x h1
       refine ⟨v :: vs, ?_, VL.cons h6 h4⟩
       simp only [List.mapM_cons, resRun, Sem.run_bind, Sem.run_pure, Result.andThen_ok, h3]
       simp [h5]
     | cell a t =>
       obtain ⟨⟨cs, d, size, bytes, zero, h1, hf, hh⟩, h2⟩ := h
       obtain ⟨vs, h3, h4⟩ := ih l h2
       obtain ⟨v, h5, h6⟩ := he a _ h1
       obtain ⟨b, base, rc, el, fr, g1, g2, g3, g4⟩ := h6.vptr_inv
       obtain ⟨v', h7, h8⟩ := run_loadVar (I := I) (h := x) (o := base + 0) (off := 0) (base := base) hf (hs.imm _ _ g2) rfl g3 g4 (by
        rcases hh with hh | ⟨p1, p2, p3⟩
        ·exact .inl hh
        ·exact .inr ⟨p1, by omega, by rw [p2]; simpa using p3⟩)
       refine ⟨v' :: vs, ?_, VL.cons h8 h4⟩
       have hg : tmps.getD a undef = .pointer (some ⟨b, base + 0, none⟩) := by simp [h5, g1]
       simp only [List.mapM_cons, resRun, Sem.run_bind, Sem.run_pure, Result.andThen_ok, hg, asAddr, h7, h3]

theorem Con.of_bodyc [Tracks] {P : Program} {f : FuncId} {fn : Func} {c : Code} {hargs : List HVal} {M : List MObj} {Q : HVal → List MObj → Prop}
 {n : Nat} (hf : P.funcs[f]? = some fn) (hb : fn.body = some c) (hnt : fn.ntmps = n) (hn' : Nat.ble hargs.length n = true) {rs : List ResultVar} (hrs : fn.results.toList = rs) (h : HWp P n c (argsE hargs) M (RetC P rs Q)) : Con P f hargs M Q := by
 have hn := Nat.le_of_ble_eq_true hn'
 subst hnt hrs
 intro I F w args h1 h2
 refine calls_of_wp hf hb ?_
 have hlen := h1.1
 refine wp_mono (h I F _ w rfl (by simp; omega) ?_ h2) ?_
 ·intro t x hx
  obtain ⟨v, h3, h4⟩ := h1.get hx
  have hlt : t < args.length := lt_of_get h3
  refine ⟨v, ?_, h4⟩
  rw [Array.getElem?_append_left (by simpa using hlt)]
  simpa using h3
 ·have key : ∀ (a' : Act) (w' : World), a'.defers = [] → (∃ J e M', Le I J ∧ (∃ e' M'', Ghost e M' e' M'' ∧ ∃ l h', ResC P e' fn.results.toList l ∧ Weak (tupOf l) h' ∧ Q h' M'') ∧ EnvV J e a'.tmps ∧ Sat P J (M' ++ F) w') →
   a'.defers = [] ∧ ∃ v, (results fn a'.tmps).run P w' = .ok v w' ∧ (∃ v_1 h M' J, Ending.returned v = Ending.returned v_1 ∧ Le I J ∧ Q h M' ∧ V J h v_1 ∧ Sat P J (M' ++ F) w') := by
   rintro a' w' hd ⟨J, e, M', hl, ⟨e', M'', hg, l, h', hr, hw, hq⟩, he, hs⟩
   obtain ⟨J2, hl2, he2, hs2⟩ := hg J F a'.tmps w' he hs
   refine ⟨hd, ?_⟩
   obtain ⟨vs, h3, h4⟩ := resC_run he2 hs2 _ _ hr
   have hrun : (results fn a'.tmps).run P w' = .ok (if h : vs.length = 1 then vs[0] else .tuple vs.toArray) w' := by
    rw [results_eq]
    have hm : (fn.results.mapM (resRun a'.tmps)).run P w' = .ok vs.toArray w' := by
     rw [Array.mapM_eq_mapM_toList]
     simp only [Sem.run_map, h3, Result.andThen_ok]
    simp only [Sem.run_bind, Sem.run_pure]
    rw [hm]
    simp
   refine ⟨_, hrun, _, h', M'', J2, rfl, hl.trans hl2, hq, ?_, hs2⟩
   apply hw
   match l, h4 with
   | [], h4 =>
     have : vs = [] := by have := h4.1; simpa using this
     subst this
     exact .tup (by simp) (fun j c v h _ => by simp at h)
   | [x], h4 =>
     have hl1 : vs.length = 1 := by have := h4.1; simpa using this
     match vs, hl1, h4 with
     | [v], _, h4 => exact h4.head
   | x :: y :: r, h4 =>
     have hl1 : vs.length = r.length + 2 := by have := h4.1; simpa using this
     rw [dif_neg (by omega)]
     exact .tup (by simp [hl1]) (fun j c v h1 h2 => h4.2 j c v h1 (by simpa using h2))
  rintro x a' w' ⟨p1, p2, J, e, M', p3, p4, p5, p6⟩
  cases x with
  | normal => exact key a' w' p1 ⟨J, e, M', p3, p4, p5, p6⟩
  | ret => exact key a' w' p1 ⟨J, e, M', p3, p4, p5, p6⟩
  | exit id => exact p4.elim
  | goto l => exact p4.elim
  | panic ch => exact p4.elim
  | outgrown => exact p4.elim

section
variable {P : Program} {e : Env} {dst : Option Tmp} {ty : TypeId} {pos : String} {af : Array Edge} {g : Option (Nat × Bool)} {M : List MObj} {K : HVal → List MObj → Prop}
theorem Fits.arrD [Tracks] {t : TypeId} {n el size bytes : Nat} {zero : Value} (h : Fits P t (.arr n el) size bytes zero) : P.underlying t = some (.array n el) := by
 obtain ⟨x, h1, h2⟩ := h.underlying
 cases x <;> simp [descOf] at h2
 obtain ⟨rfl, rfl⟩ := h2
 exact h1
theorem run_indexAtA [Tracks] {t el : TypeId} {n size bytes sz b2 : Nat} {zero z2 : Value} {d : TD} (hf : Fits P t (.arr n el) size bytes zero) (hel : Fits P el d sz b2 z2) {k : IntKind} {j b o : Nat} (hj : j < n) (w : World) :
 (Instr.indexAt t (.pointer (some ⟨b, o, none⟩)) (.int k (j : Int))).run P w = .ok (.pointer (some ⟨b, o + j * sz, none⟩)) w := by
 have h1 : (0 : Int) ≤ (j : Int) ∧ (j : Int) < (n : Int) := by omega
 simp [Instr.indexAt, asIntOf, run_underlying hf.arrD, h1, hel.run_sizeOf, addr_add, Instr.sureAddr]
 intro h; omega
/-- An element of an array. -/
theorem pop_idxa [Tracks] {x y : Operand} {t el : TypeId} {n size bytes sz b2 : Nat} {zero z2 : Value} {d : TD} {cs : List HVal} {off : Nat} {k : IntKind} {i : Int} {j : Nat}
 (hf : Fits P t (.arr n el) size bytes zero) (hel : Fits P el d sz b2 z2) (hx : evalO e x = some (.vptr cs off)) (hy : evalO e y = some (.int k i)) (hi : i = (j : Int)) (hj : j < n) :
 POp P e ⟨dst, .indexAddr t x y, ty, pos, af, g⟩ (.vptr cs (off + j * sz)) :=
 POp.of_val fun I a w ho => by
  subst hi
  obtain ⟨b, base, rc, el, fr, h1, h2, h3, h4⟩ := (ho.one (x := x) (by simp [Op.operands]) hx).vptr_inv
  have h5 := (ho.one (x := y) (by simp [Op.operands]) hy).int_inv
  refine ⟨.pointer (some ⟨b, base + off + j * sz, none⟩), by simp [execOp, h1, h5, run_indexAtA hf hel hj], ?_⟩
  rw [Nat.add_assoc]; exact .vptr h2 h3 h4
theorem pop_idxa_raw [Tracks] {x y : Operand} {t el : TypeId} {n size bytes sz b2 : Nat} {zero z2 : Value} {d : TD} {b o : Nat} {k : IntKind} {i : Int} {j : Nat}
 (hf : Fits P t (.arr n el) size bytes zero) (hel : Fits P el d sz b2 z2) (hx : evalO e x = some (.raw (.pointer (some ⟨b, o, none⟩)))) (hy : evalO e y = some (.int k i)) (hi : i = (j : Int)) (hj : j < n) :
 POp P e ⟨dst, .indexAddr t x y, ty, pos, af, g⟩ (.raw (.pointer (some ⟨b, o + j * sz, none⟩))) :=
 POp.of_val fun I a w ho => by
  subst hi
  have h1 := (ho.one (x := x) (by simp [Op.operands]) hx).raw_inv
  have h5 := (ho.one (x := y) (by simp [Op.operands]) hy).int_inv
  exact ⟨_, by simp [execOp, h1, h5, run_indexAtA hf hel hj], .raw _ rfl⟩

theorem pop_indexByte [Tracks] {f : FuncId} {fn : Func} {args : Array Operand} {ats : Array TypeId} {x y : Operand} {s : List UInt8} {c : Int} (hf : P.funcs[f]? = some fn) (h1 : (fn.name == "runtime.NumGoroutine") = false) (h2 : fn.body.isNone = true)
 (h3 : (Extern.findNext fn).isNone = true) (h4 : Extern.find fn = some Extern.BytealgIndexByte.indexByte) (ha : args = #[x, y]) (hx : evalO e x = some (.str s)) (hy : evalO e y = some (.int .u8 c)) :
 POp P e ⟨dst, .call ⟨.value (.func f), args, ats⟩, ty, pos, af, g⟩ (.int .i64 (Lib.indexByte s c.toNat.toUInt8)) :=
 POp.of_val fun I a w ho => by
  subst ha
  have e1 := (ho.one (x := x) (by simp [Op.operands, Call.operands]) hx).str_inv
  have e2 := (ho.one (x := y) (by simp [Op.operands, Call.operands]) hy).int_inv
  refine ⟨_, ?_, .int _ _⟩
  have h3' : Extern.findNext fn = none := by cases h : Extern.findNext fn with | none => rfl | some _ => rw [h] at h3; simp at h3
  have hcmp : (Extern.BytealgIndexByte.indexByte #[.string ⟨s.toArray⟩, .int .u8 c]).run P w = .ok (.int .i64 (Lib.indexByte s c.toNat.toUInt8)) w := by
   have := Lib.run_indexByteString (P := P) ⟨s.toArray⟩ c w
   simpa using this
  have hev : a.eval (.func f) = .func (.func f) #[] #[] := rfl
  have hmap : (#[x, y] : Array Operand).map a.eval = #[.string ⟨s.toArray⟩, .int .u8 c] := by simp [e1, e2]
  have hargs : (#[] : Array Value) ++ #[.string ⟨s.toArray⟩, .int .u8 c] ++ #[] = #[.string ⟨s.toArray⟩, .int .u8 c] := rfl
  simp only [execOp, resolve, hev, hmap, Deferred.ofValue, invoke, callFunc, Sem.run_bind, Sem.run_pure, Result.andThen_ok, run_program, hf, h1, h2, h3', h4, Bool.false_eq_true, if_false, if_true, run_mark, hargs, hcmp]
end
end Go.HL
end
section
namespace Go.HL
def asciiSet (l : List UInt8) : List HVal := (List.range 256).map fun i => .bool (l.contains (UInt8.ofNat i))
theorem asciiSet_len (l : List UInt8) : (asciiSet l).length = 256 := by simp [asciiSet]
theorem asciiSet_get (l : List UInt8) (c : UInt8) : (asciiSet l)[c.toNat]? = some (.bool (l.contains c)) := by
 have := c.toNat_lt
 simp [asciiSet, List.getElem?_range, this]
theorem flat_bools {α : Type} (f : α → Bool) : ∀ l : List α, flat (l.map fun i => .bool (f i)) = true
 | [] => rfl
 | x :: l => by simp only [List.map_cons, flat]; exact flat_bools f l
theorem asciiSet_flat (l : List UInt8) : flat (asciiSet l) = true := flat_bools _ _
theorem asciiSet_add (l : List UInt8) (c : UInt8) : setL (asciiSet l) (0 + c.toNat * 1) [.bool true] = asciiSet (l ++ [c]) := by
 have hc := c.toNat_lt
 have hl : 0 + c.toNat * 1 = c.toNat := by omega
 rw [hl]
 apply List.ext_getElem?
 intro i
 have hlen := asciiSet_len l
 simp only [setL, List.length_singleton]
 by_cases hi : i < c.toNat
 ·rw [List.getElem?_append_left (by simp; omega), List.getElem?_append_left (by simp [hlen]; omega), List.getElem?_take_of_lt hi]
  have h256 : i < 256 := by omega
  have hne : UInt8.ofNat i ≠ c := fun h => by
   have := congrArg UInt8.toNat h
   rw [UInt8.toNat_ofNat_of_lt' (by simpa [UInt8.size] using h256)] at this; omega
  simp [asciiSet, List.getElem?_range, h256, hne]
 ·by_cases he : i = c.toNat
  ·subst he
   rw [List.getElem?_append_left (by simp [hlen]; omega), List.getElem?_append_right (by simp [hlen]; omega)]
   rw [asciiSet_get]
   simp [hlen, Nat.min_eq_left (Nat.le_of_lt hc)]
  ·rw [List.getElem?_append_right (by simp [hlen]; omega), List.getElem?_drop]
   have e1 : c.toNat + 1 + (i - ((asciiSet l).take c.toNat ++ [HVal.bool true]).length) = i := by simp [hlen]; omega
   rw [e1]
   by_cases h256 : i < 256
   ·have hne : UInt8.ofNat i ≠ c := fun h => by
     have := congrArg UInt8.toNat h
     rw [UInt8.toNat_ofNat_of_lt' (by simpa [UInt8.size] using h256)] at this; omega
    simp [asciiSet, List.getElem?_range, h256, hne]
   ·rw [List.getElem?_eq_none (by rw [asciiSet_len]; omega), List.getElem?_eq_none (by rw [asciiSet_len]; omega)]
def rtrim (p : UInt8 → Bool) (s : Str) : Str := (s.reverse.dropWhile p).reverse
theorem rtrim_snoc (p : UInt8 → Bool) (s : Str) (c : UInt8) : rtrim p (s ++ [c]) = if p c then rtrim p s else s ++ [c] := by
 unfold rtrim
 rw [List.reverse_append]
 simp only [List.reverse_cons, List.reverse_nil, List.nil_append, List.singleton_append, List.dropWhile_cons]
 split <;> simp
theorem dw_len (p : UInt8 → Bool) : ∀ s : Str, (s.dropWhile p).length ≤ s.length
 | [] => Nat.le_refl _
 | x :: s => by
   rw [List.dropWhile_cons]
   split
   ·exact Nat.le_succ_of_le (dw_len p s)
   ·exact Nat.le_refl _
theorem rtrim_len (p : UInt8 → Bool) (s : Str) : (rtrim p s).length ≤ s.length := by
 unfold rtrim
 rw [List.length_reverse]
 have := dw_len p s.reverse
 rwa [List.length_reverse] at this
theorem dw_nil (p : UInt8 → Bool) : ∀ s : Str, s.dropWhile p = [] → ∀ c ∈ s, p c = true
 | [], _, c, h => by cases h
 | x :: s, h, c, hc => by
   rw [List.dropWhile_cons] at h
   by_cases hx : p x = true
   ·rw [if_pos hx] at h
    rcases List.mem_cons.1 hc with rfl | hc
    ·exact hx
    ·exact dw_nil p s h c hc
   ·rw [if_neg hx] at h; cases h
theorem trim_nil (p : UInt8 → Bool) (s : Str) : ((rtrim p s).dropWhile p == []) = s.all p := by
 induction s using List.reverseRecOn' with
 | nil => rfl
 | snoc s c ih =>
   rw [rtrim_snoc]
   by_cases hc : p c = true
   ·rw [if_pos hc, ih]; simp [hc]
   ·rw [if_neg hc]
    have : (s ++ [c]).all p = false := by simp [hc]
    rw [this]
    cases hd : (s ++ [c]).dropWhile p with
    | nil => exact absurd (dw_nil _ _ hd c (by simp)) hc
    | cons _ _ => rfl
where
 List.reverseRecOn' {motive : Str → Prop} (nil : motive []) (snoc : ∀ s c, motive s → motive (s ++ [c])) (l : Str) : motive l := by
  have : ∀ n (l : Str), l.length = n → motive l := by
   intro n
   induction n with
   | zero => intro l h; rw [List.length_eq_zero_iff.1 h]; exact nil
   | succ n ih =>
     intro l h
     have hne : l ≠ [] := fun h0 => by subst h0; simp at h
     rw [← List.dropLast_concat_getLast hne]
     exact snoc _ _ (ih _ (by simp [h]))
  exact this l.length l rfl
def cut38 : Str := [97, 98, 99, 100, 101, 102, 103, 104, 105, 106, 107, 108, 109, 110, 111, 112, 113, 114, 115, 116, 117, 118, 119, 120, 121, 122, 48, 49, 50, 51, 52, 53, 54, 55, 56, 57, 45, 95]
def small26 : Str := [97, 98, 99, 100, 101, 102, 103, 104, 105, 106, 107, 108, 109, 110, 111, 112, 113, 114, 115, 116, 117, 118, 119, 120, 121, 122]
theorem all256 {p : UInt8 → Bool} (h : (List.range 256).all (fun i => p (UInt8.ofNat i)) = true) (c : UInt8) : p c = true := by
 have := List.all_eq_true.1 h c.toNat (List.mem_range.2 c.toNat_lt)
 simpa using this
theorem cut38_eq (c : UInt8) : cut38.contains c = keyCh c := by
 have := all256 (p := fun c => cut38.contains c == keyCh c) (by kernel_rfl) c
 simpa using this
theorem small26_eq (c : UInt8) : decide (0 ≤ Lib.indexByte small26 c) = (decide (97 ≤ c.toNat) && decide (c.toNat ≤ 122)) := by
 have := all256 (p := fun c => decide (0 ≤ Lib.indexByte small26 c) == (decide (97 ≤ c.toNat) && decide (c.toNat ≤ 122))) (by kernel_rfl) c
 simpa using this
theorem key_ref (s : Str) : key s = ((!(out s.length 1 40) && ((rtrim (cut38.contains ·) s).dropWhile (cut38.contains ·) == [])) && decide (0 ≤ Lib.indexByte small26 (s.headD 0))) := by
 rw [trim_nil, small26_eq]
 have : (fun x => cut38.contains x) = keyCh := funext cut38_eq
 rw [this]
 unfold key keyHd
 cases s with
 | nil => simp [out]
 | cons x r =>
   simp only [List.headD_cons]
   have h1 : (!(out ((x :: r).length : Int) 1 40)) = decide ((x :: r).length ≤ 40) := by
    simp only [out, List.length_cons]
    rw [Bool.eq_iff_iff]; simp; omega
   rw [h1]
   have h2 : ((x :: r) != []) = true := rfl
   rw [h2]
   have hb : ∀ a b c d : Bool, (true && a && c && d && b) = (a && b && (c && d)) := by decide
   exact hb _ _ _ _
end Go.HL
end
section
namespace Go.Proofs.YtbfikmihcpfgaaaGreatDoor
open Go.HL
set_option maxRecDepth 100000
set_option linter.unusedVariables false
set_option linter.unusedSimpArgs false
/-- strings.makeASCIISet -/
theorem c_strings_makeASCIISet [Tracks] {l : Str} (hl : l.length ≤ 1000000) (ha : ∀ c ∈ l, c.toNat < 128) : ConP Tryz.prog 110 [.str l] (.tup [.agg (asciiSet l), .bool true]) := by
 refine Con.of_bodyc Tryz.func110 rfl Tryz.ntmps110 rfl rfl ?_
 refine hw_reg ?_
 refine de rfl (eop_alloc ty148 rfl fun b2 => ?_)
 refine dp rfl (pop_assign rfl) ?_
 refine dn ?_
 refine hw_seq ?_
 refine hw_reg ?_
 refine dp rfl (pop_assign rfl) ?_
 refine dn ?_
 refine hw_block ?_
 refine hw_loopw [3, 4, 5, 6, 7, 8, 9, 10, 11, 12, 13, 14, 15, 16, 17, 18, 19] (fun (k : Nat) => [(4, .int .i64 k)]) (fun (k : Nat) => [.cells b2 (asciiSet (l.take k))]) (fun (k : Nat) => k ≤ l.length ∧ (True)) (fun (k : Nat) => l.length - k) (0) ?_ ?_ ?_ ?_
 ·exact ⟨Nat.zero_le _, by simp_all⟩
 ·exact ⟨rfl, trivial⟩
 ·exact perm_eq rfl
 ·intro k hinv
  obtain ⟨hk, -⟩ := hinv
  refine hw_seq ?_
  refine hw_reg ?_
  refine dp rfl (pop_move rfl) ?_
  refine dp rfl (pop_move rfl) ?_
  refine dp rfl (pop_lens ty9 rfl) ?_
  refine dp rfl (pop_lss rfl rfl) ?_
  refine dn ?_
  refine hw_cond rfl (fun h1 => ?_) (fun h2 => ?_)
  ·try simp at h1
   obtain ⟨x, hx⟩ : ∃ x, l[k]? = some x := ⟨_, List.getElem?_eq_getElem h1⟩
   have hdx := drop_cons hx
   have hc := ha x (List.mem_of_getElem? hx)
   refine hw_skip ?_
   refine seqQ_n ?_
   refine hw_seq ?_
   refine hw_block ?_
   refine hw_reg ?_
   refine dp rfl (pop_move rfl) ?_
   refine dp rfl (pop_move rfl) ?_
   refine dp rfl (pop_indexs ty9 rfl rfl rfl (by assumption)) ?_
   refine dp rfl (pop_assign rfl) ?_
   refine dn ?_
   refine hw_seq ?_
   refine hw_reg ?_
   refine dp rfl (pop_move rfl) ?_
   refine dp rfl (pop_geq rfl rfl) ?_
   refine dn ?_
   refine hw_cond rfl (fun h3 => ?_) (fun h3 => ?_)
   ·exfalso
    try simp at h3
    omega
   ·try simp at h3
    refine hw_skip ?_
    refine seqQ_n ?_
    refine hw_reg1 ?_
    refine dp rfl (pop_move rfl) ?_
    refine dp rfl (pop_idxa_raw ty148 ty4 rfl rfl rfl (by omega)) ?_
    refine de0 (eop_store (i := 0) ty4 rfl rfl rfl rfl rfl (by rw [asciiSet_len]; omega) ?_)
    refine dn ?_
    refine blockQ_n ?_
    refine seqQ_n ?_
    refine hw_reg1 ?_
    refine dp rfl (pop_move rfl) ?_
    refine dp rfl (pop_add64 rfl rfl (by omega) (by omega)) ?_
    refine dp rfl (pop_assign rfl) ?_
    refine dn ?_
    refine ⟨k + 1, ?_, ?_, ⟨rfl, trivial⟩, (by repeat (first | exact keeps_refl | refine keeps_upd rfl ?_ | refine keeps_loop rfl rfl ?_)), perm_eq (by show [MObj.cells b2 (setL _ (0 + x.toNat * 1) [.bool true])] = _; rw [asciiSet_add]; dsimp only; rw [List.take_add_one, hx]; rfl)⟩
    ·exact ⟨by omega, trivial⟩
    ·dsimp only; omega
  ·try simp at h2
   have hnk : l.length ≤ k := by omega
   obtain rfl : k = l.length := by omega
   refine hw_exit ?_
   refine seqQ_x ?_
   refine loopQ_x ?_
   refine blockQ_eq ?_
   refine seqQ_n ?_
   refine hw_ghost (Ghost.of_eq (M' := [.cells b2 (asciiSet l)]) (by rw [List.take_length])) ?_
   refine hw_reg ?_
   refine de rfl (eop_loadw (i := 0) (h := .agg (asciiSet l)) ty148 rfl rfl rfl rfl (asciiSet_len l) ?_)
   refine de0 (eop_storew (h := .agg (asciiSet l)) ty148 rfl rfl (by simp [okElem, asciiSet_len]) (asciiSet_flat l) (asciiSet_len l) ?_)
   refine dp rfl (pop_assign rfl) ?_
   refine dn ?_
   refine hw_ret ?_
   refine ⟨_, _, Ghost.fc0 2 rfl, [_, _], _, ⟨⟨_, _, _, _, _, rfl, ty148, .inr ⟨rfl, rfl, rfl⟩⟩, ⟨rfl, trivial⟩⟩, Weak.refl _, ?_, rfl⟩
   rfl

/-- (*strings.asciiSet).contains -/
theorem c_strings_asciiSet_contains [Tracks] {l : Str} {c : UInt8}  : ConP Tryz.prog 150 [.vptr (asciiSet l) 0, .int .u8 c.toNat] (.bool (l.contains c)) := by
 have hc := c.toNat_lt
 refine Con.of_body Tryz.func150 rfl Tryz.ntmps150 rfl rfl ?_
 refine hw_reg ?_
 refine dp rfl (pop_assign rfl) ?_
 refine dn ?_
 refine hw_reg ?_
 refine dp rfl (pop_move rfl) ?_
 refine dp rfl (pop_move rfl) ?_
 refine dp rfl ((pop_nilCheck rfl)) ?_
 refine dp rfl (pop_idxa ty148 ty4 rfl rfl rfl (by omega)) ?_
 refine dp rfl (pop_load ty4 rfl rfl (by rw [show 0 + c.toNat * 1 = c.toNat from by omega]; exact asciiSet_get l c)) ?_
 refine dp rfl (pop_assign rfl) ?_
 refine dn ?_
 refine hw_ret ?_
 refine ret_p rfl ?_
 rfl

/-- strings.trimLeftASCII -/
theorem c_strings_trimLeftASCII [Tracks] {s l : Str} (hl : s.length ≤ 1000000) : ConP Tryz.prog 111 [.str s, .vptr (asciiSet l) 0] (.str (s.dropWhile (l.contains ·))) := by
 refine Con.of_body Tryz.func111 rfl Tryz.ntmps111 rfl rfl ?_
 refine hw_reg ?_
 refine dp rfl (pop_assign rfl) ?_
 refine dn ?_
 refine hw_seq ?_
 refine hw_block ?_
 refine hw_loopw [0, 5, 6, 7, 8, 9, 10, 11, 12, 13, 14] (fun (t : Str) => [(0, .str t)]) (fun (t : Str) => []) (fun (t : Str) => t.length ≤ s.length ∧ s.dropWhile (l.contains ·) = t.dropWhile (l.contains ·)) (fun (t : Str) => t.length) (s) ?_ ?_ ?_ ?_
 ·exact ⟨Nat.le_refl _, rfl⟩
 ·exact ⟨rfl, trivial⟩
 ·exact List.Perm.refl _
 ·intro t hinv
  obtain ⟨ht, hg⟩ := hinv
  refine hw_seq ?_
  refine hw_reg ?_
  refine dp rfl (pop_move rfl) ?_
  refine dp rfl (pop_lens ty9 rfl) ?_
  refine dp rfl (pop_gtr rfl rfl) ?_
  refine dn ?_
  refine hw_cond rfl (fun h1 => ?_) (fun h2 => ?_)
  ·try simp at h1
   obtain ⟨x, u, rfl⟩ : ∃ x u, t = x :: u := by cases t with | nil => simp at h1 | cons x u => exact ⟨x, u, rfl⟩
   have hlen : (x :: u).length = u.length + 1 := rfl
   refine hw_skip ?_
   refine seqQ_n ?_
   refine hw_block ?_
   refine hw_seq ?_
   refine hw_reg ?_
   refine dp rfl (pop_move rfl) ?_
   refine dp rfl (pop_move rfl) ?_
   refine dp rfl (pop_indexs (j := 0) (b := x) ty9 rfl rfl rfl rfl) ?_
   refine dp rfl (pop_call ca150 rfl (WeakL.refl _) c_strings_asciiSet_contains) ?_
   refine dp rfl (pop_not rfl) ?_
   refine dn ?_
   refine hw_cond rfl (fun h3 => ?_) (fun h4 => ?_)
   ·try simp at h3
    refine hw_exit ?_
    refine seqQ_x ?_
    refine blockQ_ne rfl ?_
    refine loopQ_x ?_
    refine blockQ_eq ?_
    refine seqQ_n ?_
    refine hw_reg ?_
    refine dp rfl (pop_move rfl) ?_
    refine dp rfl (pop_assign rfl) ?_
    refine dn ?_
    refine hw_ret ?_
    refine ret_p rfl ?_
    show HVal.str _ = _
    rw [hg]; simp_all [List.dropWhile_cons]
   ·try simp at h4
    refine hw_skip ?_
    refine seqQ_n ?_
    refine hw_reg1 ?_
    refine dp rfl (pop_move rfl) ?_
    refine dp rfl (pop_slices (l := 1) ty9 rfl ⟨_, _, rfl, rfl⟩ rfl (by omega) (by omega)) ?_
    refine dp rfl (pop_assign rfl) ?_
    refine dn ?_
    refine blockQ_n ?_
    refine ⟨_, ?_, ?_, ⟨rfl, trivial⟩, (by repeat (first | exact keeps_refl | refine keeps_upd rfl ?_ | refine keeps_loop rfl rfl ?_)), List.Perm.refl _⟩
    ·refine ⟨by simp at ht ⊢; omega, ?_⟩
     rw [hg]; simp_all [List.dropWhile_cons]
    ·dsimp only; simp
  ·try simp at h2
   obtain rfl : t = [] := by simpa using h2
   refine hw_exit ?_
   refine seqQ_x ?_
   refine loopQ_x ?_
   refine blockQ_eq ?_
   refine seqQ_n ?_
   refine hw_reg ?_
   refine dp rfl (pop_move rfl) ?_
   refine dp rfl (pop_assign rfl) ?_
   refine dn ?_
   refine hw_ret ?_
   refine ret_p rfl ?_
   show HVal.str _ = _
   rw [hg]; simp_all [List.dropWhile_cons]

/-- strings.trimRightASCII -/
theorem c_strings_trimRightASCII [Tracks] {s l : Str} (hl : s.length ≤ 1000000) : ConP Tryz.prog 112 [.str s, .vptr (asciiSet l) 0] (.str (rtrim (l.contains ·) s)) := by
 refine Con.of_body Tryz.func112 rfl Tryz.ntmps112 rfl rfl ?_
 refine hw_reg ?_
 refine dp rfl (pop_assign rfl) ?_
 refine dn ?_
 refine hw_seq ?_
 refine hw_block ?_
 refine hw_loopw [0, 5, 6, 7, 8, 9, 10, 11, 12, 13, 14, 15, 16, 17, 18, 19, 20] (fun (t : Str) => [(0, .str t)]) (fun (t : Str) => []) (fun (t : Str) => t.length ≤ s.length ∧ rtrim (l.contains ·) s = rtrim (l.contains ·) t) (fun (t : Str) => t.length) (s) ?_ ?_ ?_ ?_
 ·exact ⟨Nat.le_refl _, rfl⟩
 ·exact ⟨rfl, trivial⟩
 ·exact List.Perm.refl _
 ·intro t hinv
  obtain ⟨ht, hg⟩ := hinv
  refine hw_seq ?_
  refine hw_reg ?_
  refine dp rfl (pop_move rfl) ?_
  refine dp rfl (pop_lens ty9 rfl) ?_
  refine dp rfl (pop_gtr rfl rfl) ?_
  refine dn ?_
  refine hw_cond rfl (fun h1 => ?_) (fun h2 => ?_)
  ·try simp at h1
   obtain ⟨u, x, rfl⟩ : ∃ u x, t = u ++ [x] := ⟨_, _, (List.dropLast_concat_getLast (by intro h0; subst h0; simp at h1)).symm⟩
   have hlen : (u ++ [x]).length = u.length + 1 := by simp
   refine hw_skip ?_
   refine seqQ_n ?_
   refine hw_block ?_
   refine hw_seq ?_
   refine hw_reg ?_
   refine dp rfl (pop_move rfl) ?_
   refine dp rfl (pop_move rfl) ?_
   refine dp rfl (pop_move rfl) ?_
   refine dp rfl (pop_lens ty9 rfl) ?_
   refine dp rfl (pop_sub64 rfl rfl (by omega) (by omega)) ?_
   refine dp rfl (pop_indexs (j := u.length) (b := x) ty9 rfl rfl (by omega) (by simp)) ?_
   refine dp rfl (pop_call ca150 rfl (WeakL.refl _) c_strings_asciiSet_contains) ?_
   refine dp rfl (pop_not rfl) ?_
   refine dn ?_
   refine hw_cond rfl (fun h3 => ?_) (fun h4 => ?_)
   ·try simp at h3
    refine hw_exit ?_
    refine seqQ_x ?_
    refine blockQ_ne rfl ?_
    refine loopQ_x ?_
    refine blockQ_eq ?_
    refine seqQ_n ?_
    refine hw_reg ?_
    refine dp rfl (pop_move rfl) ?_
    refine dp rfl (pop_assign rfl) ?_
    refine dn ?_
    refine hw_ret ?_
    refine ret_p rfl ?_
    show HVal.str _ = _
    rw [hg]; first | rfl | (rw [rtrim_snoc, if_neg (by simp_all)])
   ·try simp at h4
    refine hw_skip ?_
    refine seqQ_n ?_
    refine hw_reg1 ?_
    refine dp rfl (pop_move rfl) ?_
    refine dp rfl (pop_move rfl) ?_
    refine dp rfl (pop_lens ty9 rfl) ?_
    refine dp rfl (pop_sub64 rfl rfl (by omega) (by omega)) ?_
    refine dp rfl (pop_slices (l := 0) (h := u.length) ty9 rfl rfl ⟨_, _, rfl, by omega⟩ (by omega) (by omega)) ?_
    refine dp rfl (pop_assign rfl) ?_
    refine dn ?_
    refine blockQ_n ?_
    refine ⟨_, ?_, ?_, ⟨rfl, trivial⟩, (by repeat (first | exact keeps_refl | refine keeps_upd rfl ?_ | refine keeps_loop rfl rfl ?_)), List.Perm.refl _⟩
    ·refine ⟨by simp at ht ⊢; omega, ?_⟩
     rw [hg, rtrim_snoc, if_pos (by simp_all)]; simp
    ·dsimp only; simp
  ·try simp at h2
   obtain rfl : t = [] := by simpa using h2
   refine hw_exit ?_
   refine seqQ_x ?_
   refine loopQ_x ?_
   refine blockQ_eq ?_
   refine seqQ_n ?_
   refine hw_reg ?_
   refine dp rfl (pop_move rfl) ?_
   refine dp rfl (pop_assign rfl) ?_
   refine dn ?_
   refine hw_ret ?_
   refine ret_p rfl ?_
   show HVal.str _ = _
   rw [hg]; first | rfl | (rw [rtrim_snoc, if_neg (by simp_all)])

/-- strings.Trim -/
theorem c_strings_Trim [Tracks] {s l : Str} (hs : s.length ≤ 1000000) (hl : l.length ≤ 1000000) (h2l : 2 ≤ l.length) (ha : ∀ c ∈ l, c.toNat < 128) : ConP Tryz.prog 76 [.str s, .str l] (.str ((rtrim (l.contains ·) s).dropWhile (l.contains ·))) := by
 refine Con.of_body Tryz.func76 rfl Tryz.ntmps76 rfl rfl ?_
 refine hw_reg ?_
 refine dp rfl (pop_assign rfl) ?_
 refine dn ?_
 refine hw_seq ?_
 refine hw_reg ?_
 refine dp rfl (pop_move rfl) ?_
 refine dp rfl (pop_eqls rfl rfl) ?_
 refine dp rfl (pop_move rfl) ?_
 refine dg rfl rfl (fun hc => ⟨_, OpenTo.refl _, pop_move rfl⟩) ?_
 refine dg rfl rfl (fun hc => ⟨_, OpenTo.upd (t := 10) rfl (hc) (OpenTo.refl _), pop_eqls rfl rfl⟩) ?_
 refine dp rfl (pop_picko rfl (.inl rfl) (.inr ⟨_, rfl, fun h => by simp_all⟩)) ?_
 refine dn ?_
 refine hw_cond rfl (fun h1 => ?_) (fun h2 => ?_)
 ·try simp at h1
  refine hw_reg ?_
  refine dp rfl (pop_move rfl) ?_
  refine dp rfl (pop_assign rfl) ?_
  refine dn ?_
  refine hw_ret ?_
  refine ret_p rfl ?_
  show HVal.str _ = _
  (rcases h1 with rfl | rfl <;> first | (simp at h2l; done) | (simp [rtrim]; done))
 ·try simp at h2
  refine hw_skip ?_
  refine seqQ_n ?_
  refine hw_seq ?_
  refine hw_reg ?_
  refine dp rfl (pop_move rfl) ?_
  refine dp rfl (pop_lens ty9 rfl) ?_
  refine dp rfl (pop_eql rfl rfl) ?_
  refine dp rfl (pop_move rfl) ?_
  refine dg rfl rfl (fun hc => ⟨_, OpenTo.refl _, pop_move rfl⟩) ?_
  refine dg rfl rfl (fun hc => ⟨_, OpenTo.upd (t := 18) rfl (hc) (OpenTo.refl _), pop_indexs (j := 0) (b := l.headD 0) ty9 rfl rfl rfl (hd0 (by intro h0; subst h0; simp at h2l))⟩) ?_
  refine dg rfl rfl (fun hc => ⟨_, OpenTo.upd (t := 19) rfl (hc) (OpenTo.refl _), pop_lss rfl rfl⟩) ?_
  refine dp rfl (pop_picko rfl (.inr ⟨_, rfl, fun h => by simp_all⟩) (.inl rfl)) ?_
  refine dn ?_
  refine hw_cond rfl (fun h3 => ?_) (fun h3 => ?_)
  ·exfalso
   try simp at h3
   omega
  ·try simp at h3
   refine hw_skip ?_
   refine seqQ_n ?_
   refine hw_seq ?_
   refine hw_reg ?_
   refine dp rfl (pop_move rfl) ?_
   refine dp rfl (pop_call ca110 rfl (WeakL.refl _) (c_strings_makeASCIISet (by assumption) (by assumption))) ?_
   refine dp rfl (pop_move rfl) ?_
   refine dp rfl (pop_extract rfl rfl) ?_
   refine dp rfl (pop_extract rfl rfl) ?_
   refine de rfl (eop_alloc ty148 rfl fun b5 => ?_)
   refine de0 (eop_storew ty148 rfl rfl rfl rfl rfl ?_)
   refine dp rfl (pop_assign rfl) ?_
   refine dn ?_
   refine hw_ghost (Ghost.fc0 5 rfl) ?_
   refine hw_reg ?_
   refine dp rfl (pop_move rfl) ?_
   refine dn ?_
   refine hw_cond_t rfl ?_
   refine hw_reg ?_
   refine dp rfl (pop_move rfl) ?_
   refine dp rfl (pop_call ca112 rfl (WeakL.refl _) (c_strings_trimRightASCII (by assumption))) ?_
   refine dp rfl (pop_call ca111 rfl (WeakL.refl _) (c_strings_trimLeftASCII (Nat.le_trans (rtrim_len _ _) hs))) ?_
   refine dp rfl (pop_assign rfl) ?_
   refine dn ?_
   refine hw_ret ?_
   refine ret_p rfl ?_
   show HVal.str _ = _
   rfl

/-- internal/stringslite.IndexByte -/
theorem c_internal_stringslite_IndexByte [Tracks] {s : Str} {c : Int}  : ConP Tryz.prog 115 [.str s, .int .u8 c] (.int .i64 (Lib.indexByte s c.toNat.toUInt8)) := by
 refine Con.of_body Tryz.func115 rfl Tryz.ntmps115 rfl rfl ?_
 refine hw_reg ?_
 refine dp rfl (pop_assign rfl) ?_
 refine dn ?_
 refine hw_reg ?_
 refine dp rfl (pop_move rfl) ?_
 refine dp rfl (pop_move rfl) ?_
 refine dp rfl (pop_indexByte Tryz.func154 (by kernel_rfl) (by kernel_rfl) (by kernel_rfl) (by kernel_rfl) rfl rfl rfl) ?_
 refine dp rfl (pop_assign rfl) ?_
 refine dn ?_
 refine hw_ret ?_
 refine ret_p rfl ?_
 rfl

/-- strings.IndexByte -/
theorem c_strings_IndexByte [Tracks] {s : Str} {c : Int}  : ConP Tryz.prog 77 [.str s, .int .u8 c] (.int .i64 (Lib.indexByte s c.toNat.toUInt8)) := by
 refine Con.of_body Tryz.func77 rfl Tryz.ntmps77 rfl rfl ?_
 refine hw_reg ?_
 refine dp rfl (pop_assign rfl) ?_
 refine dn ?_
 refine hw_reg ?_
 refine dp rfl (pop_move rfl) ?_
 refine dp rfl (pop_move rfl) ?_
 refine dp rfl (pop_call ca115 rfl (WeakL.refl _) c_internal_stringslite_IndexByte) ?_
 refine dp rfl (pop_assign rfl) ?_
 refine dn ?_
 refine hw_ret ?_
 refine ret_p rfl ?_
 rfl

/-- benchwarmer/benchref1.in -/
theorem c_benchref1_in [Tracks] {n lo hi : Int}  : ConP Tryz.prog 34 [.int .i64 n, .int .i64 lo, .int .i64 hi] (.bool (!(out n lo hi))) := by
 refine Con.of_body Tryz.func34 rfl Tryz.ntmps34 rfl rfl ?_
 refine hw_reg ?_
 refine dp rfl (pop_assign rfl) ?_
 refine dn ?_
 refine hw_reg ?_
 refine dp rfl (pop_move rfl) ?_
 refine dp rfl (pop_move rfl) ?_
 refine dp rfl (pop_leq rfl rfl) ?_
 refine dp rfl (pop_move rfl) ?_
 refine dg rfl rfl (fun hc => ⟨_, OpenTo.refl _, pop_move rfl⟩) ?_
 refine dg rfl rfl (fun hc => ⟨_, OpenTo.refl _, pop_move rfl⟩) ?_
 refine dg rfl rfl (fun hc => ⟨_, OpenTo.upd (t := 12) rfl (hc) (OpenTo.upd (t := 11) rfl (hc) (OpenTo.refl _)), pop_leq rfl rfl⟩) ?_
 refine dp rfl (pop_picko rfl (.inr ⟨_, rfl, fun h => by simp_all⟩) (.inl rfl)) ?_
 refine dp rfl (pop_assign rfl) ?_
 refine dn ?_
 refine hw_ret ?_
 refine ret_p rfl ?_
 show HVal.bool _ = _
 congr 1; simp [out]; rw [Bool.eq_iff_iff]; simp; try omega

/-- benchwarmer/benchref1.Key -/
theorem c_benchref1_Key [Tracks] {s : Str} (hs : s.length ≤ 1000000) : ConP Tryz.prog 33 [.str s] (.bool (key s)) := by
 refine Con.of_body Tryz.func33 rfl Tryz.ntmps33 rfl rfl ?_
 refine hw_reg ?_
 refine dp rfl (pop_assign rfl) ?_
 refine dn ?_
 refine hw_reg ?_
 refine dp rfl (pop_move rfl) ?_
 refine dp rfl (pop_lens ty9 rfl) ?_
 refine dp rfl (pop_call ca34 rfl (WeakL.refl _) c_benchref1_in) ?_
 refine dp rfl (pop_move rfl) ?_
 refine dg rfl rfl (fun hc => ⟨_, OpenTo.refl _, pop_move rfl⟩) ?_
 refine dg rfl rfl (fun hc => ⟨_, OpenTo.upd (t := 7) rfl (hc) (OpenTo.refl _), pop_call ca76 rfl (WeakL.refl _) (c_strings_Trim (l := cut38) hs (by decide) (by decide) (by decide))⟩) ?_
 refine dg rfl rfl (fun hc => ⟨_, OpenTo.upd (t := 8) rfl (hc) (OpenTo.refl _), pop_eqls rfl rfl⟩) ?_
 refine dp rfl (pop_picko rfl (.inr ⟨_, rfl, fun h => by simp_all⟩) (.inl rfl)) ?_
 refine dp rfl (pop_move rfl) ?_
 refine dg rfl rfl (fun hc => ⟨_, OpenTo.refl _, pop_move rfl⟩) ?_
 refine dg rfl rfl (fun hc => ⟨_, OpenTo.upd (t := 12) rfl (hc) (OpenTo.refl _), pop_indexs (j := 0) (b := s.headD 0) ty9 rfl rfl rfl (hd0 (by rintro rfl; simp [out] at hc))⟩) ?_
 refine dg rfl rfl (fun hc => ⟨_, OpenTo.upd (t := 13) rfl (hc) (OpenTo.refl _), pop_call ca77 rfl (WeakL.refl _) c_strings_IndexByte⟩) ?_
 refine dg rfl rfl (fun hc => ⟨_, OpenTo.upd (t := 14) rfl (hc) (OpenTo.refl _), pop_geq rfl rfl⟩) ?_
 refine dp rfl (pop_picko rfl (.inr ⟨_, rfl, fun h => by simp_all⟩) (.inl rfl)) ?_
 refine dp rfl (pop_assign rfl) ?_
 refine dn ?_
 refine hw_ret ?_
 refine ret_p rfl ?_
 show HVal.bool _ = _
 rw [key_ref]
 simp [cut38, small26]

/-- benchwarmer/benchref1.SpanFault -/
theorem c_benchref1_SpanFault [Tracks] {n lo hi : Int}  : ConP Tryz.prog 22 [.int .i64 n, .int .i64 lo, .int .i64 hi] (.int .i64 (if out n lo hi then 1 else 0)) := by
 refine Con.of_body Tryz.func22 rfl Tryz.ntmps22 rfl rfl ?_
 refine hw_reg ?_
 refine dp rfl (pop_assign rfl) ?_
 refine dn ?_
 refine hw_seq ?_
 refine hw_reg ?_
 refine dp rfl (pop_move rfl) ?_
 refine dp rfl (pop_move rfl) ?_
 refine dp rfl (pop_move rfl) ?_
 refine dp rfl (pop_call ca34 rfl (WeakL.refl _) c_benchref1_in) ?_
 refine dp rfl (pop_not rfl) ?_
 refine dn ?_
 refine hw_cond rfl (fun h1 => ?_) (fun h2 => ?_)
 ·try simp at h1
  refine hw_reg ?_
  refine dp rfl (pop_assign rfl) ?_
  refine dn ?_
  refine hw_ret ?_
  refine ret_p rfl ?_
  show HVal.int .i64 _ = _
  simp_all
 ·try simp at h2
  refine hw_skip ?_
  refine seqQ_n ?_
  refine hw_reg ?_
  refine dp rfl (pop_assign rfl) ?_
  refine dn ?_
  refine hw_ret ?_
  refine ret_p rfl ?_
  show HVal.int .i64 _ = _
  simp_all
end Go.Proofs.YtbfikmihcpfgaaaGreatDoor
end
section
namespace Go.Proofs
open Go.Shelf
def Tryz.lays190_ren : Go.Shelf.Ren := ⟨fun | 190 => 98 | 125 => 138 | 258 => 137 | 128 => 179 | 129 => 180 | 302 => 170 | 303 => 171 | 304 => 172 | 305 => 173 | 306 => 174 | 307 => 175 | 308 => 176 | 309 => 177 | 310 => 178 | 333 => 209 | 329 => 210 | 330 => 211 | 334 => 212 | 335 => 213 | 336 => 141 | 344 => 235 | n => n, fun | 31 => 44 | 9 => 9 | 3 => 3 | 46 => 181 | 0 => 0 | 51 => 221 | 53 => 185 | 4 => 4 | 183 => 215 | 182 => 214 | 131 => 76 | 5 => 5 | 218 => 239 | 222 => 243 | 228 => 262 | 229 => 55 | n => n, fun | n => n⟩
theorem Tryz.lays190 : Go.Proofs.Lays.n190 Tryz.prog Tryz.lays190_ren := {
 mixed := by kernel_rfl
 f125 := Tryz.func138.trans (congrArg some (by kernel_rfl))
 f128 := Tryz.func179.trans (congrArg some (by kernel_rfl))
 f129 := Tryz.func180.trans (congrArg some (by kernel_rfl))
 f190 := Tryz.func98.trans (congrArg some (by kernel_rfl))
 f258 := Tryz.func137.trans (congrArg some (by kernel_rfl))
 f302 := Tryz.func170.trans (congrArg some (by kernel_rfl))
 f303 := Tryz.func171.trans (congrArg some (by kernel_rfl))
 f304 := Tryz.func172.trans (congrArg some (by kernel_rfl))
 f305 := Tryz.func173.trans (congrArg some (by kernel_rfl))
 f306 := Tryz.func174.trans (congrArg some (by kernel_rfl))
 f307 := Tryz.func175.trans (congrArg some (by kernel_rfl))
 f308 := Tryz.func176.trans (congrArg some (by kernel_rfl))
 f309 := Tryz.func177.trans (congrArg some (by kernel_rfl))
 f310 := Tryz.func178.trans (congrArg some (by kernel_rfl))
 f329 := Tryz.func210.trans (congrArg some (by kernel_rfl))
 f330 := Tryz.func211.trans (congrArg some (by kernel_rfl))
 f333 := Tryz.func209.trans (congrArg some (by kernel_rfl))
 f334 := Tryz.func212.trans (congrArg some (by kernel_rfl))
 f335 := Tryz.func213.trans (congrArg some (by kernel_rfl))
 f336 := Tryz.func141.trans (congrArg some (by kernel_rfl))
 f344 := Tryz.func235.trans (congrArg some (by kernel_rfl))
 t0 := Tryz.underlying0
 a0 := Tryz.isAgg0
 z0 := Tryz.sizeOf0
 v0 := Tryz.zeroValue0
 t3 := Tryz.underlying3
 a3 := Tryz.isAgg3
 z3 := Tryz.sizeOf3
 v3 := Tryz.zeroValue3
 t4 := Tryz.underlying4
 a4 := Tryz.isAgg4
 z4 := Tryz.sizeOf4
 v4 := Tryz.zeroValue4
 t5 := Tryz.underlying5
 a5 := Tryz.isAgg5
 z5 := Tryz.sizeOf5
 v5 := Tryz.zeroValue5
 t9 := Tryz.underlying9
 a9 := Tryz.isAgg9
 z9 := Tryz.sizeOf9
 v9 := Tryz.zeroValue9
 t31 := Tryz.underlying44
 a31 := Tryz.isAgg44
 z31 := Tryz.sizeOf44
 v31 := Tryz.zeroValue44
 t46 := Tryz.underlying181
 a46 := Tryz.isAgg181
 z46 := Tryz.sizeOf181
 v46 := Tryz.zeroValue181
 t51 := Tryz.underlying221
 a51 := Tryz.isAgg221
 z51 := Tryz.sizeOf221
 v51 := Tryz.zeroValue221
 t53 := Tryz.underlying185
 a53 := Tryz.isAgg185
 z53 := Tryz.sizeOf185
 v53 := Tryz.zeroValue185
 t131 := Tryz.underlying76
 a131 := Tryz.isAgg76
 z131 := Tryz.sizeOf76
 v131 := Tryz.zeroValue76
 t182 := Tryz.underlying214
 a182 := Tryz.isAgg214
 z182 := Tryz.sizeOf214
 v182 := Tryz.zeroValue214
 t183 := Tryz.underlying215
 a183 := Tryz.isAgg215
 z183 := Tryz.sizeOf215
 v183 := Tryz.zeroValue215
 t218 := Tryz.underlying239
 a218 := Tryz.isAgg239
 z218 := Tryz.sizeOf239
 v218 := Tryz.zeroValue239
 t222 := Tryz.underlying243
 a222 := Tryz.isAgg243
 z222 := Tryz.sizeOf243
 v222 := Tryz.zeroValue243
 t228 := Tryz.underlying262
 a228 := Tryz.isAgg262
 z228 := Tryz.sizeOf262
 v228 := Tryz.zeroValue262
 t229 := Tryz.underlying55
 a229 := Tryz.isAgg55
 z229 := Tryz.sizeOf55
 v229 := Tryz.zeroValue55 }
def Tryz.lays171_ren : Go.Shelf.Ren := ⟨fun | 171 => 30 | 243 => 74 | 246 => 107 | 283 => 146 | 284 => 147 | 285 => 148 | 286 => 149 | 129 => 180 | 317 => 193 | 318 => 194 | 319 => 195 | 320 => 196 | 337 => 220 | 338 => 221 | n => n, fun | 3 => 3 | 9 => 9 | 2 => 2 | 4 => 4 | 171 => 184 | 0 => 0 | 53 => 185 | 37 => 68 | 5 => 5 | 173 => 188 | 212 => 229 | 51 => 221 | 20 => 20 | 213 => 230 | 46 => 181 | 232 => 267 | 233 => 268 | n => n, fun | 17 => 1 | 18 => 6 | 19 => 7 | n => n⟩
theorem Tryz.lays171 : Go.Proofs.Lays.n171 Tryz.prog Tryz.lays171_ren := {
 mixed := by kernel_rfl
 f129 := Tryz.func180.trans (congrArg some (by kernel_rfl))
 f171 := Tryz.func30.trans (congrArg some (by kernel_rfl))
 f243 := Tryz.func74.trans (congrArg some (by kernel_rfl))
 f246 := Tryz.func107.trans (congrArg some (by kernel_rfl))
 f283 := Tryz.func146.trans (congrArg some (by kernel_rfl))
 f284 := Tryz.func147.trans (congrArg some (by kernel_rfl))
 f285 := Tryz.func148.trans (congrArg some (by kernel_rfl))
 f286 := Tryz.func149.trans (congrArg some (by kernel_rfl))
 f317 := Tryz.func193.trans (congrArg some (by kernel_rfl))
 f318 := Tryz.func194.trans (congrArg some (by kernel_rfl))
 f319 := Tryz.func195.trans (congrArg some (by kernel_rfl))
 f320 := Tryz.func196.trans (congrArg some (by kernel_rfl))
 f337 := Tryz.func220.trans (congrArg some (by kernel_rfl))
 f338 := Tryz.func221.trans (congrArg some (by kernel_rfl))
 t0 := Tryz.underlying0
 a0 := Tryz.isAgg0
 z0 := Tryz.sizeOf0
 v0 := Tryz.zeroValue0
 t2 := Tryz.underlying2
 a2 := Tryz.isAgg2
 z2 := Tryz.sizeOf2
 v2 := Tryz.zeroValue2
 t3 := Tryz.underlying3
 a3 := Tryz.isAgg3
 z3 := Tryz.sizeOf3
 v3 := Tryz.zeroValue3
 t4 := Tryz.underlying4
 a4 := Tryz.isAgg4
 z4 := Tryz.sizeOf4
 v4 := Tryz.zeroValue4
 t5 := Tryz.underlying5
 a5 := Tryz.isAgg5
 z5 := Tryz.sizeOf5
 v5 := Tryz.zeroValue5
 t9 := Tryz.underlying9
 a9 := Tryz.isAgg9
 z9 := Tryz.sizeOf9
 v9 := Tryz.zeroValue9
 t20 := Tryz.underlying20
 a20 := Tryz.isAgg20
 z20 := Tryz.sizeOf20
 v20 := Tryz.zeroValue20
 t37 := Tryz.underlying68
 a37 := Tryz.isAgg68
 z37 := Tryz.sizeOf68
 v37 := Tryz.zeroValue68
 t46 := Tryz.underlying181
 a46 := Tryz.isAgg181
 z46 := Tryz.sizeOf181
 v46 := Tryz.zeroValue181
 t51 := Tryz.underlying221
 a51 := Tryz.isAgg221
 z51 := Tryz.sizeOf221
 v51 := Tryz.zeroValue221
 t53 := Tryz.underlying185
 a53 := Tryz.isAgg185
 z53 := Tryz.sizeOf185
 v53 := Tryz.zeroValue185
 t171 := Tryz.underlying184
 a171 := Tryz.isAgg184
 z171 := Tryz.sizeOf184
 v171 := Tryz.zeroValue184
 t173 := Tryz.underlying188
 a173 := Tryz.isAgg188
 z173 := Tryz.sizeOf188
 v173 := Tryz.zeroValue188
 t212 := Tryz.underlying229
 a212 := Tryz.isAgg229
 z212 := Tryz.sizeOf229
 v212 := Tryz.zeroValue229
 t213 := Tryz.underlying230
 a213 := Tryz.isAgg230
 z213 := Tryz.sizeOf230
 t232 := Tryz.underlying267
 a232 := Tryz.isAgg267
 z232 := Tryz.sizeOf267
 v232 := Tryz.zeroValue267
 t233 := Tryz.underlying268
 a233 := Tryz.isAgg268
 z233 := Tryz.sizeOf268
 v233 := Tryz.zeroValue268
 g17 := by kernel_rfl
 g18 := by kernel_rfl
 g19 := by kernel_rfl }
def Tryz.laysm171_ren : Go.Shelf.Ren := ⟨fun | 171 => 30 | 243 => 74 | 246 => 107 | 283 => 146 | 284 => 147 | 285 => 148 | 286 => 149 | 129 => 180 | 317 => 193 | 318 => 194 | 319 => 195 | 320 => 196 | 337 => 220 | 338 => 221 | n => n, fun | 3 => 3 | 9 => 9 | 2 => 2 | 4 => 4 | 171 => 184 | 0 => 0 | 53 => 185 | 37 => 68 | 5 => 5 | 173 => 188 | 212 => 229 | 51 => 221 | 20 => 20 | 213 => 230 | 46 => 181 | 232 => 267 | 233 => 268 | n => n, fun | 17 => 1 | 18 => 6 | 19 => 7 | n => n⟩
theorem Tryz.laysm171 : Go.Proofs.LaysM.n171 Tryz.prog Tryz.laysm171_ren := {
 mixed := by kernel_rfl
 f129 := Tryz.func180.trans (congrArg some (by kernel_rfl))
 f171 := Tryz.func30.trans (congrArg some (by kernel_rfl))
 f243 := Tryz.func74.trans (congrArg some (by kernel_rfl))
 f246 := Tryz.func107.trans (congrArg some (by kernel_rfl))
 f283 := Tryz.func146.trans (congrArg some (by kernel_rfl))
 f284 := Tryz.func147.trans (congrArg some (by kernel_rfl))
 f285 := Tryz.func148.trans (congrArg some (by kernel_rfl))
 f286 := Tryz.func149.trans (congrArg some (by kernel_rfl))
 f317 := Tryz.func193.trans (congrArg some (by kernel_rfl))
 f318 := Tryz.func194.trans (congrArg some (by kernel_rfl))
 f319 := Tryz.func195.trans (congrArg some (by kernel_rfl))
 f320 := Tryz.func196.trans (congrArg some (by kernel_rfl))
 f337 := Tryz.func220.trans (congrArg some (by kernel_rfl))
 f338 := Tryz.func221.trans (congrArg some (by kernel_rfl))
 t0 := Tryz.underlying0
 a0 := Tryz.isAgg0
 z0 := Tryz.sizeOf0
 v0 := Tryz.zeroValue0
 t2 := Tryz.underlying2
 a2 := Tryz.isAgg2
 z2 := Tryz.sizeOf2
 v2 := Tryz.zeroValue2
 t3 := Tryz.underlying3
 a3 := Tryz.isAgg3
 z3 := Tryz.sizeOf3
 v3 := Tryz.zeroValue3
 t4 := Tryz.underlying4
 a4 := Tryz.isAgg4
 z4 := Tryz.sizeOf4
 v4 := Tryz.zeroValue4
 t5 := Tryz.underlying5
 a5 := Tryz.isAgg5
 z5 := Tryz.sizeOf5
 v5 := Tryz.zeroValue5
 t9 := Tryz.underlying9
 a9 := Tryz.isAgg9
 z9 := Tryz.sizeOf9
 v9 := Tryz.zeroValue9
 t20 := Tryz.underlying20
 a20 := Tryz.isAgg20
 z20 := Tryz.sizeOf20
 v20 := Tryz.zeroValue20
 t37 := Tryz.underlying68
 a37 := Tryz.isAgg68
 z37 := Tryz.sizeOf68
 v37 := Tryz.zeroValue68
 t46 := Tryz.underlying181
 a46 := Tryz.isAgg181
 z46 := Tryz.sizeOf181
 v46 := Tryz.zeroValue181
 t51 := Tryz.underlying221
 a51 := Tryz.isAgg221
 z51 := Tryz.sizeOf221
 v51 := Tryz.zeroValue221
 t53 := Tryz.underlying185
 a53 := Tryz.isAgg185
 z53 := Tryz.sizeOf185
 v53 := Tryz.zeroValue185
 t171 := Tryz.underlying184
 a171 := Tryz.isAgg184
 z171 := Tryz.sizeOf184
 v171 := Tryz.zeroValue184
 t173 := Tryz.underlying188
 a173 := Tryz.isAgg188
 z173 := Tryz.sizeOf188
 v173 := Tryz.zeroValue188
 t212 := Tryz.underlying229
 a212 := Tryz.isAgg229
 z212 := Tryz.sizeOf229
 v212 := Tryz.zeroValue229
 t213 := Tryz.underlying230
 a213 := Tryz.isAgg230
 z213 := Tryz.sizeOf230
 t232 := Tryz.underlying267
 a232 := Tryz.isAgg267
 z232 := Tryz.sizeOf267
 v232 := Tryz.zeroValue267
 t233 := Tryz.underlying268
 a233 := Tryz.isAgg268
 z233 := Tryz.sizeOf268
 v233 := Tryz.zeroValue268
 g17 := by kernel_rfl
 g18 := by kernel_rfl
 g19 := by kernel_rfl
 i0 := by kernel_rfl
 i2 := by kernel_rfl
 i3 := by kernel_rfl
 i4 := by kernel_rfl
 i5 := by kernel_rfl
 i9 := by kernel_rfl
 i20 := by kernel_rfl
 i37 := by kernel_rfl
 i46 := by kernel_rfl
 i51 := by kernel_rfl
 i53 := by kernel_rfl
 i171 := by kernel_rfl
 i173 := by kernel_rfl
 i212 := by kernel_rfl
 i232 := by kernel_rfl
 i233 := by kernel_rfl
 m17 := by kernel_rfl
 m18 := by kernel_rfl
 m19 := by kernel_rfl }
def Tryz.lays172_ren : Go.Shelf.Ren := ⟨fun | 172 => 82 | 244 => 120 | 245 => 121 | 247 => 157 | 279 => 158 | 280 => 159 | 281 => 160 | 282 => 161 | 287 => 201 | 316 => 202 | 171 => 30 | 205 => 203 | 321 => 223 | 322 => 224 | 243 => 74 | 246 => 107 | 283 => 146 | 284 => 147 | 285 => 148 | 286 => 149 | 129 => 180 | 317 => 193 | 318 => 194 | 319 => 195 | 320 => 196 | 337 => 220 | 338 => 221 | n => n, fun | 9 => 9 | 3 => 3 | 75 => 72 | 76 => 73 | 4 => 4 | 5 => 5 | 167 => 195 | 37 => 68 | 0 => 0 | 85 => 196 | 2 => 2 | 168 => 198 | 53 => 185 | 175 => 232 | 46 => 181 | 210 => 236 | 127 => 122 | 145 => 255 | 143 => 253 | 21 => 21 | 171 => 184 | 173 => 188 | 212 => 229 | 51 => 221 | 20 => 20 | 213 => 230 | 232 => 267 | 233 => 268 | 80 => 37 | n => n, fun | 15 => 2 | 16 => 3 | 17 => 1 | 18 => 6 | 19 => 7 | n => n⟩
theorem Tryz.lays172 : Go.Proofs.Lays.n172 Tryz.prog Tryz.lays172_ren := {
 mixed := by kernel_rfl
 f129 := Tryz.func180.trans (congrArg some (by kernel_rfl))
 f171 := Tryz.func30.trans (congrArg some (by kernel_rfl))
 f172 := Tryz.func82.trans (congrArg some (by kernel_rfl))
 f205 := Tryz.func203.trans (congrArg some (by kernel_rfl))
 f243 := Tryz.func74.trans (congrArg some (by kernel_rfl))
 f244 := Tryz.func120.trans (congrArg some (by kernel_rfl))
 f245 := Tryz.func121.trans (congrArg some (by kernel_rfl))
 f246 := Tryz.func107.trans (congrArg some (by kernel_rfl))
 f247 := Tryz.func157.trans (congrArg some (by kernel_rfl))
 f279 := Tryz.func158.trans (congrArg some (by kernel_rfl))
 f280 := Tryz.func159.trans (congrArg some (by kernel_rfl))
 f281 := Tryz.func160.trans (congrArg some (by kernel_rfl))
 f282 := Tryz.func161.trans (congrArg some (by kernel_rfl))
 f283 := Tryz.func146.trans (congrArg some (by kernel_rfl))
 f284 := Tryz.func147.trans (congrArg some (by kernel_rfl))
 f285 := Tryz.func148.trans (congrArg some (by kernel_rfl))
 f286 := Tryz.func149.trans (congrArg some (by kernel_rfl))
 f287 := Tryz.func201.trans (congrArg some (by kernel_rfl))
 f316 := Tryz.func202.trans (congrArg some (by kernel_rfl))
 f317 := Tryz.func193.trans (congrArg some (by kernel_rfl))
 f318 := Tryz.func194.trans (congrArg some (by kernel_rfl))
 f319 := Tryz.func195.trans (congrArg some (by kernel_rfl))
 f320 := Tryz.func196.trans (congrArg some (by kernel_rfl))
 f321 := Tryz.func223.trans (congrArg some (by kernel_rfl))
 f322 := Tryz.func224.trans (congrArg some (by kernel_rfl))
 f337 := Tryz.func220.trans (congrArg some (by kernel_rfl))
 f338 := Tryz.func221.trans (congrArg some (by kernel_rfl))
 t0 := Tryz.underlying0
 a0 := Tryz.isAgg0
 z0 := Tryz.sizeOf0
 v0 := Tryz.zeroValue0
 t2 := Tryz.underlying2
 a2 := Tryz.isAgg2
 z2 := Tryz.sizeOf2
 v2 := Tryz.zeroValue2
 t3 := Tryz.underlying3
 a3 := Tryz.isAgg3
 z3 := Tryz.sizeOf3
 v3 := Tryz.zeroValue3
 t4 := Tryz.underlying4
 a4 := Tryz.isAgg4
 z4 := Tryz.sizeOf4
 v4 := Tryz.zeroValue4
 t5 := Tryz.underlying5
 a5 := Tryz.isAgg5
 z5 := Tryz.sizeOf5
 v5 := Tryz.zeroValue5
 t9 := Tryz.underlying9
 a9 := Tryz.isAgg9
 z9 := Tryz.sizeOf9
 v9 := Tryz.zeroValue9
 t20 := Tryz.underlying20
 a20 := Tryz.isAgg20
 z20 := Tryz.sizeOf20
 v20 := Tryz.zeroValue20
 t21 := Tryz.underlying21
 a21 := Tryz.isAgg21
 z21 := Tryz.sizeOf21
 v21 := Tryz.zeroValue21
 t37 := Tryz.underlying68
 a37 := Tryz.isAgg68
 z37 := Tryz.sizeOf68
 v37 := Tryz.zeroValue68
 t46 := Tryz.underlying181
 a46 := Tryz.isAgg181
 z46 := Tryz.sizeOf181
 v46 := Tryz.zeroValue181
 t51 := Tryz.underlying221
 a51 := Tryz.isAgg221
 z51 := Tryz.sizeOf221
 v51 := Tryz.zeroValue221
 t53 := Tryz.underlying185
 a53 := Tryz.isAgg185
 z53 := Tryz.sizeOf185
 v53 := Tryz.zeroValue185
 t75 := Tryz.underlying72
 a75 := Tryz.isAgg72
 z75 := Tryz.sizeOf72
 v75 := Tryz.zeroValue72
 t76 := Tryz.underlying73
 a76 := Tryz.isAgg73
 z76 := Tryz.sizeOf73
 v76 := Tryz.zeroValue73
 t85 := Tryz.underlying196
 a85 := Tryz.isAgg196
 z85 := Tryz.sizeOf196
 v85 := Tryz.zeroValue196
 t127 := Tryz.underlying122
 a127 := Tryz.isAgg122
 z127 := Tryz.sizeOf122
 v127 := Tryz.zeroValue122
 t143 := Tryz.underlying253
 a143 := Tryz.isAgg253
 z143 := Tryz.sizeOf253
 v143 := Tryz.zeroValue253
 t145 := Tryz.underlying255
 a145 := Tryz.isAgg255
 z145 := Tryz.sizeOf255
 v145 := Tryz.zeroValue255
 t167 := Tryz.underlying195
 a167 := Tryz.isAgg195
 z167 := Tryz.sizeOf195
 v167 := Tryz.zeroValue195
 t168 := Tryz.underlying198
 a168 := Tryz.isAgg198
 z168 := Tryz.sizeOf198
 v168 := Tryz.zeroValue198
 t171 := Tryz.underlying184
 a171 := Tryz.isAgg184
 z171 := Tryz.sizeOf184
 v171 := Tryz.zeroValue184
 t173 := Tryz.underlying188
 a173 := Tryz.isAgg188
 z173 := Tryz.sizeOf188
 v173 := Tryz.zeroValue188
 t175 := Tryz.underlying232
 a175 := Tryz.isAgg232
 z175 := Tryz.sizeOf232
 v175 := Tryz.zeroValue232
 t210 := Tryz.underlying236
 a210 := Tryz.isAgg236
 z210 := Tryz.sizeOf236
 v210 := Tryz.zeroValue236
 t212 := Tryz.underlying229
 a212 := Tryz.isAgg229
 z212 := Tryz.sizeOf229
 v212 := Tryz.zeroValue229
 t213 := Tryz.underlying230
 a213 := Tryz.isAgg230
 z213 := Tryz.sizeOf230
 t232 := Tryz.underlying267
 a232 := Tryz.isAgg267
 z232 := Tryz.sizeOf267
 v232 := Tryz.zeroValue267
 t233 := Tryz.underlying268
 a233 := Tryz.isAgg268
 z233 := Tryz.sizeOf268
 v233 := Tryz.zeroValue268
 g15 := by kernel_rfl
 g16 := by kernel_rfl
 g17 := by kernel_rfl
 g18 := by kernel_rfl
 g19 := by kernel_rfl }
def Tryz.lays101_ren : Go.Shelf.Ren := ⟨fun | 101 => 81 | 208 => 119 | 206 => 156 | n => n, fun | 9 => 9 | 4 => 4 | 3 => 3 | n => n, fun | n => n⟩
theorem Tryz.lays101 : Go.Proofs.Lays.n101 Tryz.prog Tryz.lays101_ren := {
 mixed := by kernel_rfl
 f101 := Tryz.func81.trans (congrArg some (by kernel_rfl))
 f206 := Tryz.func156.trans (congrArg some (by kernel_rfl))
 f208 := Tryz.func119.trans (congrArg some (by kernel_rfl))
 t3 := Tryz.underlying3
 a3 := Tryz.isAgg3
 z3 := Tryz.sizeOf3
 v3 := Tryz.zeroValue3
 t4 := Tryz.underlying4
 a4 := Tryz.isAgg4
 z4 := Tryz.sizeOf4
 v4 := Tryz.zeroValue4
 t9 := Tryz.underlying9
 a9 := Tryz.isAgg9
 z9 := Tryz.sizeOf9
 v9 := Tryz.zeroValue9 }
end Go.Proofs
end
section
namespace Go.HL
variable {P : Program}
open Go.Sort Go.Proofs
theorem arr_some [Tracks] {I : Imm} {F : List MObj} {w : World} {b off n cap sz : Nat} {es : List HVal} (h : Sat P I (.arr (.slice (some ⟨b, off, none⟩) n cap) sz es :: F) w) :
 n = es.length ∧ ∃ rc el fr, w.heap[b]? = some (.cells rc el fr) ∧ Free fr rc.size ∧ (∀ e ∈ es, (hcells e).length = sz) ∧ (es.length ≤ cap ∧ cap ≤ 9223372036854775807) ∧ off + cap * sz ≤ rc.size ∧
  (∀ (i j : Nat) (e c : HVal) (v : Value), es[i]? = some e → (hcells e)[j]? = some c → rc[off + i * sz + j]? = some v → V I c v) := by
 rcases h.obj _ List.mem_cons_self with ⟨h0, _⟩ | ⟨b', off', cap', rc, el, fr, h1, h2, h3, h4, h5, h6, h7⟩
 ·cases h0
 ·cases h1
  exact ⟨rfl, rc, el, fr, h2, h3, h4, h5, h6, h7⟩
theorem holds_row [Tracks] {I : Imm} {F : List MObj} {w : World} {b off n cap : Nat} {l : List (List UInt8)} (h : Sat P I (.arr (.slice (some ⟨b, off, none⟩) n cap) 1 (l.map .str) :: F) w) :
 Holds encStr w b off l.toArray ∧ b < w.heap.size ∧ l.length ≤ cap ∧ n = l.length := by
 obtain ⟨h0, rc, el, fr, h2, h3, h4, h5, h6, h7⟩ := arr_some h
 simp only [List.length_map] at h0 h5
 refine ⟨fun j hj => ?_, ?_, h5.1, h0⟩
 ·have hj' : j < l.length := by simpa using hj
  have hlt : off + j < rc.size := by omega
  constructor
  ·rw [cell_of h2, Array.getElem?_eq_getElem hlt]
   have hv := h7 j 0 (.str l[j]) (.str l[j]) rc[off + j] (by simp [hj']) (by simp [hcells]) (by simp [Array.getElem?_eq_getElem hlt])
   rw [hv.str_inv]
   simp [hj', encStr]
  ·simp only [World.frozen?, h2]
   have := h3 (off + j) hlt
   simpa using this
 ·rcases Nat.lt_or_ge b w.heap.size with h' | h'
  ·exact h'
  ·simp [Array.getElem?_eq_none h'] at h2
theorem sat_row [Tracks] {I : Imm} {F : List MObj} {w : World} {b off n cap n' k : Nat} {os : Array Obj} {l zs : List (List UInt8)} (h : Sat P I (.arr (.slice (some ⟨b, off, none⟩) n cap) 1 (l.map .str) :: F) w) (hz : zs.length = l.length) (hn : n' ≤ l.length) :
 Sat P I (.arr (.slice (some ⟨b, off, none⟩) n' cap) 1 ((zs.take n').map .str) :: F) (grow (putRow encStr (Sort.ahead w k) b off zs.toArray) os) := by
 obtain ⟨h0, rc, el, fr, h2, h3, h4, h5, h6, h7⟩ := arr_some h
 simp only [List.length_map] at h0 h5
 have hlt : b < w.heap.size := by
  rcases Nat.lt_or_ge b w.heap.size with h' | h'
  ·exact h'
  ·simp [Array.getElem?_eq_none h'] at h2
 have hheap : ∀ c, c < w.heap.size → (grow (putRow encStr (Sort.ahead w k) b off zs.toArray) os).heap[c]? = (w.heap.modify b (onCells (putCells encStr off zs.toArray)))[c]? := fun c hc => by
  simp only [grow, putRow, mapBlock, Sort.ahead]
  rw [Array.getElem?_append_left (by simpa using hc)]
 refine h.change (m' := .arr (.slice (some ⟨b, off, none⟩) n' cap) 1 ((zs.take n').map .str)) (fun c hc hnc => ?_) (fun c hc => .inl hc) (by simp [MObj.blocks]) ?_ rfl rfl rfl
 ·rw [hheap c hc, Array.getElem?_modify]
  have : b ≠ c := fun hh => hnc (by subst hh; simp [MObj.blocks])
  rw [if_neg this]
 ·refine .inr ⟨b, off, cap, putCells encStr off zs.toArray rc, el, fr, ?_, ?_, ?_, ?_, ?_, ?_, ?_⟩
  ·simp [hz, Nat.min_eq_left hn]
  ·rw [hheap b hlt, Array.getElem?_modify, if_pos rfl, h2]; rfl
  ·simpa [putCells] using h3
  ·intro e he; obtain ⟨a, _, rfl⟩ := List.mem_map.1 he; simp [hcells]
  ·simp; omega
  ·simpa [putCells] using h6
  ·intro i j e c v a1 a2 a3
   have hi : i < n' := by
    have := lt_of_get a1; simp at this; omega
   rw [List.getElem?_map, List.getElem?_take_of_lt hi] at a1
   cases hq : zs[i]? with
   | none => rw [hq] at a1; simp at a1
   | some s =>
     rw [hq] at a1; simp at a1; subst a1
     have hj : j = 0 := by have := lt_of_get a2; simp [hcells] at this; omega
     subst hj
     simp [hcells] at a2; subst a2
     have hil : i < zs.length := lt_of_get hq
     have hr : off + i * 1 + 0 < rc.size := by omega
     rw [putCells, Array.getElem?_mapIdx, Array.getElem?_eq_getElem hr, Option.map_some, if_pos ⟨by omega, by simp; omega⟩] at a3
     have e1 : off + i * 1 + 0 - off = i := by omega
     rw [e1] at a3
     have e2 : zs.toArray[i]! = s := by
      rw [getElem!_pos zs.toArray i (by simpa using hil)]
      have := List.getElem?_eq_getElem hil
      rw [hq] at this; simpa using (Option.some.inj this).symm
     rw [e2] at a3
     cases a3
     exact .str s

theorem VL.one {I : Imm} {h : HVal} {args : List Value} (hv : VL I [h] args) : ∃ v, args = [v] ∧ V I h v := by
 obtain ⟨h1, h2⟩ := hv
 match args, h1 with
 | [v], _ => exact ⟨v, rfl, h2 0 h v rfl rfl⟩

def sortS (l : List (List UInt8)) : List (List UInt8) := l.mergeSort fun x y => decide (x ≤ y)
theorem sortS_len (l : List (List UInt8)) : (sortS l).length = l.length := by simp [sortS]

/-- A function that works on a slice of strings in place and hands on nothing. -/
theorem con_row [Tracks] {P : Program} {f : FuncId} {l zs : List (List UInt8)} {v : Value} (hz : zs.length = l.length)
 (h1 : ∀ (b off cap : Nat) (w : World), Holds encStr w b off l.toArray → b < w.heap.size → l.length ≤ cap → Calls P f #[.slice (some ⟨b, off, none⟩) l.length cap] w fun e w' => e = .returned (.tuple #[]) ∧ ∃ n os, w' = grow (putRow encStr (Sort.ahead w n) b off zs.toArray) os)
 (h0 : l = [] → ConP P f [.slice 1 []] (.tup [])) : Con P f [.raw v] [.arr v 1 (l.map .str)] fun x M' => x = .tup [] ∧ M' = [.arr v 1 (zs.map .str)] := by
 intro I F w args ha hs
 obtain ⟨u, rfl, hu⟩ := ha.one
 obtain rfl : u = v := hu.raw_inv
 rcases hs.obj (.arr u 1 (l.map .str)) (by simp) with ⟨rfl, hn⟩ | ⟨b, off, cap, rc, el, fr, rfl, _⟩
 ·have hl : l = [] := by simpa using hn
  subst hl
  have hz0 : zs = [] := List.length_eq_zero_iff.1 hz
  subst hz0
  refine (h0 rfl I (.arr (.slice none 0 0) 1 [] :: F) w [.slice none 0 0] (VL.cons (.slice0 _ _ _) VL.nil) (by simpa using hs)).mono ?_
  rintro _ w' ⟨v, h, M', J, rfl, hle, ⟨rfl, rfl⟩, hv, hsat⟩
  exact ⟨v, _, [.arr (.slice none 0 0) 1 []], J, rfl, hle, ⟨rfl, rfl⟩, hv, by simpa using hsat⟩
 ·rw [List.length_map] at hs ⊢
  obtain ⟨g1, g2, g3, g4⟩ := holds_row hs
  refine (h1 b off cap w g1 g2 g3).mono ?_
  rintro _ w' ⟨rfl, n, os, rfl⟩
  refine ⟨_, .tup [], _, I, rfl, .refl I, ⟨rfl, rfl⟩, .tup (by simp) (fun j c v h _ => by simp at h), ?_⟩
  have := sat_row (n' := l.length) (k := n) (os := os) hs hz (Nat.le_refl _)
  rw [← hz, List.take_length, hz] at this
  exact this
end Go.HL
end
section
namespace Go.HL
end Go.HL
end
section
namespace Go.Proofs.YtbfikmihcpfgaaaGreatDoor
open Go.HL
set_option maxRecDepth 100000
set_option linter.unusedVariables false
set_option linter.unusedSimpArgs false
/-- math/bits.Len64 -/
theorem c_math_bits_Len64 [Tracks]   : ConP Tryz.prog 180 [.int .u64 0] (.int .i64 0) := by
 refine Con.of_body Tryz.func180 rfl Tryz.ntmps180 rfl rfl ?_
 refine hw_reg ?_
 refine dp rfl (pop_assign rfl) ?_
 refine dn ?_
 refine hw_seq ?_
 refine hw_reg ?_
 refine dp rfl (pop_move rfl) ?_
 refine dp rfl (pop_geq rfl rfl) ?_
 refine dn ?_
 refine hw_cond_f rfl ?_
 refine hw_skip ?_
 refine seqQ_n ?_
 refine hw_seq ?_
 refine hw_reg ?_
 refine dp rfl (pop_move rfl) ?_
 refine dp rfl (pop_geq rfl rfl) ?_
 refine dn ?_
 refine hw_cond_f rfl ?_
 refine hw_skip ?_
 refine seqQ_n ?_
 refine hw_seq ?_
 refine hw_reg ?_
 refine dp rfl (pop_move rfl) ?_
 refine dp rfl (pop_geq rfl rfl) ?_
 refine dn ?_
 refine hw_cond_f rfl ?_
 refine hw_skip ?_
 refine seqQ_n ?_
 refine hw_reg ?_
 refine dp rfl (pop_move rfl) ?_
 refine dp rfl (pop_move rfl) ?_
 refine dp rfl (pop_conv ty185 ty5 rfl) ?_
 refine dp rfl (pop_indexs (j := 0) (b := 0) ty9 rfl rfl rfl rfl) ?_
 refine dp rfl (pop_conv ty5 ty3 rfl) ?_
 refine dp rfl (pop_add64 rfl rfl (by decide) (by decide)) ?_
 refine dp rfl (pop_assign rfl) ?_
 refine dn ?_
 refine hw_ret ?_
 refine ret_p rfl ?_
 rfl

/-- math/bits.Len -/
theorem c_math_bits_Len [Tracks]   : ConP Tryz.prog 138 [.int .u64 0] (.int .i64 0) := by
 refine Con.of_body Tryz.func138 rfl Tryz.ntmps138 rfl rfl ?_
 refine hw_reg ?_
 refine dp rfl (pop_assign rfl) ?_
 refine dn ?_
 refine hw_seq ?_
 refine hw_cond_f rfl ?_
 refine hw_skip ?_
 refine seqQ_n ?_
 refine hw_reg ?_
 refine dp rfl (pop_move rfl) ?_
 refine dp rfl (pop_call ca180 rfl (WeakL.refl _) c_math_bits_Len64) ?_
 refine dp rfl (pop_assign rfl) ?_
 refine dn ?_
 refine hw_ret ?_
 refine ret_p rfl ?_
 rfl

/-- slices.insertionSortOrdered[string] -/
theorem c_slices_insertionSortOrdered_string [Tracks]   : ConP Tryz.prog 170 [eSs [], .int .i64 0, .int .i64 0] (.tup []) := by
 refine Con.of_body Tryz.func170 rfl Tryz.ntmps170 rfl rfl ?_
 refine hw_reg ?_
 refine dp rfl (pop_move rfl) ?_
 refine dp rfl (pop_add64 rfl rfl (by omega) (by omega)) ?_
 refine dp rfl (pop_assign rfl) ?_
 refine dn ?_
 refine hw_block ?_
 refine hw_loopw [6, 7, 10, 11, 12, 13, 14, 15, 16, 17, 18, 19, 20, 21, 22, 23, 24, 25, 26, 27, 28, 29, 30, 31, 32, 33, 34, 35, 36, 37, 38, 39, 40, 41, 42, 43, 44, 45, 46, 47, 48] (fun (u : Unit) => [(6, .int .i64 1)]) (fun (u : Unit) => []) (fun (u : Unit) => True) (fun (u : Unit) => 0) (()) ?_ ?_ ?_ ?_
 ·trivial
 ·exact ⟨rfl, trivial⟩
 ·exact List.Perm.refl _
 ·intro u hu
  refine hw_seq ?_
  refine hw_reg ?_
  refine dp rfl (pop_move rfl) ?_
  refine dp rfl (pop_move rfl) ?_
  refine dp rfl (pop_lss rfl rfl) ?_
  refine dn ?_
  refine hw_cond_f rfl ?_
  refine hw_exit ?_
  refine seqQ_x ?_
  refine loopQ_x ?_
  refine blockQ_eq ?_
  refine ret_n rfl ?_
  rfl

/-- slices.pdqsortOrdered[string] -/
theorem c_slices_pdqsortOrdered_string [Tracks]   : ConP Tryz.prog 137 [eSs [], .int .i64 0, .int .i64 0, .int .i64 0] (.tup []) := by
 refine Con.of_body Tryz.func137 rfl Tryz.ntmps137 rfl rfl ?_
 refine hw_reg ?_
 refine dp rfl (pop_assign rfl) ?_
 refine dn ?_
 refine hw_reg ?_
 refine dp rfl (pop_assign rfl) ?_
 refine dn ?_
 refine hw_block ?_
 refine hw_loopw (1 :: 2 :: 3 :: 8 :: 9 :: 10 :: 11 :: 12 :: 13 :: 14 :: 15 :: 16 :: 17 :: 18 :: 19 :: 20 :: 21 :: 22 :: 23 :: 24 :: 25 :: 26 :: 27 :: 28 :: 29 :: 30 :: 31 :: 32 :: 33 :: 34 :: 35 :: 36 :: 37 :: 38 :: 39 :: 40 :: 41 :: 42 :: 43 :: 44 :: 45 :: 46 :: 47 :: 48 :: 49 :: 50 :: 51 :: 52 :: 53 :: 54 :: 55 :: 56 :: 57 :: 58 :: 59 :: 60 :: 61 :: 62 :: 63 :: 64 :: 65 :: 66 :: 67 :: 68 :: 69 :: 70 :: 71 :: 72 :: 73 :: 74 :: 75 :: 76 :: 77 :: 78 :: 79 :: 80 :: 81 :: 82 :: 83 :: 84 :: 85 :: 86 :: 87 :: 88 :: 89 :: 90 :: 91 :: 92 :: 93 :: 94 :: 95 :: 96 :: 97 :: 98 :: 99 :: 100 :: 101 :: 102 :: 103 :: 104 :: 105 :: 106 :: 107 :: 108 :: 109 :: 110 :: 111 :: 112 :: 113 :: 114 :: 115 :: 116 :: 117 :: 118 :: 119 :: 120 :: 121 :: 122 :: 123 :: 124 :: 125 :: 126 :: 127 :: 128 :: 129 :: 130 :: 131 :: 132 :: 133 :: []) (fun (u : Unit) => [(1, .int .i64 0), (2, .int .i64 0)]) (fun (u : Unit) => []) (fun (u : Unit) => True) (fun (u : Unit) => 0) (()) ?_ ?_ ?_ ?_
 ·trivial
 ·exact ⟨rfl, rfl, trivial⟩
 ·exact List.Perm.refl _
 ·intro u hu
  refine hw_block ?_
  refine hw_reg ?_
  refine dp rfl (pop_move rfl) ?_
  refine dp rfl (pop_move rfl) ?_
  refine dp rfl (pop_sub64 rfl rfl (by omega) (by omega)) ?_
  refine dp rfl (pop_assign rfl) ?_
  refine dn ?_
  refine hw_seq ?_
  refine hw_reg ?_
  refine dp rfl (pop_move rfl) ?_
  refine dp rfl (pop_leq rfl rfl) ?_
  refine dn ?_
  refine hw_cond_t rfl ?_
  refine hw_reg ?_
  refine dp rfl (pop_move rfl) ?_
  refine dp rfl (pop_move rfl) ?_
  refine dp rfl (pop_move rfl) ?_
  refine dp rfl (pop_call ca170 rfl (WeakL.refl _) c_slices_insertionSortOrdered_string) ?_
  refine dn ?_
  refine hw_ret ?_
  refine ret_p rfl ?_
  rfl

/-- slices.Sort[[]string,string] -/
theorem c_slices_Sort_nil [Tracks]   : ConP Tryz.prog 98 [eSs []] (.tup []) := by
 refine Con.of_body Tryz.func98 rfl Tryz.ntmps98 rfl rfl ?_
 refine hw_reg ?_
 refine dp rfl (pop_move rfl) ?_
 refine dp rfl (pop_lenm ty44 rfl) ?_
 refine dp rfl (pop_assign rfl) ?_
 refine dn ?_
 refine hw_reg1 ?_
 refine dp rfl (pop_move rfl) ?_
 refine dp rfl (pop_move rfl) ?_
 refine dp rfl (pop_move rfl) ?_
 refine dp rfl (pop_conv ty3 ty181 rfl) ?_
 refine dp rfl (pop_call ca138 rfl (WeakL.refl _) c_math_bits_Len) ?_
 refine dp rfl (pop_call ca137 rfl (WeakL.refl _) c_slices_pdqsortOrdered_string) ?_
 refine dn ?_
 refine ret_n rfl ?_
 rfl

/-- slices.Sort: the slice holds the same strings in order -/
theorem c_slices_Sort [Tracks] {l : List Str} {v : Value} (hl : l.length ≤ 1000000) : Con Tryz.prog 98 [.raw v] [.arr v 1 (l.map .str)] fun x M' => x = .tup [] ∧ M' = [.arr v 1 ((sortS l).map .str)] :=
 con_row (sortS_len l) (fun b off cap w h1 h2 _ => Any.slices_Sort_string Tryz.lays190 b off cap l w h1 h2 (by omega)) (fun _ => c_slices_Sort_nil)
end Go.Proofs.YtbfikmihcpfgaaaGreatDoor
end
section
namespace Go.HL
open Op (bytesLess)
theorem cmpI_flip (a b : Int) : cmpI a b = -cmpI b a := by
 unfold cmpI; split <;> split <;> (try split) <;> omega
theorem cmpS_flip (a b : Str) : cmpS a b = -cmpS b a := by
 rw [cmpS_eq, cmpS_eq]
 rcases less_total a b with h | h | h
 ·have hne : a ≠ b := fun e => by subst e; rw [less_irrefl] at h; cases h
  simp [h, less_asymm h, hne.symm]
 ·subst h; simp [less_irrefl]
 ·have hne : a ≠ b := fun e => by subst e; rw [less_irrefl] at h; cases h
  simp [h, less_asymm h, hne]
theorem orI_flip (a b : Int) : orI [-a, -b] = -orI [a, b] := by
 by_cases h1 : a = 0 <;> by_cases h2 : b = 0 <;> simp [orI, h1, h2]
end Go.HL
end
section
namespace Go.HL
variable {P : Program}
section
variable {P : Program} {e : Env} {dst : Option Tmp} {ty : TypeId} {pos : String} {af : Array Edge} {g : Option (Nat × Bool)} {M : List MObj} {K : HVal → List MObj → Prop}
theorem perm_erase {α : Type} : ∀ {l : List α} {i : Nat} {x : α}, l[i]? = some x → l.Perm (x :: l.eraseIdx i)
 | [], i, x, h => by simp at h
 | y :: l, 0, x, h => by simp at h; subst h; exact .refl _
 | y :: l, i + 1, x, h => by
   have := perm_erase (l := l) (i := i) (x := x) (by simpa using h)
   exact (this.cons y).trans (.swap _ _ _)
/-- A call on one of the owned objects. -/
theorem eop_callx [Tracks] {f : FuncId} {args : Array Operand} {ats : Array TypeId} {hs hs' : List HVal} {i : Nat} {m : MObj} {Q : HVal → List MObj → Prop} (hc : Callable P f) (ha : evalL e args.toList = some hs) (hw : WeakL hs hs') (hm : M[i]? = some m)
 (hp : Con P f hs' [m] Q) (hk : ∀ h M', Q h M' → K h (M' ++ M.eraseIdx i)) : EOp P e M ⟨dst, .call ⟨.value (.func f), args, ats⟩, ty, pos, af, g⟩ K :=
 eop_callf (M1 := [m]) hc ha hw (perm_erase hm) hp hk
/-- The length of an owned slice. -/
theorem eop_lenm [Tracks] {α : Type} {f : α → HVal} {x : Operand} {t el : TypeId} {size bytes : Nat} {zero : Value} {i : Nat} {v : Value} {sz : Nat} {es : List α} (hf : Fits P t (.slice el) size bytes zero) (hx : evalO e x = some (.raw v))
 (hm : M[i]? = some (.arr v sz (es.map f))) (hk : K (.int .i64 es.length) M) : EOp P e M ⟨dst, .call ⟨.builtin .len, #[x], #[t]⟩, ty, pos, af, g⟩ K := by
 refine eop_len hf hx hm ?_
 rw [List.length_map]; exact hk
/-- An element of an owned slice is loaded, whole or in part, through its address. -/
theorem eop_load_el [Tracks] {α : Type} {f : α → HVal} {x : Operand} {t : TypeId} {d : TD} {size bytes : Nat} {zero : Value} {i b off cap n sz j o : Nat} {es : List α} {y : α} (k : Nat) {h : HVal} (hf : Fits P t d size bytes zero)
 (hx : evalO e x = some (.raw (.pointer (some ⟨b, o, none⟩)))) (ho' : o = off + j * sz + k) (hm : M[i]? = some (.arr (.slice (some ⟨b, off, none⟩) n cap) sz (es.map f))) (hj : es[j]? = some y)
 (hd : d.isAgg = false) (hh : (hcells (f y))[k]? = some h) (hk : K h M) : EOp P e M ⟨dst, .load t x, ty, pos, af, g⟩ K :=
 eop_load_arr (j := j) (f := k) (y := f y) hf hx ho' hm (by rw [List.getElem?_map, hj]; rfl) (.inl ⟨hd, hh⟩) hk
end
section
variable {P : Program} {ops : Array Oper} {n : Nat} {K : Env → List MObj → Prop} {rest : List Oper} {e : Env} {M : List MObj} {d : Nat} {op : Op} {ty : TypeId} {pos : String} {af : Array Edge}
/-- An operation with an effect under a guard: what it brings about holds where it is not carried out as well. -/
theorem dgx [Tracks] {j : Nat} {want c : Bool} (Q : HVal → List MObj → Prop) (hd : Nat.blt d n = true) (hg : guardC ops e j want = some c) (hn : c = false → ∃ x, Q x M)
 (hp : c = true → ∃ e2, OpenTo e e2 ∧ EOp P e2 M ⟨some d, op, ty, pos, af, some (j, want)⟩ Q)
 (k : ∀ x M', Q x M' → Der P ops n K rest (upd e d (.opt c x)) M') : Der P ops n K (⟨some d, op, ty, pos, af, some (j, want)⟩ :: rest) e M :=
 ⟨fun t ht => by simp at ht; subst ht; exact blt_lt hd, c, hg, fun hc => by
  obtain ⟨e2, h1, h2⟩ := hp hc
  intro I F a w ho hs
  exact Oper.wp_noQ (fun _ _ ⟨v, x, M', J, h3, h4, h5, h7, h8⟩ => ⟨v, .opt c x, M', J, h3, h4, k x M' h5, .opt (fun _ => h7) (fun hf => by rw [hc] at hf; cases hf), h8⟩) (h2 I F a w (ho.open h1) hs),
  fun hc => by
   obtain ⟨x, hx⟩ := hn hc
   subst hc
   exact ⟨x, k x M hx⟩⟩
end
section
variable {P : Program} {e : Env} {dst : Option Tmp} {ty : TypeId} {pos : String} {af : Array Edge} {g : Option (Nat × Bool)}
end
end Go.HL
end
section
namespace Go.HL
abbrev pAt (b : Nat) : HVal := .raw (.pointer (some ⟨b, 0, none⟩))
/-- A stream of numbers of which a have been drawn. -/
abbrev St (b : Nat) (l : List Int) (a : Nat) : MObj := .cells b [.slice 1 (l.map (.int .i64)), .int .i64 (a : Int)]
def below (x n : Int) : Int := if n < 1 then 0 else if x.tmod n < 0 then x.tmod n + n else x.tmod n
theorem below_nat (x n : Int) : ∃ y : Nat, below x n = (y : Int) ∧ (y : Int) < max n 1 := by
 have h : 0 ≤ below x n ∧ below x n < max n 1 := by
  unfold below
  split
  ·omega
  ·have h1 := Int.tmod_lt_of_pos x (show 0 < n by omega)
   have h2 : -n < x.tmod n := by
    have := Int.neg_lt_tmod_of_pos' x n (by omega)
    exact this
   split <;> omega
 exact ⟨(below x n).toNat, by omega, by omega⟩
where
 Int.neg_lt_tmod_of_pos' (x n : Int) (h : 0 < n) : -n < x.tmod n := by
  rcases Int.le_total 0 x with hx | hx
  ·have := Int.tmod_nonneg n hx; omega
  ·have e : x.tmod n = -((-x).tmod n) := by rw [Int.neg_tmod]; simp
   have := Int.tmod_lt_of_pos (-x) h
   omega
theorem getI {L : List Int} {y : Nat} (h : (y : Int) < max (L.length : Int) 1) (h0 : 0 < L.length) : ∃ z, L[y]? = some z ∧ z ∈ L :=
 ⟨L[y]'(by omega), List.getElem?_eq_getElem _, List.getElem_mem _⟩
theorem getS {L : List Str} {y : Nat} (h : (y : Int) < max (L.length : Int) 1) (h0 : 0 < L.length) : ∃ z, L[y]? = some z ∧ z ∈ L :=
 ⟨L[y]'(by omega), List.getElem?_eq_getElem _, List.getElem_mem _⟩
theorem tmod_nat (a b : Nat) : ((a : Int)).tmod (b : Int) = ((a % b : Nat) : Int) := by
 exact (Int.ofNat_tmod a b).symm
end Go.HL
end
section
namespace Go.Proofs.YtbfikmihcpfgaaaGreatDoor
open Go.HL
set_option maxRecDepth 100000
set_option linter.unusedVariables false
set_option linter.unusedSimpArgs false
/-- benchwarmer/benchmake.Below -/
theorem c_benchmake_Below [Tracks] {x n : Int} (hn : n ≤ 4000000000) : ConP Tryz.prog 75 [.int .i64 x, .int .i64 n] (.int .i64 (below x n)) := by
 refine Con.of_body Tryz.func75 rfl Tryz.ntmps75 rfl rfl ?_
 refine hw_reg ?_
 refine dp rfl (pop_assign rfl) ?_
 refine dn ?_
 refine hw_seq ?_
 refine hw_reg ?_
 refine dp rfl (pop_move rfl) ?_
 refine dp rfl (pop_lss rfl rfl) ?_
 refine dn ?_
 refine hw_cond rfl (fun h1 => ?_) (fun h2 => ?_)
 ·try simp at h1
  refine hw_reg ?_
  refine dp rfl (pop_assign rfl) ?_
  refine dn ?_
  refine hw_ret ?_
  refine ret_p rfl ?_
  show HVal.int .i64 _ = _
  simp_all [below]
  try omega
 ·try simp at h2
  refine hw_skip ?_
  refine seqQ_n ?_
  refine hw_reg ?_
  refine dp rfl (pop_move rfl) ?_
  refine dp rfl (pop_move rfl) ?_
  refine dp rfl (pop_rem rfl rfl (by omega)) ?_
  refine dp rfl (pop_assign rfl) ?_
  refine dn ?_
  refine hw_seq ?_
  refine hw_reg ?_
  refine dp rfl (pop_move rfl) ?_
  refine dp rfl (pop_lss rfl rfl) ?_
  refine dn ?_
  refine hw_cond rfl (fun h3 => ?_) (fun h4 => ?_)
  ·try simp at h3
   refine hw_reg1 ?_
   refine dp rfl (pop_move rfl) ?_
   refine dp rfl (pop_move rfl) ?_
   have hm := Int.tmod_lt_of_pos x (show 0 < n by omega)
   obtain ⟨y, hy1, hy2⟩ := below_nat x n
   have hb : below x n = x.tmod n + n := by unfold below; rw [if_neg (by omega), if_pos (by omega)]
   refine dp rfl (pop_add64 rfl rfl (by omega) (by omega)) ?_
   refine dp rfl (pop_assign rfl) ?_
   refine dn ?_
   refine seqQ_n ?_
   refine hw_reg ?_
   refine dp rfl (pop_move rfl) ?_
   refine dp rfl (pop_assign rfl) ?_
   refine dn ?_
   refine hw_ret ?_
   refine ret_p rfl ?_
   show HVal.int .i64 _ = _
   simp_all [below]
   try omega
  ·try simp at h4
   refine hw_skip ?_
   refine seqQ_n ?_
   refine hw_reg ?_
   refine dp rfl (pop_move rfl) ?_
   refine dp rfl (pop_assign rfl) ?_
   refine dn ?_
   refine hw_ret ?_
   refine ret_p rfl ?_
   show HVal.int .i64 _ = _
   simp_all [below]
   try omega

/-- (*benchwarmer/benchmake.Stream).Next -/
theorem c_benchmake_Stream_Next [Tracks] {b : Nat} {l : List Int} {a : Nat} {n : Int} (ha : a ≤ 1000000) (hn : n ≤ 4000000000) : Con Tryz.prog 31 [pAt b, .int .i64 n] [St b l a] (fun x M' => ∃ y : Nat, x = .int .i64 (y : Int) ∧ (y : Int) < max n 1 ∧ M' = [St b l (a + 1)]) := by
 refine Con.of_body Tryz.func31 rfl Tryz.ntmps31 rfl rfl ?_
 refine hw_reg ?_
 refine dp rfl (pop_assign rfl) ?_
 refine dn ?_
 refine hw_reg ?_
 refine dp rfl (pop_move rfl) ?_
 refine dp rfl ((pop_nilCheck_raw rfl)) ?_
 refine dp rfl (pop_fieldAddr_raw ty25 rfl ty3 (by decide) rfl) ?_
 refine de rfl (eop_load (i := 0) ty3 rfl rfl (.inl ⟨rfl, rfl⟩) ?_)
 refine dp rfl (pop_add64 rfl rfl (by omega) (by omega)) ?_
 refine dp rfl ((pop_nilCheck_raw rfl)) ?_
 refine dp rfl (pop_fieldAddr_raw ty25 rfl ty3 (by decide) rfl) ?_
 refine de0 (eop_store (i := 0) ty3 rfl rfl rfl rfl rfl (Nat.le_of_ble_eq_true rfl) ?_)
 refine dn ?_
 refine hw_seq ?_
 refine hw_reg ?_
 refine dp rfl (pop_move rfl) ?_
 refine dp rfl ((pop_nilCheck_raw rfl)) ?_
 refine dp rfl (pop_fieldAddr_raw ty25 rfl ty22 (by decide) rfl) ?_
 refine de rfl (eop_load (i := 0) ty22 rfl rfl (.inl ⟨rfl, rfl⟩) ?_)
 refine dp rfl (pop_lenm ty22 rfl) ?_
 refine dp rfl (pop_eql rfl rfl) ?_
 refine dn ?_
 refine hw_cond rfl (fun h1 => ?_) (fun h2 => ?_)
 ·try simp at h1
  refine hw_reg ?_
  refine dp rfl (pop_move rfl) ?_
  refine dp rfl ((pop_nilCheck_raw rfl)) ?_
  refine dp rfl (pop_fieldAddr_raw ty25 rfl ty3 (by decide) rfl) ?_
  refine de rfl (eop_load (i := 0) ty3 rfl rfl (.inl ⟨rfl, rfl⟩) ?_)
  refine dp rfl (pop_mul rfl rfl) ?_
  refine dp rfl (pop_move rfl) ?_
  refine dp rfl (pop_call ca75 rfl (WeakL.refl _) (c_benchmake_Below (by assumption))) ?_
  refine dp rfl (pop_assign rfl) ?_
  refine dn ?_
  refine hw_ret ?_
  refine ret_q rfl ?_
  obtain ⟨y, h1, h2⟩ := below_nat _ n
  exact ⟨y, congrArg _ h1, h2, rfl⟩
 ·try simp at h2
  refine hw_skip ?_
  refine seqQ_n ?_
  have hl0 : 0 < l.length := List.length_pos_iff.2 (by simpa using h2)
  refine hw_draw (fun M => ∃ i : Nat, M[i]? = some (St b l (a + 1))) [3, 8] mixed ?_
  refine ahp 0 rfl rfl (by kernel_rfl) (by kernel_rfl) (pop_move rfl) ?_
  refine ahp 1 rfl rfl (by kernel_rfl) (by kernel_rfl) ((pop_nilCheck_raw rfl)) ?_
  refine ahp 2 rfl rfl (by kernel_rfl) (by kernel_rfl) (pop_fieldAddr_raw ty25 rfl ty3 (by decide) rfl) ?_
  refine ahl 3 rfl rfl (by kernel_rfl) (by kernel_rfl) (by simp) (⟨0, rfl⟩) (fun M hM => by obtain ⟨i, hi⟩ := hM; exact eop_load (i := i) ty3 rfl hi (.inl ⟨rfl, rfl⟩) ⟨rfl, rfl⟩) ?_
  refine ahp 4 rfl rfl (by kernel_rfl) (by kernel_rfl) (pop_sub64 rfl rfl (by omega) (by omega)) ?_
  refine ahp 5 rfl rfl (by kernel_rfl) (by kernel_rfl) (pop_move rfl) ?_
  refine ahp 6 rfl rfl (by kernel_rfl) (by kernel_rfl) ((pop_nilCheck_raw rfl)) ?_
  refine ahp 7 rfl rfl (by kernel_rfl) (by kernel_rfl) (pop_fieldAddr_raw ty25 rfl ty22 (by decide) rfl) ?_
  refine ahl 8 rfl rfl (by kernel_rfl) (by kernel_rfl) (by simp) (⟨0, rfl⟩) (fun M hM => by obtain ⟨i, hi⟩ := hM; exact eop_load (i := i) ty22 rfl hi (.inl ⟨rfl, rfl⟩) ⟨rfl, rfl⟩) ?_
  refine ahp 9 rfl rfl (by kernel_rfl) (by kernel_rfl) (pop_lenm ty22 rfl) ?_
  refine ahp 10 rfl rfl (by kernel_rfl) (by kernel_rfl) (pop_eq (h' := .int .i64 ((a % l.length : Nat) : Int)) (pop_rem rfl rfl (by omega)) (by show HVal.int .i64 (((a : Int) + 1 - 1).tmod _) = _; rw [show ((a : Int) + 1 - 1) = (a : Int) by omega]; exact congrArg _ (tmod_nat _ _))) ?_
  refine ahp 11 rfl rfl (by kernel_rfl) (by kernel_rfl) (pop_assign rfl) ?_
  refine ahz (by kernel_rfl) ?_
  refine hw_draw (fun M => ∃ i : Nat, M[i]? = some (St b l (a + 1))) [3, 8] mixed ?_
  refine ahp 0 rfl rfl (by kernel_rfl) (by kernel_rfl) (pop_move rfl) ?_
  refine ahp 1 rfl rfl (by kernel_rfl) (by kernel_rfl) ((pop_nilCheck_raw rfl)) ?_
  refine ahp 2 rfl rfl (by kernel_rfl) (by kernel_rfl) (pop_fieldAddr_raw ty25 rfl ty3 (by decide) rfl) ?_
  refine ahl 3 rfl rfl (by kernel_rfl) (by kernel_rfl) (by simp) (⟨0, rfl⟩) (fun M hM => by obtain ⟨i, hi⟩ := hM; exact eop_load (i := i) ty3 rfl hi (.inl ⟨rfl, rfl⟩) ⟨rfl, rfl⟩) ?_
  refine ahp 4 rfl rfl (by kernel_rfl) (by kernel_rfl) (pop_sub64 rfl rfl (by omega) (by omega)) ?_
  refine ahp 5 rfl rfl (by kernel_rfl) (by kernel_rfl) (pop_move rfl) ?_
  refine ahp 6 rfl rfl (by kernel_rfl) (by kernel_rfl) ((pop_nilCheck_raw rfl)) ?_
  refine ahp 7 rfl rfl (by kernel_rfl) (by kernel_rfl) (pop_fieldAddr_raw ty25 rfl ty22 (by decide) rfl) ?_
  refine ahl 8 rfl rfl (by kernel_rfl) (by kernel_rfl) (by simp) (⟨0, rfl⟩) (fun M hM => by obtain ⟨i, hi⟩ := hM; exact eop_load (i := i) ty22 rfl hi (.inl ⟨rfl, rfl⟩) ⟨rfl, rfl⟩) ?_
  refine ahp 9 rfl rfl (by kernel_rfl) (by kernel_rfl) (pop_lenm ty22 rfl) ?_
  refine ahp 10 rfl rfl (by kernel_rfl) (by kernel_rfl) (pop_quo rfl rfl (by omega)) ?_
  refine ahp 11 rfl rfl (by kernel_rfl) (by kernel_rfl) (pop_assign rfl) ?_
  refine ahz (by kernel_rfl) ?_
  refine hw_reg ?_
  refine dp rfl (pop_move rfl) ?_
  refine dp rfl ((pop_nilCheck_raw rfl)) ?_
  refine dp rfl (pop_fieldAddr_raw ty25 rfl ty22 (by decide) rfl) ?_
  refine de rfl (eop_load (i := 0) ty22 rfl rfl (.inl ⟨rfl, rfl⟩) ?_)
  refine dp rfl (pop_move rfl) ?_
  refine dp rfl (pop_idx (j := a % l.length) (a := l[a % l.length]'(Nat.mod_lt _ (by omega))) ty22 ty3 rfl rfl rfl (List.getElem?_eq_getElem _)) ?_
  refine dp rfl (pop_load ty3 rfl rfl rfl) ?_
  refine dp rfl (pop_call ca75 rfl (WeakL.refl _) (c_benchmake_Below (by omega))) ?_
  refine dp rfl (pop_move rfl) ?_
  refine dp rfl (pop_move rfl) ?_
  refine dp rfl (pop_add rfl rfl) ?_
  refine dp rfl (pop_mul rfl rfl) ?_
  refine dp rfl (pop_add rfl rfl) ?_
  refine dp rfl (pop_move rfl) ?_
  refine dp rfl (pop_call ca75 rfl (WeakL.refl _) (c_benchmake_Below (by assumption))) ?_
  refine dp rfl (pop_assign rfl) ?_
  refine dn ?_
  refine hw_ret ?_
  refine ret_q rfl ?_
  obtain ⟨y, h1, h2⟩ := below_nat _ n
  exact ⟨y, congrArg _ h1, h2, rfl⟩

/-- (*benchwarmer/benchmake.Stream).Range -/
theorem c_benchmake_Stream_Range [Tracks] {b : Nat} {l : List Int} {a : Nat} {lo hi : Int} (ha : a ≤ 1000000) (hlh : lo ≤ hi) (h0 : -1000000000 ≤ lo) (h1 : hi ≤ 1000000000) : Con Tryz.prog 29 [pAt b, .int .i64 lo, .int .i64 hi] [St b l a] (fun x M' => ∃ y : Int, x = .int .i64 y ∧ (lo ≤ y ∧ y ≤ hi) ∧ M' = [St b l (a + 1)]) := by
 refine Con.of_body Tryz.func29 rfl Tryz.ntmps29 rfl rfl ?_
 refine hw_reg ?_
 refine dp rfl (pop_assign rfl) ?_
 refine dn ?_
 refine hw_seq ?_
 refine hw_reg ?_
 refine dp rfl (pop_move rfl) ?_
 refine dp rfl (pop_move rfl) ?_
 refine dp rfl (pop_lss rfl rfl) ?_
 refine dn ?_
 refine hw_cond rfl (fun h1 => ?_) (fun h1 => ?_)
 ·exfalso
  try simp at h1
  omega
 ·try simp at h1
  refine hw_skip ?_
  refine seqQ_n ?_
  refine hw_reg ?_
  refine dp rfl (pop_move rfl) ?_
  refine dp rfl (pop_move rfl) ?_
  refine dp rfl (pop_move rfl) ?_
  refine dp rfl (pop_move rfl) ?_
  refine dp rfl (pop_sub64 rfl rfl (by omega) (by omega)) ?_
  refine dp rfl (pop_add64 rfl rfl (by omega) (by omega)) ?_
  refine de rfl (eop_callx (i := 0) ca31 rfl (WeakL.refl _) rfl (c_benchmake_Stream_Next (by assumption) (by omega)) ?_)
  rintro _ _ ⟨y17, rfl, hy17, rfl⟩
  refine dp rfl (pop_add64 rfl rfl (by omega) (by omega)) ?_
  refine dp rfl (pop_assign rfl) ?_
  refine dn ?_
  refine hw_ret ?_
  exact ret_q rfl ⟨_, rfl, by omega, rfl⟩

/-- (*benchwarmer/benchmake.Stream).Flip -/
theorem c_benchmake_Stream_Flip [Tracks] {b : Nat} {l : List Int} {a : Nat} {n : Int} (ha : a ≤ 1000000) (hn : n ≤ 4000000000) : Con Tryz.prog 14 [pAt b, .int .i64 n] [St b l a] (fun x M' => ∃ y : Bool, x = .bool y ∧ M' = [St b l (a + 1)]) := by
 refine Con.of_body Tryz.func14 rfl Tryz.ntmps14 rfl rfl ?_
 refine hw_reg ?_
 refine dp rfl (pop_assign rfl) ?_
 refine dn ?_
 refine hw_reg ?_
 refine dp rfl (pop_move rfl) ?_
 refine dp rfl (pop_move rfl) ?_
 refine de rfl (eop_callx (i := 0) ca31 rfl (WeakL.refl _) rfl (c_benchmake_Stream_Next (by assumption) (by assumption)) ?_)
 rintro _ _ ⟨y7, rfl, hy7, rfl⟩
 refine dp rfl (pop_eql rfl rfl) ?_
 refine dp rfl (pop_assign rfl) ?_
 refine dn ?_
 refine hw_ret ?_
 exact ret_q rfl ⟨_, rfl, rfl⟩

/-- (*benchwarmer/benchmake.Stream).Pick -/
theorem c_benchmake_Stream_Pick [Tracks] {b : Nat} {l : List Int} {a : Nat} {L : List Int} (ha : a ≤ 1000000) (h0 : 0 < L.length) (h1 : L.length ≤ 1000000) : Con Tryz.prog 13 [pAt b, .slice 1 (L.map (.int .i64))] [St b l a] (fun x M' => ∃ y : Int, x = .int .i64 y ∧ y ∈ L ∧ M' = [St b l (a + 1)]) := by
 refine Con.of_body Tryz.func13 rfl Tryz.ntmps13 rfl rfl ?_
 refine hw_reg ?_
 refine dp rfl (pop_assign rfl) ?_
 refine dn ?_
 refine hw_reg ?_
 refine dp rfl (pop_move rfl) ?_
 refine dp rfl (pop_move rfl) ?_
 refine dp rfl (pop_move rfl) ?_
 refine dp rfl (pop_lenm ty22 rfl) ?_
 refine de rfl (eop_callx (i := 0) ca31 rfl (WeakL.refl _) rfl (c_benchmake_Stream_Next (by assumption) (by omega)) ?_)
 rintro _ _ ⟨y9, rfl, hy9, rfl⟩
 obtain ⟨z, hz, hm⟩ := getI hy9 h0
 refine dp rfl (pop_idx (j := y9) (a := z) ty22 ty3 rfl rfl rfl hz) ?_
 refine dp rfl (pop_load ty3 rfl rfl rfl) ?_
 refine dp rfl (pop_assign rfl) ?_
 refine dn ?_
 refine hw_ret ?_
 exact ret_q rfl ⟨_, rfl, hm, rfl⟩

/-- (*benchwarmer/benchmake.Stream).Some -/
theorem c_benchmake_Stream_Some [Tracks] {b : Nat} {l : List Int} {a : Nat} {L : List Str} (ha : a ≤ 1000000) (h0 : 0 < L.length) (h1 : L.length ≤ 1000000) : Con Tryz.prog 15 [pAt b, eSs L] [St b l a] (fun x M' => ∃ y : Str, x = .str y ∧ y ∈ L ∧ M' = [St b l (a + 1)]) := by
 refine Con.of_body Tryz.func15 rfl Tryz.ntmps15 rfl rfl ?_
 refine hw_reg ?_
 refine dp rfl (pop_assign rfl) ?_
 refine dn ?_
 refine hw_reg ?_
 refine dp rfl (pop_move rfl) ?_
 refine dp rfl (pop_move rfl) ?_
 refine dp rfl (pop_move rfl) ?_
 refine dp rfl (pop_lenm ty44 rfl) ?_
 refine de rfl (eop_callx (i := 0) ca31 rfl (WeakL.refl _) rfl (c_benchmake_Stream_Next (by assumption) (by omega)) ?_)
 rintro _ _ ⟨y9, rfl, hy9, rfl⟩
 obtain ⟨z, hz, hm⟩ := getS hy9 h0
 refine dp rfl (pop_idx (j := y9) (a := z) ty44 ty9 rfl rfl rfl hz) ?_
 refine dp rfl (pop_load ty9 rfl rfl rfl) ?_
 refine dp rfl (pop_assign rfl) ?_
 refine dn ?_
 refine hw_ret ?_
 exact ret_q rfl ⟨_, rfl, hm, rfl⟩

/-- (*benchwarmer/benchmake.Stream).Odd -/
theorem c_benchmake_Stream_Odd [Tracks] {b : Nat} {l : List Int} {a : Nat} {lo hi : Int} (ha : a ≤ 900000) (hlh : lo ≤ hi) (h0 : -1000000000 ≤ lo) (h1 : hi ≤ 1000000000) : Con Tryz.prog 32 [pAt b, .int .i64 lo, .int .i64 hi] [St b l a] (fun x M' => ∃ y : Int, x = .int .i64 y ∧ M' = [St b l (a + 2)]) := by
 refine Con.of_body Tryz.func32 rfl Tryz.ntmps32 rfl rfl ?_
 refine hw_reg ?_
 refine dp rfl (pop_assign rfl) ?_
 refine dn ?_
 refine hw_seq ?_
 refine hw_reg ?_
 refine dp rfl (pop_move rfl) ?_
 refine de rfl (eop_callx (i := 0) ca14 rfl (WeakL.refl _) rfl (c_benchmake_Stream_Flip (by omega) (by omega)) ?_)
 rintro _ _ ⟨y8, rfl, rfl⟩
 refine dn ?_
 refine hw_cond rfl (fun h1 => ?_) (fun h2 => ?_)
 ·try simp at h1
  refine hw_reg ?_
  refine dp rfl (pop_move rfl) ?_
  refine dp rfl (pop_move rfl) ?_
  refine dp rfl (pop_sub64 rfl rfl (by omega) (by omega)) ?_
  refine dp rfl (pop_move rfl) ?_
  refine dp rfl (pop_add64 rfl rfl (by omega) (by omega)) ?_
  refine dp rfl (pop_move rfl) ?_
  refine dp rfl (pop_move rfl) ?_
  refine dp rfl (pop_buildSlice (hs := [_, _, _, _, _, _]) ty22 ty3 rfl rfl (by decide) (by decide) rfl) ?_
  refine de rfl (eop_callx (i := 0) ca13 rfl (WeakL.refl _) rfl (c_benchmake_Stream_Pick (L := [_, _, _, _, _, _]) (by omega) (by simp_all) (by simp_all)) ?_)
  rintro _ _ ⟨y17, rfl, hy17, rfl⟩
  refine dp rfl (pop_assign rfl) ?_
  refine dn ?_
  refine hw_ret ?_
  exact ret_q rfl ⟨_, rfl, rfl⟩
 ·try simp at h2
  refine hw_skip ?_
  refine seqQ_n ?_
  refine hw_reg ?_
  refine dp rfl (pop_move rfl) ?_
  refine dp rfl (pop_move rfl) ?_
  refine dp rfl (pop_move rfl) ?_
  refine de rfl (eop_callx (i := 0) ca29 rfl (WeakL.refl _) rfl (c_benchmake_Stream_Range (by omega) (by assumption) (by assumption) (by assumption)) ?_)
  rintro _ _ ⟨y21, rfl, hy21, rfl⟩
  refine dp rfl (pop_assign rfl) ?_
  refine dn ?_
  refine hw_ret ?_
  exact ret_q rfl ⟨_, rfl, rfl⟩
end Go.Proofs.YtbfikmihcpfgaaaGreatDoor
end
section
namespace Go.HL
variable {P : Program}
open Go.Sort Go.Proofs
section
variable {P : Program} {n : Nat} {e : Env} {M : List MObj} {Q : Exit → Env → List MObj → Prop} {c c' : Code}
end
/-- Another view of the state within a region. -/
theorem dghost [Tracks] {P : Program} {ops : Array Oper} {n : Nat} {K : Env → List MObj → Prop} {rest : List Oper} {e : Env} {M M' : List MObj} (hm : M = M') (k : Der P ops n K rest e M') : Der P ops n K rest e M := hm ▸ k
/-- The header of an owned slice, with its capacity. -/
theorem hw_arrc [Tracks] {P : Program} {n : Nat} {e : Env} {M : List MObj} {c : Code} {Q : Exit → Env → List MObj → Prop} {i : Nat} {v : Value} {sz : Nat} {es : List HVal} (hm : M[i]? = some (.arr v sz es))
 (h0 : v = .slice none 0 0 → es = [] → HWp P n c e M Q) (h1 : ∀ b off cap, v = .slice (some ⟨b, off, none⟩) es.length cap → es.length ≤ cap → HWp P n c e M Q) : HWp P n c e M Q := fun I F a w a1 a2 a3 a4 => by
 rcases a4.obj _ (List.mem_append_left _ (List.mem_of_getElem? hm)) with ⟨g1, g2⟩ | ⟨b, off, cap, rc, el, fr, g1, _, _, _, g5, _⟩
 ·exact h0 g1 g2 I F a w a1 a2 a3 a4
 ·exact h1 b off cap g1 g5.1 I F a w a1 a2 a3 a4
theorem permTo [Tracks] {α : Type} {l r : List α} {x : α} (i : Nat) (h : l[i]? = some x) (hr : (l.eraseIdx i).Perm r) : l.Perm (x :: r) := (perm_erase h).trans (hr.cons x)
theorem permToE [Tracks] {α : Type} {l r : List α} {x y : α} (i : Nat) (h : l[i]? = some y) (hy : y = x) (hr : (l.eraseIdx i).Perm r) : l.Perm (x :: r) := hy ▸ permTo i h hr
theorem conp_of_calls [Tracks] {P : Program} {f : FuncId} {hargs : List HVal} {h : HVal} (hc : ∀ (I : Imm) (w : World) (args : List Value), VL I hargs args → ∃ v, V I h v ∧ Calls P f args.toArray w fun e w' => e = .returned v ∧ w' = w) : ConP P f hargs h := by
 intro I F w args ha hs
 obtain ⟨v, hv, hcalls⟩ := hc I w args ha
 refine hcalls.mono ?_
 rintro _ w' ⟨rfl, rfl⟩
 exact ⟨v, h, [], I, rfl, .refl I, ⟨rfl, rfl⟩, hv, hs⟩
end Go.HL
end
section
namespace Go.HL
theorem dec_len {i : Nat} (h : i < 100) : (Lib.decDigits i).length ≤ 10 := by
 have : (List.range 100).all (fun i => decide ((Lib.decDigits i).length ≤ 10)) = true := by kernel_rfl
 have := List.all_eq_true.1 this i (List.mem_range.2 h)
 simpa using this
end Go.HL
end
section
namespace Go.Proofs.YtbfikmihcpfgaaaGreatDoor
open Go.HL
set_option maxRecDepth 100000
set_option linter.unusedVariables false
set_option linter.unusedSimpArgs false
/-- strconv.Itoa of a small number -/
theorem c_strconv_Itoa [Tracks] {i : Nat} (hi : i < 100) : ConP Tryz.prog 30 [.int .i64 (i : Int)] (.str (Lib.decDigits i)) :=
 conp_of_calls fun I w args ha => by
  obtain ⟨u, rfl, hu⟩ := ha.one
  obtain rfl := hu.int_inv
  exact ⟨_, .str _, Any.strconv_Itoa_small Tryz.lays171 i hi w⟩
end Go.Proofs.YtbfikmihcpfgaaaGreatDoor
end
section
namespace Go.HL
section
variable {α : Type} (c : α → α → Int)
def insF (x : α) : List α → List α
 | [] => [x]
 | y :: t => if c x y < 0 then y :: insF x t else x :: y :: t
def insB (x : α) (S : List α) : List α := (insF c x S.reverse).reverse
def isort (l : List α) : List α := l.foldl (fun S x => insB c x S) []
theorem insB_nil (x : α) : insB c x [] = [x] := rfl
theorem insB_snoc (x y : α) (S : List α) : insB c x (S ++ [y]) = if c x y < 0 then insB c x S ++ [y] else S ++ [y, x] := by
 unfold insB
 rw [List.reverse_append]
 simp only [List.reverse_cons, List.reverse_nil, List.nil_append, List.singleton_append, insF]
 split <;> simp
theorem isort_snoc (l : List α) (x : α) : isort c (l ++ [x]) = insB c x (isort c l) := by simp [isort, List.foldl_append]
theorem insF_perm (x : α) : ∀ l, (insF c x l).Perm (x :: l)
 | [] => .refl _
 | y :: t => by
   simp only [insF]; split
   ·exact ((insF_perm x t).cons y).trans (.swap _ _ _)
   ·exact .refl _
theorem insB_perm (x : α) (S : List α) : (insB c x S).Perm (x :: S) := by
 unfold insB
 exact (List.reverse_perm _).trans ((insF_perm c x _).trans ((List.reverse_perm S).cons x))
theorem foldl_perm : ∀ (l S : List α), (l.foldl (fun S x => insB c x S) S).Perm (S ++ l)
 | [], S => by simp
 | x :: l, S => by
   simp only [List.foldl_cons]
   refine (foldl_perm l _).trans ?_
   refine ((insB_perm c x S).append_right l).trans ?_
   exact (List.perm_middle (a := x) (l₁ := S) (l₂ := l)).symm
theorem isort_perm (l : List α) : (isort c l).Perm l := by
 have := foldl_perm c l []
 simpa [isort] using this
theorem isort_len (l : List α) : (isort c l).length = l.length := (isort_perm c l).length_eq
theorem isort_mem {l : List α} {x : α} : x ∈ isort c l ↔ x ∈ l := (isort_perm c l).mem_iff
/-- A comparison by which things stand in one line, as far as they are in s. -/
structure Cmp (s : α → Prop) : Prop where
 flip : ∀ x y, s x → s y → (c x y < 0 ↔ 0 < c y x)
 trans : ∀ x y z, s x → s y → s z → c x y ≤ 0 → c y z ≤ 0 → c x z ≤ 0
variable {c}
theorem insF_sorted {s : α → Prop} (hc : Cmp c s) {x : α} (hx : s x) : ∀ {l : List α}, (∀ y ∈ l, s y) → l.Pairwise (fun a b => c b a ≤ 0) → (insF c x l).Pairwise (fun a b => c b a ≤ 0)
 | [], _, _ => by simp [insF]
 | y :: t, hs, hp => by
   have hy := hs y (by simp)
   have ht : ∀ z ∈ t, s z := fun z hz => hs z (List.mem_cons_of_mem _ hz)
   obtain ⟨h1, h2⟩ := List.pairwise_cons.1 hp
   simp only [insF]
   split
   ·rename_i hlt
    refine List.pairwise_cons.2 ⟨fun z hz => ?_, insF_sorted hc hx ht h2⟩
    rcases List.mem_cons.1 ((insF_perm c x t).mem_iff.1 hz) with rfl | hz
    ·omega
    ·exact h1 z hz
   ·rename_i hge
    have hyx : c y x ≤ 0 := by
     have := (hc.flip x y hx hy)
     omega
    refine List.pairwise_cons.2 ⟨fun z hz => ?_, hp⟩
    rcases List.mem_cons.1 hz with rfl | hz
    ·exact hyx
    ·exact hc.trans z y x (ht z hz) hy hx (h1 z hz) hyx
theorem insB_sorted {s : α → Prop} (hc : Cmp c s) {x : α} (hx : s x) {l : List α} (hs : ∀ y ∈ l, s y) (hp : l.Pairwise (fun a b => c a b ≤ 0)) : (insB c x l).Pairwise (fun a b => c a b ≤ 0) := by
 unfold insB
 rw [List.pairwise_reverse]
 exact insF_sorted hc hx (fun y hy => hs y (List.mem_reverse.1 hy)) (List.pairwise_reverse.2 hp)
theorem isort_sorted {s : α → Prop} (hc : Cmp c s) {l : List α} (hs : ∀ y ∈ l, s y) : (isort c l).Pairwise (fun a b => c a b ≤ 0) := by
 have key : ∀ (n : Nat), n ≤ l.length → (isort c (l.take n)).Pairwise (fun a b => c a b ≤ 0) := by
  intro n
  induction n with
  | zero => intro _; simp [isort]
  | succ n ih =>
    intro hn
    have hx := List.getElem?_eq_getElem (l := l) (i := n) (by omega)
    rw [take_snoc' hx, isort_snoc]
    exact insB_sorted hc (hs _ (List.mem_of_getElem? hx)) (fun y hy => hs y (List.mem_of_mem_take ((isort_perm c _).mem_iff.1 hy))) (ih (by omega))
 have := key l.length (Nat.le_refl _)
 rwa [List.take_length] at this
/-- Where no two are alike the order is that of the things, however they came. -/
theorem isort_unique {s : α → Prop} (hc : Cmp c s) {l m : List α} (hs : ∀ y ∈ l, s y) (he : ∀ x y, x ∈ l → y ∈ l → c x y = 0 → x = y) (hp : l.Perm m) : isort c l = isort c m := by
 have hm : ∀ y ∈ m, s y := fun y hy => hs y (hp.mem_iff.2 hy)
 refine List.Perm.eq_of_pairwise (le := fun a b => c a b ≤ 0) ?_ (isort_sorted hc hs) (isort_sorted hc hm) ((isort_perm c l).trans (hp.trans (isort_perm c m).symm))
 intro a b ha hb h1 h2
 have ha' := (isort_perm c l).mem_iff.1 ha
 have hb' := hp.mem_iff.2 ((isort_perm c m).mem_iff.1 hb)
 refine he a b ha' hb' ?_
 have f1 := hc.flip a b (hs a ha') (hs b hb')
 have f2 := hc.flip b a (hs b hb') (hs a ha')
 omega
/-- Two comparisons that answer alike of what comes later against what came before. -/
theorem isort_congr {c d : α → α → Int} {l : List α} (h : ∀ (i j : Nat) (x y : α), i < j → l[i]? = some y → l[j]? = some x → (c x y < 0 ↔ d x y < 0)) : isort c l = isort d l := by
 have hF : ∀ (x : α) (S : List α), (∀ y ∈ S, (c x y < 0 ↔ d x y < 0)) → insF c x S = insF d x S := by
  intro x S
  induction S with
  | nil => intro _; rfl
  | cons y t ih =>
    intro hy
    have h0 := hy y (by simp)
    simp only [insF]
    rw [ih fun z hz => hy z (List.mem_cons_of_mem _ hz)]
    by_cases hh : c x y < 0
    ·rw [if_pos hh, if_pos (h0.1 hh)]
    ·rw [if_neg hh, if_neg (fun h => hh (h0.2 h))]
 have key : ∀ n, n ≤ l.length → isort c (l.take n) = isort d (l.take n) := by
  intro n
  induction n with
  | zero => intro _; rfl
  | succ n ih =>
    intro hn
    have hx := List.getElem?_eq_getElem (l := l) (i := n) (by omega)
    rw [take_snoc' hx, isort_snoc, isort_snoc, ih (by omega)]
    unfold insB
    rw [hF]
    intro y hy
    have hy' := (isort_perm d _).mem_iff.1 (List.mem_reverse.1 hy)
    obtain ⟨i, hi, rfl⟩ := List.getElem_of_mem hy'
    have hi' : i < n := by simp at hi; omega
    exact h i n _ _ hi' (by rw [List.getElem_take]; exact List.getElem?_eq_getElem _) hx
 have := key l.length (Nat.le_refl _)
 rwa [List.take_length] at this
end
end Go.HL
end
section
namespace Go.HL
variable {P : Program}
section
variable {P : Program} {e : Env} {dst : Option Tmp} {ty : TypeId} {pos : String} {af : Array Edge} {g : Option (Nat × Bool)} {M : List MObj} {K : HVal → List MObj → Prop}
/-- A whole element of an owned slice is loaded. -/
theorem eop_load_elw [Tracks] {α : Type} {f : α → HVal} {x : Operand} {t : TypeId} {d : TD} {size bytes : Nat} {zero : Value} {i b off cap n sz j o : Nat} {es : List α} {y : α} (hf : Fits P t d size bytes zero)
 (hx : evalO e x = some (.raw (.pointer (some ⟨b, o, none⟩)))) (ho' : o = off + j * sz) (hm : M[i]? = some (.arr (.slice (some ⟨b, off, none⟩) n cap) sz (es.map f))) (hj : es[j]? = some y)
 (hd : d.isAgg = true) (hs : size = (hcells (f y)).length) (hv : f y = .agg (hcells (f y))) (hk : K (f y) M) : EOp P e M ⟨dst, .load t x, ty, pos, af, g⟩ K :=
 eop_load_arr (j := j) (f := 0) (y := f y) hf hx (by omega) hm (by rw [List.getElem?_map, hj]; rfl) (.inr ⟨hd, by omega, by rw [List.drop_zero, hs, List.take_length]; exact hv⟩) hk
/-- A whole element of an owned slice is stored. -/
theorem eop_store_elw [Tracks] {α : Type} {f : α → HVal} {x z : Operand} {t : TypeId} {d : TD} {size bytes : Nat} {zero : Value} {i b off cap n sz j o : Nat} {es : List α} {y y' : α} (hf : Fits P t d size bytes zero)
 (hx : evalO e x = some (.raw (.pointer (some ⟨b, o, none⟩)))) (ho' : o = off + j * sz) (hz : evalO e z = some (f y')) (hm : M[i]? = some (.arr (.slice (some ⟨b, off, none⟩) n cap) sz (es.map f))) (hj : es[j]? = some y)
 (hok : okElem size (f y') = true) (hfl : flat (hcells (f y')) = true) (hle : (hcells (f y')).length = (hcells (f y)).length)
 (hk : K .junk (M.set i (.arr (.slice (some ⟨b, off, none⟩) n cap) sz ((es.set j y').map f)))) : EOp P e M ⟨dst, .store t x z, ty, pos, af, g⟩ K := by
 have h0 := (okElem_cells hok).1
 refine eop_store_arr (j := j) (f := 0) (y := f y) (y' := f y') hf hx (by omega) hz hm (by rw [List.getElem?_map, hj]; rfl) hok hfl (by omega) ?_ ?_
 ·rw [setL_all hle]
 ·rw [List.map_set] at hk; exact hk
end
theorem Sat.arr_take [Tracks] {I : Imm} {F : List MObj} {w : World} {b off n cap sz m : Nat} {es : List HVal} (hm : m ≤ es.length) (h : Sat P I (.arr (.slice (some ⟨b, off, none⟩) n cap) sz es :: F) w) :
 Sat P I (.arr (.slice (some ⟨b, off, none⟩) m cap) sz (es.take m) :: F) w := by
 obtain ⟨_, rc, el, fr, h2, h3, h4, h5, h6, h7⟩ := arr_some h
 refine h.change (m' := .arr (.slice (some ⟨b, off, none⟩) m cap) sz (es.take m)) (fun _ _ _ => rfl) (fun c hc => .inl hc) (by simp [MObj.blocks]) ?_ rfl rfl rfl
 have hl : (es.take m).length = m := by simp; omega
 refine .inr ⟨b, off, cap, rc, el, fr, by rw [hl], h2, h3, fun e he => h4 e (List.mem_of_mem_take he), by omega, h6, fun i j e c v a1 a2 a3 => ?_⟩
 have hi := lt_of_get a1
 rw [List.getElem?_take_of_lt (by omega)] at a1
 exact h7 i j e c v a1 a2 a3
theorem Ghost.take [Tracks] {e : Env} {M : List MObj} {b off n cap sz m : Nat} {es : List HVal} (hm : m ≤ es.length) : Ghost e (.arr (.slice (some ⟨b, off, none⟩) n cap) sz es :: M) e (.arr (.slice (some ⟨b, off, none⟩) m cap) sz (es.take m) :: M) :=
 fun _ I F tmps w h1 h2 => ⟨I, .refl I, h1, h2.arr_take hm⟩
def slOff (cap off sz lo : Nat) : Nat := if cap = lo then off else off + lo * sz
section
variable {P : Program} {e : Env} {dst : Option Tmp} {ty : TypeId} {pos : String} {af : Array Edge} {g : Option (Nat × Bool)} {M : List MObj} {K : HVal → List MObj → Prop}
/-- A slice whose header is known is cut. -/
theorem pop_slraw [Tracks] {x : Operand} {lo hi : Option Operand} {t el : TypeId} {size bytes sz b2 : Nat} {zero z2 : Value} {d : TD} {b off n cap l h : Nat}
 (hf : Fits P t (.slice el) size bytes zero) (hel : Fits P el d sz b2 z2) (hx : evalO e x = some (.raw (.slice (some ⟨b, off, none⟩) n cap))) (hlo : BoundIs e lo 0 l) (hhi : BoundIs e hi n h) (h1 : l ≤ h) (h2 : h ≤ n) (hc : n ≤ cap) :
 POp P e ⟨dst, .slice t x lo hi none, ty, pos, af, g⟩ (.raw (.slice (some ⟨b, slOff cap off sz l, none⟩) (h - l) (cap - l))) :=
 POp.of_val fun I a w ho => by
  have h3 := (ho.one (x := x) (by simp [Op.operands]) hx).raw_inv
  have hb : (Instr.sliceBounds true n cap (Option.map a.eval lo) (Option.map a.eval hi) none).run P w = .ok (l, h, cap) w :=
   run_bounds (P := P) (e := e) (lo := lo) (hi := hi) (l := l) (h := h) (len := n) (cap := cap) ho (by intro y hy; simp [Op.operands, hy]) (by intro y hy; simp [Op.operands, hy]) hlo hhi h1 h2 hc true w
  refine ⟨_, ?_, .raw _ rfl⟩
  simp [execOp, Instr.sliceAt, run_underlying hf.slice, h3, Instr.slice, hb, hel.run_sizeOf, slOff]
  try (split <;> simp_all [addr_add])
  try omega
/-- Cells of an owned slice behind the first m' elements are cleared: what stays are these. -/
theorem eop_clear_at [Tracks] {x : Operand} {t el : TypeId} {size bytes sz b2 : Nat} {zero z2 : Value} {d : TD} {i b off n cap m q o c2 : Nat} {es : List HVal} (m' : Nat)
 (hf : Fits P t (.slice el) size bytes zero) (hel : Fits P el d sz b2 z2) (hz : z2.cells.size = sz) (hz1 : z2.cells.toList.all Value.oneCell' = true)
 (hx : evalO e x = some (.raw (.slice (some ⟨b, o, none⟩) q c2))) (ho' : q = 0 ∨ o = off + m * sz) (hm : M[i]? = some (.arr (.slice (some ⟨b, off, none⟩) n cap) sz es)) (hmq : m + q ≤ cap) (hmm : m' ≤ m) (hme : m' ≤ es.length)
 (hk : K .junk (M.set i (.arr (.slice (some ⟨b, off, none⟩) m' cap) sz (es.take m')))) : EOp P e M ⟨dst, .call ⟨.builtin .clear, #[x], #[t]⟩, ty, pos, af, g⟩ K :=
 EOp.of_run fun I F a w ho hs => by
  have h1 := (ho.one (x := x) (by simp [Op.operands, Call.operands]) hx).raw_inv
  have hp := hs.pull hm
  obtain ⟨_, rc, el', fr, h2, h3, h4, h5, h6, h7⟩ := arr_some hp
  have hrun : (execOp a.eval ⟨dst, .call ⟨.builtin .clear, #[x], #[t]⟩, ty, pos, af, g⟩).run P w = ((Builtin.clear_ #[t] ty #[a.eval x]).run P w).andThen fun v w => .ok (.value v) w := by
   simp [execOp, resolve, invoke, builtin]
  rcases Nat.eq_zero_or_pos q with h0 | h0
  ·refine ⟨.tuple #[], .junk, _, w, I, ?_, .refl I, hk, .junk _, ?_⟩
   ·rw [hrun, h1, h0]
    simp [Builtin.clear_, run_underlying hf.slice]
   ·exact Sat.unpull hm (hp.arr_take hme)
  ·have hso : o = off + m * sz := by rcases ho' with h | h; omega; exact h
   have hmul : (m + q) * sz ≤ cap * sz := Nat.mul_le_mul_right _ hmq
   rw [Nat.add_mul] at hmul
   have hlen : (Builtin.zeroCells z2.cells q).toList.length = q * sz := by rw [Array.length_toList, zeroCells_size, hz]
   have hone : ∀ v ∈ (Builtin.zeroCells z2.cells q).toList, v.oneCell' = true := fun v hv => by
    simp only [Builtin.zeroCells, Array.toList_map, List.mem_map] at hv
    obtain ⟨r, hr, rfl⟩ := hv
    have hq' : r < q * z2.cells.size := by simpa using hr
    have hpos : 0 < z2.cells.size := by
     rcases Nat.eq_zero_or_pos z2.cells.size with h | h
     ·rw [h] at hq'; simp at hq'
     ·exact h
    have hlt : r % z2.cells.size < z2.cells.size := Nat.mod_lt _ hpos
    rw [getElem!_pos z2.cells _ hlt]
    exact List.all_eq_true.1 hz1 _ (by simp)
   obtain ⟨w', rc', g1, g2, g3, g4, g5, g6, g7, g8, g9⟩ := run_storeCells (P := P) b el' fr (off + m * sz) (Builtin.zeroCells z2.cells q).toList 0 w rc h2 h3 hone (by rw [hlen]; omega)
   refine ⟨.tuple #[], .junk, _, w', I, ?_, .refl I, hk, .junk _, ?_⟩
   ·rw [hrun, h1, hso]
    obtain ⟨r, rfl⟩ : ∃ r, q = r + 1 := ⟨q - 1, by omega⟩
    simp [Builtin.clear_, run_underlying hf.slice, hel.run_zero, g1]
   ·refine Sat.unpull hm (hp.change (m' := .arr (.slice (some ⟨b, off, none⟩) m' cap) sz (es.take m')) (fun k hk hnk => g5 k (by simpa [MObj.blocks] using hnk)) (fun k hk => .inl hk) (by simp [MObj.blocks]) ?_ g7 g8 g9.1 (fun _ => Nat.le_of_eq g9.2.symm))
    have hl : (es.take m').length = m' := by simp; omega
    refine .inr ⟨b, off, cap, rc', el', fr, by rw [hl], g2, by rw [g3]; exact h3, fun e he => h4 e (List.mem_of_mem_take he), by omega, by rw [g3]; exact h6, fun p q' y c v a1 a2 a3 => ?_⟩
    have hi := lt_of_get a1
    rw [List.getElem?_take_of_lt (by omega)] at a1
    have hq := lt_of_get a2
    rw [h4 y (List.mem_of_getElem? a1)] at hq
    have hpm : (p + 1) * sz ≤ m * sz := Nat.mul_le_mul_right _ (by omega)
    rw [Nat.add_mul] at hpm
    rw [g4, if_neg (by omega)] at a3
    exact h7 p q' y c v a1 a2 a3
theorem run_boundsc [Tracks] {I : Imm} {a : Act} {o : Oper} (ho : Opds I e a o) {lo hi : Option Operand} (hlo : ∀ x, lo = some x → x ∈ o.op.operands) (hhi : ∀ x, hi = some x → x ∈ o.op.operands)
 {len cap l h : Nat} (h1 : BoundIs e lo 0 l) (h2 : BoundIs e hi len h) (h3 : l ≤ h) (h4 : h ≤ cap) (b : Bool) (w : World) :
 (Instr.sliceBounds b len cap (lo.map a.eval) (hi.map a.eval) none).run P w = .ok (l, h, cap) w := by
 unfold Instr.sliceBounds
 cases lo with
 | none =>
   simp only [BoundIs] at h1
   subst h1
   cases hi with
   | none => simp only [BoundIs] at h2; subst h2; simp
   | some y =>
     obtain ⟨k, i, h6, rfl⟩ := h2
     have h7 := (ho.one (hhi y rfl) h6).int_inv
     simp [h7, run_sliceBound h4]
 | some x =>
   obtain ⟨k', i', h8, rfl⟩ := h1
   have h9 := (ho.one (hlo x rfl) h8).int_inv
   cases hi with
   | none => simp only [BoundIs] at h2; subst h2; simp [h9, run_sliceBound h3]
   | some y =>
     obtain ⟨k, i, h6, rfl⟩ := h2
     have h7 := (ho.one (hhi y rfl) h6).int_inv
     simp [h7, h9, run_sliceBound h4, run_sliceBound h3]
/-- A slice whose header is known is cut, within its capacity. -/
theorem pop_slrawc [Tracks] {x : Operand} {lo hi : Option Operand} {t el : TypeId} {size bytes sz b2 : Nat} {zero z2 : Value} {d : TD} {b off n cap l h : Nat}
 (hf : Fits P t (.slice el) size bytes zero) (hel : Fits P el d sz b2 z2) (hx : evalO e x = some (.raw (.slice (some ⟨b, off, none⟩) n cap))) (hlo : BoundIs e lo 0 l) (hhi : BoundIs e hi n h) (h1 : l ≤ h) (h2 : h ≤ cap) :
 POp P e ⟨dst, .slice t x lo hi none, ty, pos, af, g⟩ (.raw (.slice (some ⟨b, slOff cap off sz l, none⟩) (h - l) (cap - l))) :=
 POp.of_val fun I a w ho => by
  have h3 := (ho.one (x := x) (by simp [Op.operands]) hx).raw_inv
  have hb : (Instr.sliceBounds true n cap (Option.map a.eval lo) (Option.map a.eval hi) none).run P w = .ok (l, h, cap) w :=
   run_boundsc (P := P) (e := e) (lo := lo) (hi := hi) (l := l) (h := h) (len := n) (cap := cap) ho (by intro y hy; simp [Op.operands, hy]) (by intro y hy; simp [Op.operands, hy]) hlo hhi h1 h2 true w
  refine ⟨_, ?_, .raw _ rfl⟩
  simp [execOp, Instr.sliceAt, run_underlying hf.slice, h3, Instr.slice, hb, hel.run_sizeOf, slOff]
  try (split <;> simp_all [addr_add])
  try omega
/-- s[:h] -/
theorem pop_slraw0 [Tracks] {x : Operand} {hi : Option Operand} {t el : TypeId} {size bytes sz b2 : Nat} {zero z2 : Value} {d : TD} {b off n cap h : Nat}
 (hf : Fits P t (.slice el) size bytes zero) (hel : Fits P el d sz b2 z2) (hx : evalO e x = some (.raw (.slice (some ⟨b, off, none⟩) n cap))) (hhi : BoundIs e hi n h) (h2 : h ≤ cap) :
 POp P e ⟨dst, .slice t x none hi none, ty, pos, af, g⟩ (.raw (.slice (some ⟨b, off, none⟩) h cap)) := by
 have := pop_slrawc (P := P) (dst := dst) (ty := ty) (pos := pos) (af := af) (g := g) (lo := none) (l := 0) hf hel hx rfl hhi (Nat.zero_le _) h2
 have e1 : slOff cap off sz 0 = off := by unfold slOff; split <;> omega
 rwa [e1, Nat.sub_zero, Nat.sub_zero] at this
end
end Go.HL
end
section
namespace Go.HL
section
variable {P : Program} {ops : Array Oper} {n : Nat} {S : List MObj → Prop} {ld : List Nat} {K : Env → List MObj → Prop} {e : Env} {M : List MObj} {listed : Array Bool} {fuel : Nat} {d : Nat} {op : Op} {ty : TypeId} {pos : String} {af : Array Edge} {h : HVal}
/-- A load under a guard out of owned objects of which S knows enough is taken first. -/
theorem ahgl [Tracks] (i : Nat) {j : Nat} {want c : Bool} (hi : ops[i]? = some ⟨some d, op, ty, pos, af, some (j, want)⟩) (hd : Nat.blt d n = true) (hf : Region.free .any ops listed i = true) (hr : (Region.ready .any ops listed).contains i = true) (hl : i ∈ ld) (hS : S M)
 (hg : guardC ops e j want = some c) (hp : c = true → ∃ e2, OpenTo e e2 ∧ ∀ M, S M → EOp P e2 M ⟨some d, op, ty, pos, af, some (j, want)⟩ fun x M' => x = h ∧ M' = M)
 (k : HAny P ops n S ld K fuel (listed.setIfInBounds i true) (upd e d (.opt c h)) M) : HAny P ops n S ld K (fuel + 1) listed e M :=
 HAny.first (T := S) hi (fun t ht => by simp at ht; subst ht; exact blt_lt hd) (.inr ⟨rfl, hl⟩) fuel listed e M (Region.free_spec hi hf) (by simpa using hr)
  ⟨c, hg, fun hc M hM => by
   obtain ⟨e2, h1, h2⟩ := hp hc
   intro I F a w ho hs
   exact Oper.wp_noQ (fun _ _ ⟨v, x, M', J, h3, h4, ⟨e1, e3⟩, h5, h6⟩ => ⟨v, .opt c h, M, J, h3, h4, ⟨rfl, rfl⟩, .opt (fun _ => e1 ▸ h5) (fun hf => by rw [hc] at hf; cases hf), e3 ▸ h6⟩) (h2 M hM I F a w (ho.open h1) hs),
   fun hc => ⟨h, by rw [hc]⟩⟩ hS k
end
theorem wrap8 {x : Nat} (h : x < 16) : IntKind.wrap .u8 (x : Int) = (x : Int) := by
 have : (List.range 16).all (fun x => IntKind.wrap .u8 (x : Int) == (x : Int)) = true := by decide
 simpa using List.all_eq_true.1 this x (List.mem_range.2 h)
theorem wrapu64 {x : Nat} (h : x < 16) : IntKind.wrap .u64 (x : Int) = (x : Int) := by
 have : (List.range 16).all (fun x => IntKind.wrap .u64 (x : Int) == (x : Int)) = true := by decide
 simpa using List.all_eq_true.1 this x (List.mem_range.2 h)
theorem some_int {k : IntKind} {a b : Int} (h : a = b) : some (HVal.int k a) = some (.int k b) := by rw [h]
section
variable {α : Type} {c : α → α → Int}
theorem isort_take1 (l : List α) : isort c (l.take 1) ++ l.drop 1 = l := by
 cases l with
 | nil => rfl
 | cons x r => simp [isort, insB, insF]
theorem get_mid {A R : List α} {x : α} : (A ++ x :: R)[A.length]? = some x := by simp
theorem get_before {A R : List α} {x : α} (h : 0 < A.length) : (A ++ x :: R)[A.length - 1]? = some ((A[A.length - 1]?).getD x) := by
 rw [List.getElem?_append_left (by omega), List.getElem?_eq_getElem (by omega)]
 simp [List.getElem?_eq_getElem (show A.length - 1 < A.length by omega)]
theorem snoc_of {A : List α} (h : 0 < A.length) : ∃ B y, A = B ++ [y] := by
 have hne : A ≠ [] := fun e => by subst e; simp at h
 exact ⟨_, _, (List.dropLast_concat_getLast hne).symm⟩
theorem getD_snoc {A : List α} {y d : α} : ((A ++ [y])[(A ++ [y]).length - 1]?).getD d = y := by simp
theorem swap_mid {A R : List α} {x y : α} : (((A ++ [y]) ++ x :: R).set (A ++ [y]).length y).set ((A ++ [y]).length - 1) x = A ++ x :: y :: R := by
 have e1 : ((A ++ [y]) ++ x :: R).set (A ++ [y]).length y = (A ++ [y]) ++ y :: R := by rw [List.set_append_right _ _ (Nat.le_refl _)]; simp
 rw [e1, List.append_assoc]
 have e2 : (A ++ [y]).length - 1 = A.length := by simp
 rw [e2, List.set_append_right _ _ (Nat.le_refl _)]
 simp
/-- The inner loop ends. -/
theorem ins_exit {l A B : List α} {x : α} {k : Nat} (hx : l[k]? = some x) (hB : insB c x (isort c (l.take k)) = insB c x A ++ B) (h : 0 < A.length → ¬ c x ((A[A.length - 1]?).getD x) < 0) : A ++ x :: (B ++ l.drop (k + 1)) = isort c (l.take (k + 1)) ++ l.drop (k + 1) := by
 rw [take_snoc' hx, isort_snoc, hB]
 rcases Nat.eq_zero_or_pos A.length with h0 | h0
 ·obtain rfl := List.length_eq_zero_iff.1 h0
  simp [insB_nil]
 ·obtain ⟨A', y, rfl⟩ := snoc_of h0
  have := h h0
  rw [getD_snoc] at this
  rw [insB_snoc, if_neg this]; simp
theorem ins_step {A B : List α} {x y : α} {S : List α} (hB : insB c x S = insB c x (A ++ [y]) ++ B) (h : c x y < 0) : insB c x S = insB c x A ++ (y :: B) := by
 rw [hB, insB_snoc, if_pos h]; simp
end
end Go.HL
namespace Go.HL
section
variable {α : Type} {p : α → Bool}
/-- What slices.DeleteFunc has done when it looks at place j. -/
structure DelInv (p : α → Bool) (l : List α) (j : Nat) (D : List α) : Prop where
 len : D.length = l.length
 jle : j ≤ l.length
 lt : ((l.take j).filter (fun x => !p x)).length < j
 kept : D.take ((l.take j).filter (fun x => !p x)).length = (l.take j).filter (fun x => !p x)
 rest : D.drop j = l.drop j
theorem filter_snoc {l : List α} {j : Nat} {x : α} (hx : l[j]? = some x) : (l.take (j + 1)).filter (fun x => !p x) = (l.take j).filter (fun x => !p x) ++ if p x then [] else [x] := by
 rw [take_snoc' hx, List.filter_append]
 by_cases h : p x <;> simp [h]
theorem DelInv.get {l D : List α} {j : Nat} {x : α} (h : DelInv p l j D) (hx : l[j]? = some x) : D[j]? = some x := by
 have h1 := congrArg (fun t => t[0]?) h.rest
 simp only [List.getElem?_drop, Nat.add_zero] at h1
 rw [h1]; exact hx
theorem DelInv.drop1 {l D : List α} {j : Nat} (h : DelInv p l j D) : D.drop (j + 1) = l.drop (j + 1) := by
 have := congrArg (List.drop 1) h.rest
 simpa [List.drop_drop] using this
theorem DelInv.skip {l D : List α} {j : Nat} {x : α} (h : DelInv p l j D) (hx : l[j]? = some x) (hp : p x = true) : DelInv p l (j + 1) D ∧ ((l.take (j + 1)).filter (fun x => !p x)).length = ((l.take j).filter (fun x => !p x)).length := by
 have e := filter_snoc (p := p) hx
 rw [if_pos hp, List.append_nil] at e
 refine ⟨⟨h.len, by have := lt_of_get hx; omega, by rw [e]; have := h.lt; omega, by rw [e]; exact h.kept, h.drop1⟩, by rw [e]⟩
theorem DelInv.keep {l D : List α} {j : Nat} {x : α} (h : DelInv p l j D) (hx : l[j]? = some x) (hp : p x = false) :
 DelInv p l (j + 1) (D.set ((l.take j).filter (fun x => !p x)).length x) ∧ ((l.take (j + 1)).filter (fun x => !p x)).length = ((l.take j).filter (fun x => !p x)).length + 1 := by
 have e := filter_snoc (p := p) hx
 rw [if_neg (by simp [hp])] at e
 have hlt := h.lt
 have hj := lt_of_get hx
 have hl := h.len
 have el : ((l.take (j + 1)).filter (fun x => !p x)).length = ((l.take j).filter (fun x => !p x)).length + 1 := by rw [e]; simp
 refine ⟨⟨by simp [hl], by omega, by omega, ?_, ?_⟩, el⟩
 ·rw [el, e]
  have hk := h.kept
  generalize ((l.take j).filter (fun x => !p x)) = F at *
  rw [take_snoc' (List.getElem?_set_self (by omega)), List.take_set_of_le (Nat.le_refl _), hk]
 ·rw [List.drop_set_of_lt (by omega)]; exact h.drop1
theorem idxF_found (p : α → Bool) : ∀ (l : List α) (k : Int), 0 ≤ k → idxF p l k ≠ -1 → ∃ i : Nat, idxF p l k = k + i ∧ i < l.length ∧ (∃ x, l[i]? = some x ∧ p x = true) ∧ ∀ y ∈ l.take i, p y = false
 | [], k, _, h => by simp [idxF] at h
 | x :: r, k, h0, h => by
   by_cases hx : p x = true
   ·exact ⟨0, by simp [idxF, hx], by simp, ⟨x, rfl, hx⟩, by simp⟩
   ·have e : idxF p (x :: r) k = idxF p r (k + 1) := by simp [idxF, hx]
    rw [e] at h ⊢
    obtain ⟨i, h1, h2, ⟨y, h3, h4⟩, h5⟩ := idxF_found p r (k + 1) (by omega) h
    refine ⟨i + 1, by rw [h1]; simp; omega, by simp; omega, ⟨y, by simpa using h3, h4⟩, fun z hz => ?_⟩
    simp only [List.take_succ_cons, List.mem_cons] at hz
    rcases hz with rfl | hz
    ·simpa using hx
    ·exact h5 z hz
theorem idxF_none (p : α → Bool) : ∀ (l : List α) (k : Int), 0 ≤ k → idxF p l k = -1 → l.filter (fun x => !p x) = l
 | [], _, _, _ => rfl
 | x :: r, k, h0, h => by
   by_cases hx : p x = true
   ·simp [idxF, hx] at h; omega
   ·have e : idxF p (x :: r) k = idxF p r (k + 1) := by simp [idxF, hx]
    rw [e] at h
    rw [List.filter_cons, if_pos (by simp [hx]), idxF_none p r (k + 1) (by omega) h]
theorem DelInv.start {l : List α} {i : Nat} {x : α} (hi : i < l.length) (hx : l[i]? = some x) (hp : p x = true) (hb : ∀ y ∈ l.take i, p y = false) : DelInv p l (i + 1) l ∧ ((l.take (i + 1)).filter (fun x => !p x)).length = i := by
 have e := filter_snoc (p := p) hx
 rw [if_pos hp, List.append_nil, (List.filter_eq_self (l := l.take i) (p := fun x => !p x)).2 (fun y hy => by simp [hb y hy])] at e
 have hl : (l.take i).length = i := by simp; omega
 refine ⟨⟨rfl, by omega, by rw [e]; omega, by rw [e, hl], rfl⟩, by rw [e, hl]⟩
theorem DelInv.done {l D : List α} (h : DelInv p l l.length D) : D.take (l.filter (fun x => !p x)).length = l.filter (fun x => !p x) := by
 have := h.kept
 rwa [List.take_length] at this
end
theorem slOff_or {cap off sz m n : Nat} (h1 : m ≤ n) (h2 : n ≤ cap) : n - m = 0 ∨ slOff cap off sz m = off + m * sz := by
 unfold slOff
 by_cases h : cap = m
 ·exact .inl (by omega)
 ·exact .inr (by rw [if_neg h])
end Go.HL
namespace Go.HL
end Go.HL
end
section
namespace Go.HL
open Op (bytesLess)
end Go.HL
end
section
namespace Go.HL
def Sh (s : Str) : Prop := s.length ≤ 1000000
/-- The state of KeepList's loops. -/
structure KLs where
 u : Value
 out : List Keep
 lv : Value
 left : List Str
 a : Nat
structure KLok (n a : Nat) (q : KLs) : Prop where
 out : q.out.length ≤ n
 left : q.left.length ≤ 20
 ls : ∀ s ∈ q.left, Sh s
 os : ∀ x ∈ q.out, Sh x.Team ∧ Sh x.Player
 a : q.a ≤ a + 2 * n
theorem KLok.add {n a : Nat} {u u' lv lv' : Value} {out : List Keep} {left : List Str} {a1 a2 k : Nat} {t p : Str} {rd : Int} (h : KLok n a ⟨u, out, lv, left, a1⟩) (h1 : a2 ≤ a1 + 2) (ht : Sh t) (hp : left[k]? = some p) :
 KLok (n + 1) a ⟨u', out ++ [⟨t, p, rd⟩], lv', left.eraseIdx k, a2⟩ :=
 ⟨by have := h.out; simp at *; omega, by have := h.left; have := List.length_eraseIdx_le left k; dsimp only at *; omega, fun s hs => h.ls s (List.mem_of_mem_eraseIdx hs), fun x hx => by
  rcases List.mem_append.1 hx with hx | hx
  ·exact h.os x hx
  ·simp at hx; subst hx; exact ⟨ht, h.ls p (List.mem_of_getElem? hp)⟩, by have := h.a; dsimp only at *; omega⟩
theorem set_self {α : Type} {l : List α} {j : Nat} {x y : α} (h : l[j]? = some y) : (l.set j x)[j]? = some x := by
 rw [List.getElem?_set_self (lt_of_get h)]
theorem map_get {α β : Type} {f : α → β} {l : List α} {j : Nat} {x : α} (h : l[j]? = some x) : (l.map f)[j]? = some (f x) := by
 rw [List.getElem?_map, h]; rfl
theorem mem_set_of {α : Type} {l : List α} {j : Nat} {x y : α} (h : x ∈ l.set j y) : x = y ∨ x ∈ l := by
 rcases List.mem_or_eq_of_mem_set h with h | h
 ·exact .inr h
 ·exact .inl h
/-- The state of SwapList's loops: what is out, the row of teams, the draws. -/
structure SLs where
 u : Value
 out : List Swap
 row : List Str
 a : Nat
structure SLok (n a : Nat) (q : SLs) : Prop where
 out : q.out.length ≤ n
 row : q.row.length ≤ 4
 rs : ∀ s ∈ q.row, Sh s
 os : ∀ x ∈ q.out, Sh x.Of ∧ Sh x.Team
 a : q.a ≤ a + 2 * n
theorem SLok.mono {n m a : Nat} {q : SLs} (h : SLok n a q) (hm : n ≤ m) : SLok m a q :=
 ⟨by have := h.out; omega, h.row, h.rs, h.os, by have := h.a; omega⟩
theorem KLok.mono {n m a : Nat} {q : KLs} (h : KLok n a q) (hm : n ≤ m) : KLok m a q :=
 ⟨by have := h.out; omega, h.left, h.ls, h.os, by have := h.a; omega⟩
theorem SLok.add {n a : Nat} {u u' : Value} {out : List Swap} {row : List Str} {a1 a2 : Nat} {t p : Str} {rd : Int} (h : SLok n a ⟨u, out, row, a1⟩) (h1 : a2 ≤ a1 + 2) (ht : Sh t) (hp : Sh p) :
 SLok (n + 1) a ⟨u', out ++ [⟨rd, t, p⟩], row, a2⟩ :=
 ⟨by have := h.out; simp at *; omega, h.row, h.rs, fun x hx => by
  rcases List.mem_append.1 hx with hx | hx
  ·exact h.os x hx
  ·simp at hx; subst hx; exact ⟨ht, hp⟩, by have := h.a; dsimp only at *; omega⟩
end Go.HL
end
section
namespace Go.HL
open Op (bytesLess)
structure Asset where
 Player : Str
 Position : Str
 Value : Int
structure Place where
 Position : Str
 Many : Int
abbrev eAsset (x : Asset) : HVal := .agg [.str x.Player, .str x.Position, .int .i64 x.Value]
abbrev ePlace (x : Place) : HVal := .agg [.str x.Position, .int .i64 x.Many]
abbrev eAssets (l : List Asset) : HVal := .slice 3 (l.map eAsset)
abbrev ePlaces (l : List Place) : HVal := .slice 2 (l.map ePlace)
def asset0 : Asset := ⟨[], [], 0⟩
def place0 : Place := ⟨[], 0⟩
def assetFault (x : Asset) : Int := if !(key x.Player) || !(key x.Position) then 5 else if out x.Value (-1000000) 1000000 then 1 else 0
def assetsGo (l : List Asset) : Nat → List Asset → Int
 | _, [] => 0
 | k, x :: t => if assetFault x != 0 then assetFault x else if decide (0 < k) && leS x.Player (l.getD (k - 1) asset0).Player then 7 else assetsGo l (k + 1) t
def checkAssets (l : List Asset) : Int := if 300 < l.length then 2 else assetsGo l 0 l
def placesGo (l : List Place) : Nat → List Place → Int
 | _, [] => 0
 | k, x :: t => if !(key x.Position) then 5 else if out x.Many 0 12 then 1 else if decide (0 < k) && leS x.Position (l.getD (k - 1) place0).Position then 7 else placesGo l (k + 1) t
def checkPlaces (l : List Place) : Int := if 10 < l.length then 2 else placesGo l 0 l
def byValue (a b : Asset) : Int := orI [cmpI b.Value a.Value, cmpS a.Player b.Player]
def byVal (a b : Asset) : Int := cmpI b.Value a.Value
def byPlayer (a b : Asset) : Int := cmpS a.Player b.Player
def atPos (l : List Asset) (pos : Str) : List Asset := l.filter (fun x => x.Position == pos)
def ofP (l : List Asset) (pos : Str) : List Asset := isort byValue (atPos l pos)
def ofR (l : List Asset) (pos : Str) : List Asset := isort byVal (atPos l pos)
def chosen (o : List Asset) (many : Int) : List Asset := (o.take (min many o.length).toNat).filter (fun y => decide (0 < y.Value))
def fieldedL (of : Str → List Asset) (p : List Place) : List Asset := p.flatMap fun x => chosen (of x.Position) x.Many
def sumV (l : List Asset) : Int := (l.map (·.Value)).sum
def namesV (l : List Asset) : List Str := sortS (l.map (·.Player))
theorem atPos_snoc {l : List Asset} {k : Nat} {x : Asset} {pos : Str} (h : l[k]? = some x) : atPos (l.take (k + 1)) pos = atPos (l.take k) pos ++ if x.Position == pos then [x] else [] := by
 rw [take_snoc' h]; unfold atPos; rw [List.filter_append]
 by_cases hx : x.Position == pos <;> simp [hx]
theorem atPos_le (l : List Asset) (pos : Str) : (atPos l pos).length ≤ l.length := List.length_filter_le _ _
theorem ofP_len (l : List Asset) (pos : Str) : (ofP l pos).length ≤ l.length := by unfold ofP; rw [isort_len]; exact atPos_le l pos
theorem ofR_len (l : List Asset) (pos : Str) : (ofR l pos).length ≤ l.length := by unfold ofR; rw [isort_len]; exact atPos_le l pos
end Go.HL
end
section
namespace Go.HL
open Op (bytesLess)
theorem map_getD {l : List Asset} {k : Nat} : (l.map (·.Player)).getD k [] = (l.getD k asset0).Player := by
 by_cases h : k < l.length
 ·simp [List.getD, List.getElem?_eq_getElem h]
 ·simp [List.getD, List.getElem?_eq_none (Nat.le_of_not_lt h), asset0]
theorem assetFault_ok {x : Asset} (h : assetFault x = 0) : key x.Player = true ∧ key x.Position = true ∧ -1000000 ≤ x.Value ∧ x.Value ≤ 1000000 := by
 unfold assetFault at h
 by_cases h1 : (!(key x.Player) || !(key x.Position)) = true
 ·rw [if_pos h1] at h; omega
 ·rw [if_neg h1] at h
  by_cases h2 : out x.Value (-1000000) 1000000 = true
  ·rw [if_pos h2] at h; omega
  ·have := out_f (by simpa using h2)
   simp at h1
   exact ⟨h1.1, h1.2, this.1, this.2⟩
theorem assetsGo_ok (l : List Asset) : ∀ (t : List Asset) (k : Nat), assetsGo l k t = 0 → risingGo (l.map (·.Player)) k (t.map (·.Player)) = 0 ∧ ∀ x ∈ t, assetFault x = 0
 | [], _, _ => ⟨rfl, fun x h => by cases h⟩
 | x :: t, k, h => by
   simp only [assetsGo] at h
   by_cases h1 : assetFault x = 0
   ·rw [if_neg (by simpa using h1)] at h
    by_cases h2 : (decide (0 < k) && leS x.Player (l.getD (k - 1) asset0).Player) = true
    ·rw [if_pos h2] at h; omega
    ·rw [if_neg h2] at h
     obtain ⟨h3, h4⟩ := assetsGo_ok l t (k + 1) h
     refine ⟨?_, fun y hy => ?_⟩
     ·simp only [List.map_cons, risingGo, map_getD]
      rw [if_neg (by simp [(assetFault_ok h1).1]), if_neg h2]
      exact h3
     ·rcases List.mem_cons.1 hy with rfl | hy
      ·exact h1
      ·exact h4 y hy
   ·rw [if_pos (by simpa using h1)] at h; exact absurd h h1
theorem checkAssets_ok {l : List Asset} (h : checkAssets l = 0) : SortedS (l.map (·.Player)) ∧ ∀ x ∈ l, assetFault x = 0 := by
 unfold checkAssets at h
 split at h
 ·omega
 ·obtain ⟨h1, h2⟩ := assetsGo_ok l l 0 h
  exact ⟨rising1_sorted (by simpa [rising1] using h1), h2⟩
theorem placesGo_ok (l : List Place) : ∀ (t : List Place) (k : Nat), placesGo l k t = 0 → ∀ x ∈ t, 0 ≤ x.Many ∧ x.Many ≤ 12
 | [], _, _ => fun x h => by cases h
 | x :: t, k, h => by
   simp only [placesGo] at h
   by_cases h1 : (!(key x.Position)) = true
   ·rw [if_pos h1] at h; omega
   ·rw [if_neg h1] at h
    by_cases h2 : out x.Many 0 12 = true
    ·rw [if_pos h2] at h; omega
    ·rw [if_neg h2] at h
     by_cases h3 : (decide (0 < k) && leS x.Position (l.getD (k - 1) place0).Position) = true
     ·rw [if_pos h3] at h; omega
     ·rw [if_neg h3] at h
      intro y hy
      rcases List.mem_cons.1 hy with rfl | hy
      ·exact out_f (by simpa using h2)
      ·exact placesGo_ok l t (k + 1) h y hy
theorem checkPlaces_ok {l : List Place} (h : checkPlaces l = 0) : (∀ x ∈ l, 0 ≤ x.Many ∧ x.Many ≤ 12) ∧ l.length ≤ 10 := by
 unfold checkPlaces at h
 split at h
 ·omega
 ·exact ⟨placesGo_ok l l 0 h, by omega⟩
theorem cmpS_le {a b : Str} : cmpS a b ≤ 0 ↔ bytesLess b a = false := by
 rw [cmpS_eq]
 rcases less_total a b with h | h | h
 ·simp [h, less_asymm h]
 ·subst h; simp [less_irrefl]
 ·have hne : a ≠ b := fun e => by subst e; rw [less_irrefl] at h; cases h
  simp [h, less_asymm h, hne]
theorem cmpS_zero {a b : Str} : cmpS a b = 0 ↔ a = b := by
 rw [cmpS_eq]
 rcases less_total a b with h | h | h
 ·have hne : a ≠ b := fun e => by subst e; rw [less_irrefl] at h; cases h
  simp [h, hne]
 ·subst h; simp [less_irrefl]
 ·have hne : a ≠ b := fun e => by subst e; rw [less_irrefl] at h; cases h
  simp [less_asymm h, hne]
theorem cmpS_trans {a b c : Str} (h1 : cmpS a b ≤ 0) (h2 : cmpS b c ≤ 0) : cmpS a c ≤ 0 := by
 rw [cmpS_le] at *
 rcases less_total a b with h | h | h
 ·rcases less_total b c with h' | h' | h'
  ·exact less_asymm (less_trans h h')
  ·subst h'; exact less_asymm h
  ·rw [h'] at h2; cases h2
 ·subst h; exact h2
 ·rw [h] at h1; cases h1
theorem orI2 (a b : Int) : orI [a, b] = if a ≠ 0 then a else b := by
 simp only [orI]
 by_cases ha : a = 0 <;> by_cases hb : b = 0 <;> simp [ha, hb]
theorem byValue_flip (x y : Asset) : byValue x y = -byValue y x := by
 unfold byValue
 rw [cmpI_flip, cmpS_flip x.Player, orI_flip]
theorem cmpI_le {a b : Int} : cmpI a b ≤ 0 ↔ a ≤ b := by unfold cmpI; split <;> (try split) <;> omega
theorem cmpI_zero {a b : Int} : cmpI a b = 0 ↔ a = b := by unfold cmpI; split <;> (try split) <;> omega
theorem byValue_le {x y : Asset} : byValue x y ≤ 0 ↔ y.Value < x.Value ∨ (y.Value = x.Value ∧ cmpS x.Player y.Player ≤ 0) := by
 unfold byValue
 rw [orI2]
 by_cases h : y.Value = x.Value
 ·rw [if_neg (by simp [cmpI_zero, h])]; simp [h]
 ·rw [if_pos (by simp [cmpI_zero, h]), cmpI_le]; omega
theorem byValue_cmp : Cmp byValue (fun _ => True) where
 flip x y _ _ := by rw [byValue_flip x y]; omega
 trans x y z _ _ _ h1 h2 := by
  rw [byValue_le] at *
  rcases h1 with h1 | ⟨h1, h1'⟩ <;> rcases h2 with h2 | ⟨h2, h2'⟩
  ·exact .inl (by omega)
  ·exact .inl (by omega)
  ·exact .inl (by omega)
  ·exact .inr ⟨by omega, cmpS_trans h1' h2'⟩
theorem byPlayer_cmp : Cmp byPlayer (fun _ => True) where
 flip x y _ _ := by unfold byPlayer; rw [cmpS_flip x.Player y.Player]; omega
 trans x y z _ _ _ h1 h2 := cmpS_trans h1 h2
theorem byValue_player {x y : Asset} (h : byValue x y = 0) : x.Player = y.Player := by
 unfold byValue at h
 rw [orI2] at h
 split at h
 ·contradiction
 ·exact cmpS_zero.1 h
/-- Players that rise differ. -/
theorem sortedS_nodup {l : List Str} (h : SortedS l) : l.Nodup := h.imp fun hab e => by subst e; rw [less_irrefl] at hab; cases hab
theorem nodup_inj {l : List Asset} (h : (l.map (·.Player)).Nodup) {x y : Asset} (hx : x ∈ l) (hy : y ∈ l) (e : x.Player = y.Player) : x = y := by
 induction l with
 | nil => cases hx
 | cons a l ih =>
   simp only [List.map_cons, List.nodup_cons, List.mem_map, not_exists, not_and] at h
   rcases List.mem_cons.1 hx with rfl | hx' <;> rcases List.mem_cons.1 hy with rfl | hy'
   ·rfl
   ·exact absurd e.symm (h.1 y hy')
   ·exact absurd e (h.1 x hx')
   ·exact ih h.2 hx' hy'
theorem ofP_perm {l m : List Asset} (h : (l.map (·.Player)).Nodup) (hp : l.Perm m) (pos : Str) : ofP l pos = ofP m pos := by
 unfold ofP atPos
 refine isort_unique byValue_cmp (fun _ _ => trivial) (fun x y hx hy e => ?_) (hp.filter _)
 exact nodup_inj h (List.mem_filter.1 hx).1 (List.mem_filter.1 hy).1 (byValue_player e)
theorem ofR_ofP {l : List Asset} (h : SortedS (l.map (·.Player))) (pos : Str) : ofR l pos = ofP l pos := by
 unfold ofR ofP
 have hp : (atPos l pos).Pairwise (fun a b => bytesLess a.Player b.Player = true) := (List.pairwise_map.1 h).filter _
 refine isort_congr fun i j x y hij hy hx => ?_
 have hxy : bytesLess y.Player x.Player = true := by
  obtain ⟨hi, rfl⟩ := List.getElem?_eq_some_iff.1 hy
  obtain ⟨hj, rfl⟩ := List.getElem?_eq_some_iff.1 hx
  exact List.pairwise_iff_getElem.1 hp i j hi hj hij
 unfold byVal byValue
 rw [orI2]
 by_cases he : cmpI y.Value x.Value = 0
 ·rw [if_neg (by simpa using he), he]
  have : ¬ cmpS x.Player y.Player ≤ 0 := by rw [cmpS_le, hxy]; simp
  omega
 ·rw [if_pos he]
theorem with_sorted {m : List Asset} (h : (m.map (·.Player)).Nodup) : SortedS ((isort byPlayer m).map (·.Player)) := by
 have h1 := isort_sorted byPlayer_cmp (l := m) (fun _ _ => trivial)
 have h2 : ((isort byPlayer m).map (·.Player)).Nodup := ((isort_perm byPlayer m).map _).nodup_iff.2 h
 unfold SortedS
 rw [List.pairwise_map]
 have h3 := List.pairwise_map.1 h2
 refine (h1.and h3).imp fun ⟨a1, a2⟩ => ?_
 rcases less_total _ _ with h | h | h
 ·exact h
 ·exact absurd h a2
 ·have := cmpS_le.1 a1; rw [h] at this; cases this
theorem fieldedL_congr {f g : Str → List Asset} {p : List Place} (h : ∀ x ∈ p, f x.Position = g x.Position) : fieldedL f p = fieldedL g p := by
 unfold fieldedL
 induction p with
 | nil => rfl
 | cons x p ih => simp only [List.flatMap_cons]; rw [h x (by simp), ih fun y hy => h y (List.mem_cons_of_mem _ hy)]
theorem fielded_ref {l : List Asset} (h : SortedS (l.map (·.Player))) (p : List Place) : fieldedL (ofR l) p = fieldedL (ofP l) p := fieldedL_congr fun x _ => ofR_ofP h _
end Go.HL
end
section
namespace Go.Proofs.YtbfikmihcpfgaaaGreatDoor
open Go.HL
set_option maxRecDepth 100000
set_option linter.unusedVariables false
set_option linter.unusedSimpArgs false
/-- math/bits.Len64 -/
theorem c_bits_Len64_s [Tracks] {x : Nat} (hx : x < 16) : Con Tryz.prog 180 [.int .u64 (x : Int)] [] (fun y M' => ∃ n : Int, y = .int .i64 n ∧ M' = []) := by
 refine Con.of_body Tryz.func180 rfl Tryz.ntmps180 rfl rfl ?_
 refine hw_reg ?_
 refine dp rfl (pop_assign rfl) ?_
 refine dn ?_
 refine hw_seq ?_
 refine hw_reg ?_
 refine dp rfl (pop_move rfl) ?_
 refine dp rfl (pop_geq rfl rfl) ?_
 refine dn ?_
 refine hw_cond rfl (fun h1 => ?_) (fun h1 => ?_)
 ·exfalso
  try simp at h1
  omega
 ·try simp at h1
  refine hw_skip ?_
  refine seqQ_n ?_
  refine hw_seq ?_
  refine hw_reg ?_
  refine dp rfl (pop_move rfl) ?_
  refine dp rfl (pop_geq rfl rfl) ?_
  refine dn ?_
  refine hw_cond rfl (fun h2 => ?_) (fun h2 => ?_)
  ·exfalso
   try simp at h2
   omega
  ·try simp at h2
   refine hw_skip ?_
   refine seqQ_n ?_
   refine hw_seq ?_
   refine hw_reg ?_
   refine dp rfl (pop_move rfl) ?_
   refine dp rfl (pop_geq rfl rfl) ?_
   refine dn ?_
   refine hw_cond rfl (fun h3 => ?_) (fun h3 => ?_)
   ·exfalso
    try simp at h3
    omega
   ·try simp at h3
    refine hw_skip ?_
    refine seqQ_n ?_
    refine hw_reg ?_
    refine dp rfl (pop_move rfl) ?_
    refine dp rfl (pop_move rfl) ?_
    refine dp rfl (pop_conv ty185 ty5 rfl) ?_
    refine dp rfl (pop_indexs (j := x) ty9 rfl rfl (wrap8 hx) (List.getElem?_eq_getElem (Nat.lt_of_lt_of_le hx (Nat.le_of_ble_eq_true (by kernel_rfl))))) ?_
    refine dp rfl (pop_conv ty5 ty3 rfl) ?_
    refine dp rfl (pop_add rfl rfl) ?_
    refine dp rfl (pop_assign rfl) ?_
    refine dn ?_
    refine hw_ret ?_
    exact ret_q rfl ⟨_, rfl, rfl⟩

/-- math/bits.Len -/
theorem c_bits_Len_s [Tracks] {x : Nat} (hx : x < 16) : Con Tryz.prog 138 [.int .u64 (x : Int)] [] (fun y M' => ∃ n : Int, y = .int .i64 n ∧ M' = []) := by
 refine Con.of_body Tryz.func138 rfl Tryz.ntmps138 rfl rfl ?_
 refine hw_reg ?_
 refine dp rfl (pop_assign rfl) ?_
 refine dn ?_
 refine hw_seq ?_
 refine hw_cond_f rfl ?_
 refine hw_skip ?_
 refine seqQ_n ?_
 refine hw_reg ?_
 refine dp rfl (pop_move rfl) ?_
 refine de rfl (eop_callf (M1 := []) (R := []) ca180 rfl (WeakL.refl _) (List.Perm.refl _) (c_bits_Len64_s hx) ?_)
 rintro _ _ ⟨n7, rfl, rfl⟩
 refine dp rfl (pop_assign rfl) ?_
 refine dn ?_
 refine hw_ret ?_
 exact ret_q rfl ⟨_, rfl, rfl⟩

set_option maxHeartbeats 1000000 in
/-- slices.insertionSortCmpFunc[benchwarmer/api.Asset] -/
theorem c_slices_insertionSortCmpFunc_api_Asset [Tracks] {l : List Asset} {v : Value} {fid : FuncId} {caps : List HVal} {c : Asset → Asset → Int} {n : Int} (hca : Callable Tryz.prog fid) (hp : ∀ x y, ConP Tryz.prog fid ([eAsset x, eAsset y] ++ caps) (.int .i64 (c x y))) (hn : n = l.length) (hl : l.length ≤ 1000000) : Con Tryz.prog 181 [.raw v, .int .i64 0, .int .i64 n, .fn (.func fid) [] caps] [.arr v 3 (l.map eAsset)] (fun x M' => x = .tup [] ∧ M' = [.arr v 3 ((isort c l).map eAsset)]) := by
 subst hn
 refine Con.of_body Tryz.func181 rfl Tryz.ntmps181 rfl rfl ?_
 refine hw_reg ?_
 refine dp rfl (pop_move rfl) ?_
 refine dp rfl (pop_add64 rfl rfl (by omega) (by omega)) ?_
 refine dp rfl (pop_assign rfl) ?_
 refine dn ?_
 refine hw_block ?_
 refine hw_loopw [8, 9, 12, 13, 14, 15, 16, 17, 18, 19, 20, 21, 22, 23, 24, 25, 26, 27, 28, 29, 30, 31, 32, 33, 34, 35, 36, 37, 38, 39, 40, 41, 42, 43, 44, 45, 46, 47, 48, 49, 50, 51, 52] (fun (k : Nat) => [(8, .int .i64 (k : Int))]) (fun (k : Nat) => [.arr v 3 ((isort c (l.take k) ++ l.drop k).map eAsset)]) (fun (k : Nat) => 1 ≤ k) (fun (k : Nat) => l.length - k) (1) ?_ ?_ ?_ ?_
 ·exact Nat.le_refl _
 ·exact ⟨rfl, trivial⟩
 ·exact perm_eq (by rw [isort_take1])
 ·intro k hk
  refine hw_seq ?_
  refine hw_reg ?_
  refine dp rfl (pop_move rfl) ?_
  refine dp rfl (pop_move rfl) ?_
  refine dp rfl (pop_lss rfl rfl) ?_
  refine dn ?_
  refine hw_cond rfl (fun h1 => ?_) (fun h2 => ?_)
  ·try simp at h1
   obtain ⟨x, hx⟩ : ∃ x, l[k]? = some x := ⟨_, List.getElem?_eq_getElem (by omega)⟩
   refine hw_arrc (i := 0) rfl (fun h0 he => ?_) (fun b off cap hv hcap => ?_)
   ·exfalso; have := congrArg List.length he; simp [isort_len] at this; omega
   rw [show ((isort c (l.take k) ++ l.drop k).map eAsset).length = l.length by simp [isort_len]; omega] at hv
   subst hv
   refine hw_skip ?_
   refine seqQ_n ?_
   refine hw_seq ?_
   refine hw_block ?_
   refine hw_reg ?_
   refine dp rfl (pop_move rfl) ?_
   refine dp rfl (pop_assign rfl) ?_
   refine dn ?_
   refine hw_block ?_
   refine hw_loopw2 [9, 18, 19, 20, 21, 22, 23, 24, 25, 26, 27, 28, 29, 30, 31, 32, 33, 34, 35, 36, 37, 38, 39, 40, 41, 42, 43, 44, 45, 46, 47, 48, 49, 50, 51, 52] (fun (A : List Asset) (B : List Asset) => [(9, .int .i64 (A.length : Int))]) (fun (A : List Asset) (B : List Asset) => [.arr (.slice (some ⟨b, off, none⟩) l.length cap) 3 ((A ++ x :: (B ++ l.drop (k + 1))).map eAsset)]) (fun (A : List Asset) (B : List Asset) => A.length + B.length = k ∧ insB c x (isort c (l.take k)) = insB c x A ++ B) (fun (A : List Asset) (B : List Asset) => A.length) (isort c (l.take k)) ([]) ?_ ?_ ?_ ?_
   ·exact ⟨by simp [isort_len]; omega, by simp⟩
   ·exact ⟨some_int (by simp [isort_len]; omega), trivial⟩
   ·exact perm_eq (by rw [drop_cons hx]; rfl)
   ·intro A B hinv
    obtain ⟨hA, hB⟩ := hinv
    have hlA : A.length < l.length := by omega
    have hll : ((A ++ x :: (B ++ l.drop (k + 1)))).length = l.length := by simp; omega
    refine hw_seq ?_
    refine hw_draw (fun M => M = [.arr (.slice (some ⟨b, off, none⟩) l.length cap) 3 ((A ++ x :: (B ++ l.drop (k + 1))).map eAsset)]) [8, 13] mixed ?_
    refine ahp 0 rfl rfl (by kernel_rfl) (by kernel_rfl) (pop_move rfl) ?_
    refine ahp 1 rfl rfl (by kernel_rfl) (by kernel_rfl) (pop_move rfl) ?_
    refine ahp 2 rfl rfl (by kernel_rfl) (by kernel_rfl) (pop_gtr rfl rfl) ?_
    refine ahp 3 rfl rfl (by kernel_rfl) (by kernel_rfl) (pop_move rfl) ?_
    refine ahg 4 rfl rfl (by kernel_rfl) (by kernel_rfl) rfl (fun hc => ⟨_, OpenTo.refl _, pop_move rfl⟩) ?_
    refine ahg 5 rfl rfl (by kernel_rfl) (by kernel_rfl) rfl (fun hc => ⟨_, OpenTo.refl _, pop_move rfl⟩) ?_
    refine ahg 6 rfl rfl (by kernel_rfl) (by kernel_rfl) rfl (fun hc => ⟨_, OpenTo.refl _, pop_move rfl⟩) ?_
    refine ahg 7 rfl rfl (by kernel_rfl) (by kernel_rfl) rfl (fun hc => by
     have hq : 0 < A.length := by simpa using hc
     exact ⟨_, OpenTo.upd (t := 24) rfl (hc) (OpenTo.upd (t := 23) rfl (hc) (OpenTo.refl _)), pop_idxraw (j := A.length) ty26 ty36 rfl rfl (by rfl) (by omega)⟩) ?_
    refine ahgl 8 rfl rfl (by kernel_rfl) (by kernel_rfl) (by simp) rfl rfl (fun hc => ⟨_, OpenTo.upd (t := 25) rfl (hc) (OpenTo.refl _), fun M hM => by
     subst hM; exact eop_load_elw (i := 0) (j := A.length) ty36 rfl rfl rfl get_mid rfl rfl rfl ⟨rfl, rfl⟩
     ⟩) ?_
    refine ahg 9 rfl rfl (by kernel_rfl) (by kernel_rfl) rfl (fun hc => ⟨_, OpenTo.refl _, pop_move rfl⟩) ?_
    refine ahg 10 rfl rfl (by kernel_rfl) (by kernel_rfl) rfl (fun hc => ⟨_, OpenTo.refl _, pop_move rfl⟩) ?_
    refine ahg 11 rfl rfl (by kernel_rfl) (by kernel_rfl) rfl (fun hc => by
     have hq : 0 < A.length := by simpa using hc
     exact ⟨_, OpenTo.upd (t := 28) rfl (hc) (OpenTo.refl _), pop_sub64 rfl rfl (by omega) (by omega)⟩) ?_
    refine ahg 12 rfl rfl (by kernel_rfl) (by kernel_rfl) rfl (fun hc => by
     have hq : 0 < A.length := by simpa using hc
     exact ⟨_, OpenTo.upd (t := 29) rfl (hc) (OpenTo.upd (t := 27) rfl (hc) (OpenTo.refl _)), pop_idxraw (j := A.length - 1) ty26 ty36 rfl rfl (by omega) (by omega)⟩) ?_
    refine ahgl 13 rfl rfl (by kernel_rfl) (by kernel_rfl) (by simp) rfl rfl (fun hc => ⟨_, OpenTo.upd (t := 30) rfl (hc) (OpenTo.refl _), fun M hM => by
     have hq : 0 < A.length := by simpa using hc
     subst hM; exact eop_load_elw (i := 0) (j := A.length - 1) ty36 rfl rfl rfl (get_before hq) rfl rfl rfl ⟨rfl, rfl⟩
     ⟩) ?_
    refine ahg 14 rfl rfl (by kernel_rfl) (by kernel_rfl) rfl (fun hc => ⟨_, OpenTo.upd (t := 31) rfl (hc) (OpenTo.upd (t := 26) rfl (hc) (OpenTo.upd (t := 22) rfl (hc) (OpenTo.refl _))), pop_callv hca rfl rfl (WeakL.refl _) (hp _ _)⟩) ?_
    refine ahg 15 rfl rfl (by kernel_rfl) (by kernel_rfl) rfl (fun hc => ⟨_, OpenTo.upd (t := 32) rfl (hc) (OpenTo.refl _), pop_lss rfl rfl⟩) ?_
    refine ahp 16 rfl rfl (by kernel_rfl) (by kernel_rfl) (pop_picko rfl (.inr ⟨_, rfl, fun h => by simp_all⟩) (.inl rfl)) ?_
    refine ahz (by kernel_rfl) ?_
    refine hw_cond rfl (fun h3 => ?_) (fun h4 => ?_)
    ·try simp at h3
     obtain ⟨hA0, hcx⟩ := h3
     obtain ⟨A1, y, rfl⟩ := snoc_of hA0
     rw [getD_snoc] at hcx
     refine hw_skip ?_
     refine seqQ_n ?_
     refine hw_seq ?_
     refine hw_block ?_
     refine hw_draw1 (fun M => M = [.arr (.slice (some ⟨b, off, none⟩) l.length cap) 3 (((A1 ++ [y]) ++ x :: (B ++ l.drop (k + 1))).map eAsset)]) [9, 13] mixed ?_
     refine ahp 0 rfl rfl (by kernel_rfl) (by kernel_rfl) (pop_move rfl) ?_
     refine ahp 1 rfl rfl (by kernel_rfl) (by kernel_rfl) (pop_move rfl) ?_
     refine ahp 2 rfl rfl (by kernel_rfl) (by kernel_rfl) (pop_move rfl) ?_
     refine ahp 3 rfl rfl (by kernel_rfl) (by kernel_rfl) (pop_move rfl) ?_
     refine ahp 4 rfl rfl (by kernel_rfl) (by kernel_rfl) (pop_sub64 rfl rfl (by omega) (by omega)) ?_
     refine ahp 5 rfl rfl (by kernel_rfl) (by kernel_rfl) (pop_move rfl) ?_
     refine ahp 6 rfl rfl (by kernel_rfl) (by kernel_rfl) (pop_move rfl) ?_
     refine ahp 7 rfl rfl (by kernel_rfl) (by kernel_rfl) (pop_sub64 rfl rfl (by omega) (by omega)) ?_
     refine ahp 8 rfl rfl (by kernel_rfl) (by kernel_rfl) (pop_idxraw (j := (A1 ++ [y]).length - 1) ty26 ty36 rfl rfl (by omega) (by omega)) ?_
     refine ahl 9 rfl rfl (by kernel_rfl) (by kernel_rfl) (by simp) rfl (fun M hM => by subst hM; exact eop_load_elw (i := 0) (j := (A1 ++ [y]).length - 1) ty36 rfl rfl rfl ((get_before hA0).trans (by rw [getD_snoc])) rfl rfl rfl ⟨rfl, rfl⟩) ?_
     refine ahp 10 rfl rfl (by kernel_rfl) (by kernel_rfl) (pop_move rfl) ?_
     refine ahp 11 rfl rfl (by kernel_rfl) (by kernel_rfl) (pop_move rfl) ?_
     refine ahp 12 rfl rfl (by kernel_rfl) (by kernel_rfl) (pop_idxraw (j := (A1 ++ [y]).length) ty26 ty36 rfl rfl rfl (by omega)) ?_
     refine ahl 13 rfl rfl (by kernel_rfl) (by kernel_rfl) (by simp) rfl (fun M hM => by subst hM; exact eop_load_elw (i := 0) (j := (A1 ++ [y]).length) ty36 rfl rfl rfl get_mid rfl rfl rfl ⟨rfl, rfl⟩) ?_
     refine ahp 14 rfl rfl (by kernel_rfl) (by kernel_rfl) (pop_idxraw (j := (A1 ++ [y]).length) ty26 ty36 rfl rfl rfl (by omega)) ?_
     refine ahe 15 rfl (by kernel_rfl) ?_
     refine hop_e0 (eop_store_elw (i := 0) (j := (A1 ++ [y]).length) (y := x) (y' := y) ty36 rfl rfl rfl rfl get_mid rfl rfl rfl ?_)
     refine ⟨fun _ => .inr (by simp [Before, Region.binds]), ?_⟩
     refine ahp 16 rfl rfl (by kernel_rfl) (by kernel_rfl) (pop_idxraw (j := (A1 ++ [y]).length - 1) ty26 ty36 rfl rfl (by omega) (by omega)) ?_
     refine ahe 17 rfl (by kernel_rfl) ?_
     refine hop_e0 (eop_store_elw (i := 0) (j := (A1 ++ [y]).length - 1) (y := y) (y' := x) ty36 rfl rfl rfl rfl (by rw [List.getElem?_set_ne (by simp)]; exact (get_before hA0).trans (by rw [getD_snoc])) rfl rfl rfl ?_)
     refine ⟨fun _ => .inr (by simp [Before, Region.binds]), ?_⟩
     refine ahz (by kernel_rfl) ?_
     refine blockQ_n ?_
     refine seqQ_n ?_
     refine hw_reg1 ?_
     refine dp rfl (pop_move rfl) ?_
     refine dp rfl (pop_sub64 rfl rfl (by omega) (by omega)) ?_
     refine dp rfl (pop_assign rfl) ?_
     refine dn ?_
     exact ⟨A1, y :: B, ⟨by simp at hA ⊢; omega, ins_step hB hcx⟩, by dsimp only; simp, ⟨some_int (by simp), trivial⟩, (by repeat (first | exact keeps_refl | refine keeps_upd rfl ?_ | refine keeps_loop rfl rfl ?_)), perm_eq (by rw [swap_mid]; rfl)⟩
    ·try simp at h4
     have hins := ins_exit (l := l) (k := k) hx hB (by intro h0; have := h4 h0; omega)
     refine hw_exit ?_
     refine seqQ_x ?_
     refine loopQ2_x ?_
     refine blockQ_eq ?_
     refine blockQ_n ?_
     refine seqQ_n ?_
     refine hw_reg1 ?_
     refine dp rfl (pop_move rfl) ?_
     refine dp rfl (pop_add64 rfl rfl (by omega) (by omega)) ?_
     refine dp rfl (pop_assign rfl) ?_
     refine dn ?_
     refine ⟨k + 1, ?_, ?_, ⟨rfl, trivial⟩, (by repeat (first | exact keeps_refl | refine keeps_upd rfl ?_ | refine keeps_loop rfl rfl ?_)), perm_eq (by rw [hins])⟩
     ·omega
     ·dsimp only; omega
  ·try simp at h2
   have hend : isort c (l.take k) ++ l.drop k = isort c l := by rw [List.take_of_length_le (by omega), drop_all (by omega)]; simp
   refine hw_exit ?_
   refine seqQ_x ?_
   refine loopQ_x ?_
   refine blockQ_eq ?_
   exact ⟨_, _, Ghost.sub (Sub.refl _), _, _, rfl, Weak.refl _, rfl, by rw [hend]⟩

/-- slices.pdqsortCmpFunc[benchwarmer/api.Asset] -/
theorem c_slices_pdqsortCmpFunc_api_Asset [Tracks] {l : List Asset} {v : Value} {fid : FuncId} {caps : List HVal} {c : Asset → Asset → Int} {lim : Int} (hca : Callable Tryz.prog fid) (hp : ∀ x y, ConP Tryz.prog fid ([eAsset x, eAsset y] ++ caps) (.int .i64 (c x y))) (hl : l.length ≤ 12) : Con Tryz.prog 139 [.raw v, .int .i64 0, .int .i64 (l.length : Int), .int .i64 lim, .fn (.func fid) [] caps] [.arr v 3 (l.map eAsset)] (fun x M' => x = .tup [] ∧ M' = [.arr v 3 ((isort c l).map eAsset)]) := by
 refine Con.of_body Tryz.func139 rfl Tryz.ntmps139 rfl rfl ?_
 refine hw_reg ?_
 refine dp rfl (pop_assign rfl) ?_
 refine dn ?_
 refine hw_reg ?_
 refine dp rfl (pop_assign rfl) ?_
 refine dn ?_
 refine hw_block ?_
 refine hw_loopw (1 :: 2 :: 3 :: 10 :: 11 :: 12 :: 13 :: 14 :: 15 :: 16 :: 17 :: 18 :: 19 :: 20 :: 21 :: 22 :: 23 :: 24 :: 25 :: 26 :: 27 :: 28 :: 29 :: 30 :: 31 :: 32 :: 33 :: 34 :: 35 :: 36 :: 37 :: 38 :: 39 :: 40 :: 41 :: 42 :: 43 :: 44 :: 45 :: 46 :: 47 :: 48 :: 49 :: 50 :: 51 :: 52 :: 53 :: 54 :: 55 :: 56 :: 57 :: 58 :: 59 :: 60 :: 61 :: 62 :: 63 :: 64 :: 65 :: 66 :: 67 :: 68 :: 69 :: 70 :: 71 :: 72 :: 73 :: 74 :: 75 :: 76 :: 77 :: 78 :: 79 :: 80 :: 81 :: 82 :: 83 :: 84 :: 85 :: 86 :: 87 :: 88 :: 89 :: 90 :: 91 :: 92 :: 93 :: 94 :: 95 :: 96 :: 97 :: 98 :: 99 :: 100 :: 101 :: 102 :: 103 :: 104 :: 105 :: 106 :: 107 :: 108 :: 109 :: 110 :: 111 :: 112 :: 113 :: 114 :: 115 :: 116 :: 117 :: 118 :: 119 :: 120 :: 121 :: 122 :: 123 :: 124 :: 125 :: 126 :: 127 :: 128 :: 129 :: 130 :: 131 :: 132 :: 133 :: 134 :: 135 :: 136 :: 137 :: 138 :: 139 :: 140 :: 141 :: 142 :: 143 :: 144 :: 145 :: 146 :: 147 :: []) (fun (u : Unit) => [(1, .int .i64 0), (2, .int .i64 (l.length : Int))]) (fun (u : Unit) => [.arr v 3 (l.map eAsset)]) (fun (u : Unit) => True) (fun (u : Unit) => 0) (()) ?_ ?_ ?_ ?_
 ·trivial
 ·exact ⟨rfl, rfl, trivial⟩
 ·exact List.Perm.refl _
 ·intro u hu
  refine hw_block ?_
  refine hw_reg ?_
  refine dp rfl (pop_move rfl) ?_
  refine dp rfl (pop_move rfl) ?_
  refine dp rfl (pop_sub64 rfl rfl (by omega) (by omega)) ?_
  refine dp rfl (pop_assign rfl) ?_
  refine dn ?_
  refine hw_seq ?_
  refine hw_reg ?_
  refine dp rfl (pop_move rfl) ?_
  refine dp rfl (pop_leq rfl rfl) ?_
  refine dn ?_
  refine hw_cond rfl (fun h1 => ?_) (fun h1 => ?_)
  ·try simp at h1
   refine hw_reg ?_
   refine dp rfl (pop_move rfl) ?_
   refine dp rfl (pop_move rfl) ?_
   refine dp rfl (pop_move rfl) ?_
   refine dp rfl (pop_move rfl) ?_
   refine de rfl (eop_callx (i := 0) ca181 rfl (WeakL.refl _) rfl (c_slices_insertionSortCmpFunc_api_Asset (l := l) hca hp (by omega) (by omega)) ?_)
   rintro _ _ ⟨rfl, rfl⟩
   refine dn ?_
   refine hw_ret ?_
   exact ret_q rfl ⟨rfl, rfl⟩
  ·exfalso
   try simp at h1
   omega

/-- slices.SortFunc[[]benchwarmer/api.Asset,benchwarmer/api.Asset] -/
theorem c_slices_SortFunc_api_Asset_api_Asset [Tracks] {l : List Asset} {v : Value} {fid : FuncId} {caps : List HVal} {c : Asset → Asset → Int} (hca : Callable Tryz.prog fid) (hp : ∀ x y, ConP Tryz.prog fid ([eAsset x, eAsset y] ++ caps) (.int .i64 (c x y))) (hl : l.length ≤ 12) : Con Tryz.prog 100 [.raw v, .fn (.func fid) [] caps] [.arr v 3 (l.map eAsset)] (fun x M' => x = .tup [] ∧ M' = [.arr v 3 ((isort c l).map eAsset)]) := by
 refine Con.of_body Tryz.func100 rfl Tryz.ntmps100 rfl rfl ?_
 refine hw_reg ?_
 refine dp rfl (pop_move rfl) ?_
 refine de rfl (eop_lenm (i := 0) ty26 rfl rfl ?_)
 refine dp rfl (pop_assign rfl) ?_
 refine dn ?_
 refine hw_reg1 ?_
 refine dp rfl (pop_move rfl) ?_
 refine dp rfl (pop_move rfl) ?_
 refine dp rfl (pop_move rfl) ?_
 refine dp rfl (pop_eq (pop_conv ty3 ty181 rfl) (congrArg _ (wrapu64 (by omega)))) ?_
 refine de rfl (eop_callf (M1 := []) (R := [_]) ca138 rfl (WeakL.refl _) (List.Perm.refl _) (c_bits_Len_s (x := l.length) (by omega)) ?_)
 rintro _ _ ⟨n11, rfl, rfl⟩
 refine dp rfl (pop_move rfl) ?_
 refine de rfl (eop_callx (i := 0) ca139 rfl (WeakL.refl _) rfl (c_slices_pdqsortCmpFunc_api_Asset hca hp hl) ?_)
 rintro _ _ ⟨rfl, rfl⟩
 refine dn ?_
 exact ⟨_, _, Ghost.sub (Sub.refl _), _, _, rfl, Weak.refl _, rfl, rfl⟩

/-- slices.stableCmpFunc[benchwarmer/api.Asset] -/
theorem c_slices_stableCmpFunc_api_Asset [Tracks] {l : List Asset} {v : Value} {fid : FuncId} {caps : List HVal} {c : Asset → Asset → Int} (hca : Callable Tryz.prog fid) (hp : ∀ x y, ConP Tryz.prog fid ([eAsset x, eAsset y] ++ caps) (.int .i64 (c x y))) (hl : l.length < 20) : Con Tryz.prog 169 [.raw v, .int .i64 (l.length : Int), .fn (.func fid) [] caps] [.arr v 3 (l.map eAsset)] (fun x M' => x = .tup [] ∧ M' = [.arr v 3 ((isort c l).map eAsset)]) := by
 refine Con.of_body Tryz.func169 rfl Tryz.ntmps169 rfl rfl ?_
 refine hw_reg ?_
 refine dp rfl (pop_assign rfl) ?_
 refine dn ?_
 refine hw_reg ?_
 refine dp rfl (pop_move rfl) ?_
 refine dp rfl (pop_assign rfl) ?_
 refine dp rfl (pop_assign rfl) ?_
 refine dn ?_
 refine hw_seq ?_
 refine hw_block ?_
 refine hw_loopw [7, 8, 11, 12, 13, 14, 15, 16, 17, 18, 19, 20, 21, 22] (fun (u : Unit) => [(7, .int .i64 0), (8, .int .i64 20)]) (fun (u : Unit) => [.arr v 3 (l.map eAsset)]) (fun (u : Unit) => True) (fun (u : Unit) => 0) (()) ?_ ?_ ?_ ?_
 ·trivial
 ·exact ⟨rfl, rfl, trivial⟩
 ·exact List.Perm.refl _
 ·intro u hu
  refine hw_seq ?_
  refine hw_reg ?_
  refine dp rfl (pop_move rfl) ?_
  refine dp rfl (pop_move rfl) ?_
  refine dp rfl (pop_leq rfl rfl) ?_
  refine dn ?_
  refine hw_cond rfl (fun h1 => ?_) (fun h1 => ?_)
  ·exfalso
   try simp at h1
   omega
  ·try simp at h1
   refine hw_exit ?_
   refine seqQ_x ?_
   refine loopQ_x ?_
   refine blockQ_eq ?_
   refine seqQ_n ?_
   refine hw_reg ?_
   refine dp rfl (pop_move rfl) ?_
   refine dp rfl (pop_move rfl) ?_
   refine dp rfl (pop_move rfl) ?_
   refine dp rfl (pop_move rfl) ?_
   refine de rfl (eop_callx (i := 0) ca181 rfl (WeakL.refl _) rfl (c_slices_insertionSortCmpFunc_api_Asset (l := l) hca hp (by omega) (by omega)) ?_)
   rintro _ _ ⟨rfl, rfl⟩
   refine dn ?_
   refine hw_block ?_
   refine hw_loopw [6, 7, 8, 9, 28, 29, 30, 31, 32, 33, 34, 35, 36, 37, 38, 39, 40, 41, 42, 43, 44, 45, 46, 47, 48, 49, 50, 51, 52, 53, 54, 55, 56, 57, 58, 59, 60, 61, 62] (fun (u : Unit) => [(6, .int .i64 20)]) (fun (u : Unit) => [.arr v 3 ((isort c l).map eAsset)]) (fun (u : Unit) => True) (fun (u : Unit) => 0) (()) ?_ ?_ ?_ ?_
   ·trivial
   ·exact ⟨rfl, trivial⟩
   ·exact List.Perm.refl _
   ·intro u hu
    refine hw_seq ?_
    refine hw_reg ?_
    refine dp rfl (pop_move rfl) ?_
    refine dp rfl (pop_move rfl) ?_
    refine dp rfl (pop_lss rfl rfl) ?_
    refine dn ?_
    refine hw_cond rfl (fun h2 => ?_) (fun h2 => ?_)
    ·exfalso
     try simp at h2
     omega
    ·try simp at h2
     refine hw_exit ?_
     refine seqQ_x ?_
     refine loopQ_x ?_
     refine blockQ_eq ?_
     exact ⟨_, _, Ghost.sub (Sub.refl _), _, _, rfl, Weak.refl _, rfl, rfl⟩

/-- slices.SortStableFunc[[]benchwarmer/api.Asset,benchwarmer/api.Asset] -/
theorem c_slices_SortStableFunc_api_Asset_api_Asset [Tracks] {l : List Asset} {v : Value} {fid : FuncId} {caps : List HVal} {c : Asset → Asset → Int} (hca : Callable Tryz.prog fid) (hp : ∀ x y, ConP Tryz.prog fid ([eAsset x, eAsset y] ++ caps) (.int .i64 (c x y))) (hl : l.length < 20) : Con Tryz.prog 135 [.raw v, .fn (.func fid) [] caps] [.arr v 3 (l.map eAsset)] (fun x M' => x = .tup [] ∧ M' = [.arr v 3 ((isort c l).map eAsset)]) := by
 refine Con.of_body Tryz.func135 rfl Tryz.ntmps135 rfl rfl ?_
 refine hw_reg1 ?_
 refine dp rfl (pop_move rfl) ?_
 refine dp rfl (pop_move rfl) ?_
 first
 | refine de rfl (eop_lenm (i := 0) ty26 rfl rfl ?_)
 | refine de rfl (eop_lenm (i := 1) ty26 rfl rfl ?_)
 | refine de rfl (eop_lenm (i := 2) ty26 rfl rfl ?_)
 | refine de rfl (eop_lenm (i := 3) ty26 rfl rfl ?_)
 refine dp rfl (pop_move rfl) ?_
 first
 | refine de rfl (eop_callx (i := 0) ca169 rfl (WeakL.refl _) rfl (c_slices_stableCmpFunc_api_Asset hca hp hl) ?_)
 | refine de rfl (eop_callx (i := 1) ca169 rfl (WeakL.refl _) rfl (c_slices_stableCmpFunc_api_Asset hca hp hl) ?_)
 | refine de rfl (eop_callx (i := 2) ca169 rfl (WeakL.refl _) rfl (c_slices_stableCmpFunc_api_Asset hca hp hl) ?_)
 | refine de rfl (eop_callx (i := 3) ca169 rfl (WeakL.refl _) rfl (c_slices_stableCmpFunc_api_Asset hca hp hl) ?_)
 rintro _ _ ⟨rfl, rfl⟩
 refine dn ?_
 exact ⟨_, _, Ghost.sub (Sub.refl _), _, _, rfl, Weak.refl _, rfl, rfl⟩

/-- slices.IndexFunc[[]benchwarmer/api.Asset,benchwarmer/api.Asset] -/
theorem c_slices_IndexFunc_api_Asset_api_Asset [Tracks] {l : List Asset} {fid : FuncId} {caps : List HVal} {p : Asset → Bool} (hca : Callable Tryz.prog fid) (hp : ∀ x, ConP Tryz.prog fid ([eAsset x] ++ caps) (.bool (p x))) (hl : l.length ≤ 1000000) : ConP Tryz.prog 92 [.slice 3 (l.map eAsset), .fn (.func fid) [] caps] (.int .i64 (idxF p l 0)) := by
 refine Con.of_body Tryz.func92 rfl Tryz.ntmps92 rfl rfl ?_
 refine hw_reg ?_
 refine dp rfl (pop_assign rfl) ?_
 refine dn ?_
 refine hw_seq ?_
 refine hw_reg ?_
 refine dp rfl (pop_move rfl) ?_
 refine dp rfl (pop_lenm ty26 rfl) ?_
 refine dp rfl (pop_move rfl) ?_
 refine dn ?_
 refine hw_block ?_
 refine hw_loopw [4, 5, 8, 9, 10, 11, 12, 13, 14, 15, 16, 17, 18] (fun (k : Nat) => [(8, .int .i64 k)]) (fun (k : Nat) => []) (fun (k : Nat) => k ≤ l.length ∧ (idxF p l 0 = idxF p (l.drop k) k)) (fun (k : Nat) => l.length - k) (0) ?_ ?_ ?_ ?_
 ·exact ⟨Nat.zero_le _, rfl⟩
 ·exact ⟨rfl, trivial⟩
 ·exact List.Perm.refl _
 ·intro k hinv
  obtain ⟨hk, hg⟩ := hinv
  refine hw_reg ?_
  refine dp rfl (pop_lss rfl rfl) ?_
  refine dn ?_
  refine hw_seq ?_
  refine hw_cond rfl (fun h1 => ?_) (fun h2 => ?_)
  ·try simp at h1
   obtain ⟨x, hx⟩ : ∃ x, l[k]? = some x := ⟨_, List.getElem?_eq_getElem h1⟩
   have hdx := drop_cons hx
   rw [hdx] at hg
   refine hw_skip ?_
   refine seqQ_n ?_
   refine hw_seq ?_
   refine hw_block ?_
   refine hw_reg ?_
   refine dp rfl (pop_move rfl) ?_
   refine dp rfl (pop_assign rfl) ?_
   refine dn ?_
   refine hw_reg ?_
   refine dp rfl (pop_move rfl) ?_
   refine dp rfl (pop_move rfl) ?_
   refine dp rfl (pop_move rfl) ?_
   refine dp rfl (pop_idx ty26 ty36 rfl rfl rfl (by assumption)) ?_
   refine dp rfl (pop_loadw ty36 rfl rfl rfl rfl) ?_
   refine dp rfl (pop_callv hca rfl rfl (WeakL.refl _) (hp _)) ?_
   refine dn ?_
   refine hw_cond rfl (fun h3 => ?_) (fun h4 => ?_)
   ·try simp at h3
    refine hw_reg ?_
    refine dp rfl (pop_move rfl) ?_
    refine dp rfl (pop_assign rfl) ?_
    refine dn ?_
    refine hw_ret ?_
    refine ret_p rfl ?_
    show HVal.int .i64 _ = _
    (rw [hg]; simp_all [idxF])
   ·try simp at h4
    refine hw_skip ?_
    refine blockQ_n ?_
    refine seqQ_n ?_
    refine hw_reg1 ?_
    refine dp rfl (pop_add64 rfl rfl (by omega) (by omega)) ?_
    refine dp rfl (pop_move rfl) ?_
    refine dn ?_
    refine ⟨k + 1, ?_, ?_, ⟨rfl, trivial⟩, (by repeat (first | exact keeps_refl | refine keeps_upd rfl ?_ | refine keeps_loop rfl rfl ?_)), List.Perm.refl _⟩
    ·refine ⟨by omega, ?_⟩
     rw [hg, idxF, if_neg (by simp_all)]; rfl
    ·dsimp only; omega
  ·try simp at h2
   have hnk : l.length ≤ k := by omega
   obtain rfl : k = l.length := by omega
   rw [drop_all (Nat.le_refl _)] at hg
   refine hw_exit ?_
   refine seqQ_x ?_
   refine loopQ_x ?_
   refine blockQ_eq ?_
   refine seqQ_n ?_
   refine hw_reg ?_
   refine dp rfl (pop_assign rfl) ?_
   refine dn ?_
   refine hw_ret ?_
   refine ret_p rfl ?_
   show HVal.int .i64 _ = _
   (rw [hg]; rfl)

/-- slices.ContainsFunc[[]benchwarmer/api.Asset,benchwarmer/api.Asset] -/
theorem c_slices_ContainsFunc_api_Asset_api_Asset [Tracks] {l : List Asset} {fid : FuncId} {caps : List HVal} {p : Asset → Bool} (hca : Callable Tryz.prog fid) (hp : ∀ x, ConP Tryz.prog fid ([eAsset x] ++ caps) (.bool (p x))) (hl : l.length ≤ 1000000) : ConP Tryz.prog 47 [.slice 3 (l.map eAsset), .fn (.func fid) [] caps] (.bool (l.any p)) := by
 refine Con.of_body Tryz.func47 rfl Tryz.ntmps47 rfl rfl ?_
 refine hw_reg ?_
 refine dp rfl (pop_assign rfl) ?_
 refine dn ?_
 refine hw_reg ?_
 refine dp rfl (pop_move rfl) ?_
 refine dp rfl (pop_move rfl) ?_
 refine dp rfl (pop_call ca92 rfl (WeakL.refl _) (c_slices_IndexFunc_api_Asset_api_Asset hca hp hl)) ?_
 refine dp rfl (pop_geq rfl rfl) ?_
 refine dp rfl (pop_assign rfl) ?_
 refine dn ?_
 refine hw_ret ?_
 refine ret_p rfl ?_
 congr 1; exact idxF_nonneg p l 0 (by omega)

/-- slices.Clone[[]benchwarmer/api.Asset,benchwarmer/api.Asset] -/
theorem c_slices_Clone_api_Asset_api_Asset [Tracks] {l : List Asset} (hl : l.length ≤ 1000000) : ConA Tryz.prog 60 [.slice 3 (l.map eAsset)] 3 (l.map eAsset) := by
 refine Con.of_body Tryz.func60 rfl Tryz.ntmps60 rfl rfl ?_
 refine hw_reg ?_
 refine dp rfl (pop_assign rfl) ?_
 refine dn ?_
 refine hw_seq ?_
 refine hw_reg ?_
 refine dp rfl (pop_move rfl) ?_
 refine de rfl (eop_eqnil ty26 rfl rfl fun b4 hb4 => ?_)
 refine dn ?_
 refine hw_cond rfl (fun h1 => ?_) (fun h2 => ?_)
 ·try simp at h1
  refine hw_reg ?_
  refine dp rfl (pop_assign rfl) ?_
  refine dn ?_
  refine hw_ret ?_
  exact ret_g (Ghost.arr_nil 3) rfl ⟨_, rfl, by simp_all⟩
 ·try simp at h2
  refine hw_skip ?_
  refine seqQ_n ?_
  refine hw_reg ?_
  refine de rfl (eop_mk0 ty26 ty36 fun v5 => ?_)
  refine dp rfl (pop_move rfl) ?_
  refine de rfl (eop_append (i := 0) ty26 ty36 rfl rfl rfl rfl rfl (by simp [flat, hcells]) (by simp; omega) fun v7 => ?_)
  refine dp rfl (pop_assign rfl) ?_
  refine dn ?_
  refine hw_ret ?_
  exact ret_a rfl rfl

/-- slices.DeleteFunc[[]benchwarmer/api.Asset,benchwarmer/api.Asset] -/
theorem c_slices_DeleteFunc_api_Asset_api_Asset [Tracks] {l : List Asset} {fid : FuncId} {caps : List HVal} {p : Asset → Bool} {v : Value} (hca : Callable Tryz.prog fid) (hp : ∀ x, ConP Tryz.prog fid ([eAsset x] ++ caps) (.bool (p x))) (hl : l.length ≤ 1000000) : Con Tryz.prog 59 [.raw v, .fn (.func fid) [] caps] [.arr v 3 (l.map eAsset)] (fun x M' => ∃ u, x = .raw u ∧ M' = [.arr u 3 ((l.filter (fun x => !p x)).map eAsset)]) := by
 refine Con.of_body Tryz.func59 rfl Tryz.ntmps59 rfl rfl ?_
 refine hw_reg ?_
 refine dp rfl (pop_assign rfl) ?_
 refine dn ?_
 refine hw_reg ?_
 refine dp rfl (pop_move rfl) ?_
 refine dp rfl (pop_move rfl) ?_
 refine de rfl (eop_callb (hs' := [.slice 3 (l.map eAsset), .fn (.func fid) [] caps]) ca92 rfl ⟨.arr (i := 0) rfl, .weak (Weak.refl _), trivial⟩ (c_slices_IndexFunc_api_Asset_api_Asset (p := p) hca hp hl) rfl ?_)
 refine dp rfl (pop_assign rfl) ?_
 refine dn ?_
 refine hw_seq ?_
 refine hw_reg ?_
 refine dp rfl (pop_move rfl) ?_
 refine dp rfl (pop_eql rfl rfl) ?_
 refine dn ?_
 refine hw_cond rfl (fun h1 => ?_) (fun h2 => ?_)
 ·try simp at h1
  refine hw_reg ?_
  refine dp rfl (pop_move rfl) ?_
  refine dp rfl (pop_assign rfl) ?_
  refine dn ?_
  refine hw_ret ?_
  (refine ret_q rfl ⟨_, rfl, ?_⟩
   rw [idxF_none p l 0 (by omega) h1]
   done)
 ·try simp at h2
  refine hw_skip ?_
  refine seqQ_n ?_
  refine hw_seq ?_
  obtain ⟨i0, hi0, hil, ⟨x0, hx0, hp0⟩, hb0⟩ := idxF_found p l 0 (by omega) h2
  rw [Int.zero_add] at hi0
  obtain ⟨hD0, hn0⟩ := DelInv.start (p := p) hil hx0 hp0 hb0
  refine hw_arrc (i := 0) rfl (fun h0 he => ?_) (fun b off cap hv hcap => ?_)
  ·exfalso; have := congrArg List.length he; simp at this; subst this; simp at hil
  rw [List.length_map] at hv hcap
  subst hv
  refine hw_reg ?_
  refine dp rfl (pop_move rfl) ?_
  refine dp rfl (pop_eq (pop_add64 rfl rfl (by rw [hi0]; omega) (by rw [hi0]; omega)) (congrArg _ (by rw [hi0]))) ?_
  refine dp rfl (pop_assign rfl) ?_
  refine dn ?_
  refine hw_block ?_
  refine hw_loopw2 [5, 6, 7, 16, 17, 18, 19, 20, 21, 22, 23, 24, 25, 26, 27, 28, 29, 30, 31, 32, 33, 34, 35] (fun (j : Nat) (D : List Asset) => [(6, .int .i64 (j : Int)), (5, .int .i64 (((l.take j).filter (fun x => !p x)).length : Int))]) (fun (j : Nat) (D : List Asset) => [.arr (.slice (some ⟨b, off, none⟩) l.length cap) 3 (D.map eAsset)]) (fun (j : Nat) (D : List Asset) => DelInv p l j D) (fun (j : Nat) (D : List Asset) => l.length - j) (i0 + 1) (l) ?_ ?_ ?_ ?_
  ·exact hD0
  ·exact ⟨rfl, some_int (by rw [hn0, hi0]), trivial⟩
  ·exact List.Perm.refl _
  ·intro j D hD
   have hlt0 := hD.lt
   have hle0 := hD.len
   refine hw_seq ?_
   refine hw_reg ?_
   refine dp rfl (pop_move rfl) ?_
   refine dp rfl (pop_move rfl) ?_
   refine de rfl (eop_lenm (i := 0) ty26 rfl rfl ?_)
   refine dp rfl (pop_lss rfl rfl) ?_
   refine dn ?_
   refine hw_cond rfl (fun h3 => ?_) (fun h4 => ?_)
   ·try simp at h3
    obtain ⟨x, hx⟩ : ∃ x, l[j]? = some x := ⟨_, List.getElem?_eq_getElem (by omega)⟩
    refine hw_skip ?_
    refine seqQ_n ?_
    refine hw_seq ?_
    refine hw_block ?_
    refine hw_reg ?_
    refine dp rfl (pop_move rfl) ?_
    refine dp rfl (pop_move rfl) ?_
    refine dp rfl (pop_idxraw (j := j) ty26 ty36 rfl rfl rfl (by omega)) ?_
    refine de rfl (eop_load_elw (i := 0) (j := j) ty36 rfl rfl rfl (hD.get hx) rfl rfl rfl ?_)
    refine de rfl (eop_alloc ty36 rfl fun b7 => ?_)
    refine de0 (eop_storew ty36 rfl rfl rfl rfl rfl ?_)
    refine dn ?_
    refine hw_ghost (Ghost.fc0 7 rfl) ?_
    refine hw_reg ?_
    refine dp rfl (pop_move rfl) ?_
    refine dp rfl (pop_loadw ty36 rfl rfl rfl rfl) ?_
    refine dp rfl (pop_callv hca rfl rfl (WeakL.refl _) (hp _)) ?_
    refine dp rfl (pop_not rfl) ?_
    refine dn ?_
    refine hw_cond rfl (fun h5 => ?_) (fun h6 => ?_)
    ·try simp at h5
     refine hw_reg ?_
     refine dp rfl (pop_move rfl) ?_
     refine dp rfl (pop_move rfl) ?_
     refine dp rfl (pop_loadw ty36 rfl rfl rfl rfl) ?_
     refine dp rfl (pop_idxraw (j := ((l.take j).filter (fun x => !p x)).length) ty26 ty36 rfl rfl rfl (by have := hD.lt; omega)) ?_
     refine de0 (eop_store_elw (i := 0) (j := ((l.take j).filter (fun x => !p x)).length) (y := D[((l.take j).filter (fun x => !p x)).length]'(by have := hD.lt; have := hD.len; omega)) (y' := x) ty36 rfl rfl rfl rfl (List.getElem?_eq_getElem _) rfl rfl rfl ?_)
     refine dn ?_
     refine hw_reg1 ?_
     refine dp rfl (pop_move rfl) ?_
     refine dp rfl (pop_add64 rfl rfl (by omega) (by have := hD.lt; omega)) ?_
     refine dp rfl (pop_assign rfl) ?_
     refine dn ?_
     refine blockQ_n ?_
     refine seqQ_n ?_
     refine hw_reg1 ?_
     refine dp rfl (pop_move rfl) ?_
     refine dp rfl (pop_add64 rfl rfl (by omega) (by omega)) ?_
     refine dp rfl (pop_assign rfl) ?_
     refine dn ?_
     exact ⟨j + 1, _, (hD.keep hx (by simp_all)).1, by dsimp only; omega, ⟨rfl, some_int (by rw [(hD.keep hx (by simp_all)).2]; rfl), trivial⟩, (by repeat (first | exact keeps_refl | refine keeps_upd rfl ?_ | refine keeps_loop rfl rfl ?_)), List.Perm.refl _⟩
    ·try simp at h6
     refine hw_skip ?_
     refine blockQ_n ?_
     refine seqQ_n ?_
     refine hw_reg1 ?_
     refine dp rfl (pop_move rfl) ?_
     refine dp rfl (pop_add64 rfl rfl (by omega) (by omega)) ?_
     refine dp rfl (pop_assign rfl) ?_
     refine dn ?_
     exact ⟨j + 1, _, (hD.skip hx (by simp_all)).1, by dsimp only; omega, ⟨rfl, some_int (by rw [(hD.skip hx (by simp_all)).2]), trivial⟩, (by repeat (first | exact keeps_refl | refine keeps_upd rfl ?_ | refine keeps_loop rfl rfl ?_)), List.Perm.refl _⟩
   ·try simp at h4
    obtain rfl : j = l.length := by have := hD.jle; omega
    have hend := hD.done
    refine hw_exit ?_
    refine seqQ_x ?_
    refine loopQ2_x ?_
    refine blockQ_eq ?_
    refine seqQ_n ?_
    refine hw_reg ?_
    refine dp rfl (pop_move rfl) ?_
    refine dp rfl (pop_move rfl) ?_
    refine dp rfl (pop_slraw (l := ((l.take l.length).filter (fun x => !p x)).length) ty26 ty36 rfl ⟨_, _, rfl, rfl⟩ rfl (by omega) (by omega) hcap) ?_
    refine de0 (eop_clear_at (i := 0) (m := ((l.take l.length).filter (fun x => !p x)).length) (((l.take l.length).filter (fun x => !p x)).length) ty26 ty36 rfl rfl rfl (slOff_or (by omega) hcap) rfl (by omega) (Nat.le_refl _) (by rw [List.length_map, hD.len]; omega) ?_)
    refine dn ?_
    refine hw_reg ?_
    refine dp rfl (pop_move rfl) ?_
    refine dp rfl (pop_move rfl) ?_
    refine dp rfl (pop_slraw0 (h := ((l.take l.length).filter (fun x => !p x)).length) ty26 ty36 rfl ⟨_, _, rfl, rfl⟩ (by omega)) ?_
    refine dp rfl (pop_assign rfl) ?_
    refine dn ?_
    refine hw_ret ?_
    (refine ret_q rfl ⟨_, rfl, ?_⟩
     rw [List.take_length, ← List.map_take, hend]; rfl)

end Go.Proofs.YtbfikmihcpfgaaaGreatDoor
end
section
namespace Go.HL
variable {P : Program}
open Go.ChangeShapes Go.WideShapes Go.RowKit
theorem below_of_sat [Tracks] {W W' : World} {J : Imm} {M : List MObj} (hl : Le (allI W) J) (hs : Sat P J M W') : Below W.heap.size W W' := by
 have hb : ∀ k, k < W.heap.size → W'.heap[k]? = W.heap[k]? := fun k hk => by
  have h1 : W.heap[k]? = some W.heap[k] := by simp [hk]
  rw [h1]
  exact hs.imm _ _ (hl.heap _ _ h1)
 exact {
  os := hs.os.trans hl.os
  tape := hs.tape.trans hl.tape
  output := hs.output.trans hl.output
  size := by
   rcases Nat.eq_zero_or_pos W.heap.size with h | h
   ·omega
   ·have h1 := hb (W.heap.size - 1) (by omega)
    have h2 : W.heap[W.heap.size - 1]? = some (W.heap[W.heap.size - 1]'(by omega)) := by simp
    rw [h2] at h1
    rcases Nat.lt_or_ge (W.heap.size - 1) W'.heap.size with h3 | h3
    ·omega
    ·rw [Array.getElem?_eq_none h3] at h1; cases h1
  block := hb }
theorem sat_now [Tracks] {W : World} (ht : TabI P (allI W)) : Sat P (allI W) [] W := ⟨fun _ _ h => h, fun _ h => by simp at h, by simp [blocks], fun _ h => by simp [blocks] at h, rfl, rfl, rfl, ht, fun _ => Nat.le_refl _⟩
theorem conp_law [Tracks] {P : Program} {f : FuncId} {l : List Int} (hc : ConP P f [.slice 1 (l.map (.int .i64))] (.bool true)) {W : World} (ht : TabI P (allI W)) {v : Value} (hv : V (allI W) (.slice 1 (l.map (.int .i64))) v) :
 Calls P f #[v] W fun e W' => e = .returned (.bool true) ∧ Below W.heap.size W W' := by
 refine (hc (allI W) [] W [v] (VL.cons hv VL.nil) (sat_now ht)).mono ?_
 rintro e W' ⟨u, h, M', J, rfl, hle, ⟨rfl, rfl⟩, hV, hs⟩
 exact ⟨by rw [hV.bool_inv], below_of_sat hle hs⟩
theorem v_ints [Tracks] {W : World} {a : Addr} {len cap : Nat} {zs : List Int} (hcell : ∀ i, i < zs.length → W.cell? (a.add i) = some (.int .i64 (zs.getD i 0))) (hl : len ≤ zs.length) (hc : len ≤ cap) :
 V (allI W) (.slice 1 ((zs.take len).map (.int .i64))) (.slice (some a) len cap) := by
 rcases Nat.eq_zero_or_pos len with h0 | h0
 ·subst h0; exact .slice0 _ _ _
 ·obtain ⟨b, off, rfl, hj⟩ := ints_at hcell (by omega)
  have hc0 := hj 0 (by omega)
  unfold World.cell? at hc0
  cases hh : W.heap[b]? with
  | none => rw [hh] at hc0; simp at hc0
  | some o =>
    cases o with
    | cells rc el fr =>
      have hrc : ∀ j, j < zs.length → rc[off + j]? = some (.int .i64 (zs.getD j 0)) := fun j hj' => by
       have := hj j hj'
       unfold World.cell? at this
       simpa [hh] using this
      have hlen : ((zs.take len).map (HVal.int .i64)).length = len := by simp; omega
      have hsz : off + zs.length ≤ rc.size := by
       have := hrc (zs.length - 1) (by omega)
       rcases Nat.lt_or_ge (off + (zs.length - 1)) rc.size with h3 | h3
       ·omega
       ·rw [Array.getElem?_eq_none h3] at this; cases this
      have := V.slice (I := allI W) (sz := 1) (es := (zs.take len).map (.int .i64)) (b := b) (off := off) (cap := cap) (rc := rc) (el := el) (fr := fr) hh
       (fun e he => by obtain ⟨n, _, rfl⟩ := List.mem_map.1 he; rfl) (by omega) (by omega) (fun i j e c v h1 h2 h3 => by
         have hi := lt_of_get h1
         rw [hlen] at hi
         rw [List.getElem?_map, List.getElem?_take_of_lt hi] at h1
         have e1 : zs[i]? = some zs[i] := List.getElem?_eq_getElem (by omega)
         rw [e1] at h1
         simp only [Option.map_some, Option.some.injEq] at h1
         subst h1
         cases j with
         | succ j => simp [hcells] at h2
         | zero =>
           simp only [hcells, List.getElem?_cons_zero, Option.some.injEq] at h2
           subst h2
           have h4 := hrc i (by omega)
           rw [Nat.mul_one, Nat.add_zero, h4] at h3
           simp only [Option.some.injEq] at h3
           subst h3
           have : zs.getD i 0 = zs[i] := by simp [List.getD, e1]
           rw [this]
           exact .int _ _)
      rw [hlen] at this
      exact this
    | _ => rw [hh] at hc0; simp at hc0
end Go.HL
end
section
namespace Go.HL
open Go.Sort Go.Proofs Go.RowKit
variable {P : Program}
theorem laid_at {w : World} {name : String} {d : DataW Unit} : ∀ {laid : List (String × DataW Unit)} {ps : List MemPlace}, DataW.LaidVars P w laid ps → ∀ (i : Nat), laid[i]? = some (name, d) →
 ∃ g t cs fuel p, P.globalNamed name = some g ∧ (P.globals[g]?).map (·.type) = some t ∧ w.var? P name = some cs ∧ DataW.trod (fun _ => ()) P w 0 (fun _ => true) false fuel t cs.toList = some (d, p)
 | [], _, _, i, h => by simp at h
 | (n, x) :: r, ps, h, 0, hi => by
   simp at hi
   obtain ⟨rfl, rfl⟩ := hi
   obtain ⟨g, t, cs, fuel, p, q, h1, h2, h3, h4, _, _⟩ := h
   exact ⟨g, t, cs, fuel, p, h1, h2, h3, h4⟩
 | (n, x) :: r, ps, h, i + 1, hi => by
   obtain ⟨g, t, cs, fuel, p, q, _, _, _, _, h5, _⟩ := h
   exact laid_at h5 i (by simpa using hi)
theorem tabI_of_laid [Tracks] {W : World} {laid : List (String × DataW Unit)} {i g : Nat} {t e : TypeId} {n : Nat} (h : laidMet P laid W) (hi : laid[i]? = some ("internal/strconv.uint64pow10", Lib.tabData .u64 Lib.pow10Tab))
 (hg : P.globalNamed "internal/strconv.uint64pow10" = some g) (hty : (P.globals[g]?).map (·.type) = some t) (ht : P.underlying t = some (.array n e)) (he : P.underlying e = some (.int .u64)) (hce : P.cellsOf e = 1) (hct : P.cellsOf t = n)
 (hl : ∀ g, P.globalNamed "internal/bytealg.MaxLen" = some g → ∃ m, W.cell? ⟨g, 0, none⟩ = some (.int .i64 m)) : TabI P (allI W) := by
 refine ⟨?_, fun g hg => ?_⟩
 rotate_left
 ·obtain ⟨m, hm⟩ := hl g hg
  unfold World.cell? at hm
  cases hh : W.heap[g]? with
  | none => rw [hh] at hm; cases hm
  | some o =>
    rw [hh] at hm
    cases o with
    | cells c t fr => exact ⟨c, t, fr, m, hh, by simpa using hm⟩
    | _ => cases hm
 obtain ⟨ps, h1, _⟩ := h
 obtain ⟨g', t', cs, fuel, p, a1, a2, a3, a4⟩ := laid_at h1 i hi
 obtain rfl := Option.some.inj (hg.symm.trans a1)
 obtain rfl := Option.some.inj (hty.symm.trans a2)
 intro g' hg'
 obtain rfl := Option.some.inj (hg.symm.trans hg')
 have hc := Lib.cells_of_tab ht he hce hct a4
 have hv := a3
 unfold World.var? at hv
 rw [hg] at hv
 simp only [Option.bind_some] at hv
 cases hh : W.heap[g]? with
 | none => rw [hh] at hv; cases hv
 | some o =>
   cases o with
   | cells c ty fr =>
     rw [hh] at hv
     simp only [Option.some.injEq] at hv
     subst hv
     refine ⟨ty, fr, ?_⟩
     show W.heap[g]? = _
     rw [hh, ← hc]
   | _ => rw [hh] at hv; cases hv
theorem Sat.tabIs [Tracks] {I : Imm} {M : List MObj} {w : World} (hs : Sat P I M w) (hg : (P.globalNamed "internal/strconv.uint64pow10").isSome = true) : Lib.TabIs P w "internal/strconv.uint64pow10" .u64 Lib.pow10Tab := by
 obtain ⟨g, hg'⟩ := Option.isSome_iff_exists.1 hg
 obtain ⟨t, fr, h1⟩ := hs.tab.1 g hg'
 have h2 := hs.imm _ _ h1
 unfold Lib.TabIs World.var?
 rw [hg']
 simp [h2]
theorem Sat.maxLen [Tracks] {I : Imm} {M : List MObj} {w : World} (hs : Sat P I M w) {g : Nat} (hg : P.globalNamed "internal/bytealg.MaxLen" = some g) : ∃ m, w.cell? ⟨g, 0, none⟩ = some (.int .i64 m) := by
 obtain ⟨c, t, fr, m, h1, h2⟩ := hs.tab.2 g hg
 have h3 := hs.imm _ _ h1
 exact ⟨m, by rw [cell_of h3]; exact h2⟩
theorem Sat.lt [Tracks] {I : Imm} {M : List MObj} {w : World} (hs : Sat P I M w) : (∀ b, (∃ o, I.heap b = some o) → b < w.heap.size) ∧ ∀ b ∈ blocks M, b < w.heap.size := by
 have key : ∀ b o, w.heap[b]? = some o → b < w.heap.size := fun b o h => by
  rcases Nat.lt_or_ge b w.heap.size with h' | h'
  ·exact h'
  ·simp [Array.getElem?_eq_none h'] at h
 refine ⟨fun b ⟨o, h⟩ => key b o (hs.imm b o h), fun b hb => ?_⟩
 simp only [blocks, List.mem_flatMap] at hb
 obtain ⟨m, hm, hb⟩ := hb
 obtain ⟨o, ho⟩ := (hs.obj m hm).lies hb
 exact key b o ho
theorem Sat.grown [Tracks] {I : Imm} {M : List MObj} {w : World} (hs : Sat P I M w) (k : Nat) (os : Array Obj) : Sat P I M (grow (w.drewN k) os) := by
 obtain ⟨h1, h2⟩ := hs.lt
 have hb : ∀ b, b < w.heap.size → (grow (w.drewN k) os).heap[b]? = w.heap[b]? := fun b hb => by
  simp only [grow, World.drewN]
  rw [Array.getElem?_append_left hb]
 exact hs.of_same (fun b hb' => hb b (h1 b hb')) (fun b hb' => hb b (h2 b hb')) rfl rfl rfl (fun _ => by simp [grow, World.drewN])
theorem conp_itoa [Tracks] {f : FuncId} {n : Int} (hg : (P.globalNamed "internal/strconv.uint64pow10").isSome = true)
 (hc : ∀ w : World, Lib.TabIs P w "internal/strconv.uint64pow10" .u64 Lib.pow10Tab → Calls P f #[.int .i64 n] w fun e w' => e = .returned (.string ⟨(Lib.itoa n).toArray⟩) ∧ ∃ k os, w' = grow (w.drewN k) os) :
 ConP P f [.int .i64 n] (.str (Lib.itoa n)) := by
 intro I F w args ha hs
 obtain ⟨u, rfl, hu⟩ := ha.one
 obtain rfl := hu.int_inv
 refine (hc w (hs.tabIs hg)).mono ?_
 rintro e w' ⟨rfl, k, os, rfl⟩
 exact ⟨_, .str _, [], I, rfl, .refl I, ⟨rfl, rfl⟩, .str _, hs.grown k os⟩
end Go.HL
end
section
namespace Go.HL
section
variable {P : Program} {e : Env} {dst : Option Tmp} {ty : TypeId} {pos : String} {af : Array Edge} {g : Option (Nat × Bool)} {M : List MObj} {K : HVal → List MObj → Prop}
end
end Go.HL
end
section
namespace Go.Proofs.YtbfikmihcpfgaaaGreatDoor
open Go.HL
set_option maxRecDepth 100000
set_option linter.unusedVariables false
set_option linter.unusedSimpArgs false

end Go.Proofs.YtbfikmihcpfgaaaGreatDoor
end
section
namespace Go.HL
theorem sumV_app (a b : List Asset) : sumV (a ++ b) = sumV a + sumV b := by simp [sumV]
theorem sumV_bd : ∀ {L : List Asset}, (∀ x ∈ L, -1000000 ≤ x.Value ∧ x.Value ≤ 1000000) → -1000000 * (L.length : Int) ≤ sumV L ∧ sumV L ≤ 1000000 * (L.length : Int)
 | [], _ => by simp [sumV]
 | x :: L, h => by
   have ih := sumV_bd (L := L) fun y hy => h y (List.mem_cons_of_mem _ hy)
   have hx := h x (by simp)
   have e : sumV (x :: L) = x.Value + sumV L := by simp [sumV]
   rw [e, List.length_cons]; omega
theorem mem_chosen {l : List Asset} {pos : Str} {m : Int} {y : Asset} (h : y ∈ chosen (ofP l pos) m) : y ∈ l := by
 unfold chosen at h
 have h1 := List.mem_of_mem_take (List.mem_filter.1 h).1
 unfold ofP atPos at h1
 exact (List.mem_filter.1 ((isort_mem byValue).1 h1)).1
theorem mem_chosenR {l : List Asset} {pos : Str} {m : Int} {y : Asset} (h : y ∈ chosen (ofR l pos) m) : y ∈ l := by
 unfold chosen at h
 have h1 := List.mem_of_mem_take (List.mem_filter.1 h).1
 unfold ofR atPos at h1
 exact (List.mem_filter.1 ((isort_mem byVal).1 h1)).1
theorem chosen_len (o : List Asset) (m : Int) : (chosen o m).length ≤ o.length := by
 unfold chosen
 refine Nat.le_trans (List.length_filter_le _ _) ?_
 simp; omega
theorem fieldedL_snoc (f : Str → List Asset) {p : List Place} {i : Nat} {x : Place} (h : p[i]? = some x) : fieldedL f (p.take (i + 1)) = fieldedL f (p.take i) ++ chosen (f x.Position) x.Many := by
 rw [take_snoc' h]; simp [fieldedL]
theorem fieldedL_len {f : Str → List Asset} {n : Nat} (hf : ∀ s, (f s).length ≤ n) : ∀ p : List Place, (fieldedL f p).length ≤ n * p.length
 | [] => by simp [fieldedL]
 | x :: p => by
   have ih := fieldedL_len hf p
   have h1 := chosen_len (f x.Position) x.Many
   have h2 := hf x.Position
   have e : fieldedL f (x :: p) = chosen (f x.Position) x.Many ++ fieldedL f p := by simp [fieldedL]
   rw [e, List.length_append, List.length_cons, Nat.mul_succ]; omega
theorem mem_fieldedL {f : Str → List Asset} {l : List Asset} (hf : ∀ s m y, y ∈ chosen (f s) m → y ∈ l) {p : List Place} {y : Asset} (h : y ∈ fieldedL f p) : y ∈ l := by
 unfold fieldedL at h
 obtain ⟨x, _, hx⟩ := List.mem_flatMap.1 h
 exact hf _ _ y hx
/-- What a prefix of the places brings stays small. -/
theorem field_bd {f : Str → List Asset} {l : List Asset} {p : List Place} {i : Nat} (hf : ∀ s m y, y ∈ chosen (f s) m → y ∈ l) (hn : ∀ s, (f s).length ≤ 12) (hp : p.length ≤ 10) (hv : ∀ x ∈ l, -1000000 ≤ x.Value ∧ x.Value ≤ 1000000) :
 (fieldedL f (p.take i)).length ≤ 120 ∧ -120000000 ≤ sumV (fieldedL f (p.take i)) ∧ sumV (fieldedL f (p.take i)) ≤ 120000000 := by
 have h1 := fieldedL_len hn (p.take i)
 have h2 : (p.take i).length ≤ 10 := by simp; omega
 have h3 := sumV_bd (L := fieldedL f (p.take i)) fun y hy => hv y (mem_fieldedL hf hy)
 have h4 : (fieldedL f (p.take i)).length ≤ 120 := by omega
 omega
theorem pos_bd {C l : List Asset} {k : Nat} (hC : ∀ y ∈ C, y ∈ l) (hn : C.length ≤ 12) (hv : ∀ x ∈ l, -1000000 ≤ x.Value ∧ x.Value ≤ 1000000) :
 ((C.take k).filter (fun y => decide (0 < y.Value))).length ≤ 12 ∧ -12000000 ≤ sumV ((C.take k).filter (fun y => decide (0 < y.Value))) ∧ sumV ((C.take k).filter (fun y => decide (0 < y.Value))) ≤ 12000000 := by
 have h1 := List.length_filter_le (fun y : Asset => decide (0 < y.Value)) (C.take k)
 have h2 : (C.take k).length ≤ 12 := by simp; omega
 have h3 := sumV_bd (L := (C.take k).filter (fun y => decide (0 < y.Value))) fun y hy => hv y (hC y (List.mem_of_mem_take (List.mem_filter.1 hy).1))
 omega
theorem pos_snoc {C : List Asset} {k : Nat} {y : Asset} (h : C[k]? = some y) : (C.take (k + 1)).filter (fun y => decide (0 < y.Value)) = (C.take k).filter (fun y => decide (0 < y.Value)) ++ if 0 < y.Value then [y] else [] := by
 rw [take_snoc' h, List.filter_append]
 by_cases hy : 0 < y.Value <;> simp [hy]
theorem chosen_eq {o : List Asset} {m : Int} {N : Nat} (hN : (if (o.length : Int) < m then (o.length : Int) else m) = (N : Int)) : chosen o m = ((o.take N).drop 0).filter (fun y => decide (0 < y.Value)) := by
 unfold chosen
 have : (min m (o.length : Int)).toNat = N := by split at hN <;> omega
 rw [this, List.drop_zero]
def okAP (l : List Asset) (p : List Place) : Int := orI [checkAssets l, checkPlaces p]
theorem okAP_ok {l : List Asset} {p : List Place} (h : okAP l p = 0) : checkAssets l = 0 ∧ checkPlaces p = 0 := orI_zero h
def sumF (l : List Asset) (p : List Place) : Int := sumV (fieldedL (ofP l) p)
theorem orI3 {a b c : Int} (h : orI [a, b, c] = 0) : a = 0 ∧ b = 0 ∧ c = 0 := by
 simp only [orI] at h
 split at h
 ·exact absurd h (by assumption)
 ·split at h
  ·exact absurd h (by assumption)
  ·split at h
   ·exact absurd h (by assumption)
   ·exact ⟨by omega, by omega, by omega⟩
end Go.HL
namespace Go.HL
theorem sorted_filter {l : List Asset} (h : SortedS (l.map (·.Player))) (q : Asset → Bool) : SortedS ((l.filter q).map (·.Player)) :=
 List.pairwise_map.2 ((List.pairwise_map.1 h).filter _)
end Go.HL
namespace Go.HL
end Go.HL
end
section
namespace Go.Proofs.YtbfikmihcpfgaaaGreatDoor
open Go.HL
set_option maxRecDepth 100000
set_option linter.unusedVariables false
set_option linter.unusedSimpArgs false
/-- benchwarmer/value.assetFault -/
theorem c_value_assetFault [Tracks] {x : Asset}  : ConP Tryz.prog 78 [eAsset x] (.int .i64 (assetFault x)) := by
 refine Con.of_body Tryz.func78 rfl Tryz.ntmps78 rfl rfl ?_
 refine hw_reg ?_
 refine dp rfl (pop_box rfl rfl) ?_
 refine dp rfl (pop_assign rfl) ?_
 refine dn ?_
 refine hw_seq ?_
 refine hw_block ?_
 refine hw_reg ?_
 refine dp rfl (pop_fieldAddr ty36 rfl ty9 (by decide) rfl) ?_
 refine dp rfl (pop_load ty9 rfl rfl rfl) ?_
 refine dp rfl (pop_call ca116 rfl (WeakL.refl _) c_base_Key) ?_
 refine dp rfl (pop_not rfl) ?_
 refine dp rfl (pop_move rfl) ?_
 refine dg rfl rfl (fun hc => ⟨_, OpenTo.refl _, pop_fieldAddr ty36 rfl ty9 (by decide) rfl⟩) ?_
 refine dg rfl rfl (fun hc => ⟨_, OpenTo.upd (t := 9) rfl (hc) (OpenTo.refl _), pop_load ty9 rfl rfl rfl⟩) ?_
 refine dg rfl rfl (fun hc => ⟨_, OpenTo.upd (t := 10) rfl (hc) (OpenTo.refl _), pop_call ca116 rfl (WeakL.refl _) c_base_Key⟩) ?_
 refine dg rfl rfl (fun hc => ⟨_, OpenTo.upd (t := 11) rfl (hc) (OpenTo.refl _), pop_not rfl⟩) ?_
 refine dp rfl (pop_picko rfl (.inl rfl) (.inr ⟨_, rfl, fun h => by simp_all⟩)) ?_
 refine dp rfl (pop_assign rfl) ?_
 refine dn ?_
 refine hw_cond rfl (fun h1 => ?_) (fun h2 => ?_)
 ·try simp at h1
  refine hw_reg ?_
  refine dp rfl (pop_assign rfl) ?_
  refine dn ?_
  refine hw_ret ?_
  refine ret_p rfl ?_
  show HVal.int .i64 _ = _
  simp_all [assetFault]
 ·try simp at h2
  refine hw_reg ?_
  refine dp rfl (pop_fieldAddr ty36 rfl ty3 (by decide) rfl) ?_
  refine dp rfl (pop_load ty3 rfl rfl rfl) ?_
  refine dp rfl (pop_call ca53 rfl (WeakL.refl _) c_base_Out) ?_
  refine dp rfl (pop_assign rfl) ?_
  refine dn ?_
  refine hw_cond rfl (fun h3 => ?_) (fun h4 => ?_)
  ·try simp at h3
   refine hw_reg ?_
   refine dp rfl (pop_assign rfl) ?_
   refine dn ?_
   refine hw_ret ?_
   refine ret_p rfl ?_
   show HVal.int .i64 _ = _
   simp_all [assetFault]
  ·try simp at h4
   refine hw_skip ?_
   refine blockQ_n ?_
   refine seqQ_n ?_
   refine hw_reg ?_
   refine dp rfl (pop_assign rfl) ?_
   refine dn ?_
   refine hw_ret ?_
   refine ret_p rfl ?_
   show HVal.int .i64 _ = _
   simp_all [assetFault]

/-- benchwarmer/value.CheckAssets -/
theorem c_value_CheckAssets [Tracks] {l : List Asset} (hl : l.length ≤ 1000000) : ConP Tryz.prog 35 [eAssets l] (.int .i64 (checkAssets l)) := by
 refine Con.of_body Tryz.func35 rfl Tryz.ntmps35 rfl rfl ?_
 refine hw_reg ?_
 refine dp rfl (pop_assign rfl) ?_
 refine dn ?_
 refine hw_seq ?_
 refine hw_reg ?_
 refine dp rfl (pop_move rfl) ?_
 refine dp rfl (pop_lenm ty26 rfl) ?_
 refine dp rfl (pop_gtr rfl rfl) ?_
 refine dn ?_
 refine hw_cond rfl (fun h1 => ?_) (fun h2 => ?_)
 ·try simp at h1
  refine hw_reg ?_
  refine dp rfl (pop_assign rfl) ?_
  refine dn ?_
  refine hw_ret ?_
  refine ret_p rfl ?_
  show HVal.int .i64 _ = _
  (rw [checkAssets, if_pos (by omega)]; done)
 ·try simp at h2
  refine hw_skip ?_
  refine seqQ_n ?_
  refine hw_seq ?_
  refine hw_reg ?_
  refine dp rfl (pop_move rfl) ?_
  refine dp rfl (pop_lenm ty26 rfl) ?_
  refine dp rfl (pop_move rfl) ?_
  refine dn ?_
  refine hw_block ?_
  refine hw_loopw [2, 3, 4, 5, 11, 12, 13, 14, 15, 16, 17, 18, 19, 20, 21, 22, 23, 24, 25, 26, 27, 28, 29, 30, 31, 32, 33, 34] (fun (k : Nat) => [(11, .int .i64 k)]) (fun (k : Nat) => []) (fun (k : Nat) => k ≤ l.length ∧ (checkAssets l = assetsGo l k (l.drop k))) (fun (k : Nat) => l.length - k) (0) ?_ ?_ ?_ ?_
  ·refine ⟨Nat.zero_le _, ?_⟩
   rw [checkAssets, if_neg (by omega)]; rfl
  ·exact ⟨rfl, trivial⟩
  ·exact List.Perm.refl _
  ·intro k hinv
   obtain ⟨hk, hg⟩ := hinv
   refine hw_reg ?_
   refine dp rfl (pop_lss rfl rfl) ?_
   refine dn ?_
   refine hw_seq ?_
   refine hw_cond rfl (fun h3 => ?_) (fun h4 => ?_)
   ·try simp at h3
    obtain ⟨x, hx⟩ : ∃ x, l[k]? = some x := ⟨_, List.getElem?_eq_getElem h3⟩
    have hdx := drop_cons hx
    rw [hdx] at hg
    refine hw_skip ?_
    refine seqQ_n ?_
    refine hw_seq ?_
    refine hw_block ?_
    refine hw_reg ?_
    refine dp rfl (pop_move rfl) ?_
    refine dp rfl (pop_idx ty26 ty36 rfl rfl rfl (by assumption)) ?_
    refine dp rfl (pop_loadw ty36 rfl rfl rfl rfl) ?_
    refine de rfl (eop_alloc ty36 rfl fun b4 => ?_)
    refine dp rfl (pop_assign rfl) ?_
    refine de0 (eop_storew ty36 rfl rfl rfl rfl rfl ?_)
    refine dn ?_
    refine hw_ghost (Ghost.fc0 4 rfl) ?_
    refine hw_seq ?_
    refine hw_reg ?_
    refine dp rfl (pop_loadw ty36 rfl rfl rfl rfl) ?_
    refine dp rfl (pop_call ca78 rfl (WeakL.refl _) c_value_assetFault) ?_
    refine dp rfl (pop_assign rfl) ?_
    refine dn ?_
    refine hw_reg ?_
    refine dp rfl (pop_move rfl) ?_
    refine dp rfl (pop_neq rfl rfl) ?_
    refine dn ?_
    refine hw_cond rfl (fun h5 => ?_) (fun h6 => ?_)
    ·try simp at h5
     refine hw_reg ?_
     refine dp rfl (pop_move rfl) ?_
     refine dp rfl (pop_assign rfl) ?_
     refine dn ?_
     refine hw_ret ?_
     refine ret_p rfl ?_
     show HVal.int .i64 _ = _
     (rw [hg]; simp_all [assetsGo, leS]; done)
    ·try simp at h6
     refine hw_skip ?_
     refine seqQ_n ?_
     refine hw_draw (fun _ => True) [] mixed ?_
     refine ahp 0 rfl rfl (by kernel_rfl) (by kernel_rfl) (pop_move rfl) ?_
     refine ahp 1 rfl rfl (by kernel_rfl) (by kernel_rfl) (pop_gtr rfl rfl) ?_
     refine ahp 2 rfl rfl (by kernel_rfl) (by kernel_rfl) (pop_move rfl) ?_
     refine ahg 3 rfl rfl (by kernel_rfl) (by kernel_rfl) rfl (fun hc => ⟨_, OpenTo.refl _, pop_fieldAddr ty36 rfl ty9 (by decide) rfl⟩) ?_
     refine ahg 4 rfl rfl (by kernel_rfl) (by kernel_rfl) rfl (fun hc => ⟨_, OpenTo.upd (t := 24) rfl (hc) (OpenTo.refl _), pop_load ty9 rfl rfl rfl⟩) ?_
     refine ahg 5 rfl rfl (by kernel_rfl) (by kernel_rfl) rfl (fun hc => ⟨_, OpenTo.refl _, pop_move rfl⟩) ?_
     refine ahg 6 rfl rfl (by kernel_rfl) (by kernel_rfl) rfl (fun hc => ⟨_, OpenTo.refl _, pop_move rfl⟩) ?_
     refine ahg 7 rfl rfl (by kernel_rfl) (by kernel_rfl) rfl (fun hc => by have hq := hc; (try simp at hq); exact ⟨_, OpenTo.upd (t := 27) rfl (hc) (OpenTo.refl _), pop_sub64 rfl rfl (by omega) (by omega)⟩) ?_
     refine ahg 8 rfl rfl (by kernel_rfl) (by kernel_rfl) rfl (fun hc => by have hq := hc; (try simp at hq); exact ⟨_, OpenTo.upd (t := 28) rfl (hc) (OpenTo.upd (t := 26) rfl (hc) (OpenTo.refl _)), pop_idx (j := k - 1) (a := l.getD (k - 1) asset0) ty26 ty36 rfl rfl (by omega) (getD_some (by omega))⟩) ?_
     refine ahg 9 rfl rfl (by kernel_rfl) (by kernel_rfl) rfl (fun hc => ⟨_, OpenTo.upd (t := 29) rfl (hc) (OpenTo.refl _), pop_fieldAddr ty36 rfl ty9 (by decide) rfl⟩) ?_
     refine ahg 10 rfl rfl (by kernel_rfl) (by kernel_rfl) rfl (fun hc => ⟨_, OpenTo.upd (t := 30) rfl (hc) (OpenTo.refl _), pop_load ty9 rfl rfl rfl⟩) ?_
     refine ahg 11 rfl rfl (by kernel_rfl) (by kernel_rfl) rfl (fun hc => ⟨_, OpenTo.upd (t := 31) rfl (hc) (OpenTo.upd (t := 25) rfl (hc) (OpenTo.refl _)), pop_leqs rfl rfl⟩) ?_
     refine ahp 12 rfl rfl (by kernel_rfl) (by kernel_rfl) (pop_picko rfl (.inr ⟨_, rfl, fun h => by simp_all⟩) (.inl rfl)) ?_
     refine ahz (by kernel_rfl) ?_
     refine hw_cond rfl (fun h7 => ?_) (fun h8 => ?_)
     ·try simp at h7
      refine hw_reg ?_
      refine dp rfl (pop_assign rfl) ?_
      refine dn ?_
      refine hw_ret ?_
      refine ret_p rfl ?_
      show HVal.int .i64 _ = _
      (rw [hg]; simp_all [assetsGo, leS]; done)
     ·try simp at h8
      refine hw_skip ?_
      refine blockQ_n ?_
      refine seqQ_n ?_
      refine hw_reg1 ?_
      refine dp rfl (pop_add64 rfl rfl (by omega) (by omega)) ?_
      refine dp rfl (pop_move rfl) ?_
      refine dn ?_
      refine ⟨k + 1, ?_, ?_, ⟨rfl, trivial⟩, (by repeat (first | exact keeps_refl | refine keeps_upd rfl ?_ | refine keeps_loop rfl rfl ?_)), List.Perm.refl _⟩
      ·refine ⟨by omega, ?_⟩
       rw [hg]; simp_all [assetsGo, leS]
      ·dsimp only; omega
   ·try simp at h4
    have hnk : l.length ≤ k := by omega
    obtain rfl : k = l.length := by omega
    rw [drop_all (Nat.le_refl _)] at hg
    refine hw_exit ?_
    refine seqQ_x ?_
    refine loopQ_x ?_
    refine blockQ_eq ?_
    refine seqQ_n ?_
    refine hw_reg ?_
    refine dp rfl (pop_assign rfl) ?_
    refine dn ?_
    refine hw_ret ?_
    refine ret_p rfl ?_
    show HVal.int .i64 _ = _
    (rw [hg]; simp_all [assetsGo, leS]; done)

/-- benchwarmer/value.CheckPlaces -/
theorem c_value_CheckPlaces [Tracks] {l : List HL.Place} (hl : l.length ≤ 1000000) : ConP Tryz.prog 90 [ePlaces l] (.int .i64 (checkPlaces l)) := by
 refine Con.of_body Tryz.func90 rfl Tryz.ntmps90 rfl rfl ?_
 refine hw_reg ?_
 refine dp rfl (pop_assign rfl) ?_
 refine dn ?_
 refine hw_seq ?_
 refine hw_reg ?_
 refine dp rfl (pop_move rfl) ?_
 refine dp rfl (pop_lenm ty40 rfl) ?_
 refine dp rfl (pop_gtr rfl rfl) ?_
 refine dn ?_
 refine hw_cond rfl (fun h1 => ?_) (fun h2 => ?_)
 ·try simp at h1
  refine hw_reg ?_
  refine dp rfl (pop_assign rfl) ?_
  refine dn ?_
  refine hw_ret ?_
  refine ret_p rfl ?_
  show HVal.int .i64 _ = _
  (rw [checkPlaces, if_pos (by omega)]; done)
 ·try simp at h2
  refine hw_skip ?_
  refine seqQ_n ?_
  refine hw_seq ?_
  refine hw_reg ?_
  refine dp rfl (pop_move rfl) ?_
  refine dp rfl (pop_lenm ty40 rfl) ?_
  refine dp rfl (pop_move rfl) ?_
  refine dn ?_
  refine hw_block ?_
  refine hw_loopw [2, 3, 4, 10, 11, 12, 13, 14, 15, 16, 17, 18, 19, 20, 21, 22, 23, 24, 25, 26, 27, 28, 29, 30, 31, 32, 33, 34, 35, 36, 37, 38] (fun (k : Nat) => [(10, .int .i64 k)]) (fun (k : Nat) => []) (fun (k : Nat) => k ≤ l.length ∧ (checkPlaces l = placesGo l k (l.drop k))) (fun (k : Nat) => l.length - k) (0) ?_ ?_ ?_ ?_
  ·refine ⟨Nat.zero_le _, ?_⟩
   rw [checkPlaces, if_neg (by omega)]; rfl
  ·exact ⟨rfl, trivial⟩
  ·exact List.Perm.refl _
  ·intro k hinv
   obtain ⟨hk, hg⟩ := hinv
   refine hw_reg ?_
   refine dp rfl (pop_lss rfl rfl) ?_
   refine dn ?_
   refine hw_seq ?_
   refine hw_cond rfl (fun h3 => ?_) (fun h4 => ?_)
   ·try simp at h3
    obtain ⟨x, hx⟩ : ∃ x, l[k]? = some x := ⟨_, List.getElem?_eq_getElem h3⟩
    have hdx := drop_cons hx
    rw [hdx] at hg
    refine hw_skip ?_
    refine seqQ_n ?_
    refine hw_seq ?_
    refine hw_block ?_
    refine hw_reg ?_
    refine dp rfl (pop_move rfl) ?_
    refine dp rfl (pop_idx ty40 ty95 rfl rfl rfl (by assumption)) ?_
    refine dp rfl (pop_loadw ty95 rfl rfl rfl rfl) ?_
    refine de rfl (eop_alloc ty95 rfl fun b4 => ?_)
    refine dp rfl (pop_assign rfl) ?_
    refine de0 (eop_storew ty95 rfl rfl rfl rfl rfl ?_)
    refine dn ?_
    refine hw_ghost (Ghost.fc0 4 rfl) ?_
    refine hw_block ?_
    refine hw_reg ?_
    refine dp rfl (pop_fieldAddr ty95 rfl ty9 (by decide) rfl) ?_
    refine dp rfl (pop_load ty9 rfl rfl rfl) ?_
    refine dp rfl (pop_call ca116 rfl (WeakL.refl _) c_base_Key) ?_
    refine dp rfl (pop_not rfl) ?_
    refine dp rfl (pop_assign rfl) ?_
    refine dn ?_
    refine hw_cond rfl (fun h5 => ?_) (fun h6 => ?_)
    ·try simp at h5
     refine hw_reg ?_
     refine dp rfl (pop_assign rfl) ?_
     refine dn ?_
     refine hw_ret ?_
     refine ret_p rfl ?_
     show HVal.int .i64 _ = _
     (rw [hg]; simp_all [placesGo, leS]; done)
    ·try simp at h6
     refine hw_reg ?_
     refine dp rfl (pop_fieldAddr ty95 rfl ty3 (by decide) rfl) ?_
     refine dp rfl (pop_load ty3 rfl rfl rfl) ?_
     refine dp rfl (pop_call ca53 rfl (WeakL.refl _) c_base_Out) ?_
     refine dp rfl (pop_assign rfl) ?_
     refine dn ?_
     refine hw_cond rfl (fun h7 => ?_) (fun h8 => ?_)
     ·try simp at h7
      refine hw_reg ?_
      refine dp rfl (pop_assign rfl) ?_
      refine dn ?_
      refine hw_ret ?_
      refine ret_p rfl ?_
      show HVal.int .i64 _ = _
      (rw [hg]; simp_all [placesGo, leS]; done)
     ·try simp at h8
      refine hw_draw (fun _ => True) [] mixed ?_
      refine ahp 0 rfl rfl (by kernel_rfl) (by kernel_rfl) (pop_move rfl) ?_
      refine ahp 1 rfl rfl (by kernel_rfl) (by kernel_rfl) (pop_gtr rfl rfl) ?_
      refine ahp 2 rfl rfl (by kernel_rfl) (by kernel_rfl) (pop_move rfl) ?_
      refine ahg 3 rfl rfl (by kernel_rfl) (by kernel_rfl) rfl (fun hc => ⟨_, OpenTo.refl _, pop_fieldAddr ty95 rfl ty9 (by decide) rfl⟩) ?_
      refine ahg 4 rfl rfl (by kernel_rfl) (by kernel_rfl) rfl (fun hc => ⟨_, OpenTo.upd (t := 28) rfl (hc) (OpenTo.refl _), pop_load ty9 rfl rfl rfl⟩) ?_
      refine ahg 5 rfl rfl (by kernel_rfl) (by kernel_rfl) rfl (fun hc => ⟨_, OpenTo.refl _, pop_move rfl⟩) ?_
      refine ahg 6 rfl rfl (by kernel_rfl) (by kernel_rfl) rfl (fun hc => ⟨_, OpenTo.refl _, pop_move rfl⟩) ?_
      refine ahg 7 rfl rfl (by kernel_rfl) (by kernel_rfl) rfl (fun hc => by have hq := hc; (try simp at hq); exact ⟨_, OpenTo.upd (t := 31) rfl (hc) (OpenTo.refl _), pop_sub64 rfl rfl (by omega) (by omega)⟩) ?_
      refine ahg 8 rfl rfl (by kernel_rfl) (by kernel_rfl) rfl (fun hc => by have hq := hc; (try simp at hq); exact ⟨_, OpenTo.upd (t := 32) rfl (hc) (OpenTo.upd (t := 30) rfl (hc) (OpenTo.refl _)), pop_idx (j := k - 1) (a := l.getD (k - 1) place0) ty40 ty95 rfl rfl (by omega) (getD_some (by omega))⟩) ?_
      refine ahg 9 rfl rfl (by kernel_rfl) (by kernel_rfl) rfl (fun hc => ⟨_, OpenTo.upd (t := 33) rfl (hc) (OpenTo.refl _), pop_fieldAddr ty95 rfl ty9 (by decide) rfl⟩) ?_
      refine ahg 10 rfl rfl (by kernel_rfl) (by kernel_rfl) rfl (fun hc => ⟨_, OpenTo.upd (t := 34) rfl (hc) (OpenTo.refl _), pop_load ty9 rfl rfl rfl⟩) ?_
      refine ahg 11 rfl rfl (by kernel_rfl) (by kernel_rfl) rfl (fun hc => ⟨_, OpenTo.upd (t := 35) rfl (hc) (OpenTo.upd (t := 29) rfl (hc) (OpenTo.refl _)), pop_leqs rfl rfl⟩) ?_
      refine ahp 12 rfl rfl (by kernel_rfl) (by kernel_rfl) (pop_picko rfl (.inr ⟨_, rfl, fun h => by simp_all⟩) (.inl rfl)) ?_
      refine ahp 13 rfl rfl (by kernel_rfl) (by kernel_rfl) (pop_assign rfl) ?_
      refine ahz (by kernel_rfl) ?_
      refine hw_cond rfl (fun h9 => ?_) (fun h10 => ?_)
      ·try simp at h9
       refine hw_reg ?_
       refine dp rfl (pop_assign rfl) ?_
       refine dn ?_
       refine hw_ret ?_
       refine ret_p rfl ?_
       show HVal.int .i64 _ = _
       (rw [hg]; simp_all [placesGo, leS]; done)
      ·try simp at h10
       refine hw_skip ?_
       refine blockQ_n ?_
       refine blockQ_n ?_
       refine seqQ_n ?_
       refine hw_reg1 ?_
       refine dp rfl (pop_add64 rfl rfl (by omega) (by omega)) ?_
       refine dp rfl (pop_move rfl) ?_
       refine dn ?_
       refine ⟨k + 1, ?_, ?_, ⟨rfl, trivial⟩, (by repeat (first | exact keeps_refl | refine keeps_upd rfl ?_ | refine keeps_loop rfl rfl ?_)), List.Perm.refl _⟩
       ·refine ⟨by omega, ?_⟩
        rw [hg]; simp_all [placesGo, leS]
       ·dsimp only; omega
   ·try simp at h4
    have hnk : l.length ≤ k := by omega
    obtain rfl : k = l.length := by omega
    rw [drop_all (Nat.le_refl _)] at hg
    refine hw_exit ?_
    refine seqQ_x ?_
    refine loopQ_x ?_
    refine blockQ_eq ?_
    refine seqQ_n ?_
    refine hw_reg ?_
    refine dp rfl (pop_assign rfl) ?_
    refine dn ?_
    refine hw_ret ?_
    refine ret_p rfl ?_
    show HVal.int .i64 _ = _
    (rw [hg]; simp_all [placesGo, leS]; done)

/-- benchwarmer/value.byValue -/
theorem c_value_byValue [Tracks] {x y : Asset}  : ConP Tryz.prog 168 [eAsset x, eAsset y] (.int .i64 (byValue x y)) := by
 refine Con.of_body Tryz.func168 rfl Tryz.ntmps168 rfl rfl ?_
 refine hw_reg ?_
 refine dp rfl (pop_box rfl rfl) ?_
 refine dp rfl (pop_box rfl rfl) ?_
 refine dp rfl (pop_assign rfl) ?_
 refine dn ?_
 refine hw_draw (fun _ => True) [] mixed ?_
 refine ahp 0 rfl rfl (by kernel_rfl) (by kernel_rfl) (pop_fieldAddr ty36 rfl ty3 (by decide) rfl) ?_
 refine ahp 1 rfl rfl (by kernel_rfl) (by kernel_rfl) (pop_load ty3 rfl rfl rfl) ?_
 refine ahp 2 rfl rfl (by kernel_rfl) (by kernel_rfl) (pop_fieldAddr ty36 rfl ty3 (by decide) rfl) ?_
 refine ahp 3 rfl rfl (by kernel_rfl) (by kernel_rfl) (pop_load ty3 rfl rfl rfl) ?_
 refine ahp 4 rfl rfl (by kernel_rfl) (by kernel_rfl) (pop_call ca68 rfl (WeakL.refl _) c_cmp_Compare_int) ?_
 refine ahp 5 rfl rfl (by kernel_rfl) (by kernel_rfl) (pop_fieldAddr ty36 rfl ty9 (by decide) rfl) ?_
 refine ahp 6 rfl rfl (by kernel_rfl) (by kernel_rfl) (pop_load ty9 rfl rfl rfl) ?_
 refine ahp 7 rfl rfl (by kernel_rfl) (by kernel_rfl) (pop_fieldAddr ty36 rfl ty9 (by decide) rfl) ?_
 refine ahp 8 rfl rfl (by kernel_rfl) (by kernel_rfl) (pop_load ty9 rfl rfl rfl) ?_
 refine ahp 9 rfl rfl (by kernel_rfl) (by kernel_rfl) (pop_call ca102 rfl (WeakL.refl _) c_strings_Compare) ?_
 refine ahp 10 rfl rfl (by kernel_rfl) (by kernel_rfl) (pop_buildSlice (hs := [_, _]) ty22 ty3 rfl rfl (by decide) (by decide) rfl) ?_
 refine ahp 11 rfl rfl (by kernel_rfl) (by kernel_rfl) (pop_call ca67 rfl (WeakL.refl _) (c_cmp_Or_int (l := [_, _]) (by simp))) ?_
 refine ahp 12 rfl rfl (by kernel_rfl) (by kernel_rfl) (pop_assign rfl) ?_
 refine ahz (by kernel_rfl) ?_
 refine hw_ret ?_
 refine ret_p rfl ?_
 rfl

/-- benchwarmer/value.of -/
theorem c_value_of [Tracks] {l : List Asset} {pos : Str} (hl : l.length ≤ 12) : ConP Tryz.prog 132 [eAssets l, .str pos] (eAssets (ofP l pos)) := by
 refine Con.of_body Tryz.func132 rfl Tryz.ntmps132 rfl rfl ?_
 refine hw_reg ?_
 refine dp rfl (pop_assign rfl) ?_
 refine dn ?_
 refine hw_reg ?_
 refine dp rfl (pop_assign rfl) ?_
 refine dn ?_
 refine hw_ghost (Ghost.arr_nil 3) ?_
 refine hw_seq ?_
 refine hw_reg ?_
 refine dp rfl (pop_move rfl) ?_
 refine dp rfl (pop_lenm ty26 rfl) ?_
 refine dp rfl (pop_move rfl) ?_
 refine dn ?_
 refine hw_block ?_
 refine hw_loopw2 [5, 7, 10, 11, 12, 13, 14, 15, 16, 17, 18, 19, 20, 21, 22] (fun (k : Nat) (u : Value) => [(10, .int .i64 k), (5, .raw u)]) (fun (k : Nat) (u : Value) => [.arr u 3 ((atPos (l.take k) pos).map eAsset)]) (fun (k : Nat) (u : Value) => k ≤ l.length ∧ (True)) (fun (k : Nat) (u : Value) => l.length - k) (0) (.slice none 0 0) ?_ ?_ ?_ ?_
 ·exact ⟨Nat.zero_le _, by simp_all⟩
 ·exact ⟨rfl, rfl, trivial⟩
 ·exact perm_eq (by simp [atPos])
 ·intro k u hinv
  obtain ⟨hk, -⟩ := hinv
  refine hw_reg ?_
  refine dp rfl (pop_lss rfl rfl) ?_
  refine dn ?_
  refine hw_seq ?_
  refine hw_cond rfl (fun h1 => ?_) (fun h2 => ?_)
  ·try simp at h1
   obtain ⟨x, hx⟩ : ∃ x, l[k]? = some x := ⟨_, List.getElem?_eq_getElem h1⟩
   have hdx := drop_cons hx
   refine hw_skip ?_
   refine seqQ_n ?_
   refine hw_seq ?_
   refine hw_block ?_
   refine hw_reg ?_
   refine dp rfl (pop_idx ty26 ty36 rfl rfl rfl (by assumption)) ?_
   refine dp rfl (pop_loadw ty36 rfl rfl rfl rfl) ?_
   refine de rfl (eop_alloc ty36 rfl fun b7 => ?_)
   refine de0 (eop_storew ty36 rfl rfl rfl rfl rfl ?_)
   refine dn ?_
   refine hw_ghost (Ghost.fc0 7 rfl) ?_
   refine hw_reg ?_
   refine dp rfl (pop_fieldAddr ty36 rfl ty9 (by decide) rfl) ?_
   refine dp rfl (pop_load ty9 rfl rfl rfl) ?_
   refine dp rfl (pop_move rfl) ?_
   refine dp rfl (pop_eqls rfl rfl) ?_
   refine dn ?_
   refine hw_cond rfl (fun h3 => ?_) (fun h4 => ?_)
   ·try simp at h3
    refine hw_reg1 ?_
    refine dp rfl (pop_move rfl) ?_
    refine dp rfl (pop_loadw ty36 rfl rfl rfl rfl) ?_
    refine dp rfl (pop_buildSlice (hs := [_]) ty26 ty36 rfl rfl (by decide) (by decide) rfl) ?_
    have hal : (atPos (l.take k) pos).length ≤ 12 := Nat.le_trans (atPos_le _ _) (by simp; omega)
    refine de rfl (eop_append (i := 0) ty26 ty36 rfl rfl rfl rfl rfl (by simp [flat, hcells]) (by simp; omega) fun v21 => ?_)
    refine dp rfl (pop_assign rfl) ?_
    refine dn ?_
    refine blockQ_n ?_
    refine seqQ_n ?_
    refine hw_reg1 ?_
    refine dp rfl (pop_add64 rfl rfl (by omega) (by omega)) ?_
    refine dp rfl (pop_move rfl) ?_
    refine dn ?_
    exact ⟨k + 1, _, ⟨by omega, trivial⟩, by dsimp only; omega, ⟨rfl, rfl, trivial⟩, (by repeat (first | exact keeps_refl | refine keeps_upd rfl ?_ | refine keeps_loop rfl rfl ?_)), perm_eq (by dsimp only; rw [atPos_snoc hx, if_pos (by simp_all)]; simp)⟩
   ·try simp at h4
    refine hw_skip ?_
    refine blockQ_n ?_
    refine seqQ_n ?_
    refine hw_reg1 ?_
    refine dp rfl (pop_add64 rfl rfl (by omega) (by omega)) ?_
    refine dp rfl (pop_move rfl) ?_
    refine dn ?_
    exact ⟨k + 1, _, ⟨by omega, trivial⟩, by dsimp only; omega, ⟨rfl, rfl, trivial⟩, (by repeat (first | exact keeps_refl | refine keeps_upd rfl ?_ | refine keeps_loop rfl rfl ?_)), perm_eq (by dsimp only; rw [atPos_snoc hx, if_neg (by simp_all)]; simp)⟩
  ·try simp at h2
   have hnk : l.length ≤ k := by omega
   obtain rfl : k = l.length := by omega
   rw [List.take_length]
   refine hw_exit ?_
   refine seqQ_x ?_
   refine loopQ2_x ?_
   refine blockQ_eq ?_
   refine seqQ_n ?_
   have hal := atPos_le l pos
   refine hw_reg ?_
   refine dp rfl (pop_move rfl) ?_
   refine de rfl (eop_callx (i := 0) ca100 rfl (WeakL.refl _) rfl (c_slices_SortFunc_api_Asset_api_Asset (l := atPos l pos) (c := byValue) (caps := []) ca168 (fun x y => c_value_byValue) (by omega)) ?_)
   rintro _ _ ⟨rfl, rfl⟩
   refine dn ?_
   refine hw_reg ?_
   refine dp rfl (pop_move rfl) ?_
   refine dp rfl (pop_assign rfl) ?_
   refine dn ?_
   refine hw_ret ?_
   exact ret_fa (M := []) 4 rfl rfl rfl

set_option maxHeartbeats 1000000 in
/-- benchwarmer/value.fielded -/
theorem c_value_fielded [Tracks] {l : List Asset} {p : List HL.Place} (hl : l.length ≤ 12) (hp : p.length ≤ 10) (hm : ∀ x ∈ p, 0 ≤ x.Many) (hv : ∀ x ∈ l, -1000000 ≤ x.Value ∧ x.Value ≤ 1000000) : ConP Tryz.prog 91 [eAssets l, ePlaces p] (.tup [.int .i64 (sumV (fieldedL (ofP l) p)), eSs (namesV (fieldedL (ofP l) p))]) := by
 have hon : ∀ s, (ofP l s).length ≤ 12 := fun s => Nat.le_trans (ofP_len l s) hl
 refine Con.of_body Tryz.func91 rfl Tryz.ntmps91 rfl rfl ?_
 refine hw_reg ?_
 refine dp rfl (pop_assign rfl) ?_
 refine dp rfl (pop_assign rfl) ?_
 refine dn ?_
 refine hw_reg ?_
 refine dp rfl (pop_assign rfl) ?_
 refine dn ?_
 refine hw_reg ?_
 refine dp rfl (pop_assign rfl) ?_
 refine dn ?_
 refine hw_ghost (Ghost.arr_nil 1) ?_
 refine hw_seq ?_
 refine hw_reg ?_
 refine dp rfl (pop_move rfl) ?_
 refine dp rfl (pop_lenm ty40 rfl) ?_
 refine dp rfl (pop_move rfl) ?_
 refine dn ?_
 refine hw_block ?_
 refine hw_loopw2 [6, 7, 9, 10, 12, 15, 16, 17, 18, 19, 20, 21, 22, 23, 24, 25, 26, 27, 28, 29, 30, 31, 32, 33, 34, 35, 36, 37, 38, 39, 40, 41, 42, 43, 44, 45, 46, 47, 48] (fun (i : Nat) (u : Value) => [(15, .int .i64 i), (6, .int .i64 (sumV (fieldedL (ofP l) (p.take i)))), (7, .raw u)]) (fun (i : Nat) (u : Value) => [.arr u 1 (((fieldedL (ofP l) (p.take i)).map (·.Player)).map .str)]) (fun (i : Nat) (u : Value) => i ≤ p.length ∧ (True)) (fun (i : Nat) (u : Value) => p.length - i) (0) (.slice none 0 0) ?_ ?_ ?_ ?_
 ·exact ⟨Nat.zero_le _, by simp_all⟩
 ·exact ⟨rfl, some_int (by simp [fieldedL, sumV]), rfl, trivial⟩
 ·exact perm_eq (by simp [fieldedL])
 ·intro i u hinv
  obtain ⟨hi, -⟩ := hinv
  refine hw_reg ?_
  refine dp rfl (pop_lss rfl rfl) ?_
  refine dn ?_
  refine hw_seq ?_
  refine hw_cond rfl (fun h1 => ?_) (fun h2 => ?_)
  ·try simp at h1
   obtain ⟨x, hx⟩ : ∃ x, p[i]? = some x := ⟨_, List.getElem?_eq_getElem h1⟩
   have hdx := drop_cons hx
   refine hw_skip ?_
   refine seqQ_n ?_
   refine hw_seq ?_
   refine hw_block ?_
   refine hw_reg ?_
   refine dp rfl (pop_idx ty40 ty95 rfl rfl rfl (by assumption)) ?_
   refine dp rfl (pop_loadw ty95 rfl rfl rfl rfl) ?_
   refine de rfl (eop_alloc ty95 rfl fun b9 => ?_)
   refine de0 (eop_storew ty95 rfl rfl rfl rfl rfl ?_)
   refine dn ?_
   refine hw_ghost (Ghost.fc0 9 rfl) ?_
   refine hw_reg ?_
   refine dp rfl (pop_move rfl) ?_
   refine dp rfl (pop_fieldAddr ty95 rfl ty9 (by decide) rfl) ?_
   refine dp rfl (pop_load ty9 rfl rfl rfl) ?_
   refine dp rfl (pop_call ca132 rfl (WeakL.refl _) (c_value_of (by assumption))) ?_
   refine dp rfl (pop_assign rfl) ?_
   refine dn ?_
   have hx0 := hm x (List.mem_of_getElem? hx)
   have hon1 := hon x.Position
   obtain ⟨N, hN⟩ : ∃ N : Nat, (if ((ofP l x.Position).length : Int) < x.Many then ((ofP l x.Position).length : Int) else x.Many) = (N : Int) := ⟨_, (Int.toNat_of_nonneg (by split <;> omega)).symm⟩
   have hNle : N ≤ (ofP l x.Position).length := by split at hN <;> omega
   refine hw_reg ?_
   refine dp rfl (pop_move rfl) ?_
   refine dp rfl (pop_fieldAddr ty95 rfl ty3 (by decide) rfl) ?_
   refine dp rfl (pop_load ty3 rfl rfl rfl) ?_
   refine dp rfl (pop_move rfl) ?_
   refine dp rfl (pop_lenm ty26 rfl) ?_
   refine dp rfl (pop_eq (pop_min rfl rfl) (congrArg _ hN)) ?_
   refine dp rfl (pop_slicem (h := N) ty26 ty36 rfl rfl ⟨_, _, rfl, rfl⟩ (by omega) hNle) ?_
   refine dp rfl (pop_lenm ty26 rfl) ?_
   refine dp rfl (pop_move rfl) ?_
   refine dn ?_
   have hCl : ((List.drop 0 (List.take N (ofP l x.Position)))).length ≤ 12 := by simp; omega
   have hCm : ∀ y ∈ (List.drop 0 (List.take N (ofP l x.Position))), y ∈ l := fun y hy => by
    have := List.mem_of_mem_take (List.mem_of_mem_drop hy)
    unfold ofP atPos at this
    exact (List.mem_filter.1 ((isort_mem _).1 this)).1
   generalize hCd : List.drop 0 (List.take N (ofP l x.Position)) = C at *
   refine hw_block ?_
   refine hw_loopw2 [6, 7, 12, 31, 32, 33, 34, 35, 36, 37, 38, 39, 40, 41, 42, 43, 44, 45, 46, 47] (fun (k : Nat) (w : Value) => [(31, .int .i64 k), (6, .int .i64 (sumV ((fieldedL (ofP l) (p.take i)) ++ ((C.take k).filter (fun y => decide (0 < y.Value)))))), (7, .raw w)]) (fun (k : Nat) (w : Value) => [.arr w 1 ((((fieldedL (ofP l) (p.take i)) ++ ((C.take k).filter (fun y => decide (0 < y.Value)))).map (·.Player)).map .str)]) (fun (k : Nat) (w : Value) => k ≤ C.length ∧ (True)) (fun (k : Nat) (w : Value) => C.length - k) (0) (u) ?_ ?_ ?_ ?_
   ·exact ⟨Nat.zero_le _, by simp_all⟩
   ·exact ⟨rfl, some_int (by simp), rfl, trivial⟩
   ·exact perm_eq (by simp)
   ·intro k w hinv
    obtain ⟨hk, -⟩ := hinv
    refine hw_reg ?_
    refine dp rfl (pop_lss rfl rfl) ?_
    refine dn ?_
    refine hw_seq ?_
    refine hw_cond rfl (fun h3 => ?_) (fun h4 => ?_)
    ·try simp at h3
     obtain ⟨y, hy⟩ : ∃ y, C[k]? = some y := ⟨_, List.getElem?_eq_getElem h3⟩
     have hdy := drop_cons hy
     refine hw_skip ?_
     refine seqQ_n ?_
     refine hw_seq ?_
     refine hw_block ?_
     refine hw_reg ?_
     refine dp rfl (pop_idx ty26 ty36 rfl rfl rfl (by assumption)) ?_
     refine dp rfl (pop_loadw ty36 rfl rfl rfl rfl) ?_
     refine de rfl (eop_alloc ty36 rfl fun b12 => ?_)
     refine de0 (eop_storew ty36 rfl rfl rfl rfl rfl ?_)
     refine dn ?_
     refine hw_ghost (Ghost.fc0 12 rfl) ?_
     refine hw_reg ?_
     refine dp rfl (pop_fieldAddr ty36 rfl ty3 (by decide) rfl) ?_
     refine dp rfl (pop_load ty3 rfl rfl rfl) ?_
     refine dp rfl (pop_gtr rfl rfl) ?_
     refine dn ?_
     refine hw_cond rfl (fun h5 => ?_) (fun h6 => ?_)
     ·try simp at h5
      refine hw_reg ?_
      refine dp rfl (pop_move rfl) ?_
      refine dp rfl (pop_fieldAddr ty36 rfl ty3 (by decide) rfl) ?_
      refine dp rfl (pop_load ty3 rfl rfl rfl) ?_
      have hb1 := field_bd (f := ofP l) (p := p) (i := i) (fun s m y => mem_chosen) hon hp hv
      have hb2 := pos_bd (k := k) hCm hCl hv
      have hb3 := hv y (hCm y (List.mem_of_getElem? hy))
      have hb4 := sumV_app (fieldedL (ofP l) (p.take i)) ((C.take k).filter (fun y => decide (0 < y.Value)))
      refine dp rfl (pop_add64 rfl rfl (by omega) (by omega)) ?_
      refine dp rfl (pop_assign rfl) ?_
      refine dn ?_
      refine hw_reg1 ?_
      refine dp rfl (pop_move rfl) ?_
      refine dp rfl (pop_fieldAddr ty36 rfl ty9 (by decide) rfl) ?_
      refine dp rfl (pop_load ty9 rfl rfl rfl) ?_
      refine dp rfl (pop_buildSlice (hs := [_]) ty44 ty9 rfl rfl (by decide) (by decide) rfl) ?_
      refine de rfl (eop_append (i := 0) ty44 ty9 rfl rfl rfl rfl rfl (by simp [flat, hcells]) (by simp only [List.length_map, List.length_append, List.length_cons, List.length_nil]; omega) fun v46 => ?_)
      refine dp rfl (pop_assign rfl) ?_
      refine dn ?_
      refine blockQ_n ?_
      refine seqQ_n ?_
      refine hw_reg1 ?_
      refine dp rfl (pop_add64 rfl rfl (by omega) (by omega)) ?_
      refine dp rfl (pop_move rfl) ?_
      refine dn ?_
      exact ⟨k + 1, _, ⟨by omega, trivial⟩, by dsimp only; omega, ⟨rfl, some_int (by rw [pos_snoc hy, if_pos (by simp_all), ← List.append_assoc, sumV_app _ [y]]; simp [sumV]), rfl, trivial⟩, (by repeat (first | exact keeps_refl | refine keeps_upd rfl ?_ | refine keeps_loop rfl rfl ?_)), perm_eq (by dsimp only; rw [pos_snoc hy, if_pos (by simp_all)]; simp)⟩
     ·try simp at h6
      refine hw_skip ?_
      refine blockQ_n ?_
      refine seqQ_n ?_
      refine hw_reg1 ?_
      refine dp rfl (pop_add64 rfl rfl (by omega) (by omega)) ?_
      refine dp rfl (pop_move rfl) ?_
      refine dn ?_
      exact ⟨k + 1, _, ⟨by omega, trivial⟩, by dsimp only; omega, ⟨rfl, some_int (by rw [pos_snoc hy, if_neg (by omega)]; simp), rfl, trivial⟩, (by repeat (first | exact keeps_refl | refine keeps_upd rfl ?_ | refine keeps_loop rfl rfl ?_)), perm_eq (by dsimp only; rw [pos_snoc hy, if_neg (by omega)]; simp)⟩
    ·try simp at h4
     have hnk : C.length ≤ k := by omega
     obtain rfl : k = C.length := by omega
     refine hw_exit ?_
     refine seqQ_x ?_
     refine loopQ2_x ?_
     refine blockQ_eq ?_
     refine blockQ_n ?_
     refine seqQ_n ?_
     refine hw_reg1 ?_
     refine dp rfl (pop_add64 rfl rfl (by omega) (by omega)) ?_
     refine dp rfl (pop_move rfl) ?_
     refine dn ?_
     exact ⟨i + 1, _, ⟨by omega, trivial⟩, by dsimp only; omega, ⟨rfl, some_int (by rw [fieldedL_snoc _ hx, chosen_eq hN, hCd, List.take_length]), rfl, trivial⟩, (by repeat (first | exact keeps_refl | refine keeps_upd rfl ?_ | refine keeps_loop rfl rfl ?_)), perm_eq (by dsimp only; rw [fieldedL_snoc _ hx, chosen_eq hN, hCd, List.take_length])⟩
  ·try simp at h2
   have hni : p.length ≤ i := by omega
   obtain rfl : i = p.length := by omega
   refine hw_exit ?_
   refine seqQ_x ?_
   refine loopQ2_x ?_
   refine blockQ_eq ?_
   refine seqQ_n ?_
   rw [List.take_length]
   refine hw_reg ?_
   refine dp rfl (pop_move rfl) ?_
   refine de rfl (eop_callx (i := 0) ca98 rfl (WeakL.refl _) rfl (c_slices_Sort (l := (fieldedL (ofP l) p).map (·.Player)) (by have hb1 := field_bd (f := ofP l) (p := p) (i := p.length) (fun s m y => mem_chosen) hon hp hv; rw [List.take_length] at hb1; simp; omega)) ?_)
   rintro _ _ ⟨rfl, rfl⟩
   refine dn ?_
   refine hw_reg ?_
   refine dp rfl (pop_move rfl) ?_
   refine dp rfl (pop_move rfl) ?_
   refine dp rfl (pop_assign rfl) ?_
   refine dp rfl (pop_assign rfl) ?_
   refine dn ?_
   refine hw_ret ?_
   exact ret_fa (M := []) 5 rfl rfl rfl
end Go.Proofs.YtbfikmihcpfgaaaGreatDoor
end
section
namespace Go.HL
/-- The state of a loop that draws: the list that grows, how many were drawn. -/
structure GL (α : Type) where
 u : Value
 out : List α
 a : Nat
structure GLok {α : Type} (P : α → Prop) (n m : Nat) (q : GL α) : Prop where
 len : q.out.length ≤ n
 all : ∀ x ∈ q.out, P x
 a : q.a ≤ m
section
variable {α : Type} {P : α → Prop}
theorem GLok.add {n m m' : Nat} {u u' : Value} {out : List α} {a1 a2 : Nat} {x : α} (h : GLok P n m ⟨u, out, a1⟩) (hx : P x) (ha : a2 ≤ m') : GLok P (n + 1) m' ⟨u', out ++ [x], a2⟩ :=
 ⟨by have := h.len; simp at *; omega, fun y hy => by
  rcases List.mem_append.1 hy with hy | hy
  ·exact h.all y hy
  ·simp at hy; subst hy; exact hx, ha⟩
theorem GLok.same {n m m' : Nat} {u : Value} {out : List α} {a1 a2 : Nat} (h : GLok P n m ⟨u, out, a1⟩) (ha : a2 ≤ m') : GLok P (n + 1) m' ⟨u, out, a2⟩ :=
 ⟨by have := h.len; dsimp only at *; omega, h.all, ha⟩
theorem all_set {l : List α} {j : Nat} {y : α} (h : ∀ x ∈ l, P x) (hy : P y) : ∀ x ∈ l.set j y, P x := fun x hx => by
 rcases mem_set_of hx with rfl | hx
 ·exact hy
 ·exact h x hx
end
def GoodA (x : Asset) : Prop := Sh x.Player ∧ Sh x.Position
def GoodP (x : Place) : Prop := Sh x.Position
structure GoodAs (l : List Asset) : Prop where
 len : l.length ≤ 7
 all : ∀ x ∈ l, Sh x.Player ∧ Sh x.Position
structure GoodPs (l : List Place) : Prop where
 len : l.length ≤ 4
 all : ∀ x ∈ l, Sh x.Position
def place4 : List Str := [[100, 102], [103, 107], [109, 102], [120, 120]]
theorem place4_sh : ∀ s ∈ place4, Sh s := by
 intro s hs
 have : s.length ≤ 2 := by revert s; decide
 unfold Sh; omega
theorem nil_sh : Sh [] := by simp [Sh]
def asset1 : Asset := ⟨[97], [103, 107], 5⟩
def place1 : Place := ⟨[103, 107], 1⟩
theorem one_ok : okAP [asset1] [place1] = 0 := by kernel_rfl
theorem one_list : fieldedL (ofP [asset1]) [place1] = [asset1] := by kernel_rfl
theorem one_sum : sumF [asset1] [place1] = 5 := by unfold sumF; rw [one_list]; rfl
theorem one_names : namesV (fieldedL (ofP [asset1]) [place1]) = [[97]] := by rw [one_list]; simp [namesV, sortS, asset1]
end Go.HL
end
section
namespace Go.Proofs.YtbfikmihcpfgaaaGreatDoor
open Go.HL
set_option maxRecDepth 100000
set_option linter.unusedVariables false
set_option linter.unusedSimpArgs false
/-- benchwarmer/value.isIn$1 -/
theorem c_value_isIn_1 [Tracks] {x : Asset} {s : Str}  : ConP Tryz.prog 133 [eAsset x, .vptr [.str s] 0] (.bool (x.Player == s)) := by
 refine Con.of_body Tryz.func133 rfl Tryz.ntmps133 rfl rfl ?_
 refine hw_reg ?_
 refine dp rfl (pop_box rfl rfl) ?_
 refine dp rfl (pop_assign rfl) ?_
 refine dn ?_
 refine hw_reg ?_
 refine dp rfl (pop_fieldAddr ty36 rfl ty9 (by decide) rfl) ?_
 refine dp rfl (pop_load ty9 rfl rfl rfl) ?_
 refine dp rfl (pop_load ty9 rfl rfl rfl) ?_
 refine dp rfl (pop_eqls rfl rfl) ?_
 refine dp rfl (pop_assign rfl) ?_
 refine dn ?_
 refine hw_ret ?_
 refine ret_p rfl ?_
 rfl

/-- benchwarmer/value.isIn -/
theorem c_value_isIn [Tracks] {l : List Asset} {s : Str} (hl : l.length ≤ 1000000) : ConP Tryz.prog 94 [eAssets l, .str s] (.bool (l.any (fun y => y.Player == s))) := by
 refine Con.of_body Tryz.func94 rfl Tryz.ntmps94 rfl rfl ?_
 refine hw_reg ?_
 refine dp rfl (pop_box rfl rfl) ?_
 refine dp rfl (pop_assign rfl) ?_
 refine dn ?_
 refine hw_reg ?_
 refine dp rfl (pop_move rfl) ?_
 refine dp rfl (pop_makeFunc rfl rfl) ?_
 refine dp rfl (pop_call ca47 rfl (WeakL.refl _) (c_slices_ContainsFunc_api_Asset_api_Asset (p := fun y => y.Player == s) ca133 (fun x => c_value_isIn_1) hl)) ?_
 refine dp rfl (pop_assign rfl) ?_
 refine dn ?_
 refine hw_ret ?_
 refine ret_p rfl ?_
 rfl

/-- benchwarmer/value.Fielded -/
theorem c_value_Fielded [Tracks] {l : List Asset} {p : List HL.Place} (hl : l.length ≤ 11) (hp : p.length ≤ 1000000) : ConP Tryz.prog 46 [eAssets l, ePlaces p] (.tup [.int .i64 (if okAP l p != 0 then 0 else sumF l p), eSs (if okAP l p != 0 then [] else namesV (fieldedL (ofP l) p)), .int .i64 (okAP l p)]) := by
 refine Con.of_body Tryz.func46 rfl Tryz.ntmps46 rfl rfl ?_
 refine hw_reg ?_
 refine dp rfl (pop_assign rfl) ?_
 refine dp rfl (pop_assign rfl) ?_
 refine dp rfl (pop_assign rfl) ?_
 refine dn ?_
 refine hw_seq ?_
 refine hw_reg ?_
 refine dp rfl (pop_move rfl) ?_
 refine dp rfl (pop_call ca35 rfl (WeakL.refl _) (c_value_CheckAssets (by omega))) ?_
 refine dp rfl (pop_move rfl) ?_
 refine dp rfl (pop_call ca90 rfl (WeakL.refl _) (c_value_CheckPlaces (by assumption))) ?_
 refine dp rfl (pop_buildSlice (hs := [_, _]) ty100 ty28 rfl rfl (by decide) (by decide) rfl) ?_
 refine dp rfl (pop_call ca49 rfl (WeakL.refl _) (c_base_First (l := [_, _]) (by simp))) ?_
 refine dp rfl (pop_assign rfl) ?_
 refine dn ?_
 refine hw_reg ?_
 refine dp rfl (pop_move rfl) ?_
 refine dp rfl (pop_neq rfl rfl) ?_
 refine dn ?_
 refine hw_cond rfl (fun h1 => ?_) (fun h2 => ?_)
 ·try simp at h1
  refine hw_reg ?_
  refine dp rfl (pop_move rfl) ?_
  refine dp rfl (pop_assign rfl) ?_
  refine dp rfl (pop_assign rfl) ?_
  refine dp rfl (pop_assign rfl) ?_
  refine dn ?_
  refine hw_ret ?_
  (refine ret_w rfl (weak_tup3 ?_ ?_ (Weak.refl _))
   ·rw [if_pos (by simpa [okAP] using h1)]; exact Weak.refl _
   ·rw [if_pos (by simpa [okAP] using h1)]; exact weak_nil 1)
 ·try simp at h2
  refine hw_skip ?_
  refine seqQ_n ?_
  obtain ⟨hca0, hcp0⟩ := okAP_ok (l := l) (p := p) (by simpa [okAP] using h2)
  obtain ⟨hsr, haf⟩ := checkAssets_ok hca0
  obtain ⟨hmm, hp10⟩ := checkPlaces_ok hcp0
  have hvv : ∀ x ∈ l, -1000000 ≤ x.Value ∧ x.Value ≤ 1000000 := fun x hx => (assetFault_ok (haf x hx)).2.2
  refine hw_reg ?_
  refine dp rfl (pop_move rfl) ?_
  refine dp rfl (pop_move rfl) ?_
  refine dp rfl (pop_call ca91 rfl (WeakL.refl _) (c_value_fielded (by omega) (by assumption) (by simp_all) (by assumption))) ?_
  refine dp rfl (pop_move rfl) ?_
  refine dp rfl (pop_extract rfl rfl) ?_
  refine dp rfl (pop_extract rfl rfl) ?_
  refine dp rfl (pop_assign rfl) ?_
  refine dp rfl (pop_assign rfl) ?_
  refine dn ?_
  refine hw_reg ?_
  refine dp rfl (pop_move rfl) ?_
  refine dp rfl (pop_move rfl) ?_
  refine dp rfl (pop_assign rfl) ?_
  refine dp rfl (pop_assign rfl) ?_
  refine dp rfl (pop_assign rfl) ?_
  refine dn ?_
  refine hw_ret ?_
  (refine ret_p rfl ?_
   have h0 : okAP l p = 0 := by simpa [okAP] using h2
   simp [h0, sumF, ofVal, ofVal1])

/-- benchwarmer/benchref1.AssetsFault -/
theorem c_benchref1_AssetsFault [Tracks] {l : List Asset} (hl : l.length ≤ 1000000) (hs : ∀ x ∈ l, Sh x.Player ∧ Sh x.Position) : ConP Tryz.prog 6 [eAssets l] (.int .i64 (checkAssets l)) := by
 refine Con.of_body Tryz.func6 rfl Tryz.ntmps6 rfl rfl ?_
 refine hw_reg ?_
 refine dp rfl (pop_assign rfl) ?_
 refine dn ?_
 refine hw_seq ?_
 refine hw_reg ?_
 refine dp rfl (pop_move rfl) ?_
 refine dp rfl (pop_lenm ty26 rfl) ?_
 refine dp rfl (pop_gtr rfl rfl) ?_
 refine dn ?_
 refine hw_cond rfl (fun h1 => ?_) (fun h2 => ?_)
 ·try simp at h1
  refine hw_reg ?_
  refine dp rfl (pop_assign rfl) ?_
  refine dn ?_
  refine hw_ret ?_
  refine ret_p rfl ?_
  show HVal.int .i64 _ = _
  (rw [checkAssets, if_pos (by omega)]; done)
 ·try simp at h2
  refine hw_skip ?_
  refine seqQ_n ?_
  refine hw_seq ?_
  refine hw_reg ?_
  refine dp rfl (pop_move rfl) ?_
  refine dp rfl (pop_lenm ty26 rfl) ?_
  refine dp rfl (pop_move rfl) ?_
  refine dn ?_
  refine hw_block ?_
  refine hw_loopw [2, 3, 4, 10, 11, 12, 13, 14, 15, 16, 17, 18, 19, 20, 21, 22, 23, 24, 25, 26, 27, 28, 29, 30, 31, 32, 33, 34, 35, 36, 37, 38, 39, 40, 41, 42, 43, 44, 45] (fun (k : Nat) => [(10, .int .i64 k)]) (fun (k : Nat) => []) (fun (k : Nat) => k ≤ l.length ∧ (checkAssets l = assetsGo l k (l.drop k))) (fun (k : Nat) => l.length - k) (0) ?_ ?_ ?_ ?_
  ·refine ⟨Nat.zero_le _, ?_⟩
   rw [checkAssets, if_neg (by omega)]; rfl
  ·exact ⟨rfl, trivial⟩
  ·exact List.Perm.refl _
  ·intro k hinv
   obtain ⟨hk, hg⟩ := hinv
   refine hw_reg ?_
   refine dp rfl (pop_lss rfl rfl) ?_
   refine dn ?_
   refine hw_seq ?_
   refine hw_cond rfl (fun h3 => ?_) (fun h4 => ?_)
   ·try simp at h3
    obtain ⟨x, hx⟩ : ∃ x, l[k]? = some x := ⟨_, List.getElem?_eq_getElem h3⟩
    have hdx := drop_cons hx
    rw [hdx] at hg
    refine hw_skip ?_
    refine seqQ_n ?_
    refine hw_seq ?_
    refine hw_block ?_
    refine hw_reg ?_
    refine dp rfl (pop_move rfl) ?_
    refine dp rfl (pop_idx ty26 ty36 rfl rfl rfl (by assumption)) ?_
    refine dp rfl (pop_loadw ty36 rfl rfl rfl rfl) ?_
    refine de rfl (eop_alloc ty36 rfl fun b4 => ?_)
    refine dp rfl (pop_assign rfl) ?_
    refine de0 (eop_storew ty36 rfl rfl rfl rfl rfl ?_)
    refine dn ?_
    refine hw_ghost (Ghost.fc0 4 rfl) ?_
    refine hw_block ?_
    refine hw_reg ?_
    refine dp rfl (pop_fieldAddr ty36 rfl ty9 (by decide) rfl) ?_
    refine dp rfl (pop_load ty9 rfl rfl rfl) ?_
    refine dp rfl (pop_call ca33 rfl (WeakL.refl _) (c_benchref1_Key ((hs x (List.mem_of_getElem? hx)).1))) ?_
    refine dp rfl (pop_not rfl) ?_
    refine dp rfl (pop_move rfl) ?_
    refine dg rfl rfl (fun hc => ⟨_, OpenTo.refl _, pop_fieldAddr ty36 rfl ty9 (by decide) rfl⟩) ?_
    refine dg rfl rfl (fun hc => ⟨_, OpenTo.upd (t := 21) rfl (hc) (OpenTo.refl _), pop_load ty9 rfl rfl rfl⟩) ?_
    refine dg rfl rfl (fun hc => ⟨_, OpenTo.upd (t := 22) rfl (hc) (OpenTo.refl _), pop_call ca33 rfl (WeakL.refl _) (c_benchref1_Key ((hs x (List.mem_of_getElem? hx)).2))⟩) ?_
    refine dg rfl rfl (fun hc => ⟨_, OpenTo.upd (t := 23) rfl (hc) (OpenTo.refl _), pop_not rfl⟩) ?_
    refine dp rfl (pop_picko rfl (.inl rfl) (.inr ⟨_, rfl, fun h => by simp_all⟩)) ?_
    refine dp rfl (pop_assign rfl) ?_
    refine dn ?_
    refine hw_cond rfl (fun h5 => ?_) (fun h6 => ?_)
    ·try simp at h5
     refine hw_reg ?_
     refine dp rfl (pop_assign rfl) ?_
     refine dn ?_
     refine hw_ret ?_
     refine ret_p rfl ?_
     show HVal.int .i64 _ = _
     (rw [hg]; simp_all [assetsGo, leS, assetFault]; done)
    ·try simp at h6
     refine hw_reg ?_
     refine dp rfl (pop_fieldAddr ty36 rfl ty3 (by decide) rfl) ?_
     refine dp rfl (pop_load ty3 rfl rfl rfl) ?_
     refine dp rfl (pop_call ca34 rfl (WeakL.refl _) c_benchref1_in) ?_
     refine dp rfl (pop_not rfl) ?_
     refine dp rfl (pop_assign rfl) ?_
     refine dn ?_
     refine hw_cond rfl (fun h7 => ?_) (fun h8 => ?_)
     ·try simp at h7
      refine hw_reg ?_
      refine dp rfl (pop_assign rfl) ?_
      refine dn ?_
      refine hw_ret ?_
      refine ret_p rfl ?_
      show HVal.int .i64 _ = _
      (rw [hg]; simp_all [assetsGo, leS, assetFault]; done)
     ·try simp at h8
      refine hw_draw (fun _ => True) [] mixed ?_
      refine ahp 0 rfl rfl (by kernel_rfl) (by kernel_rfl) (pop_move rfl) ?_
      refine ahp 1 rfl rfl (by kernel_rfl) (by kernel_rfl) (pop_gtr rfl rfl) ?_
      refine ahp 2 rfl rfl (by kernel_rfl) (by kernel_rfl) (pop_move rfl) ?_
      refine ahg 3 rfl rfl (by kernel_rfl) (by kernel_rfl) rfl (fun hc => ⟨_, OpenTo.refl _, pop_fieldAddr ty36 rfl ty9 (by decide) rfl⟩) ?_
      refine ahg 4 rfl rfl (by kernel_rfl) (by kernel_rfl) rfl (fun hc => ⟨_, OpenTo.upd (t := 35) rfl (hc) (OpenTo.refl _), pop_load ty9 rfl rfl rfl⟩) ?_
      refine ahg 5 rfl rfl (by kernel_rfl) (by kernel_rfl) rfl (fun hc => ⟨_, OpenTo.refl _, pop_move rfl⟩) ?_
      refine ahg 6 rfl rfl (by kernel_rfl) (by kernel_rfl) rfl (fun hc => ⟨_, OpenTo.refl _, pop_move rfl⟩) ?_
      refine ahg 7 rfl rfl (by kernel_rfl) (by kernel_rfl) rfl (fun hc => by have hq := hc; (try simp at hq); exact ⟨_, OpenTo.upd (t := 38) rfl (hc) (OpenTo.refl _), pop_sub64 rfl rfl (by omega) (by omega)⟩) ?_
      refine ahg 8 rfl rfl (by kernel_rfl) (by kernel_rfl) rfl (fun hc => by have hq := hc; (try simp at hq); exact ⟨_, OpenTo.upd (t := 39) rfl (hc) (OpenTo.upd (t := 37) rfl (hc) (OpenTo.refl _)), pop_idx (j := k - 1) (a := l.getD (k - 1) asset0) ty26 ty36 rfl rfl (by omega) (getD_some (by omega))⟩) ?_
      refine ahg 9 rfl rfl (by kernel_rfl) (by kernel_rfl) rfl (fun hc => ⟨_, OpenTo.upd (t := 40) rfl (hc) (OpenTo.refl _), pop_fieldAddr ty36 rfl ty9 (by decide) rfl⟩) ?_
      refine ahg 10 rfl rfl (by kernel_rfl) (by kernel_rfl) rfl (fun hc => ⟨_, OpenTo.upd (t := 41) rfl (hc) (OpenTo.refl _), pop_load ty9 rfl rfl rfl⟩) ?_
      refine ahg 11 rfl rfl (by kernel_rfl) (by kernel_rfl) rfl (fun hc => ⟨_, OpenTo.upd (t := 42) rfl (hc) (OpenTo.upd (t := 36) rfl (hc) (OpenTo.refl _)), pop_leqs rfl rfl⟩) ?_
      refine ahp 12 rfl rfl (by kernel_rfl) (by kernel_rfl) (pop_picko rfl (.inr ⟨_, rfl, fun h => by simp_all⟩) (.inl rfl)) ?_
      refine ahp 13 rfl rfl (by kernel_rfl) (by kernel_rfl) (pop_assign rfl) ?_
      refine ahz (by kernel_rfl) ?_
      refine hw_cond rfl (fun h9 => ?_) (fun h10 => ?_)
      ·try simp at h9
       refine hw_reg ?_
       refine dp rfl (pop_assign rfl) ?_
       refine dn ?_
       refine hw_ret ?_
       refine ret_p rfl ?_
       show HVal.int .i64 _ = _
       (rw [hg]; simp_all [assetsGo, leS, assetFault]; done)
      ·try simp at h10
       refine hw_skip ?_
       refine blockQ_n ?_
       refine blockQ_n ?_
       refine seqQ_n ?_
       refine hw_reg1 ?_
       refine dp rfl (pop_add64 rfl rfl (by omega) (by omega)) ?_
       refine dp rfl (pop_move rfl) ?_
       refine dn ?_
       refine ⟨k + 1, ?_, ?_, ⟨rfl, trivial⟩, (by repeat (first | exact keeps_refl | refine keeps_upd rfl ?_ | refine keeps_loop rfl rfl ?_)), List.Perm.refl _⟩
       ·refine ⟨by omega, ?_⟩
        rw [hg]; simp_all [assetsGo, leS, assetFault]
       ·dsimp only; omega
   ·try simp at h4
    have hnk : l.length ≤ k := by omega
    obtain rfl : k = l.length := by omega
    rw [drop_all (Nat.le_refl _)] at hg
    refine hw_exit ?_
    refine seqQ_x ?_
    refine loopQ_x ?_
    refine blockQ_eq ?_
    refine seqQ_n ?_
    refine hw_reg ?_
    refine dp rfl (pop_assign rfl) ?_
    refine dn ?_
    refine hw_ret ?_
    refine ret_p rfl ?_
    show HVal.int .i64 _ = _
    (rw [hg]; simp_all [assetsGo, leS, assetFault]; done)

/-- benchwarmer/benchref1.PlacesFault -/
theorem c_benchref1_PlacesFault [Tracks] {l : List HL.Place} (hl : l.length ≤ 1000000) (hs : ∀ x ∈ l, Sh x.Position) : ConP Tryz.prog 17 [ePlaces l] (.int .i64 (checkPlaces l)) := by
 refine Con.of_body Tryz.func17 rfl Tryz.ntmps17 rfl rfl ?_
 refine hw_reg ?_
 refine dp rfl (pop_assign rfl) ?_
 refine dn ?_
 refine hw_seq ?_
 refine hw_reg ?_
 refine dp rfl (pop_move rfl) ?_
 refine dp rfl (pop_lenm ty40 rfl) ?_
 refine dp rfl (pop_gtr rfl rfl) ?_
 refine dn ?_
 refine hw_cond rfl (fun h1 => ?_) (fun h2 => ?_)
 ·try simp at h1
  refine hw_reg ?_
  refine dp rfl (pop_assign rfl) ?_
  refine dn ?_
  refine hw_ret ?_
  refine ret_p rfl ?_
  show HVal.int .i64 _ = _
  (rw [checkPlaces, if_pos (by omega)]; done)
 ·try simp at h2
  refine hw_skip ?_
  refine seqQ_n ?_
  refine hw_seq ?_
  refine hw_reg ?_
  refine dp rfl (pop_move rfl) ?_
  refine dp rfl (pop_lenm ty40 rfl) ?_
  refine dp rfl (pop_move rfl) ?_
  refine dn ?_
  refine hw_block ?_
  refine hw_loopw [2, 3, 4, 10, 11, 12, 13, 14, 15, 16, 17, 18, 19, 20, 21, 22, 23, 24, 25, 26, 27, 28, 29, 30, 31, 32, 33, 34, 35, 36, 37, 38, 39] (fun (k : Nat) => [(10, .int .i64 k)]) (fun (k : Nat) => []) (fun (k : Nat) => k ≤ l.length ∧ (checkPlaces l = placesGo l k (l.drop k))) (fun (k : Nat) => l.length - k) (0) ?_ ?_ ?_ ?_
  ·refine ⟨Nat.zero_le _, ?_⟩
   rw [checkPlaces, if_neg (by omega)]; rfl
  ·exact ⟨rfl, trivial⟩
  ·exact List.Perm.refl _
  ·intro k hinv
   obtain ⟨hk, hg⟩ := hinv
   refine hw_reg ?_
   refine dp rfl (pop_lss rfl rfl) ?_
   refine dn ?_
   refine hw_seq ?_
   refine hw_cond rfl (fun h3 => ?_) (fun h4 => ?_)
   ·try simp at h3
    obtain ⟨x, hx⟩ : ∃ x, l[k]? = some x := ⟨_, List.getElem?_eq_getElem h3⟩
    have hdx := drop_cons hx
    rw [hdx] at hg
    refine hw_skip ?_
    refine seqQ_n ?_
    refine hw_seq ?_
    refine hw_block ?_
    refine hw_reg ?_
    refine dp rfl (pop_move rfl) ?_
    refine dp rfl (pop_idx ty40 ty95 rfl rfl rfl (by assumption)) ?_
    refine dp rfl (pop_loadw ty95 rfl rfl rfl rfl) ?_
    refine de rfl (eop_alloc ty95 rfl fun b4 => ?_)
    refine dp rfl (pop_assign rfl) ?_
    refine de0 (eop_storew ty95 rfl rfl rfl rfl rfl ?_)
    refine dn ?_
    refine hw_ghost (Ghost.fc0 4 rfl) ?_
    refine hw_block ?_
    refine hw_reg ?_
    refine dp rfl (pop_fieldAddr ty95 rfl ty9 (by decide) rfl) ?_
    refine dp rfl (pop_load ty9 rfl rfl rfl) ?_
    refine dp rfl (pop_call ca33 rfl (WeakL.refl _) (c_benchref1_Key (hs x (List.mem_of_getElem? hx)))) ?_
    refine dp rfl (pop_not rfl) ?_
    refine dp rfl (pop_assign rfl) ?_
    refine dn ?_
    refine hw_cond rfl (fun h5 => ?_) (fun h6 => ?_)
    ·try simp at h5
     refine hw_reg ?_
     refine dp rfl (pop_assign rfl) ?_
     refine dn ?_
     refine hw_ret ?_
     refine ret_p rfl ?_
     show HVal.int .i64 _ = _
     (rw [hg]; simp_all [placesGo, leS]; done)
    ·try simp at h6
     refine hw_reg ?_
     refine dp rfl (pop_fieldAddr ty95 rfl ty3 (by decide) rfl) ?_
     refine dp rfl (pop_load ty3 rfl rfl rfl) ?_
     refine dp rfl (pop_call ca34 rfl (WeakL.refl _) c_benchref1_in) ?_
     refine dp rfl (pop_not rfl) ?_
     refine dp rfl (pop_assign rfl) ?_
     refine dn ?_
     refine hw_cond rfl (fun h7 => ?_) (fun h8 => ?_)
     ·try simp at h7
      refine hw_reg ?_
      refine dp rfl (pop_assign rfl) ?_
      refine dn ?_
      refine hw_ret ?_
      refine ret_p rfl ?_
      show HVal.int .i64 _ = _
      (rw [hg]; simp_all [placesGo, leS]; done)
     ·try simp at h8
      refine hw_draw (fun _ => True) [] mixed ?_
      refine ahp 0 rfl rfl (by kernel_rfl) (by kernel_rfl) (pop_move rfl) ?_
      refine ahp 1 rfl rfl (by kernel_rfl) (by kernel_rfl) (pop_gtr rfl rfl) ?_
      refine ahp 2 rfl rfl (by kernel_rfl) (by kernel_rfl) (pop_move rfl) ?_
      refine ahg 3 rfl rfl (by kernel_rfl) (by kernel_rfl) rfl (fun hc => ⟨_, OpenTo.refl _, pop_fieldAddr ty95 rfl ty9 (by decide) rfl⟩) ?_
      refine ahg 4 rfl rfl (by kernel_rfl) (by kernel_rfl) rfl (fun hc => ⟨_, OpenTo.upd (t := 29) rfl (hc) (OpenTo.refl _), pop_load ty9 rfl rfl rfl⟩) ?_
      refine ahg 5 rfl rfl (by kernel_rfl) (by kernel_rfl) rfl (fun hc => ⟨_, OpenTo.refl _, pop_move rfl⟩) ?_
      refine ahg 6 rfl rfl (by kernel_rfl) (by kernel_rfl) rfl (fun hc => ⟨_, OpenTo.refl _, pop_move rfl⟩) ?_
      refine ahg 7 rfl rfl (by kernel_rfl) (by kernel_rfl) rfl (fun hc => by have hq := hc; (try simp at hq); exact ⟨_, OpenTo.upd (t := 32) rfl (hc) (OpenTo.refl _), pop_sub64 rfl rfl (by omega) (by omega)⟩) ?_
      refine ahg 8 rfl rfl (by kernel_rfl) (by kernel_rfl) rfl (fun hc => by have hq := hc; (try simp at hq); exact ⟨_, OpenTo.upd (t := 33) rfl (hc) (OpenTo.upd (t := 31) rfl (hc) (OpenTo.refl _)), pop_idx (j := k - 1) (a := l.getD (k - 1) place0) ty40 ty95 rfl rfl (by omega) (getD_some (by omega))⟩) ?_
      refine ahg 9 rfl rfl (by kernel_rfl) (by kernel_rfl) rfl (fun hc => ⟨_, OpenTo.upd (t := 34) rfl (hc) (OpenTo.refl _), pop_fieldAddr ty95 rfl ty9 (by decide) rfl⟩) ?_
      refine ahg 10 rfl rfl (by kernel_rfl) (by kernel_rfl) rfl (fun hc => ⟨_, OpenTo.upd (t := 35) rfl (hc) (OpenTo.refl _), pop_load ty9 rfl rfl rfl⟩) ?_
      refine ahg 11 rfl rfl (by kernel_rfl) (by kernel_rfl) rfl (fun hc => ⟨_, OpenTo.upd (t := 36) rfl (hc) (OpenTo.upd (t := 30) rfl (hc) (OpenTo.refl _)), pop_leqs rfl rfl⟩) ?_
      refine ahp 12 rfl rfl (by kernel_rfl) (by kernel_rfl) (pop_picko rfl (.inr ⟨_, rfl, fun h => by simp_all⟩) (.inl rfl)) ?_
      refine ahp 13 rfl rfl (by kernel_rfl) (by kernel_rfl) (pop_assign rfl) ?_
      refine ahz (by kernel_rfl) ?_
      refine hw_cond rfl (fun h9 => ?_) (fun h10 => ?_)
      ·try simp at h9
       refine hw_reg ?_
       refine dp rfl (pop_assign rfl) ?_
       refine dn ?_
       refine hw_ret ?_
       refine ret_p rfl ?_
       show HVal.int .i64 _ = _
       (rw [hg]; simp_all [placesGo, leS]; done)
      ·try simp at h10
       refine hw_skip ?_
       refine blockQ_n ?_
       refine blockQ_n ?_
       refine seqQ_n ?_
       refine hw_reg1 ?_
       refine dp rfl (pop_add64 rfl rfl (by omega) (by omega)) ?_
       refine dp rfl (pop_move rfl) ?_
       refine dn ?_
       refine ⟨k + 1, ?_, ?_, ⟨rfl, trivial⟩, (by repeat (first | exact keeps_refl | refine keeps_upd rfl ?_ | refine keeps_loop rfl rfl ?_)), List.Perm.refl _⟩
       ·refine ⟨by omega, ?_⟩
        rw [hg]; simp_all [placesGo, leS]
       ·dsimp only; omega
   ·try simp at h4
    have hnk : l.length ≤ k := by omega
    obtain rfl : k = l.length := by omega
    rw [drop_all (Nat.le_refl _)] at hg
    refine hw_exit ?_
    refine seqQ_x ?_
    refine loopQ_x ?_
    refine blockQ_eq ?_
    refine seqQ_n ?_
    refine hw_reg ?_
    refine dp rfl (pop_assign rfl) ?_
    refine dn ?_
    refine hw_ret ?_
    refine ret_p rfl ?_
    show HVal.int .i64 _ = _
    (rw [hg]; simp_all [placesGo, leS]; done)

/-- benchwarmer/benchref1.of$1 -/
theorem c_benchref1_of_1 [Tracks] {x : Asset} {pos : Str}  : ConP Tryz.prog 134 [eAsset x, .vptr [.str pos] 0] (.bool (!(x.Position == pos))) := by
 refine Con.of_body Tryz.func134 rfl Tryz.ntmps134 rfl rfl ?_
 refine hw_reg ?_
 refine dp rfl (pop_box rfl rfl) ?_
 refine dp rfl (pop_assign rfl) ?_
 refine dn ?_
 refine hw_reg ?_
 refine dp rfl (pop_fieldAddr ty36 rfl ty9 (by decide) rfl) ?_
 refine dp rfl (pop_load ty9 rfl rfl rfl) ?_
 refine dp rfl (pop_load ty9 rfl rfl rfl) ?_
 refine dp rfl (pop_neqs rfl rfl) ?_
 refine dp rfl (pop_assign rfl) ?_
 refine dn ?_
 refine hw_ret ?_
 refine ret_p rfl ?_
 rfl

/-- benchwarmer/benchref1.of$2 -/
theorem c_benchref1_of_2 [Tracks] {x y : Asset}  : ConP Tryz.prog 136 [eAsset x, eAsset y] (.int .i64 (byVal x y)) := by
 refine Con.of_body Tryz.func136 rfl Tryz.ntmps136 rfl rfl ?_
 refine hw_reg ?_
 refine dp rfl (pop_box rfl rfl) ?_
 refine dp rfl (pop_box rfl rfl) ?_
 refine dp rfl (pop_assign rfl) ?_
 refine dn ?_
 refine hw_reg ?_
 refine dp rfl (pop_fieldAddr ty36 rfl ty3 (by decide) rfl) ?_
 refine dp rfl (pop_load ty3 rfl rfl rfl) ?_
 refine dp rfl (pop_fieldAddr ty36 rfl ty3 (by decide) rfl) ?_
 refine dp rfl (pop_load ty3 rfl rfl rfl) ?_
 refine dp rfl (pop_call ca68 rfl (WeakL.refl _) c_cmp_Compare_int) ?_
 refine dp rfl (pop_assign rfl) ?_
 refine dn ?_
 refine hw_ret ?_
 refine ret_p rfl ?_
 rfl

/-- benchwarmer/benchref1.with$1 -/
theorem c_benchref1_with_1 [Tracks] {x y : Asset}  : ConP Tryz.prog 101 [eAsset x, eAsset y] (.int .i64 (byPlayer x y)) := by
 refine Con.of_body Tryz.func101 rfl Tryz.ntmps101 rfl rfl ?_
 refine hw_reg ?_
 refine dp rfl (pop_box rfl rfl) ?_
 refine dp rfl (pop_box rfl rfl) ?_
 refine dp rfl (pop_assign rfl) ?_
 refine dn ?_
 refine hw_reg ?_
 refine dp rfl (pop_fieldAddr ty36 rfl ty9 (by decide) rfl) ?_
 refine dp rfl (pop_load ty9 rfl rfl rfl) ?_
 refine dp rfl (pop_fieldAddr ty36 rfl ty9 (by decide) rfl) ?_
 refine dp rfl (pop_load ty9 rfl rfl rfl) ?_
 refine dp rfl (pop_call ca102 rfl (WeakL.refl _) c_strings_Compare) ?_
 refine dp rfl (pop_assign rfl) ?_
 refine dn ?_
 refine hw_ret ?_
 refine ret_p rfl ?_
 rfl

/-- benchwarmer/benchref1.less$1 -/
theorem c_benchref1_less_1 [Tracks] {x : Asset} {who : List Str} (hw : who.length ≤ 1000000) : ConP Tryz.prog 99 [eAsset x, .vptr [eSs who] 0] (.bool (who.contains x.Player)) := by
 refine Con.of_body Tryz.func99 rfl Tryz.ntmps99 rfl rfl ?_
 refine hw_reg ?_
 refine dp rfl (pop_box rfl rfl) ?_
 refine dp rfl (pop_assign rfl) ?_
 refine dn ?_
 refine hw_reg ?_
 refine dp rfl (pop_load ty44 rfl rfl rfl) ?_
 refine dp rfl (pop_fieldAddr ty36 rfl ty9 (by decide) rfl) ?_
 refine dp rfl (pop_load ty9 rfl rfl rfl) ?_
 refine dp rfl (pop_call ca57 rfl (WeakL.refl _) (c_slices_Contains_string_string (by first | assumption | omega | (simp; omega) | simp_all))) ?_
 refine dp rfl (pop_assign rfl) ?_
 refine dn ?_
 refine hw_ret ?_
 refine ret_p rfl ?_
 rfl

/-- benchwarmer/benchref1.less -/
theorem c_benchref1_less [Tracks] {l : List Asset} {who : List Str} (hl : l.length ≤ 1000000) (hw : who.length ≤ 1000000) : ConP Tryz.prog 64 [eAssets l, eSs who] (eAssets (l.filter (fun x => !(who.contains x.Player)))) := by
 refine Con.of_body Tryz.func64 rfl Tryz.ntmps64 rfl rfl ?_
 refine hw_reg ?_
 refine dp rfl (pop_box rfl rfl) ?_
 refine dp rfl (pop_assign rfl) ?_
 refine dn ?_
 refine hw_reg ?_
 refine dp rfl (pop_move rfl) ?_
 refine de rfl (eop_calla ca60 rfl (WeakL.refl _) (c_slices_Clone_api_Asset_api_Asset (by first | assumption | omega | (simp; omega) | simp_all)) fun v6 => ?_)
 refine dp rfl (pop_makeFunc rfl rfl) ?_
 refine de rfl (eop_callx (i := 0) ca59 rfl (WeakL.refl _) rfl (c_slices_DeleteFunc_api_Asset_api_Asset (l := l) (p := fun x => who.contains x.Player) ca99 (fun x => c_benchref1_less_1 hw) hl) ?_)
 rintro _ _ ⟨u8, rfl, rfl⟩
 refine dp rfl (pop_assign rfl) ?_
 refine dn ?_
 refine hw_ret ?_
 exact ret_fa (M := []) 4 rfl rfl rfl
end Go.Proofs.YtbfikmihcpfgaaaGreatDoor
end
section
namespace Go.HL
structure PairS where
 Name : Str
 Val : Str
end Go.HL
end
