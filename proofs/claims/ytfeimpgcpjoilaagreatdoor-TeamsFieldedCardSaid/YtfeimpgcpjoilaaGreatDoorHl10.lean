/- Maps keyed by strings that the code at hand owns; over any program; no conditions. -/
import Derived.Test.YtfeimpgcpjoilaaGreatDoorHl9
namespace Go.HL
/-- The first entry with that key. -/
def sfind (s : List UInt8) : List (List UInt8 × HVal) → Option (Nat × HVal)
  | [] => none
  | (k, h) :: r => if s = k then some (0, h) else (sfind s r).map fun p => (p.1 + 1, p.2)
def sput (s : List UInt8) (h : HVal) (l : List (List UInt8 × HVal)) : List (List UInt8 × HVal) :=
  match sfind s l with
  | some (j, _) => l.set j (s, h)
  | none => l ++ [(s, h)]
def sk (l : List (List UInt8 × HVal)) : List (HVal × HVal) := l.map fun p => (.str p.1, p.2)

theorem bytes_beq (s k : List UInt8) : ((⟨s.toArray⟩ : ByteArray) == ⟨k.toArray⟩) = decide (s = k) := by
  rw [beq_toListBytes, ByteArray.toList_eq, ByteArray.toList_eq]
  simp
  rw [Bool.eq_iff_iff]; simp

theorem sfind_lt {s : List UInt8} : ∀ {l : List (List UInt8 × HVal)} {j : Nat} {h : HVal}, sfind s l = some (j, h) → l[j]? = some (s, h)
  | [], j, h, hh => by simp [sfind] at hh
  | (k, x) :: r, j, h, hh => by
    simp only [sfind] at hh
    by_cases hk : s = k
    · rw [if_pos hk] at hh
      simp at hh
      obtain ⟨rfl, rfl⟩ := hh
      simp [hk]
    · rw [if_neg hk] at hh
      cases hr : sfind s r with
      | none => rw [hr] at hh; simp at hh
      | some p =>
        rw [hr] at hh
        simp at hh
        obtain ⟨rfl, rfl⟩ := hh
        simpa using sfind_lt hr

theorem findNow_s {I : Imm} {s : List UInt8} : ∀ (es : List MapEntry) (ls : List (List UInt8 × HVal)) (i : Nat), es.length = ls.length →
    (∀ (j : Nat) (p : List UInt8 × HVal) (m : MapEntry), ls[j]? = some p → es[j]? = some m → m.key = .string ⟨p.1.toArray⟩ ∧ V I p.2 m.val) →
    (sfind s ls = none → Instr.findNow .string (.string ⟨s.toArray⟩) es i = some none) ∧
    ∀ j h, sfind s ls = some (j, h) → ∃ v, Instr.findNow .string (.string ⟨s.toArray⟩) es i = some (some (i + j, v)) ∧ V I h v
  | [], [], i, _, _ => ⟨fun _ => rfl, fun j h hh => by simp [sfind] at hh⟩
  | [], _ :: _, i, hl, _ => by simp at hl
  | _ :: _, [], i, hl, _ => by simp at hl
  | m :: es, (k, x) :: ls, i, hl, hv => by
    obtain ⟨h1, h2⟩ := hv 0 (k, x) m rfl rfl
    simp only at h1
    have ih := findNow_s (I := I) (s := s) es ls (i + 1) (by simpa using hl) fun j p m a b => hv (j + 1) p m (by simpa using a) (by simpa using b)
    simp only [Instr.findNow, h1, Instr.sameNow, bytes_beq]
    by_cases hk : s = k
    · simp only [hk, decide_true]
      refine ⟨fun h => by simp [sfind] at h, fun j h hh => ?_⟩
      simp [sfind] at hh
      obtain ⟨rfl, rfl⟩ := hh
      exact ⟨m.val, rfl, h2⟩
    · simp only [hk, decide_false]
      refine ⟨fun h => ih.1 ?_, fun j h hh => ?_⟩
      · simp only [sfind, if_neg hk] at h
        cases hr : sfind s ls with
        | none => rfl
        | some p => rw [hr] at h; simp at h
      · simp only [sfind, if_neg hk] at hh
        cases hr : sfind s ls with
        | none => rw [hr] at hh; simp at hh
        | some p =>
          rw [hr] at hh
          simp at hh
          obtain ⟨rfl, rfl⟩ := hh
          obtain ⟨v, g1, g2⟩ := ih.2 p.1 p.2 hr
          exact ⟨v, by rw [g1]; congr 3; omega, g2⟩

theorem mapL_entries {I : Imm} {ls : List (List UInt8 × HVal)} {es : Array MapEntry} (hl : es.size = (sk ls).length)
    (hv : ∀ (i : Nat) (p : HVal × HVal) (m : MapEntry), (sk ls)[i]? = some p → es[i]? = some m → V I p.1 m.key ∧ V I p.2 m.val) :
    es.toList.length = ls.length ∧ ∀ (j : Nat) (p : List UInt8 × HVal) (m : MapEntry), ls[j]? = some p → es.toList[j]? = some m → m.key = .string ⟨p.1.toArray⟩ ∧ V I p.2 m.val := by
  refine ⟨by simpa [sk] using hl, fun j p m a b => ?_⟩
  obtain ⟨h1, h2⟩ := hv j (.str p.1, p.2) m (by simp [sk, a]) (by simpa using b)
  exact ⟨h1.str_inv, h2⟩

section
variable {P : Program} {e : Env} {dst : Option Tmp} {ty : TypeId} {pos : String} {af : Array Edge} {g : Option (Nat × Bool)} {M : List MObj} {K : HVal → List MObj → Prop}

theorem Fits.mapD {t : TypeId} {k el size bytes : Nat} {zero : Value} (h : Fits P t (.map k el) size bytes zero) : P.underlying t = some (.map k el) := by
  obtain ⟨x, h1, h2⟩ := h.underlying
  cases x <;> simp [descOf] at h2
  obtain ⟨rfl, rfl⟩ := h2
  exact h1

theorem eop_makeMap {t : TypeId} (hk : ∀ b, K (.raw (.map (some b))) (.map b [] :: M)) : EOp P e M ⟨dst, .makeMap t none, ty, pos, af, g⟩ K :=
  EOp.of_run fun I F a w ho hs => by
    refine ⟨.map (some w.heap.size), _, _, push w (.map #[] 0), I, by simp [execOp, Instr.makeMap], .refl I, hk _, .raw _ rfl, ?_⟩
    exact hs.new_own _ _ rfl ⟨#[], 0, by simp [push], rfl, fun i p m h => by simp at h⟩

theorem run_checkKey_s {kt : TypeId} (hu : P.underlying kt = some .string) (b : Bool) (s : ByteArray) (w : World) : (Instr.checkKey b 10000 kt (.string s)).run P w = .ok () w := by
  have h : ∀ n, (Instr.checkKey b (n + 1) kt (.string s)).run P w = .ok () w := fun n => by
    simp only [Instr.checkKey, Sem.run_bind, run_underlying hu, Result.andThen_ok, Sem.run_pure]
  exact h 9999
theorem run_getMap {w : World} {b : Nat} {es : Array MapEntry} {clk : Nat} (h : w.heap[b]? = some (.map es clk)) : (getObj b).run P w = .ok (.map es clk) w := by
  simp [getObj, Sem.run, h]

theorem eop_lookup {x y : Operand} {t kt et : TypeId} {size bytes s2 b2 s3 b3 : Nat} {zero z2 z3 : Value} {d : TD} {i b : Nat} {ls : List (List UInt8 × HVal)} {s : List UInt8}
    (hf : Fits P t (.map kt et) size bytes zero) (hkt : Fits P kt .str s2 b2 z2) (het : Fits P et d s3 b3 z3) (hx : evalO e x = some (.raw (.map (some b)))) (hy : evalO e y = some (.str s)) (hm : M[i]? = some (.map b (sk ls)))
    (hk : K (match sfind s ls with | some p => p.2 | none => ofVal z3) M) : EOp P e M ⟨dst, .lookup t x y false, ty, pos, af, g⟩ K :=
  EOp.of_run fun I F a w ho hs => by
    have h1 := (ho.one (x := x) (by simp [Op.operands]) hx).raw_inv
    have h2 := (ho.one (x := y) (by simp [Op.operands]) hy).str_inv
    obtain ⟨es, clk, h3, h4, h5⟩ := hs.obj _ (List.mem_append_left _ (List.mem_of_getElem? hm))
    obtain ⟨h6, h7⟩ := mapL_entries h4 h5
    obtain ⟨n1, n2⟩ := findNow_s (I := I) (s := s) es.toList ls 0 h6 h7
    cases hq : sfind s ls with
    | none =>
      rw [hq] at hk
      refine ⟨z3, _, M, w, I, ?_, .refl I, hk, V_ofVal I z3, hs⟩
      simp only [execOp, h1, h2, Instr.lookup, Sem.run_bind, run_underlying hf.mapD, Result.andThen_ok, run_getMap h3, Sem.run_pure, run_checkKey_s hkt.strD, Instr.findKey, run_underlying hkt.strD, n1 hq, het.run_zero]
      simp
    | some p =>
      obtain ⟨j, h⟩ := p
      rw [hq] at hk
      obtain ⟨v, g1, g2⟩ := n2 j h hq
      refine ⟨v, _, M, w, I, ?_, .refl I, hk, g2, hs⟩
      simp only [execOp, h1, h2, Instr.lookup, Sem.run_bind, run_underlying hf.mapD, Result.andThen_ok, run_getMap h3, Sem.run_pure, run_checkKey_s hkt.strD, Instr.findKey, run_underlying hkt.strD, g1]
      simp

theorem run_setMap {w : World} {b : Nat} {es : Array MapEntry} {clk : Nat} (h : w.heap[b]? = some (.map es clk)) (o : Obj) : (setObj b o).run P w = .ok () { w with heap := w.heap.setIfInBounds b o } := by
  simp [setObj, Sem.run, h]

theorem eop_mapUpdate {x y z : Operand} {t kt et : TypeId} {size bytes s2 b2 : Nat} {zero z2 : Value} {i b : Nat} {ls : List (List UInt8 × HVal)} {s : List UInt8} {h : HVal}
    (hf : Fits P t (.map kt et) size bytes zero) (hkt : Fits P kt .str s2 b2 z2) (hx : evalO e x = some (.raw (.map (some b)))) (hy : evalO e y = some (.str s)) (hz : evalO e z = some h) (hm : M[i]? = some (.map b (sk ls)))
    (hk : K .junk (M.set i (.map b (sk (sput s h ls))))) : EOp P e M ⟨dst, .mapUpdate t x y z, ty, pos, af, g⟩ K :=
  EOp.of_skip fun I F a w ho hs => by
    have h1 := (ho.one (x := x) (by simp [Op.operands]) hx).raw_inv
    have h2 := (ho.one (x := y) (by simp [Op.operands]) hy).str_inv
    have h0 := ho.one (x := z) (by simp [Op.operands]) hz
    have hp := hs.pull hm
    obtain ⟨es, clk, h3, h4, h5⟩ := hp.obj _ List.mem_cons_self
    obtain ⟨h6, h7⟩ := mapL_entries h4 h5
    obtain ⟨n1, n2⟩ := findNow_s (I := I) (s := s) es.toList ls 0 h6 h7
    have hlt : b < w.heap.size := by
      rcases Nat.lt_or_ge b w.heap.size with h' | h'
      · exact h'
      · simp [Array.getElem?_eq_none h'] at h3
    have fin : ∀ (es' : Array MapEntry) (clk' : Nat), es'.size = (sk (sput s h ls)).length →
        (∀ (i : Nat) (p : HVal × HVal) (m : MapEntry), (sk (sput s h ls))[i]? = some p → es'[i]? = some m → V I p.1 m.key ∧ V I p.2 m.val) →
        Sat I (M.set i (.map b (sk (sput s h ls))) ++ F) { w with heap := w.heap.setIfInBounds b (.map es' clk') } := fun es' clk' e1 e2 => by
      refine Sat.unpull hm (hp.change (m' := .map b (sk (sput s h ls))) (fun k hk hnk => ?_) (fun k hk => .inl hk) (by simp [MObj.blocks]) ⟨es', clk', by simp [hlt], e1, e2⟩ rfl rfl rfl)
      have : k ≠ b := by simpa [MObj.blocks] using hnk
      simp [Array.getElem?_setIfInBounds_ne (Ne.symm this)]
    cases hq : sfind s ls with
    | none =>
      refine ⟨_, _, I, ?_, .refl I, hk, fin (es.push ⟨.string ⟨s.toArray⟩, a.eval z, clk⟩) (clk + 1) ?_ fun j p m a1 a2 => ?_⟩
      · simp only [execOp, h1, h2, Instr.mapUpdate, Sem.run_bind, run_underlying hf.mapD, Result.andThen_ok, run_getMap h3, run_checkKey_s hkt.strD, Instr.findKey, run_underlying hkt.strD, n1 hq, Sem.run_pure, run_setMap h3]
      · simp [sput, hq, sk]; simpa [sk] using h4
      · have hsz : es.size = ls.length := by simpa [sk] using h4
        simp only [sput, hq, sk, List.map_append, List.map_cons, List.map_nil] at a1
        by_cases hj : j < ls.length
        · rw [List.getElem?_append_left (by simpa using hj)] at a1
          rw [Array.getElem?_push, if_neg (by omega)] at a2
          exact h5 j p m (by simpa [sk] using a1) a2
        · rw [List.getElem?_append_right (by simp; omega)] at a1
          rw [Array.getElem?_push] at a2
          by_cases hje : j = es.size
          · rw [if_pos hje] at a2
            simp at a2
            subst a2
            have : j - (ls.map fun p => (HVal.str p.1, p.2)).length = 0 := by simp; omega
            rw [this] at a1
            simp at a1
            subst a1
            exact ⟨.str _, h0⟩
          · rw [if_neg hje, Array.getElem?_eq_none (by omega)] at a2
            cases a2
    | some q =>
      obtain ⟨j0, h'⟩ := q
      obtain ⟨v, g1, g2⟩ := n2 j0 h' hq
      have hj0 := sfind_lt hq
      have hjl := lt_of_get hj0
      have hsz : es.size = ls.length := by simpa [sk] using h4
      have hent : ∃ m0, es[j0]? = some m0 := ⟨es[j0], Array.getElem?_eq_getElem (by omega)⟩
      obtain ⟨m0, hm0⟩ := hent
      have hkey := (h7 j0 (s, h') m0 hj0 (by simpa using hm0)).1
      refine ⟨_, _, I, ?_, .refl I, hk, fin (es.modify j0 fun e => { e with key := .string ⟨s.toArray⟩, val := a.eval z }) clk ?_ fun j p m a1 a2 => ?_⟩
      · have hstay : (Instr.keyThatStays (((es[j0]?).map (·.key)).getD (.string ⟨s.toArray⟩)) (.string ⟨s.toArray⟩)).run P w = .ok (.string ⟨s.toArray⟩) w := by
          rw [hm0]
          simp only [Option.map_some, Option.getD_some, hkey, Instr.keyThatStays]
          have hsb : Instr.sameBits 10000 (.string ⟨s.toArray⟩) (.string ⟨s.toArray⟩) = true := by
            have : ∀ n, Instr.sameBits n (.string ⟨s.toArray⟩) (.string ⟨s.toArray⟩) = true := fun n => by
              cases n <;> simp [Instr.sameBits, bytes_beq]
            exact this _
          rw [if_pos hsb]; rfl
        simp only [execOp, h1, h2, Instr.mapUpdate, Sem.run_bind, run_underlying hf.mapD, Result.andThen_ok, run_getMap h3, run_checkKey_s hkt.strD, Instr.findKey, run_underlying hkt.strD, g1, Sem.run_pure, Nat.zero_add, hstay, run_setMap h3]
      · simp [sput, hq, sk]; exact hsz
      · simp only [sput, hq, sk] at a1
        rw [Array.getElem?_modify] at a2
        rw [List.getElem?_map, List.getElem?_set] at a1
        by_cases hj : j0 = j
        · subst hj
          rw [if_pos rfl, hm0] at a2
          rw [if_pos rfl, if_pos hjl] at a1
          simp at a1 a2
          subst a1 a2
          exact ⟨.str _, h0⟩
        · rw [if_neg hj] at a1 a2
          exact h5 j p m (by simpa [sk] using a1) a2

/-! a set of strings -/
def mset (l : List (List UInt8)) : List (List UInt8 × HVal) := l.map fun s => (s, .bool true)
theorem sfind_mset (s : List UInt8) : ∀ l : List (List UInt8), (match sfind s (mset l) with | some p => p.2 | none => HVal.bool false) = .bool (l.contains s) ∧ ((sfind s (mset l)).isSome = l.contains s) ∧ ∀ j h, sfind s (mset l) = some (j, h) → (mset l).set j (s, .bool true) = mset l
  | [] => by simp [mset, sfind]
  | x :: r => by
    have ih := sfind_mset s r
    simp only [mset, List.map_cons, sfind] at ih ⊢
    by_cases hx : s = x
    · subst hx; simp
    · rw [if_neg hx]
      obtain ⟨i1, i2, i3⟩ := ih
      cases hq : sfind s (List.map (fun s => (s, HVal.bool true)) r) with
      | none =>
        rw [hq] at i1 i2
        have hn : r.contains s = false := by simpa using i2.symm
        refine ⟨?_, ?_, fun j h hh => by simp at hh⟩
        · simp only [Option.map_none, List.contains_cons, hn, Bool.or_false]
          simp [hx]
        · simp only [Option.map_none, Option.isSome_none, List.contains_cons, hn, Bool.or_false]
          simp [hx]
      | some p =>
        rw [hq] at i1 i2
        have hn : r.contains s = true := by simpa using i2.symm
        refine ⟨?_, ?_, fun j h hh => ?_⟩
        · simp only [Option.map_some, List.contains_cons, hn, Bool.or_true]
          rw [hn] at i1; exact i1
        · simp only [Option.map_some, Option.isSome_some, List.contains_cons, hn, Bool.or_true]
        · simp only [Option.map_some, Option.some.injEq, Prod.mk.injEq] at hh
          obtain ⟨rfl, rfl⟩ := hh
          have := i3 p.1 p.2 (by rw [hq])
          simp only [List.set_cons_succ, this]
def sadd (s : List UInt8) (l : List (List UInt8)) : List (List UInt8) := if l.contains s then l else l ++ [s]
theorem sput_mset (s : List UInt8) (l : List (List UInt8)) : sput s (.bool true) (mset l) = mset (sadd s l) := by
  obtain ⟨_, i2, i3⟩ := sfind_mset s l
  unfold sput sadd
  cases hq : sfind s (mset l) with
  | none => rw [hq] at i2; simp at i2; simp [i2, mset]
  | some p =>
    rw [hq] at i2
    have : l.contains s = true := by simpa using i2.symm
    simp only [this, if_true]
    exact i3 p.1 p.2 (by rw [hq])
end
end Go.HL
namespace Go.HL
section
variable {P : Program} {e : Env} {dst : Option Tmp} {ty : TypeId} {pos : String} {af : Array Edge} {g : Option (Nat × Bool)} {M : List MObj} {K : HVal → List MObj → Prop}
theorem eop_lookup_set {x y : Operand} {t kt et : TypeId} {size bytes s2 b2 s3 b3 : Nat} {zero z2 : Value} {d : TD} {i b : Nat} {l : List (List UInt8)} {s : List UInt8}
    (hf : Fits P t (.map kt et) size bytes zero) (hkt : Fits P kt .str s2 b2 z2) (het : Fits P et d s3 b3 (.bool false)) (hx : evalO e x = some (.raw (.map (some b)))) (hy : evalO e y = some (.str s)) (hm : M[i]? = some (.map b (sk (mset l))))
    (hk : K (.bool (l.contains s)) M) : EOp P e M ⟨dst, .lookup t x y false, ty, pos, af, g⟩ K := by
  refine eop_lookup hf hkt het hx hy hm ?_
  have h := (sfind_mset s l).1
  have h2 : (match sfind s (mset l) with | some p => p.2 | none => ofVal (.bool false)) = HVal.bool (l.contains s) := h
  rw [h2]; exact hk
theorem eop_update_set {x y z : Operand} {t kt et : TypeId} {size bytes s2 b2 : Nat} {zero z2 : Value} {i b : Nat} {l : List (List UInt8)} {s : List UInt8}
    (hf : Fits P t (.map kt et) size bytes zero) (hkt : Fits P kt .str s2 b2 z2) (hx : evalO e x = some (.raw (.map (some b)))) (hy : evalO e y = some (.str s)) (hz : evalO e z = some (.bool true)) (hm : M[i]? = some (.map b (sk (mset l))))
    (hk : K .junk (M.set i (.map b (sk (mset (sadd s l)))))) : EOp P e M ⟨dst, .mapUpdate t x y z, ty, pos, af, g⟩ K := by
  refine eop_mapUpdate hf hkt hx hy hz hm ?_
  rw [sput_mset]; exact hk
theorem eop_loadw {x : Operand} {t : TypeId} {d : TD} {size bytes : Nat} {zero : Value} {i b : Nat} {h : HVal} (hf : Fits P t d size bytes zero)
    (hx : evalO e x = some (.raw (.pointer (some ⟨b, 0, none⟩)))) (hm : M[i]? = some (.cells b (hcells h))) (hd : d.isAgg = true) (hh : h = .agg (hcells h)) (hc : (hcells h).length = size)
    (hk : K h M) : EOp P e M ⟨dst, .load t x, ty, pos, af, g⟩ K :=
  eop_load (h := h) hf hx hm (.inr ⟨hd, by omega, by rw [List.drop_zero, ← hc, List.take_length, ← hh]⟩) hk
/-- An element of an owned slice whose header is known. -/
theorem pop_idxraw {x y : Operand} {t el : TypeId} {size bytes sz b2 : Nat} {zero z2 : Value} {d : TD} {b off n cap : Nat} {k : IntKind} {i : Int} {j : Nat}
    (hf : Fits P t (.slice el) size bytes zero) (hel : Fits P el d sz b2 z2) (hx : evalO e x = some (.raw (.slice (some ⟨b, off, none⟩) n cap))) (hy : evalO e y = some (.int k i)) (hi : i = (j : Int)) (hj : j < n) :
    POp P e ⟨dst, .indexAddr t x y, ty, pos, af, g⟩ (.raw (.pointer (some ⟨b, off + j * sz, none⟩))) :=
  POp.of_val fun I a w ho => by
    subst hi
    have h1 := (ho.one (x := x) (by simp [Op.operands]) hx).raw_inv
    have h2 := (ho.one (x := y) (by simp [Op.operands]) hy).int_inv
    exact ⟨_, by simp [execOp, h1, h2, run_indexAt hf hel hj], .raw _ rfl⟩
end
section
variable {P : Program} {ops : Array Oper} {n : Nat} {K : Env → List MObj → Prop} {rest : List Oper} {e : Env} {M : List MObj} {d : Nat} {op : Op} {ty : TypeId} {pos : String} {af : Array Edge} {h : HVal}
/-- An operation under a guard that reads owned objects. -/
theorem dgl {j : Nat} {want c : Bool} (hd : Nat.blt d n = true) (hg : guardC ops e j want = some c) (hp : c = true → ∃ e2, OpenTo e e2 ∧ EOp P e2 M ⟨some d, op, ty, pos, af, some (j, want)⟩ fun x M' => x = h ∧ M' = M)
    (k : Der P ops n K rest (upd e d (.opt c h)) M) : Der P ops n K (⟨some d, op, ty, pos, af, some (j, want)⟩ :: rest) e M :=
  ⟨fun t ht => by simp at ht; subst ht; exact blt_lt hd, c, hg, fun hc => by
    obtain ⟨e2, h1, h2⟩ := hp hc
    intro I F a w ho hs
    exact Oper.wp_noQ (fun _ _ ⟨v, x, M', J, h3, h4, ⟨h5, h6⟩, h7, h8⟩ => ⟨v, .opt c h, M, J, h3, h4, k, .opt (fun _ => h5 ▸ h7) (fun hf => by rw [hc] at hf; cases hf), by subst h6; exact h8⟩) (h2 I F a w (ho.open h1) hs),
   fun hc => ⟨h, by subst hc; exact k⟩⟩
/-- The header of an owned slice is looked at. -/
theorem hw_arr {c : Code} {Q : Exit → Env → List MObj → Prop} {i : Nat} {v : Value} {sz : Nat} {es : List HVal} (hm : M[i]? = some (.arr v sz es))
    (h0 : v = .slice none 0 0 → es = [] → HWp P n c e M Q) (h1 : ∀ b off cap, v = .slice (some ⟨b, off, none⟩) es.length cap → HWp P n c e M Q) : HWp P n c e M Q := fun I F a w a1 a2 a3 a4 => by
  rcases a4.obj _ (List.mem_append_left _ (List.mem_of_getElem? hm)) with ⟨g1, g2⟩ | ⟨b, off, cap, rc, el, fr, g1, _⟩
  · exact h0 g1 g2 I F a w a1 a2 a3 a4
  · exact h1 b off cap g1 I F a w a1 a2 a3 a4
end
end Go.HL
