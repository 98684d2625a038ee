/- Part 3 of the proof: a program logic, contracts of functions and plain facts; no conditions. -/
import Derived.Test.YtjecenjmphpmfaaGreatDoorPPlaysComeBack2
import Derived.Ground.Names2Prog
import Derived.KernelRfl
import Derived.Laws.Cover4
import Derived.Lib.AppendStr
import Derived.Lib.AtoiBound
import Derived.Lib.ItoaMem
import Derived.Lib.Join
import Derived.Lib.SplitLaws
import Derived.Lib.Strings
import Derived.Lib.UnsafeStr
import Derived.Shelf.Lay
import Derived.Shelf.LaySoft
import Derived.Shelf.SlSortCmp.Insertion
import Derived.Shelf.Slices.CompactI
import Derived.Shelf.Slices.CompactS
import Derived.Shelf.Slices.Delete
import Derived.Shelf.Slices.In.SortNone
import Derived.Shelf.Small.Wraps
import Derived.Shelf.Sort.Plain
import Derived.Shelf.Strconv.Atoi
import Derived.Shelf.Strconv.Itoa3
import Derived.Shelf.Strings.Builder1
import Derived.Shelf.Strings.Count
import Derived.Shelf.Strings.Cut
import Derived.Shelf.Strings.OnBuilder
import Derived.Shelf.Strings.Prefix
import Derived.Shelf.Strings.Shaped
import Derived.Shelf.Strings.Split
import Derived.Test.YtjecenjmphpmfaaGreatDoorProg
set_option linter.unusedVariables false
set_option linter.unusedSimpArgs false
section
namespace Go.HL
section
variable {P : Program} {e : Env} {dst : Option Tmp} {ty : TypeId} {pos : String} {af : Array Edge} {g : Option (Nat × Bool)} {M : List MObj} {K : HVal → List MObj → Prop}
theorem eop_entry [Tracks] {x : Operand} {i r b j : Nat} {l : List (HVal × HVal)} {vis : List Nat} {p : HVal × HVal} (hx : evalO e x = some (.raw (.pointer (some ⟨r, 0, none⟩)))) (hm : M[i]? = some (.iter r b l (vis ++ [j]))) (hp' : l[j]? = some p)
 (hk : K (.tup [p.1, p.2]) M) : EOp P e M ⟨dst, .entry x, ty, pos, af, g⟩ K :=
 EOp.of_run fun I F a w ho hs => by
  have h2 := (ho.one (x := x) (by simp [Op.operands]) hx).raw_inv
  have hp := hs.pull hm
  obtain ⟨es, clk, seen, a1, a2, a3, a4, a5⟩ := hp.obj _ List.mem_cons_self
  have hjl := lt_of_get hp'
  have hj : es[j]? = some es[j] := Array.getElem?_eq_getElem (by omega)
  obtain ⟨k1, k2⟩ := a5 j p _ hp' hj
  have hback : seen.back? = some es[j].born := by
   have : seen = (vis.map fun i => ((es[i]?).map (·.born)).getD 0).toArray.push es[j].born := by
    apply Array.ext'
    rw [a4]; simp [hj]
   rw [this]; simp
  have hfind : es.find? (fun m => m.born == es[j].born) = some es[j] := by
   cases hf : es.find? (fun m => m.born == es[j].born) with
   | none =>
     have := Array.find?_eq_none.1 hf es[j] (Array.getElem_mem _)
     simp at this
   | some m =>
     have h1 := Array.find?_some hf
     have h3 := Array.mem_of_find?_eq_some hf
     obtain ⟨q, hq⟩ := Array.getElem?_of_mem h3
     have := a3.2.2 q j m _ hq hj (by simpa using h1)
     subst this
     rw [hj] at hq; exact hq.symm
  refine ⟨.tuple #[es[j].key, es[j].val], .tup [p.1, p.2], M, w, I, ?_, .refl I, hk, V.tup2 k1 k2, hs⟩
  have hgr : (getObj r).run P w = .ok (.mapIter (some b) clk seen clk) w := by simp [getObj, Sem.run, a2]
  have hgb : (getObj b).run P w = .ok (.map es clk) w := by simp [getObj, Sem.run, a1]
  simp only [execOp, h2, Instr.entry, Sem.run_bind, hgr, Result.andThen_ok, hback, hgb, bne_self_eq_false, Bool.false_eq_true, if_false, hfind, Sem.run_pure]
end
section
variable {κ : Type} [DecidableEq κ]
/-- With an entry for the key. -/
def kent (s : κ) (z : HVal) (ls : List (κ × HVal)) : List (κ × HVal) := match kidx s ls with | some _ => ls | none => ls ++ [(s, z)]
theorem kidx_snoc {s : κ} {z : HVal} : ∀ {ls : List (κ × HVal)}, kidx s ls = none → kidx s (ls ++ [(s, z)]) = some ls.length
 | [], _ => by simp [kidx]
 | p :: r, h => by
   simp only [kidx] at h
   by_cases e : s = p.1
   ·rw [if_pos e] at h; simp at h
   ·rw [if_neg e] at h
    have hr : kidx s r = none := by cases hq : kidx s r with | none => rfl | some j => rw [hq] at h; simp at h
    simp only [List.cons_append, kidx, if_neg e, kidx_snoc hr]; simp
theorem kput_kent (s : κ) (z h : HVal) (ls : List (κ × HVal)) : kput s h (kent s z ls) = kput s h ls := by
 unfold kent
 cases hq : kidx s ls with
 | some j => rfl
 | none =>
   simp only
   rw [(kidx_some (kidx_snoc (z := z) hq)).choose_spec.2.2 h, (kidx_none hq).2 h]
   simp
theorem klk_kent {s : κ} {z : HVal} (ls : List (κ × HVal)) : (klk s (kent s z ls)).getD z = (klk s ls).getD z := by
 unfold kent
 cases hq : kidx s ls with
 | some j => rfl
 | none =>
   obtain ⟨h, h1, h2, _⟩ := kidx_some (kidx_snoc (z := z) hq)
   simp only
   rw [h2, (kidx_none hq).1]
   simp at h1; simp [h1]
variable {P : Program} {kt : TypeId} {ek : κ → HVal} {e : Env} {dst : Option Tmp} {ty : TypeId} {pos : String} {af : Array Edge} {g : Option (Nat × Bool)} {M : List MObj} {K : HVal → List MObj → Prop}
theorem eop_mapEntry [Tracks] {x y : Operand} {t et : TypeId} {size bytes s3 b3 : Nat} {zero z3 : Value} {d : TD} {i b : Nat} {ls : List (κ × HVal)} {s : κ}
 (hf : Fits P t (.map kt et) size bytes zero) (ok : KeyOk P kt ek) (het : Fits P et d s3 b3 z3) (hx : evalO e x = some (.raw (.map (some b)))) (hy : evalO e y = some (ek s)) (hm : M[i]? = some (.map b (kk ek ls)))
 (hk : ∀ (j st : Nat), kidx s (kent s (ofVal z3) ls) = some j → K (.tup [(klk s ls).getD (ofVal z3), .int .i64 (st : Int)]) (M.set i (.mape b (kk ek (kent s (ofVal z3) ls)) j st))) : EOp P e M ⟨dst, .mapEntry t x y, ty, pos, af, g⟩ K :=
 EOp.of_run fun I F a w ho hs => by
  have h1 := (ho.one (x := x) (by simp [Op.operands]) hx).raw_inv
  have h2 := ho.one (x := y) (by simp [Op.operands]) hy
  have hp := hs.pull hm
  obtain ⟨es, clk, h3, h4, h5⟩ := hp.obj _ List.mem_cons_self
  obtain ⟨h6, h7⟩ := kk_ent h4.1 h5
  obtain ⟨n1, n2⟩ := run_find ok h2 w es.toList ls 0 h6 h7
  have hfk := ok.run_key h2 w es.toList ls h6 h7
  have hlt : b < w.heap.size := by
   rcases Nat.lt_or_ge b w.heap.size with h' | h'
   ·exact h'
   ·simp [Array.getElem?_eq_none h'] at h3
  have hsz : es.size = ls.length := by simpa using h6
  have fin : ∀ (ls' : List (κ × HVal)) (es' : Array MapEntry) (clk' j st : Nat), es'.size = (kk ek ls').length ∧ BornOk es' clk' →
   (∀ (i : Nat) (p : HVal × HVal) (m : MapEntry), (kk ek ls')[i]? = some p → es'[i]? = some m → V I p.1 m.key ∧ V I p.2 m.val) → (∃ m, es'[j]? = some m ∧ m.born = st) →
   Sat P I (M.set i (.mape b (kk ek ls') j st) ++ F) { w with heap := w.heap.setIfInBounds b (.map es' clk') } := fun ls' es' clk' j st e1 e2 e3 => by
   refine Sat.unpull hm (hp.change (m' := .mape b (kk ek ls') j st) (fun k hk hnk => ?_) (fun k hk => .inl hk) (by simp [MObj.blocks]) ⟨es', clk', by simp [hlt], e1, e2, e3⟩ rfl rfl rfl)
   have : k ≠ b := by simpa [MObj.blocks] using hnk
   simp [Array.getElem?_setIfInBounds_ne (Ne.symm this)]
  cases hq : kidx s ls with
  | none =>
    have hke : kent s (ofVal z3) ls = ls ++ [(s, ofVal z3)] := by simp [kent, hq]
    have hki := kidx_snoc (z := ofVal z3) hq
    have hlk := (kidx_none hq).1
    refine ⟨.tuple #[z3, .int .i64 clk], _, _, _, I, ?_, .refl I, hk ls.length clk (by rw [hke]; exact hki), by rw [hlk]; exact V.tup2 (V_ofVal I z3) (.int _ _),
     fin _ (es.push ⟨a.eval y, z3, clk⟩) (clk + 1) _ _ ⟨by rw [hke]; simp [kk, hsz], h4.2.push rfl⟩ (fun j p m a1 a2 => ?_) ⟨⟨a.eval y, z3, clk⟩, by rw [← hsz]; simp, rfl⟩⟩
    ·simp only [execOp, h1, Instr.mapEntry, Sem.run_bind, run_underlying hf.mapD, Result.andThen_ok, run_getMap h3, ok.check I s _ _ w h2, hfk, n1 hq, Sem.run_pure, run_setMap h3, het.run_zero, goInt]
    ·rw [hke] at a1
     simp only [kk, List.map_append, List.map_cons, List.map_nil] at a1
     by_cases hj : j < ls.length
     ·rw [List.getElem?_append_left (by simpa using hj)] at a1
      rw [Array.getElem?_push, if_neg (by omega)] at a2
      exact h5 j p m (by simpa [kk] using a1) a2
     ·rw [List.getElem?_append_right (by simp; omega)] at a1
      rw [Array.getElem?_push] at a2
      by_cases hje : j = es.size
      ·rw [if_pos hje] at a2
       simp at a2
       subst a2
       have : j - (ls.map fun p => (ek p.1, p.2)).length = 0 := by simp; omega
       rw [this] at a1
       simp at a1
       subst a1
       exact ⟨h2, V_ofVal I z3⟩
      ·rw [if_neg hje, Array.getElem?_eq_none (by omega)] at a2
       cases a2
  | some j0 =>
    obtain ⟨m0, h', g1, g2, g3, g4⟩ := n2 j0 hq
    obtain ⟨h'', g5, g6, _⟩ := kidx_some hq
    rw [g5] at g2; cases g2
    have hke : kent s (ofVal z3) ls = ls := by simp [kent, hq]
    have hm0 : es[j0]? = some m0 := by simpa using g1
    have hkey : V I (ek s) m0.key := (h7 j0 _ m0 g5 g1).1
    refine ⟨.tuple #[m0.val, .int .i64 m0.born], _, _, _, I, ?_, .refl I, hk j0 m0.born (by rw [hke]; exact hq), by rw [g6]; exact V.tup2 g3 (.int _ _),
     fin _ (es.modify j0 fun e => { e with key := a.eval y }) clk _ _ ⟨by rw [hke]; simp [kk, hsz], h4.2.modify _ fun _ => rfl⟩ (fun j p m a1 a2 => ?_) ⟨{ m0 with key := a.eval y }, by rw [Array.getElem?_modify, if_pos rfl, hm0]; rfl, rfl⟩⟩
    ·have hstay : (Instr.keyThatStays m0.key (a.eval y)).run P w = .ok (a.eval y) w := by
      simp only [Instr.keyThatStays]
      rw [if_pos (ok.same I s _ _ hkey h2)]; rfl
     simp only [execOp, h1, Instr.mapEntry, Sem.run_bind, run_underlying hf.mapD, Result.andThen_ok, run_getMap h3, ok.check I s _ _ w h2, hfk, g4, Sem.run_pure, Nat.zero_add, hstay, run_setMap h3, goInt, hm0, Option.map_some, Option.getD_some]
    ·rw [hke] at a1
     rw [Array.getElem?_modify] at a2
     by_cases hj : j0 = j
     ·subst hj
      rw [if_pos rfl, hm0] at a2
      simp at a2
      subst a2
      have := h5 j0 p m0 a1 hm0
      simp only [kk, List.getElem?_map, g5, Option.map_some, Option.some.injEq] at a1
      subst a1
      exact ⟨h2, this.2⟩
     ·rw [if_neg hj] at a2
      exact h5 j p m a1 a2
theorem eop_entryStore [Tracks] {x y z : Operand} {t : TypeId} {i b j st : Nat} {ls : List (κ × HVal)} {s : κ} {h : HVal}
 (hx : evalO e x = some (.raw (.map (some b)))) (hy : evalO e y = some (.int .i64 (st : Int))) (hz : evalO e z = some h) (hm : M[i]? = some (.mape b (kk ek ls) j st)) (hj : kidx s ls = some j)
 (hk : K .junk (M.set i (.map b (kk ek (kput s h ls))))) : EOp P e M ⟨dst, .entryStore t x y z, ty, pos, af, g⟩ K :=
 EOp.of_skip fun I F a w ho hs => by
  have h1 := (ho.one (x := x) (by simp [Op.operands]) hx).raw_inv
  have h2 := (ho.one (x := y) (by simp [Op.operands]) hy).int_inv
  have h0 := ho.one (x := z) (by simp [Op.operands]) hz
  have hp := hs.pull hm
  obtain ⟨es, clk, h3, h4, h5, m0, h6, h7⟩ := hp.obj _ List.mem_cons_self
  have hlt : b < w.heap.size := by
   rcases Nat.lt_or_ge b w.heap.size with h' | h'
   ·exact h'
   ·simp [Array.getElem?_eq_none h'] at h3
  obtain ⟨h', g1, _, g2⟩ := kidx_some hj
  have hjl : j < es.size := by
   rcases Nat.lt_or_ge j es.size with h' | h'
   ·exact h'
   ·simp [Array.getElem?_eq_none h'] at h6
  have hfi : es.findIdx? (fun m => (m.born : Int) == (st : Int)) = some j := by
   rw [Array.findIdx?_eq_some_iff_getElem]
   refine ⟨hjl, ?_, fun q hq => ?_⟩
   ·rw [Array.getElem?_eq_getElem hjl] at h6
    have := Option.some.inj h6
    rw [this]; simp [h7]
   ·intro hc
    have hq2 := Array.getElem?_eq_getElem (xs := es) (i := q) (by omega)
    have := h4.2.2 q j _ m0 hq2 h6 (by have h8 : ((es[q].born : Nat) : Int) = (st : Int) := (by simpa using hc); omega)
    omega
  refine ⟨_, { w with heap := w.heap.setIfInBounds b (.map (es.modify j fun e => { e with val := a.eval z }) clk) }, I, ?_, .refl I, hk, ?_⟩
  ·simp only [execOp, h1, h2, Instr.entryStore, Sem.run_bind, run_getMap h3, Result.andThen_ok, asInt, asIntOf, Sem.run_pure, hfi, run_setMap h3]
  ·refine Sat.unpull hm (hp.change (m' := .map b (kk ek (kput s h ls))) (fun k hk hnk => ?_) (fun k hk => .inl hk) (by simp [MObj.blocks]) ⟨es.modify j fun e => { e with val := a.eval z }, clk, by simp [hlt], ⟨by rw [g2]; simp [kk]; simpa [kk] using h4.1, h4.2.modify _ fun _ => rfl⟩, fun q p m a1 a2 => ?_⟩ rfl rfl rfl)
   ·have : k ≠ b := by simpa [MObj.blocks] using hnk
    simp [Array.getElem?_setIfInBounds_ne (Ne.symm this)]
   ·rw [g2] at a1
    simp only [kk] at a1
    rw [Array.getElem?_modify] at a2
    rw [List.getElem?_map, List.getElem?_set] at a1
    by_cases hjq : j = q
    ·subst hjq
     have hl := lt_of_get g1
     rw [if_pos rfl, h6] at a2
     rw [if_pos rfl, if_pos hl] at a1
     simp at a1 a2
     subst a1 a2
     exact ⟨(h5 j (ek s, h') m0 (by simp [kk, g1]) h6).1, h0⟩
    ·rw [if_neg hjq] at a1 a2
     exact h5 q p m (by simp only [kk, List.getElem?_map]; exact a1) a2
end
end Go.HL
end
section
namespace Go.HL
section
variable {κ : Type} [DecidableEq κ] {α : Type}
def alk (x : κ) : List (κ × α) → Option α
 | [] => none
 | p :: r => if x = p.1 then some p.2 else alk x r
def aput (x : κ) (v : α) : List (κ × α) → List (κ × α)
 | [] => [(x, v)]
 | p :: r => if x = p.1 then (x, v) :: r else p :: aput x v r
abbrev em (f : α → HVal) (L : List (κ × α)) : List (κ × HVal) := L.map fun p => (p.1, f p.2)
theorem klk_em (f : α → HVal) (x : κ) : ∀ L : List (κ × α), klk x (em f L) = (alk x L).map f
 | [] => rfl
 | p :: r => by
   have ih := klk_em f x r
   simp only [List.map_cons, klk, alk] at ih ⊢
   by_cases h : x = p.1
   ·rw [if_pos h, if_pos h]; rfl
   ·rw [if_neg h, if_neg h]; exact ih
theorem kput_em (f : α → HVal) (x : κ) (v : α) : ∀ L : List (κ × α), kput x (f v) (em f L) = em f (aput x v L)
 | [] => rfl
 | p :: r => by
   have ih := kput_em f x v r
   simp only [List.map_cons, kput, aput] at ih ⊢
   by_cases h : x = p.1
   ·rw [if_pos h, if_pos h]; rfl
   ·rw [if_neg h, if_neg h, ih]; rfl
theorem alk_put (x y : κ) (v : α) : ∀ (l : List (κ × α)), alk y (aput x v l) = if y = x then some v else alk y l
 | [] => by simp [aput, alk]
 | p :: r => by
   have ih := alk_put x y v r
   simp only [aput]
   by_cases h : x = p.1
   ·subst h
    rw [if_pos rfl]; simp only [alk]
    by_cases hy : y = p.1
    ·rw [if_pos hy, if_pos hy]
    ·rw [if_neg hy, if_neg hy, if_neg hy]
   ·rw [if_neg h]; simp only [alk]
    by_cases hy : y = p.1
    ·have : ¬ y = x := fun e => h (e ▸ hy)
     rw [if_pos hy, if_neg this, if_pos hy]
    ·rw [if_neg hy, ih, if_neg hy]
theorem alk_none {x : κ} : ∀ {l : List (κ × α)}, alk x l = none ↔ x ∉ l.map (·.1)
 | [] => by simp [alk]
 | p :: r => by
   have ih := alk_none (x := x) (l := r)
   simp only [alk, List.map_cons, List.mem_cons, not_or]
   by_cases h : x = p.1
   ·rw [if_pos h]; simp [h]
   ·rw [if_neg h, ih]; simp [h]
theorem aput_new {x : κ} {v : α} : ∀ {l : List (κ × α)}, alk x l = none → aput x v l = l ++ [(x, v)]
 | [], _ => rfl
 | p :: r, h => by
   simp only [alk] at h
   by_cases hx : x = p.1
   ·rw [if_pos hx] at h; cases h
   ·rw [if_neg hx] at h
    simp only [aput, if_neg hx, List.cons_append, aput_new h]
theorem aput_keys {x y : κ} {v : α} : ∀ {l : List (κ × α)}, y ∈ (aput x v l).map (·.1) ↔ y = x ∨ y ∈ l.map (·.1)
 | [] => by simp [aput]
 | p :: r => by
   have ih := aput_keys (x := x) (y := y) (v := v) (l := r)
   simp only [aput]
   by_cases h : x = p.1
   ·subst h; rw [if_pos rfl]; simp
   ·rw [if_neg h]; simp only [List.map_cons, List.mem_cons, ih]
    constructor
    ·rintro (h | h | h)
     ·exact .inr (.inl h)
     ·exact .inl h
     ·exact .inr (.inr h)
    ·rintro (h | h | h)
     ·exact .inr (.inl h)
     ·exact .inl h
     ·exact .inr (.inr h)
def ANodup (l : List (κ × α)) : Prop := (l.map (·.1)).Nodup
theorem ANodup.nil {A B : Type} : ANodup ([] : List (A × B)) := List.nodup_nil
theorem ANodup.put {x : κ} {v : α} : ∀ {l : List (κ × α)}, ANodup l → ANodup (aput x v l)
 | [], _ => by simp [ANodup, aput]
 | p :: r, hn => by
   have h1 := (List.nodup_cons.1 hn)
   by_cases h : x = p.1
   ·subst h
    have e : aput p.1 v (p :: r) = (p.1, v) :: r := by simp [aput]
    rw [e]; exact List.nodup_cons.2 h1
   ·have e : aput x v (p :: r) = p :: aput x v r := by simp [aput, h]
    rw [e]
    refine List.nodup_cons.2 ⟨fun hm => ?_, ANodup.put (l := r) h1.2⟩
    rcases aput_keys.1 hm with e | e
    ·exact h e.symm
    ·exact h1.1 e
theorem alk_mem {x : κ} {v : α} : ∀ {l : List (κ × α)}, ANodup l → ((x, v) ∈ l ↔ alk x l = some v)
 | [], _ => by simp [alk]
 | p :: r, hn => by
   have h1 := (List.nodup_cons.1 hn)
   have ih := alk_mem (x := x) (v := v) (l := r) h1.2
   simp only [List.mem_cons, alk]
   by_cases h : x = p.1
   ·subst h
    rw [if_pos rfl]
    constructor
    ·rintro (h | h)
     ·rw [← h]
     ·exact absurd (List.mem_map_of_mem (f := (·.1)) h) h1.1
    ·intro h; left; simp at h; rw [← h]
   ·rw [if_neg h, ← ih]
    constructor
    ·rintro (h' | h')
     ·exact absurd (by rw [← h']) h
     ·exact h'
    ·exact .inr
theorem alk_of_mem {x : κ} {v : α} : ∀ {l : List (κ × α)}, alk x l = some v → (x, v) ∈ l
 | [], h => by simp [alk] at h
 | p :: r, h => by
   simp only [alk] at h
   by_cases hx : x = p.1
   ·rw [if_pos hx] at h; cases h; rw [hx]; exact List.mem_cons_self
   ·rw [if_neg hx] at h; exact List.mem_cons_of_mem _ (alk_of_mem h)
theorem aput_len (x : κ) (v : α) : ∀ (l : List (κ × α)), (aput x v l).length = if (alk x l).isSome then l.length else l.length + 1
 | [] => by simp [aput, alk]
 | p :: r => by
   have ih := aput_len x v r
   by_cases h : x = p.1
   ·have e1 : aput x v (p :: r) = (x, v) :: r := by simp [aput, h]
    have e2 : alk x (p :: r) = some p.2 := by simp [alk, h]
    rw [e1, e2]; simp
   ·have e1 : aput x v (p :: r) = p :: aput x v r := by simp [aput, h]
    have e2 : alk x (p :: r) = alk x r := by simp [alk, h]
    rw [e1, e2, List.length_cons, ih]; split <;> simp
theorem aput_le (x : κ) (v : α) (l : List (κ × α)) : (aput x v l).length ≤ l.length + 1 := by rw [aput_len]; split <;> omega
theorem mem_aput {x : κ} {v : α} {p : κ × α} : ∀ {l : List (κ × α)}, p ∈ aput x v l → p = (x, v) ∨ p ∈ l
 | [], hp => by simp [aput] at hp; exact .inl hp
 | q :: r, hp => by
   simp only [aput] at hp
   by_cases h : x = q.1
   ·rw [if_pos h] at hp
    rcases List.mem_cons.1 hp with e | e
    ·exact .inl e
    ·exact .inr (List.mem_cons_of_mem _ e)
   ·rw [if_neg h] at hp
    rcases List.mem_cons.1 hp with e | e
    ·exact .inr (e ▸ List.mem_cons_self)
    ·rcases mem_aput e with e | e
     ·exact .inl e
     ·exact .inr (List.mem_cons_of_mem _ e)
theorem sfind_em (f : α → HVal) (s : Str) : ∀ L : List (Str × α), (sfind s (em f L)).map (·.2) = (alk s L).map f
 | [] => rfl
 | p :: r => by
   have ih := sfind_em f s r
   obtain ⟨k, v⟩ := p
   simp only [List.map_cons, sfind, alk] at ih ⊢
   by_cases h : s = k
   ·rw [if_pos h, if_pos h]; rfl
   ·rw [if_neg h, if_neg h, ← ih]; cases sfind s (r.map fun p => (p.1, f p.2)) <;> rfl
theorem sput_em (f : α → HVal) (s : Str) (v : α) : ∀ L : List (Str × α), sput s (f v) (em f L) = em f (aput s v L)
 | [] => rfl
 | p :: r => by
   have ih := sput_em f s v r
   obtain ⟨k, u⟩ := p
   simp only [sput, List.map_cons, sfind, aput] at ih ⊢
   by_cases h : s = k
   ·subst h; rw [if_pos rfl, if_pos rfl]; rfl
   ·rw [if_neg h, if_neg h]
    cases hq : sfind s (r.map fun p => (p.1, f p.2)) with
    | none => rw [hq] at ih; simp only [Option.map_none, List.cons_append, List.map_cons, ← ih]
    | some q => rw [hq] at ih; simp only [Option.map_some, List.set_cons_succ, List.map_cons, ← ih]
end
section
variable {κ : Type} [DecidableEq κ] {α : Type}
variable {P : Program} {e : Env} {dst : Option Tmp} {ty : TypeId} {pos : String} {af : Array Edge} {g : Option (Nat × Bool)} {M : List MObj} {K : HVal → List MObj → Prop}
theorem getD_f {f : α → HVal} {o : Option α} {z0 : α} : f (o.getD z0) = (o.map f).getD (f z0) := by cases o <;> rfl
theorem eop_lookupA [Tracks] {x y : Operand} {t kt et : TypeId} {size bytes s2 b2 s3 b3 : Nat} {zero z2 z3 : Value} {d : TD} {i b : Nat} {f : α → HVal} {L : List (Str × α)} {s : Str} {z0 : α}
 (hf : Fits P t (.map kt et) size bytes zero) (hkt : Fits P kt .str s2 b2 z2) (het : Fits P et d s3 b3 z3) (hx : evalO e x = some (.raw (.map (some b)))) (hy : evalO e y = some (.str s)) (hm : M[i]? = some (.map b (sk (em f L)))) (hz : ofVal z3 = f z0)
 (hk : K (f ((alk s L).getD z0)) M) : EOp P e M ⟨dst, .lookup t x y false, ty, pos, af, g⟩ K := by
 refine eop_lookup hf hkt het hx hy hm ?_
 rw [getD_f (f := f), ← sfind_em, ← hz] at hk
 cases h : sfind s (em f L) with
 | none => rw [h] at hk; exact hk
 | some p => rw [h] at hk; exact hk
theorem eop_lookup2A [Tracks] {x y : Operand} {t kt et : TypeId} {size bytes s2 b2 s3 b3 : Nat} {zero z2 z3 : Value} {d : TD} {i b : Nat} {f : α → HVal} {L : List (Str × α)} {s : Str} {z0 : α}
 (hf : Fits P t (.map kt et) size bytes zero) (hkt : Fits P kt .str s2 b2 z2) (het : Fits P et d s3 b3 z3) (hx : evalO e x = some (.raw (.map (some b)))) (hy : evalO e y = some (.str s)) (hm : M[i]? = some (.map b (sk (em f L)))) (hz : ofVal z3 = f z0)
 (hk : K (.tup [f ((alk s L).getD z0), .bool (alk s L).isSome]) M) : EOp P e M ⟨dst, .lookup t x y true, ty, pos, af, g⟩ K := by
 refine eop_lookup2 hf hkt het hx hy hm ?_
 have h1 : (alk s L).isSome = ((alk s L).map f).isSome := by cases alk s L <;> rfl
 rw [getD_f (f := f), h1, ← sfind_em, ← hz] at hk
 cases h : sfind s (em f L) with
 | none => rw [h] at hk; exact hk
 | some p => rw [h] at hk; exact hk
theorem eop_updateA [Tracks] {x y z : Operand} {t kt et : TypeId} {size bytes s2 b2 : Nat} {zero z2 : Value} {i b : Nat} {f : α → HVal} {L : List (Str × α)} {s : Str} {v : α}
 (hf : Fits P t (.map kt et) size bytes zero) (hkt : Fits P kt .str s2 b2 z2) (hx : evalO e x = some (.raw (.map (some b)))) (hy : evalO e y = some (.str s)) (hz : evalO e z = some (f v)) (hm : M[i]? = some (.map b (sk (em f L))))
 (hk : K .junk (M.set i (.map b (sk (em f (aput s v L)))))) : EOp P e M ⟨dst, .mapUpdate t x y z, ty, pos, af, g⟩ K := by
 refine eop_mapUpdate hf hkt hx hy hz hm ?_
 rw [sput_em]; exact hk
variable {kt : TypeId} {ek : κ → HVal}
theorem eop_lookupkA [Tracks] {x y : Operand} {t et : TypeId} {size bytes s3 b3 : Nat} {zero z3 : Value} {d : TD} {i b : Nat} {f : α → HVal} {L : List (κ × α)} {s : κ} {z0 : α}
 (hf : Fits P t (.map kt et) size bytes zero) (ok : KeyOk P kt ek) (het : Fits P et d s3 b3 z3) (hx : evalO e x = some (.raw (.map (some b)))) (hy : evalO e y = some (ek s)) (hm : M[i]? = some (.map b (kk ek (em f L)))) (hz : ofVal z3 = f z0)
 (hk : K (f ((alk s L).getD z0)) M) : EOp P e M ⟨dst, .lookup t x y false, ty, pos, af, g⟩ K := by
 refine eop_lookupk hf ok het hx hy hm ?_
 rw [getD_f (f := f), ← hz] at hk
 rw [klk_em]; exact hk
theorem eop_lookupk2A [Tracks] {x y : Operand} {t et : TypeId} {size bytes s3 b3 : Nat} {zero z3 : Value} {d : TD} {i b : Nat} {f : α → HVal} {L : List (κ × α)} {s : κ} {z0 : α}
 (hf : Fits P t (.map kt et) size bytes zero) (ok : KeyOk P kt ek) (het : Fits P et d s3 b3 z3) (hx : evalO e x = some (.raw (.map (some b)))) (hy : evalO e y = some (ek s)) (hm : M[i]? = some (.map b (kk ek (em f L)))) (hz : ofVal z3 = f z0)
 (hk : K (.tup [f ((alk s L).getD z0), .bool (alk s L).isSome]) M) : EOp P e M ⟨dst, .lookup t x y true, ty, pos, af, g⟩ K := by
 refine eop_lookupk2 hf ok het hx hy hm ?_
 have h1 : ((alk s L).map f).isSome = (alk s L).isSome := by cases alk s L <;> rfl
 rw [getD_f (f := f), ← hz] at hk
 rw [klk_em, h1]; exact hk
theorem eop_lookupke [Tracks] {x y : Operand} {t et : TypeId} {size bytes s3 b3 : Nat} {zero z3 : Value} {d : TD} {i b j st : Nat} {f : α → HVal} {L : List (κ × α)} {s : κ} {z0 : α}
 (hf : Fits P t (.map kt et) size bytes zero) (ok : KeyOk P kt ek) (het : Fits P et d s3 b3 z3) (hx : evalO e x = some (.raw (.map (some b)))) (hy : evalO e y = some (ek s)) (hm : M[i]? = some (.mape b (kk ek (kent s (f z0) (em f L))) j st)) (hz : ofVal z3 = f z0)
 (hk : K (f ((alk s L).getD z0)) M) : EOp P e M ⟨dst, .lookup t x y false, ty, pos, af, g⟩ K := by
 have h0 : f ((alk s L).getD z0) = (klk s (kent s (f z0) (em f L))).getD (ofVal z3) := by rw [hz, klk_kent, klk_em, getD_f (f := f)]
 rw [h0] at hk
 generalize kent s (f z0) (em f L) = ls at hm hk
 exact EOp.of_run fun I F a w ho hs => by
  have h1 := (ho.one (x := x) (by simp [Op.operands]) hx).raw_inv
  have h2 := ho.one (x := y) (by simp [Op.operands]) hy
  obtain ⟨es, clk, h3, h4, h5, _⟩ := hs.obj _ (List.mem_append_left _ (List.mem_of_getElem? hm))
  obtain ⟨h6, h7⟩ := kk_ent h4.1 h5
  obtain ⟨n1, n2⟩ := run_find ok h2 w es.toList ls 0 h6 h7
  have hfk := ok.run_key h2 w es.toList ls h6 h7
  cases hq : kidx s ls with
  | none =>
    rw [(kidx_none hq).1] at hk
    refine ⟨z3, _, M, w, I, ?_, .refl I, hk, V_ofVal I z3, hs⟩
    simp only [execOp, h1, Instr.lookup, Sem.run_bind, run_underlying hf.mapD, Result.andThen_ok, run_getMap h3, Sem.run_pure, ok.check I s _ _ w h2, hfk, n1 hq, het.run_zero]
    simp
  | some j' =>
    obtain ⟨m, h, g1, g2, g3, g4⟩ := n2 j' hq
    obtain ⟨h', g5, g6, _⟩ := kidx_some hq
    rw [g5] at g2; cases g2
    rw [g6] at hk
    refine ⟨m.val, _, M, w, I, ?_, .refl I, hk, g3, hs⟩
    simp only [execOp, h1, Instr.lookup, Sem.run_bind, run_underlying hf.mapD, Result.andThen_ok, run_getMap h3, Sem.run_pure, ok.check I s _ _ w h2, hfk, g4]
    simp
theorem eop_updatekA [Tracks] {x y z : Operand} {t et : TypeId} {size bytes : Nat} {zero : Value} {i b : Nat} {f : α → HVal} {L : List (κ × α)} {s : κ} {v : α}
 (hf : Fits P t (.map kt et) size bytes zero) (ok : KeyOk P kt ek) (hx : evalO e x = some (.raw (.map (some b)))) (hy : evalO e y = some (ek s)) (hz : evalO e z = some (f v)) (hm : M[i]? = some (.map b (kk ek (em f L))))
 (hk : K .junk (M.set i (.map b (kk ek (em f (aput s v L)))))) : EOp P e M ⟨dst, .mapUpdate t x y z, ty, pos, af, g⟩ K := by
 refine eop_updatek hf ok hx hy hz hm ?_
 rw [kput_em]; exact hk
theorem eop_mapEntryA [Tracks] {x y : Operand} {t et : TypeId} {size bytes s3 b3 : Nat} {zero z3 : Value} {d : TD} {i b : Nat} {f : α → HVal} {L : List (κ × α)} {s : κ} {z0 : α}
 (hf : Fits P t (.map kt et) size bytes zero) (ok : KeyOk P kt ek) (het : Fits P et d s3 b3 z3) (hx : evalO e x = some (.raw (.map (some b)))) (hy : evalO e y = some (ek s)) (hm : M[i]? = some (.map b (kk ek (em f L)))) (hz : ofVal z3 = f z0)
 (hk : ∀ (j st : Nat), kidx s (kent s (f z0) (em f L)) = some j → K (.tup [f ((alk s L).getD z0), .int .i64 (st : Int)]) (M.set i (.mape b (kk ek (kent s (f z0) (em f L))) j st))) : EOp P e M ⟨dst, .mapEntry t x y, ty, pos, af, g⟩ K := by
 refine eop_mapEntry hf ok het hx hy hm ?_
 rw [hz]
 have h1 : (klk s (em f L)).getD (f z0) = f ((alk s L).getD z0) := by rw [klk_em]; cases alk s L <;> rfl
 rw [h1]; exact hk
theorem eop_entryStoreA [Tracks] {x y z : Operand} {t : TypeId} {i b j st : Nat} {f : α → HVal} {L : List (κ × α)} {s : κ} {z0 v : α}
 (hx : evalO e x = some (.raw (.map (some b)))) (hy : evalO e y = some (.int .i64 (st : Int))) (hz : evalO e z = some (f v)) (hm : M[i]? = some (.mape b (kk ek (kent s (f z0) (em f L))) j st)) (hj : kidx s (kent s (f z0) (em f L)) = some j)
 (hk : K .junk (M.set i (.map b (kk ek (em f (aput s v L)))))) : EOp P e M ⟨dst, .entryStore t x y z, ty, pos, af, g⟩ K := by
 refine eop_entryStore hx hy hz hm hj ?_
 rw [kput_kent, kput_em]; exact hk
/-- How many entries. -/
theorem eop_maplen [Tracks] {x : Operand} {t kt' et : TypeId} {size bytes : Nat} {zero : Value} {i b : Nat} {l : List (HVal × HVal)} (hf : Fits P t (.map kt' et) size bytes zero) (hx : evalO e x = some (.raw (.map (some b)))) (hm : M[i]? = some (.map b l))
 (hk : K (.int .i64 (l.length : Int)) M) : EOp P e M ⟨dst, .call ⟨.builtin .len, #[x], #[t]⟩, ty, pos, af, g⟩ K :=
 EOp.of_run fun I F a w ho hs => by
  have h1 := (ho.one (x := x) (by simp [Op.operands, Call.operands]) hx).raw_inv
  obtain ⟨es, clk, h3, h4, h5⟩ := hs.obj _ (List.mem_append_left _ (List.mem_of_getElem? hm))
  exact ⟨.int .i64 (es.size : Int), _, M, w, I, by rw [run_len (ats := #[])]; simp [h1, Builtin.len_, run_underlying hf.mapD, run_getMap h3, goInt], .refl I, hk, by rw [h4.1]; exact .int _ _, hs⟩
end
end Go.HL
end
section
namespace Go.HL
theorem nodup_at {α : Type} {l : List α} (h : l.Nodup) {i j : Nat} {a : α} (hi : l[i]? = some a) (hj : l[j]? = some a) : i = j := by
 have key : ∀ (i j : Nat), i < j → l[i]? = some a → l[j]? = some a → False := fun i j hij h1 h2 => by
  have hi := lt_of_get h1
  have hj := lt_of_get h2
  rw [List.getElem?_eq_getElem hi] at h1
  rw [List.getElem?_eq_getElem hj] at h2
  exact List.pairwise_iff_getElem.1 h i j hi hj hij (Option.some.inj (h1.trans h2.symm))
 rcases Nat.lt_trichotomy i j with h' | h' | h'
 ·exact (key i j h' hi hj).elim
 ·exact h'
 ·exact (key j i h' hj hi).elim
/-! what a range has come to -/
structure VisOk {β : Type} (L : List β) (vis : List Nat) (E : List β) : Prop where
 nd : vis.Nodup
 lt : ∀ j ∈ vis, j < L.length
 eq : E.map some = vis.map fun j => L[j]?
theorem VisOk.nil {β : Type} (L : List β) : VisOk L [] [] := ⟨List.nodup_nil, (fun j h => by cases h), rfl⟩
theorem VisOk.step {β : Type} {L E : List β} {vis : List Nat} (h : VisOk L vis E) {j : Nat} {q : β} (hj : L[j]? = some q) (hn : j ∉ vis) : VisOk L (vis ++ [j]) (E ++ [q]) where
 nd := List.nodup_append.2 ⟨h.nd, by simp, fun a ha b hb => by simp at hb; subst hb; exact fun e => hn (e ▸ ha)⟩
 lt k hk := by
  rcases List.mem_append.1 hk with hk | hk
  ·exact h.lt k hk
  ·simp at hk; subst hk; exact lt_of_get hj
 eq := by simp only [List.map_append, h.eq, List.map_cons, List.map_nil, hj]
theorem VisOk.len {β : Type} {L E : List β} {vis : List Nat} (h : VisOk L vis E) : E.length = vis.length := by
 have := congrArg List.length h.eq; simpa using this
theorem VisOk.le {β : Type} {L E : List β} {vis : List Nat} (h : VisOk L vis E) : vis.length ≤ L.length := by
 have := nd_sub h.nd (m := List.range L.length) fun j hj => List.mem_range.2 (h.lt j hj)
 simpa using this
theorem VisOk.room {β : Type} {L E : List β} {vis : List Nat} (h : VisOk L vis E) {j : Nat} {q : β} (hj : L[j]? = some q) (hn : j ∉ vis) : vis.length < L.length := by
 have := (h.step hj hn).le
 rw [List.length_append] at this
 simp only [List.length_cons, List.length_nil] at this
 omega
theorem VisOk.done {β : Type} {L E : List β} {vis : List Nat} (h : VisOk L vis E) (hl : vis.length = L.length) : E.Perm L := by
 have hp : vis.Perm (List.range L.length) := by
  refine (List.perm_ext_iff_of_nodup h.nd List.nodup_range).2 fun a => ⟨fun ha => List.mem_range.2 (h.lt a ha), fun ha => ?_⟩
  refine Classical.byContradiction fun hna => ?_
  have h1 : (a :: vis).Nodup := List.nodup_cons.2 ⟨hna, h.nd⟩
  have h2 := nd_sub h1 (m := List.range L.length) fun j hj => by
   rcases List.mem_cons.1 hj with rfl | hj
   ·exact ha
   ·exact List.mem_range.2 (h.lt j hj)
  simp at h2; omega
 have h1 := hp.map fun j => L[j]?
 rw [← h.eq] at h1
 have h2 : ((List.range L.length).map fun j => L[j]?) = L.map some := by
  refine List.ext_getElem? fun i => ?_
  rw [List.getElem?_map, List.getElem?_map]
  rcases Nat.lt_or_ge i L.length with hi | hi
  ·rw [List.getElem?_range hi, List.getElem?_eq_getElem hi]; simp [hi]
  ·rw [List.getElem?_eq_none (by simpa using hi), List.getElem?_eq_none hi]; rfl
 rw [h2] at h1
 have h3 := h1.filterMap id
 have key : ∀ l : List β, (l.map some).filterMap id = l := fun l => by
  induction l with
  | nil => rfl
  | cons x l ih => simp [ih]
 rwa [key, key] at h3
def NextOk {β : Type} (L : List β) (vis : List Nat) (c : Bool) (vis' : List Nat) : Prop :=
 (c = false ∧ vis' = vis ∧ vis.length = L.length) ∨ (c = true ∧ ∃ j q, L[j]? = some q ∧ j ∉ vis ∧ vis' = vis ++ [j])
theorem NextOk.t {β : Type} {L : List β} {vis vis' : List Nat} {c : Bool} (h : NextOk L vis c vis') (hc : c = true) : ∃ j q, L[j]? = some q ∧ j ∉ vis ∧ vis' = vis ++ [j] := by
 rcases h with ⟨h, _⟩ | ⟨_, h⟩
 ·rw [hc] at h; cases h
 ·exact h
theorem NextOk.f {β : Type} {L : List β} {vis vis' : List Nat} {c : Bool} (h : NextOk L vis c vis') (hc : c = false) : vis' = vis ∧ vis.length = L.length := by
 rcases h with ⟨_, h⟩ | ⟨h, _⟩
 ·exact h
 ·rw [hc] at h; cases h
section
variable {P : Program} {e : Env} {dst : Option Tmp} {ty : TypeId} {pos : String} {af : Array Edge} {g : Option (Nat × Bool)} {M : List MObj} {K : HVal → List MObj → Prop}
theorem setM_self {α : Type} : ∀ {M : List α} {i : Nat} {m : α}, M[i]? = some m → M.set i m = M
 | [], i, m, h => by simp at h
 | x :: M, 0, m, h => by simp at h; simp [h]
 | x :: M, i + 1, m, h => by simp at h; simp [setM_self h]
theorem eop_nextA [Tracks] {β : Type} {L : List β} {enc : β → HVal × HVal} {x : Operand} {i r b : Nat} {l : List (HVal × HVal)} {vis : List Nat} (hx : evalO e x = some (.raw (.pointer (some ⟨r, 0, none⟩)))) (hm : M[i]? = some (.iter r b l vis)) (hL : l = L.map enc)
 (hv : vis.Nodup) (hvl : ∀ j ∈ vis, j < L.length) (hk : ∀ c R vis', NextOk L vis c vis' → K (.tup (.bool c :: R)) (M.set i (.iter r b l vis'))) : EOp P e M ⟨dst, .next x false, ty, pos, af, g⟩ K := by
 have hl : l.length = L.length := by rw [hL, List.length_map]
 refine eop_next hx hm hv (fun j hj => by rw [hl]; exact hvl j hj) (fun hlen => ?_) (fun j p hj hn => ?_)
 ·have := hk false [] vis (.inl ⟨rfl, rfl, by rw [hlen, hl]⟩)
  rw [setM_self hm] at this
  exact this
 ·rw [hL, List.getElem?_map] at hj
  cases hq : L[j]? with
  | none => rw [hq] at hj; cases hj
  | some q => exact hk true [p.1, p.2] (vis ++ [j]) (.inr ⟨rfl, j, q, hq, hn, rfl⟩)
theorem eop_entryA [Tracks] {β : Type} {L : List β} {enc : β → HVal × HVal} {x : Operand} {i r b j : Nat} {l : List (HVal × HVal)} {vis : List Nat} {q : β} (hx : evalO e x = some (.raw (.pointer (some ⟨r, 0, none⟩)))) (hm : M[i]? = some (.iter r b l (vis ++ [j]))) (hL : l = L.map enc) (hq : L[j]? = some q)
 (hk : K (.tup [(enc q).1, (enc q).2]) M) : EOp P e M ⟨dst, .entry x, ty, pos, af, g⟩ K :=
 eop_entry hx hm (p := enc q) (by rw [hL, List.getElem?_map, hq]; rfl) hk
theorem sk_em {α : Type} (f : α → HVal) (L : List (Str × α)) : sk (em f L) = L.map fun p => (.str p.1, f p.2) := by simp [sk]
theorem kk_em {κ α : Type} [DecidableEq κ] (ek : κ → HVal) (f : α → HVal) (L : List (κ × α)) : kk ek (em f L) = L.map fun p => (ek p.1, f p.2) := by simp [kk]
end
theorem perm3 {α : Type} {a b c d : α} {X : List α} : (a :: b :: c :: d :: X).Perm (a :: d :: c :: b :: X) :=
 List.Perm.cons a (((List.Perm.swap c b (d :: X)).trans ((List.Perm.swap d b X).cons c)).trans (((List.Perm.swap d c (b :: X)))))
/-! maps whose values are owned slices -/
section
variable {β : Type}
abbrev Grp (β : Type) := List (Str × (Value × List β))
abbrev fG {β : Type} (q : Value × List β) : HVal := .raw q.1
abbrev gZ (β : Type) : Value × List β := (.slice none 0 0, [])
def gV (s : Str) (G : Grp β) : Value := ((alk s G).getD (gZ β)).1
def gL (s : Str) (G : Grp β) : List β := ((alk s G).getD (gZ β)).2
def grp (sz : Nat) (e : β → HVal) (G : Grp β) : List MObj := G.map fun p => .arr p.2.1 sz (p.2.2.map e)
theorem alk_idx {κ α : Type} [DecidableEq κ] {s : κ} {v : α} : ∀ {G : List (κ × α)}, alk s G = some v → ∃ n, G[n]? = some (s, v) ∧ ∀ u, aput s u G = G.set n (s, u)
 | [], h => by simp [alk] at h
 | p :: r, h => by
   simp only [alk] at h
   by_cases hs : s = p.1
   ·rw [if_pos hs] at h
    simp only [Option.some.injEq] at h
    subst h
    exact ⟨0, by simp [hs], fun u => by simp [aput, hs]⟩
   ·rw [if_neg hs] at h
    obtain ⟨n, h1, h2⟩ := alk_idx h
    exact ⟨n + 1, by simpa using h1, fun u => by simp [aput, hs, h2]⟩
theorem alk_filter {κ α : Type} [DecidableEq κ] {s : κ} {p : κ → Bool} : ∀ {G : List (κ × α)}, alk s (G.filter fun q => p q.1) = if p s then alk s G else none
 | [] => by simp [alk]
 | q :: r => by
   have ih := alk_filter (s := s) (p := p) (G := r)
   rw [List.filter_cons]
   by_cases hq : p q.1 = true
   ·rw [if_pos hq]
    simp only [alk]
    by_cases hs : s = q.1
    ·rw [if_pos hs, if_pos hs, hs, if_pos hq]
    ·rw [if_neg hs, if_neg hs, ih]
   ·rw [if_neg hq, ih]
    simp only [alk]
    by_cases hs : s = q.1
    ·rw [hs, if_neg hq, if_neg hq]
    ·rw [if_neg hs]
theorem filter_ne_none {κ α : Type} [DecidableEq κ] {s : κ} {G : List (κ × α)} (h : alk s G = none) : (G.filter fun q => decide (q.1 ≠ s)) = G := by
 rw [List.filter_eq_self]
 intro q hq
 rw [alk_none] at h
 simp only [decide_eq_true_eq]
 exact fun e => h (e ▸ List.mem_map_of_mem hq)
theorem filter_ne_perm {κ α : Type} [DecidableEq κ] {s : κ} {v : α} : ∀ {G : List (κ × α)}, ANodup G → alk s G = some v → G.Perm ((s, v) :: G.filter fun q => decide (q.1 ≠ s))
 | [], _, h => by simp [alk] at h
 | p :: r, hn, h => by
   have h1 := List.nodup_cons.1 hn
   simp only [alk] at h
   by_cases hs : s = p.1
   ·rw [if_pos hs] at h
    simp only [Option.some.injEq] at h
    have h2 : alk s r = none := by rw [alk_none, hs]; exact h1.1
    rw [List.filter_cons, if_neg (by simp [hs]), filter_ne_none h2, hs, ← h]
   ·rw [if_neg hs] at h
    rw [List.filter_cons, if_pos (by simp; exact fun e => hs e.symm)]
    exact (List.Perm.cons p (filter_ne_perm h1.2 h)).trans (List.Perm.swap _ _ _)
end
section
variable {P : Program} {e : Env} {dst : Option Tmp} {ty : TypeId} {pos : String} {af : Array Edge} {g : Option (Nat × Bool)} {M : List MObj} {K : HVal → List MObj → Prop} {β : Type} {eb : β → HVal}
theorem sat_arr_nil [Tracks] {I : Imm} {M : List MObj} {w : World} (sz : Nat) (hs : Sat P I M w) : Sat P I (.arr (.slice none 0 0) sz [] :: M) w where
 imm := hs.imm
 obj m hm := by
  rcases List.mem_cons.1 hm with rfl | hm
  ·exact .inl ⟨rfl, rfl⟩
  ·exact hs.obj m hm
 nodup := by simp only [blocks, List.flatMap_cons, MObj.blocks, List.nil_append]; exact hs.nodup
 apart b hb := hs.apart b (by simpa only [blocks, List.flatMap_cons, MObj.blocks, List.nil_append] using hb)
 os := hs.os
 output := hs.output
 tape := hs.tape
 tab := hs.tab
 low := hs.low
theorem EOp.pre [Tracks] {M' : List MObj} {o : Oper} (hm : ∀ I F w, Sat P I (M ++ F) w → Sat P I (M' ++ F) w) (h : EOp P e M' o K) : EOp P e M o K := fun I F a w ho hs => h I F a w ho (hm I F w hs)
theorem EOp.post_perm [Tracks] {o : Oper} (h : EOp P e M o fun x N => ∃ N', N.Perm N' ∧ K x N') : EOp P e M o K := fun I F a w ho hs =>
 Oper.wp_noQ (fun _ _ ⟨v, x, M', J, h1, h2, ⟨N', h3, h4⟩, h5, h6⟩ => ⟨v, x, N', J, h1, h2, h4, h5, h6.perm (h3.append_right F)⟩) (h I F a w ho hs)
theorem eop_append_grp [Tracks] {x y : Operand} {t el : TypeId} {size bytes sz b2 : Nat} {zero z2 : Value} {d : TD} {A : List MObj} {G : Grp β} {s : Str} {ys : List β}
 (hf : Fits P t (.slice el) size bytes zero) (hel : Fits P el d sz b2 z2) (hz : z2.cells.size = sz) (hby : Nat.ble b2 100000 = true)
 (hx : evalO e x = some (.raw (gV s G))) (hy : evalO e y = some (.slice sz (ys.map eb))) (hfl : ∀ y ∈ ys.map eb, flat (hcells y) = true) (hlen : (gL s G).length + ys.length ≤ 1000000000)
 (hk : ∀ v', K (.raw v') (A ++ grp sz eb (aput s (v', gL s G ++ ys) G))) : EOp P e (A ++ grp sz eb G) ⟨dst, .call ⟨.builtin .append, #[x, y], #[t, t]⟩, ty, pos, af, g⟩ K := by
 cases hq : alk s G with
 | none =>
   have h1 : gV s G = .slice none 0 0 := by unfold gV; rw [hq]; rfl
   have h2 : gL s G = [] := by unfold gL; rw [hq]; rfl
   rw [h1] at hx
   rw [h2, List.nil_append] at hk
   refine EOp.pre (M' := .arr (.slice none 0 0) sz [] :: (A ++ grp sz eb G)) (fun I F w hs => sat_arr_nil sz hs) (EOp.post_perm ?_)
   refine eop_append (i := 0) hf hel hz hby hx hy rfl hfl (by rw [h2] at hlen; simpa using hlen) fun v' => ⟨_, ?_, hk v'⟩
   rw [aput_new hq]
   simp only [List.set_cons_zero, grp, List.map_append, List.map_cons, List.map_nil, List.nil_append]
   rw [← List.append_assoc]
   exact (List.perm_append_comm (l₁ := [MObj.arr v' sz (ys.map eb)]) (l₂ := A ++ G.map fun p => MObj.arr p.2.1 sz (p.2.2.map eb)))
 | some q =>
   obtain ⟨v, l⟩ := q
   have h1 : gV s G = v := by unfold gV; rw [hq]; rfl
   have h2 : gL s G = l := by unfold gL; rw [hq]; rfl
   obtain ⟨n, h3, h4⟩ := alk_idx hq
   rw [h1] at hx
   rw [h2] at hk hlen
   have h5 : (A ++ grp sz eb G)[A.length + n]? = some (.arr v sz (l.map eb)) := by
    rw [List.getElem?_append_right (by omega), Nat.add_sub_cancel_left]
    simp [grp, h3]
   refine eop_append (i := A.length + n) hf hel hz hby hx hy h5 hfl (by simpa using hlen) fun v' => ?_
   have h6 : (A ++ grp sz eb G).set (A.length + n) (.arr v' sz (l.map eb ++ ys.map eb)) = A ++ grp sz eb (aput s (v', l ++ ys) G) := by
    rw [List.set_append_right _ _ (by omega), Nat.add_sub_cancel_left, h4]
    simp [grp, List.map_set]
   rw [h6]
   exact hk v'
theorem Ghost.grp_take [Tracks] {A : List MObj} {G G' : Grp β} {s : Str} {sz : Nat} (hn : ANodup G) (hG : alk s G = alk s G') : Ghost e (A ++ grp sz eb G) e (.arr (gV s G') sz ((gL s G').map eb) :: (A ++ grp sz eb (G.filter fun q => decide (q.1 ≠ s)))) := by
 cases hq : alk s G with
 | none =>
   have h1 : gV s G' = .slice none 0 0 := by unfold gV; rw [← hG, hq]; rfl
   have h2 : gL s G' = [] := by unfold gL; rw [← hG, hq]; rfl
   rw [h1, h2, filter_ne_none hq]
   exact Ghost.arr_nil sz
 | some q =>
   obtain ⟨v, l⟩ := q
   have h1 : gV s G' = v := by unfold gV; rw [← hG, hq]; rfl
   have h2 : gL s G' = l := by unfold gL; rw [← hG, hq]; rfl
   rw [h1, h2]
   refine Ghost.perm ?_
   have h3 := ((filter_ne_perm hn hq).map fun p => MObj.arr p.2.1 sz (p.2.2.map eb)).append_left A
   refine h3.trans ?_
   simp only [List.map_cons, grp]
   exact List.perm_middle
end
end Go.HL
end
section
namespace Go.HL
end Go.HL
end
section
namespace Go.HL
variable {P : Program}
section
variable {e : Env} {dst : Option Tmp} {ty : TypeId} {pos : String} {af : Array Edge} {g : Option (Nat × Bool)} {M : List MObj} {K : HVal → List MObj → Prop}
end
end Go.HL
end
section
namespace Go.HL
open Go.Proofs Go.Shelf
variable {P : Program}
/-- A string's bytes as cells. -/
def bvs (s : List UInt8) : List Value := s.map fun c => .int .u8 c.toNat
theorem bvs_get {s : List UInt8} {i : Nat} {c : UInt8} (h : s[i]? = some c) : (bvs s)[i]? = some (.int .u8 c.toNat) := by simp [bvs, h]
theorem bvs_len (s : List UInt8) : (bvs s).length = s.length := by simp [bvs]
theorem bvs_str (s : List UInt8) : Lib.strCells ⟨s.toArray⟩ = bvs s := by simp [Lib.strCells, bvs]
/-- A slice's data pointer. -/
def dataP : Value → Value
 | .slice a _ _ => .pointer a
 | _ => .pointer none
theorem MSat.bld_one {I : Imm} {w : World} {b : Nat} {T el : TypeId} {h v : Value} {s : List UInt8} (hm : MSat I w (.bld b T el h v s)) : v.oneCell' = true := by
 rcases hm.2 with ⟨rfl, _⟩ | ⟨g, cap, rc, rfl, _⟩ <;> rfl
theorem MSat.bld_len {I : Imm} {w : World} {b : Nat} {T el : TypeId} {h v : Value} {s : List UInt8} (hm : MSat I w (.bld b T el h v s)) : ∃ a cap, v = .slice a s.length cap := by
 rcases hm.2 with ⟨rfl, rfl⟩ | ⟨g, cap, rc, rfl, _⟩
 ·exact ⟨none, 0, rfl⟩
 ·exact ⟨_, _, rfl⟩
theorem cells_one {u : Value} (h : u.oneCell' = true) : u.cells.toList = [u] := by cases u <;> first | rfl | simp [Value.oneCell'] at h
theorem Sat.bld_nodup [Tracks] {I : Imm} {M : List MObj} {w : World} {b : Nat} {T el : TypeId} {h v : Value} {s : List UInt8} (hs : Sat P I (.bld b T el h v s :: M) w) : (b :: bufB v).Nodup ∧ (∀ k ∈ b :: bufB v, k ∉ blocks M) ∧ ∀ k ∈ b :: bufB v, I.heap k = none := by
 have h1 := hs.nodup
 simp only [blocks, List.flatMap_cons] at h1
 have h2 := List.nodup_append.1 h1
 exact ⟨h2.1, fun k hk hk' => h2.2.2 k hk k hk' rfl, fun k hk => hs.apart k (by simp only [blocks, List.flatMap_cons]; exact List.mem_append_left _ hk)⟩
section
variable {e : Env} {dst : Option Tmp} {ty : TypeId} {pos : String} {af : Array Edge} {g : Option (Nat × Bool)} {M : List MObj} {K : HVal → List MObj → Prop}

theorem eop_allocB [Tracks] {t : TypeId} (el : TypeId) {d : TD} {size bytes : Nat} {zero : Value} (hf : Fits P t d size bytes zero) (hz : zero.cells = #[.pointer none, .slice none 0 0])
 (hk : ∀ b, K (.raw (.pointer (some ⟨b, 0, none⟩))) (.bld b t el (.slice none 0 0) (.slice none 0 0) [] :: M)) : EOp P e M ⟨dst, .alloc t, ty, pos, af, g⟩ K :=
 EOp.of_run fun I F a w ho hs => by
  refine ⟨.pointer (some ⟨w.heap.size, 0, none⟩), _, _, push w (.cells zero.cells t (0, 0)), I, ?_, .refl I, hk w.heap.size, .raw _ rfl, ?_⟩
  ·simp [execOp, Instr.alloc, hf.run_zero, newVar, newRow]
  ·exact hs.new_own _ _ rfl ⟨⟨rfl, _, .inl rfl, by simp [push, hz]⟩, .inl ⟨rfl, rfl⟩⟩

theorem eop_loadB [Tracks] {x : Operand} {t T el tel : TypeId} {size bytes : Nat} {zero : Value} {i b : Nat} {h v : Value} {s : List UInt8} (hf : Fits P t (.slice tel) size bytes zero)
 (hx : evalO e x = some (.raw (.pointer (some ⟨b, 1, none⟩)))) (hm : M[i]? = some (.bld b T el h v s)) (hk : K (.raw h) M) : EOp P e M ⟨dst, .load t x, ty, pos, af, g⟩ K :=
 EOp.of_run fun I F a w ho hs => by
  have h1 := (ho.one (x := x) (by simp [Op.operands]) hx).raw_inv
  obtain ⟨⟨h0, p, hp, h2⟩, h3⟩ := hs.obj _ (List.mem_append_left _ (List.mem_of_getElem? hm))
  have hV : ∀ (j : Nat) (c : HVal) (u : Value), [HVal.junk, .raw h][j]? = some c → (#[p, h] : Array Value)[0 + j]? = some u → V I c u := by
   intro j c u a1 a2
   match j, a1, a2 with
   | 0, a1, a2 => simp at a1; subst a1; exact .junk _
   | 1, a1, a2 => simp at a1 a2; subst a1; subst a2; exact .raw _ h0
   | j + 2, a1, _ => simp at a1
  obtain ⟨u, h5, h6⟩ := run_loadVar (I := I) (o := 1) (cs := [.junk, .raw h]) (off := 1) (base := 0) hf h2 rfl (by simp) hV (.inl ⟨rfl, rfl⟩)
  exact ⟨u, .raw h, M, w, I, by simp [execOp, h1, Instr.loadAt, Instr.sureAddr, h5], .refl I, hk, h6, hs⟩

theorem eop_storeB [Tracks] {x y : Operand} {t T el tel : TypeId} {bytes : Nat} {zero : Value} {i b : Nat} {h v : Value} {s : List UInt8} (hf : Fits P t (.slice tel) 1 bytes zero)
 (hx : evalO e x = some (.raw (.pointer (some ⟨b, 1, none⟩)))) (hy : evalO e y = some (.raw v)) (hm : M[i]? = some (.bld b T el h v s))
 (hk : K .junk (M.set i (.bld b T el v v s))) : EOp P e M ⟨dst, .store t x y, ty, pos, af, g⟩ K :=
 EOp.of_skip fun I F a w hop hs => by
  have h1 := (hop.one (x := x) (by simp [Op.operands]) hx).raw_inv
  have hye := (hop.one (x := y) (by simp [Op.operands]) hy).raw_inv
  have hp := hs.pull hm
  have hobj := hp.obj _ List.mem_cons_self
  have hu1 := hobj.bld_one
  obtain ⟨hnd, _, _⟩ := hp.bld_nodup
  obtain ⟨⟨h0, p, hpp, h2⟩, h3⟩ := hobj
  have hc1 := cells_one hu1
  obtain ⟨w', rc', g1, g2, g3, g4, g5, g6, g7, g8, g9⟩ := run_storeCells (P := P) b T (0, 0) 1 [v] 0 w #[p, h] h2 (Free.zero _) (by simpa using hu1) (by simp)
  have hrc : rc' = #[p, v] := by
   apply Array.ext_getElem?
   intro x
   rw [g4 x]
   match x with
   | 0 => simp
   | 1 => simp
   | x + 2 => simp
  subst hrc
  refine ⟨_, w', I, ?_, .refl I, hk, ?_⟩
  ·simp only [execOp, h1, hye, Instr.storeAt, Instr.sureAddr, Sem.run_bind, Sem.run_pure, Result.andThen_ok, storeVar, hf.run_sizeOf]
   rw [if_neg (by rw [← Array.length_toList, hc1]; simp)]
   simp only [Sem.run_pure, Result.andThen_ok, hc1, g1]
  ·refine Sat.unpull hm (hp.change (m' := .bld b T el v v s) (fun k hk hnk => g5 k (fun e => hnk (e ▸ List.mem_cons_self))) (fun k hk => .inl hk) hnd ?_ g7 g8 g9.1 (fun _ => Nat.le_of_eq g9.2.symm))
   refine ⟨⟨hu1, p, hpp, g2⟩, ?_⟩
   rcases h3 with h3 | ⟨g, cap, rc, rfl, h4, h5, h6⟩
   ·exact .inl h3
   ·refine .inr ⟨g, cap, rc, rfl, ?_, h5, h6⟩
    rw [g5 g (fun e => by subst e; simp [bufB] at hnd)]; exact h4

theorem eop_appendB [Tracks] {x y : Operand} {t el u T : TypeId} {size bytes b2 su bu : Nat} {zero z2 zu : Value} {d : TD} {i b : Nat} {h v : Value} {s r : List UInt8}
 (hf : Fits P t (.slice el) size bytes zero) (hu : Fits P u .str su bu zu) (hel : Fits P el d 1 b2 z2) (hz : z2.cells.size = 1) (hby : Nat.ble b2 100000 = true)
 (hx : evalO e x = some (.raw v)) (hy : evalO e y = some (.str r)) (hm : M[i]? = some (.bld b T el h v s)) (hlen : s.length + r.length ≤ 1000000000)
 (hk : ∀ v', K (.raw v') (M.set i (.bld b T el h v' (s ++ r)))) : EOp P e M ⟨dst, .call ⟨.builtin .append, #[x, y], #[t, u]⟩, ty, pos, af, g⟩ K :=
 EOp.of_run fun I F a w ho hs => by
  have h1 := (ho.one (x := x) (by simp [Op.operands, Call.operands]) hx).raw_inv
  have hyv := ho.one (x := y) (by simp [Op.operands, Call.operands]) hy
  have hye : a.eval y = .string ⟨r.toArray⟩ := hyv.str_inv
  have hp := hs.pull hm
  have hobj := hp.obj _ List.mem_cons_self
  have hu1 := hobj.bld_one
  obtain ⟨hnd, _, _⟩ := hp.bld_nodup
  obtain ⟨⟨h0, p, hpp, h2⟩, h3⟩ := hobj
  have hbl : b < w.heap.size := by
   rcases Nat.lt_or_ge b w.heap.size with h' | h'
   ·exact h'
   ·simp [Array.getElem?_eq_none h'] at h2
  have hsize : (⟨r.toArray⟩ : ByteArray).size = r.length := by simp [ByteArray.size]
  have hnv : ∀ w1 : World, (Builtin.firstCells 1 r.length (a.eval y)).run P w1 = .ok (bvs r).toArray w1 := fun w1 => by
   rw [hye, ← bvs_str, ← hsize]; exact Lib.run_firstCells_string w1 1 _
  have hov : ∀ w1 : World, w1.heap = w.heap → (Builtin.firstCells 1 s.length v).run P w1 = .ok (bvs s).toArray w1 := fun w1 hw1 => by
   rcases h3 with ⟨rfl, rfl⟩ | ⟨g, cap, rc, rfl, h4, h5, h6⟩
   ·simp [Builtin.firstCells, bvs]
   ·have h3' : w1.heap[g]? = some (.cells rc el (0, 0)) := by rw [hw1]; exact h4
    have := run_loadCells_list (P := P) w1 ⟨g, 0, none⟩ (bvs s) fun j c hj => by
     rw [addr_add, cell_of h3']
     rw [bvs, List.getElem?_map] at hj
     cases hq : s[j]? with
     | none => rw [hq] at hj; cases hj
     | some c' => rw [hq] at hj; simp at hj; subst hj; simpa using h6 j c' hq
    rw [bvs_len] at this
    simp only [Builtin.firstCells, Nat.mul_one]
    exact this
  have hboth : ∀ (i : Nat) (c : UInt8), (s ++ r)[i]? = some c → ((bvs s).toArray ++ (bvs r).toArray)[i]? = some (.int .u8 c.toNat) := fun i c hc => by
   have : bvs s ++ bvs r = bvs (s ++ r) := by simp [bvs]
   rw [List.append_toArray, this, List.getElem?_toArray]; exact bvs_get hc
  have done : (∃ v' w', (execOp a.eval ⟨dst, .call ⟨.builtin .append, #[x, y], #[t, u]⟩, ty, pos, af, g⟩).run P w = .ok (.value v') w' ∧ Sat P I (.bld b T el h v' (s ++ r) :: (M.eraseIdx i ++ F)) w') →
   ∃ v h M' w' J, (execOp a.eval ⟨dst, .call ⟨.builtin .append, #[x, y], #[t, u]⟩, ty, pos, af, g⟩).run P w = .ok (.value v) w' ∧ Le I J ∧ K h M' ∧ V J h v ∧ Sat P J (M' ++ F) w' := by
   rintro ⟨v', w', r1, r2⟩
   exact ⟨v', .raw v', _, w', I, r1, .refl I, hk v', .raw _ (r2.obj _ List.mem_cons_self).bld_one, Sat.unpull hm r2⟩
  apply done
  have hlenof : ∀ w1 : World, (Builtin.lenOf (a.eval y)).run P w1 = .ok r.length w1 := fun w1 => by rw [hye, ← hsize]; simp [Builtin.lenOf]
  -- the new block
  have grows : ∀ (base : Option Addr) (cap : Nat), v = .slice base s.length cap → cap < s.length + r.length →
   ∃ v' w', (execOp a.eval ⟨dst, .call ⟨.builtin .append, #[x, y], #[t, u]⟩, ty, pos, af, g⟩).run P w = .ok (.value v') w' ∧ Sat P I (.bld b T el h v' (s ++ r) :: (M.eraseIdx i ++ F)) w' := by
   intro base cap hv hcap
   let nc := (Question.appendCap (s.length + r.length) cap el).cut (w.tape w.drawn (.appendCap (s.length + r.length) cap el))
   have hnc : s.length + r.length ≤ nc := by simp only [nc, Question.cut]; omega
   have hnm : nc ≤ 9223372036854775807 := by
    simp only [nc, Question.cut]
    have := Nat.mod_lt (w.tape w.drawn (.appendCap (s.length + r.length) cap el)) (show 0 < 2 ^ 63 - (s.length + r.length) by omega)
    omega
   let cells : Array Value := (bvs s).toArray ++ (bvs r).toArray ++ Builtin.zeroCells z2.cells (nc - (s.length + r.length))
   refine ⟨.slice (some ⟨w.heap.size, 0, none⟩) (s.length + r.length) nc, { w with heap := w.heap.push (.cells cells el (0, 0)), drawn := w.drawn + 1 }, ?_, ?_⟩
   ·rw [run_append]
    have hb1 : ¬ s.length + r.length ≤ cap := by omega
    have hb2 : ¬ ((((s.length + r.length : Nat) : Int) > IntKind.i64.max) ∧ (False ∨ b2 = 0)) := by
     have : IntKind.i64.max = 9223372036854775807 := by decide
     rw [this]; omega
    have hb3 : ¬ Builtin.nextslicecap (s.length + r.length) cap * b2 > 2 ^ 48 := by
     have e1 := nextslicecap_le hcap
     have e2 : b2 ≤ 100000 := Nat.le_of_ble_eq_true hby
     have : Builtin.nextslicecap (s.length + r.length) cap * b2 ≤ (2 * 1000000000 + 192) * 100000 := Nat.mul_le_mul (by omega) e2
     omega
    obtain ⟨ti, t1, t2, t3, t4⟩ := hel.typeInfo
    have hti : ∀ w1, (Go.typeInfo el).run P w1 = .ok ti w1 := fun w1 => by simp [Go.typeInfo, t1]
    simp only [List.map_toArray, List.map_cons, List.map_nil, h1, Builtin.append_, List.getElem?_toArray, List.getElem?_cons_zero, List.getElem?_cons_succ, hv, Sem.run_bind, run_underlying hf.slice, run_underlying hu.strD, Result.andThen_ok,
     hel.run_sizeOf, Sem.run_pure, Bool.false_eq_true, if_false, hlenof, hb1, hti, t3]
    rw [if_neg (by simpa using hb2)]
    simp only [Sem.run_bind, Sem.run_pure, Result.andThen_ok, hti, t3]
    rw [if_neg hb3]
    have hch : (choose (.appendCap (s.length + r.length) cap el)).run P w = .ok nc { w with drawn := w.drawn + 1 } := by
     simp [Question.forced, nc]
    simp only [Sem.run_pure, Sem.run_bind, Result.andThen_ok, hch, run_askRoom, hti]
    rw [← hv]
    have hov' := hov { w with drawn := w.drawn + 1 } rfl
    have hnv' := hnv { w with drawn := w.drawn + 1 }
    simp only [hov', Bool.not_false, if_true, hnv', Result.andThen_ok, hel.run_zero, newRow, Sem.run_bind, Sem.run_pure, run_newObj]
    rfl
   ·refine hp.change (m' := .bld b T el h (.slice (some ⟨w.heap.size, 0, none⟩) (s.length + r.length) nc) (s ++ r)) (fun k hk hnk => ?_) ?_ ?_ ?_ rfl rfl rfl
    ·simp [Array.getElem?_push, Nat.ne_of_lt hk]
    ·intro k hk
     simp [MObj.blocks, bufB] at hk
     rcases hk with rfl | rfl
     ·exact .inl List.mem_cons_self
     ·exact .inr (Nat.le_refl _)
    ·simp [MObj.blocks, bufB]; omega
    ·refine ⟨⟨h0, p, hpp, ?_⟩, .inr ⟨w.heap.size, nc, cells, by simp, by simp, ⟨by omega, by simpa using hnc, hnm, ?_⟩, fun j c hc => ?_⟩⟩
     ·simp [Array.getElem?_push, Nat.ne_of_lt hbl]; exact h2
     ·simp [cells, zeroCells_size, hz, bvs_len]; omega
     ·have hj := lt_of_get hc
      simp only [List.length_append] at hj
      simp only [cells]
      rw [Array.getElem?_append_left (by simp [bvs_len]; omega)]
      exact hboth j c hc
  rcases h3 with ⟨hv, hs0⟩ | ⟨gb, cap, rc, hv, h4, ⟨h5a, h5b, h5c, h5d⟩, h6⟩
  ·by_cases hr0 : r = []
   ·subst hr0
    refine ⟨v, w, ?_, by rw [List.append_nil]; exact hp⟩
    subst hs0
    have hnv' := hnv w
    have hl0 := hlenof w
    simp only [List.length_nil] at hnv' hl0
    rw [run_append]
    simp only [List.map_toArray, List.map_cons, List.map_nil, h1, Builtin.append_, List.getElem?_toArray, List.getElem?_cons_zero, List.getElem?_cons_succ, hv, Sem.run_bind, run_underlying hf.slice, run_underlying hu.strD, Result.andThen_ok,
     hel.run_sizeOf, Sem.run_pure, Bool.false_eq_true, if_false, hl0, Nat.le_refl, if_true, Bool.not_false, hnv', Nat.add_zero]
   ·have hpos : 0 < r.length := by cases r with | nil => exact absurd rfl hr0 | cons _ _ => simp
    exact grows none 0 (by rw [hv, hs0]; rfl) (by omega)
  ·by_cases hfit : s.length + r.length ≤ cap
   ·obtain ⟨w', rc', g1, g2, g3, g4, g5, g6, g7, g8, g9⟩ := run_storeCells (P := P) gb el (0, 0) s.length (bvs r) 0 w rc h4 (Free.zero _) (fun c hc => by simp only [bvs, List.mem_map] at hc; obtain ⟨c', _, rfl⟩ := hc; rfl) (by rw [bvs_len]; omega)
    refine ⟨.slice (some ⟨gb, 0, none⟩) (s.length + r.length) cap, w', ?_, ?_⟩
    ·rw [run_append]
     have hnv' := hnv w
     have hl0 := hlenof w
     simp only [List.map_toArray, List.map_cons, List.map_nil, h1, Builtin.append_, List.getElem?_toArray, List.getElem?_cons_zero, List.getElem?_cons_succ, hv, Sem.run_bind, run_underlying hf.slice, run_underlying hu.strD, Result.andThen_ok,
      hel.run_sizeOf, Sem.run_pure, Bool.false_eq_true, if_false, hl0, hfit, if_true, Bool.not_false, hnv', addr_add, Nat.mul_one, Nat.zero_add, g1]
    ·have hne : b ≠ gb := fun e => by subst e; rw [hv] at hnd; simp [bufB] at hnd
     refine hp.change (m' := .bld b T el h (.slice (some ⟨gb, 0, none⟩) (s.length + r.length) cap) (s ++ r)) (fun k hk hnk => g5 k ?_) ?_ ?_ ?_ g7 g8 g9.1 (fun _ => Nat.le_of_eq g9.2.symm)
     ·rintro rfl; exact hnk (by rw [hv]; simp [MObj.blocks, bufB])
     ·intro k hk; left; rw [hv]; exact hk
     ·simp [MObj.blocks, bufB]; exact hne
     ·refine ⟨⟨h0, p, hpp, by rw [g5 b hne]; exact h2⟩, .inr ⟨gb, cap, rc', by simp, g2, ⟨h5a, by simpa using hfit, h5c, by rw [g3]; exact h5d⟩, fun j c hc => ?_⟩⟩
      have hj := lt_of_get hc
      simp only [List.length_append] at hj
      rw [g4]
      by_cases hi : j < s.length
      ·rw [List.getElem?_append_left hi] at hc
       rw [if_neg (by omega)]
       exact h6 j c hc
      ·rw [List.getElem?_append_right (by omega)] at hc
       rw [if_pos (by rw [bvs_len]; omega)]
       have := bvs_get hc
       simpa using this
   ·exact grows (some ⟨gb, 0, none⟩) cap hv (by omega)

theorem eop_lenB [Tracks] {x : Operand} {t tel : TypeId} {size bytes : Nat} {zero : Value} {i b : Nat} {T el : TypeId} {h v : Value} {s : List UInt8} (hf : Fits P t (.slice tel) size bytes zero) (hx : evalO e x = some (.raw v))
 (hm : M[i]? = some (.bld b T el h v s)) (hk : K (.int .i64 s.length) M) : EOp P e M ⟨dst, .call ⟨.builtin .len, #[x], #[t]⟩, ty, pos, af, g⟩ K :=
 EOp.of_run fun I F a w ho hs => by
  have h1 := (ho.one (x := x) (by simp [Op.operands, Call.operands]) hx).raw_inv
  obtain ⟨b, cap, h2⟩ := (hs.obj _ (List.mem_append_left _ (List.mem_of_getElem? hm))).bld_len
  exact ⟨.int .i64 s.length, _, M, w, I, by rw [run_len (ats := #[])]; simp [h1, h2, Builtin.len_, run_underlying hf.slice, goInt], .refl I, hk, .int _ _, hs⟩

end

/-- What every writing method calls first. -/
theorem con_copyCheck [Tracks] {ρ : Ren} (L : Lays.n240 P ρ) (X : Builder.X72 P ρ) {b : Nat} {el : TypeId} {h v : Value} {s : List UInt8} :
 Con P (ρ.f 240) [.raw (.pointer (some ⟨b, 0, none⟩))] [.bld b (ρ.t 72) el h v s] fun x M' => x = .tup [] ∧ M' = [.bld b (ρ.t 72) el h v s] := by
 intro I F w args ha hs
 obtain ⟨u, rfl, hu⟩ := ha.one
 obtain rfl := hu.raw_inv
 obtain ⟨hnd, _, _⟩ := Sat.bld_nodup (M := F) hs
 obtain ⟨⟨h0, p, hpp, h2⟩, h3⟩ := hs.obj (.bld b (ρ.t 72) el h v s) (by simp)
 have ht : V I (.tup []) (.tuple #[]) := .tup rfl fun j c v h _ => by simp at h
 rcases hpp with rfl | rfl
 ·refine (Any.Builder_copyCheck_fresh L X b w (by rw [cell_of h2]; rfl) (by simp [World.shape?, h2]) (by simp [World.frozen?, h2])).mono ?_
  rintro _ w' ⟨rfl, rfl⟩
  refine ⟨_, _, _, I, rfl, .refl I, ⟨rfl, rfl⟩, ht, ?_⟩
  have hk : ∀ k, k ≠ b → (w.setCell ⟨b, 0, none⟩ (.pointer (some ⟨b, 0, none⟩))).heap[k]? = w.heap[k]? := fun k hk => by
   simp only [World.setCell, Array.getElem?_modify]
   rw [if_neg (fun e => hk e.symm)]
  refine Sat.change (m' := .bld b (ρ.t 72) el h v s) (M := F) hs (fun k _ hnk => hk k (fun e => hnk (e ▸ List.mem_cons_self))) (fun k hk => .inl hk) hnd ⟨⟨h0, _, .inr rfl, ?_⟩, ?_⟩ rfl rfl rfl
  ·simp [World.setCell, Array.getElem?_modify, h2]
  ·rcases h3 with h3 | ⟨g, cap, rc, rfl, h4, h5, h6⟩
   ·exact .inl h3
   ·exact .inr ⟨g, cap, rc, rfl, by rw [hk g (fun e => by subst e; simp [bufB] at hnd)]; exact h4, h5, h6⟩
 ·refine (Any.Builder_copyCheck_used L X b w (by rw [cell_of h2]; rfl)).mono ?_
  rintro _ w' ⟨rfl, rfl⟩
  exact ⟨_, _, _, I, rfl, .refl I, ⟨rfl, rfl⟩, ht, hs⟩
end Go.HL
end
section
namespace Go.HL
open Go
/-- The pieces of a string between the places where a byte stands. -/
def spl (c : UInt8) : Str → List Str
 | [] => [[]]
 | b :: l => if b = c then [] :: spl c l else match spl c l with
   | [] => [[b]]
   | x :: r => (b :: x) :: r
theorem spl_ne (c : UInt8) (s : Str) : spl c s ≠ [] := by
 cases s with
 | nil => simp [spl]
 | cons b l =>
   simp only [spl]
   split
   ·simp
   ·split <;> simp
theorem spl_cons {c : UInt8} (s : Str) : ∃ x r, spl c s = x :: r := by
 cases h : spl c s with
 | nil => exact absurd h (spl_ne c s)
 | cons x r => exact ⟨x, r, rfl⟩
theorem spl_eq (c : UInt8) (l : Str) : spl c (c :: l) = [] :: spl c l := by simp [spl]
theorem spl_of_ne {b c : UInt8} (h : b ≠ c) {l x : Str} {r : List Str} (hl : spl c l = x :: r) : spl c (b :: l) = (b :: x) :: r := by
 simp only [spl, h, if_false, hl]
theorem spl_len (c : UInt8) : ∀ s : Str, (spl c s).length = s.count c + 1
 | [] => rfl
 | b :: l => by
   have ih := spl_len c l
   by_cases h : b = c
   ·subst h; rw [spl_eq, List.count_cons_self]; simp [ih]
   ·obtain ⟨x, r, hx⟩ := spl_cons (c := c) l
    rw [spl_of_ne h hx, List.count_cons_of_ne h, ← ih, hx]; simp
theorem index_ge0 {s : Str} {c : UInt8} (h : 0 < s.count c) : ∃ i : Nat, Lib.index s [c] = i := by
 rcases Int.lt_or_le (Lib.index s [c]) 0 with h' | h'
 ·have h1 : Lib.index s [c] = -1 := by have := Lib.index_ge s [c]; omega
  have := Lib.count_miss h1
  rw [Lib.count_one] at this
  omega
 ·exact ⟨_, (Int.toNat_of_nonneg h').symm⟩
theorem index_self (c : UInt8) (l : Str) : Lib.index (c :: l) [c] = 0 := by simp [Lib.index]
theorem index_next {b c : UInt8} (h : b ≠ c) (l : Str) {i : Nat} (hi : Lib.index l [c] = i) : Lib.index (b :: l) [c] = ((i + 1 : Nat) : Int) := by
 have h1 : ([c] : Str).isPrefixOf (b :: l) = false := by simp [List.isPrefixOf, Ne.symm h]
 unfold Lib.index
 rw [h1, hi]
 have h2 : ((i : Int) == -1) = false := by simp
 rw [h2]; simp
theorem splitK_spl (c : UInt8) : ∀ s : Str, Lib.splitK [c] 0 (s.count c) s = spl c s
 | [] => rfl
 | b :: l => by
   have ih := splitK_spl c l
   by_cases h : b = c
   ·subst h
    rw [spl_eq, List.count_cons_self, ← ih]
    simp only [Lib.splitK, index_self]
    simp
   ·rw [List.count_cons_of_ne h]
    cases hk : l.count c with
    | zero =>
      rw [hk] at ih
      have h1 : spl c l = [l] := ih.symm
      rw [spl_of_ne h h1]; rfl
    | succ k =>
      obtain ⟨i, hi⟩ := index_ge0 (s := l) (c := c) (by omega)
      have h0 := index_next h l hi
      rw [hk] at ih
      have e1 : Lib.splitK [c] 0 (k + 1) l = l.take i :: Lib.splitK [c] 0 k (l.drop (i + 1)) := by
       simp only [Lib.splitK, hi]
       have h2 : ((i : Int) == -1) = false := by simp
       rw [h2]; simp
      have e2 : Lib.splitK [c] 0 (k + 1) (b :: l) = (b :: l.take i) :: Lib.splitK [c] 0 k (l.drop (i + 1)) := by
       simp only [Lib.splitK, h0]
       have h2 : (((i + 1 : Nat) : Int) == -1) = false := by simp; omega
       rw [h2]; simp
      rw [e1] at ih
      rw [e2, spl_of_ne h ih.symm]
theorem split_spl (s : Str) (c : UInt8) : (Lib.splitB ⟨#[c]⟩ 0 (Lib.countB ⟨s.toArray⟩ ⟨#[c]⟩) ⟨s.toArray⟩).map (·.data.toList) = spl c s := by
 rw [Lib.splitB_data]
 have : Lib.countB ⟨s.toArray⟩ ⟨#[c]⟩ = s.count c := Lib.count_one c s
 rw [this]
 exact splitK_spl c s
theorem spl_mem_len (c : UInt8) : ∀ (s : Str), ∀ x ∈ spl c s, x.length ≤ s.length
 | [], x, hx => by simp [spl] at hx; subst hx; simp
 | b :: l, x, hx => by
   have ih := spl_mem_len c l
   by_cases hb : b = c
   ·subst hb
    rw [spl_eq] at hx
    rcases List.mem_cons.1 hx with rfl | hx
    ·simp
    ·have := ih x hx; simp only [List.length_cons]; omega
   ·obtain ⟨y, r, hy⟩ := spl_cons (c := c) l
    rw [spl_of_ne hb hy] at hx
    rcases List.mem_cons.1 hx with rfl | hx
    ·have := ih y (by rw [hy]; simp); simp only [List.length_cons]; omega
    ·have := ih x (by rw [hy]; simp [hx]); simp only [List.length_cons]; omega
theorem spl_none {c : UInt8} : ∀ {s : Str}, c ∉ s → spl c s = [s]
 | [], _ => rfl
 | b :: l, h => by
   have h1 : b ≠ c := fun e => h (by simp [e])
   exact spl_of_ne h1 (spl_none fun hm => h (by simp [hm]))
/-- Pieces with the byte between. -/
def jn (c : UInt8) : List Str → Str
 | [] => []
 | [x] => x
 | x :: r => x ++ c :: jn c r
theorem jn_cons {c : UInt8} {x : Str} {r : List Str} (h : r ≠ []) : jn c (x :: r) = x ++ c :: jn c r := by
 cases r with
 | nil => exact absurd rfl h
 | cons y r => rfl
theorem jn_join (c : UInt8) : ∀ l : List Str, Lib.join l [c] = jn c l
 | [] => rfl
 | [x] => Lib.join_one x [c]
 | x :: y :: r => by
   rw [jn_cons (by simp), ← jn_join c (y :: r), Lib.join_cons, Lib.join_cons]
   simp [Lib.joinTail]
theorem spl_app {c : UInt8} : ∀ {x : Str} (s : Str), c ∉ x → spl c (x ++ c :: s) = x :: spl c s
 | [], s, _ => spl_eq c s
 | b :: x, s, h => by
   have h1 : b ≠ c := fun e => h (by simp [e])
   exact spl_of_ne h1 (spl_app s fun hm => h (by simp [hm]))
theorem spl_jn {c : UInt8} : ∀ {l : List Str}, l ≠ [] → (∀ x ∈ l, c ∉ x) → spl c (jn c l) = l
 | [], h, _ => absurd rfl h
 | [x], _, h => spl_none (h x (by simp))
 | x :: y :: r, _, h => by
   rw [jn_cons (by simp), spl_app _ (h x (by simp)), spl_jn (by simp) fun z hz => h z (by simp [hz])]
theorem jn_spl (c : UInt8) : ∀ s : Str, jn c (spl c s) = s
 | [] => rfl
 | b :: l => by
   have ih := jn_spl c l
   by_cases hb : b = c
   ·subst hb; rw [spl_eq, jn_cons (spl_ne b l), ih]; rfl
   ·obtain ⟨y, r, hy⟩ := spl_cons (c := c) l
    rw [spl_of_ne hb hy]
    rw [hy] at ih
    cases r with
    | nil => simp only [jn] at ih ⊢; rw [ih]
    | cons z r => rw [jn_cons (by simp)] at ih ⊢; rw [← ih]; rfl
end Go.HL
end
section
namespace Go.HL
open Go.Proofs Go.Shelf Go.RowKit
variable {P : Program}
theorem VL.two {I : Imm} {c d : HVal} {vs : List Value} (h : VL I [c, d] vs) : ∃ u v, vs = [u, v] ∧ V I c u ∧ V I d v := by
 match vs, h with
 | [u, v], h => exact ⟨u, v, rfl, h.head, h.tail.head⟩
 | [], h => have := h.1; simp at this
 | [_], h => have := h.1; simp at this
 | _ :: _ :: _ :: _, h => have := h.1; simp at this
theorem bsz (s : Str) : (⟨s.toArray⟩ : ByteArray).size = s.length := by simp [ByteArray.size]
/-- A row of strings that the call laid. -/
theorem v_strs [Tracks] {I : Imm} {b : Nat} {l : List Str} {t : TypeId} {fr : Nat × Nat} {xs : List ByteArray} (hx : xs.map (·.data.toList) = l) (hI : I.heap b = some (.cells (xs.map Value.string).toArray t fr)) (n : Nat) (hn : n = l.length) :
 V I (.slice 1 (l.map .str)) (.slice (some ⟨b, 0, none⟩) n n) := by
 have hl : n = (l.map HVal.str).length := by rw [hn, List.length_map]
 rw [hl]
 have hxl : xs.length = l.length := by rw [← hx, List.length_map]
 refine V.slice hI (fun e he => ?_) (Nat.le_refl _) (by simp [hxl]) (fun i j e c v h1 h2 h3 => ?_)
 ·obtain ⟨s, _, rfl⟩ := List.mem_map.1 he; rfl
 ·rw [List.getElem?_map] at h1
  cases hq : l[i]? with
  | none => rw [hq] at h1; cases h1
  | some s =>
    rw [hq] at h1
    simp at h1
    subst h1
    have hj : j = 0 := by
     have := lt_of_get h2
     simp [hcells] at this; omega
    subst hj
    simp [hcells] at h2
    subst h2
    simp only [Nat.zero_add, Nat.mul_one, Nat.add_zero, List.getElem?_toArray, List.getElem?_map] at h3
    rw [← hx, List.getElem?_map] at hq
    cases hr : xs[i]? with
    | none => rw [hr] at hq; cases hq
    | some y =>
      rw [hr] at hq h3
      simp at hq h3
      subst h3
      rw [← hq]
      exact .str _
theorem conp_split [Tracks] {ρ : Ren} (L : Lays.n146 P ρ) (hi9 : (P.info? (ρ.t 9)).map (fun i => (i.zero, i.size, i.bytes)) = some (some (.string ByteArray.empty), 1, 16)) (hg : P.globalNamed "internal/bytealg.MaxLen" = some (ρ.g 1)) {s : Str} {c : UInt8} (hs : s.length < 4294967281) :
 ConP P (ρ.f 146) [.str s, .str [c]] (.slice 1 ((spl c s).map .str)) := by
 intro I F w args ha hs0
 obtain ⟨u, v, rfl, hu, hv⟩ := ha.two
 obtain rfl := hu.str_inv
 obtain rfl := hv.str_inv
 obtain ⟨m, hm⟩ := hs0.maxLen hg
 refine (Any.strings_Split L hi9 ⟨s.toArray⟩ ⟨[c].toArray⟩ m w (by rw [bsz]; exact hs) hm (by rw [bsz]; simp)).mono ?_
 rintro _ w' ⟨rfl, rfl⟩
 obtain ⟨hle, hsat⟩ := Sat.new_imm hs0 (.cells ((Lib.splitB ⟨[c].toArray⟩ 0 (Lib.countB ⟨s.toArray⟩ ⟨[c].toArray⟩) ⟨s.toArray⟩).map Value.string).toArray (ρ.t 9))
 refine ⟨_, _, [], _, rfl, hle, ⟨rfl, rfl⟩, v_strs (split_spl s c) Imm.add_self _ ?_, hsat⟩
 have : Lib.countB ⟨s.toArray⟩ ⟨[c].toArray⟩ = s.count c := Lib.count_one c s
 rw [this, spl_len]
theorem conp_count [Tracks] {ρ : Ren} (L : Lays.n138 P ρ) {s : Str} {c : UInt8} : ConP P (ρ.f 138) [.str s, .str [c]] (.int .i64 ((s.count c : Nat) : Int)) :=
 conp_of_calls fun I w args ha => by
  obtain ⟨u, v, rfl, hu, hv⟩ := ha.two
  obtain rfl := hu.str_inv
  obtain rfl := hv.str_inv
  exact ⟨_, .int _ _, Any.strings_Count_one L ⟨s.toArray⟩ c w⟩
theorem conp_cutSuffix [Tracks] {ρ : Ren} (L : Lays.n104 P ρ) {s p : Str} (hs : s.length ≤ 4294967281) : ConP P (ρ.f 104) [.str s, .str p] (.tup [.str (Lib.trimSuffix s p), .bool (Lib.hasSuffix s p)]) :=
 conp_of_calls fun I w args ha => by
  obtain ⟨u, v, rfl, hu, hv⟩ := ha.two
  obtain rfl := hu.str_inv
  obtain rfl := hv.str_inv
  refine ⟨_, ?_, Any.strings_CutSuffix L ⟨s.toArray⟩ ⟨p.toArray⟩ w (by rw [bsz]; omega)⟩
  have hV := VL.cons (V.str (I := I) (Lib.trimSuffix s p)) (VL.cons (V.bool (Lib.hasSuffix s p)) VL.nil)
  exact .tup hV.1 (by simpa using hV.2)
theorem conp_join [Tracks] {ρ : Ren} (hT : Tracks.on = false) (L : Lays.n156 P ρ) (X : Builder.Extra P ρ) {l : List Str} {c : UInt8} (hl : (jn c l).length ≤ 1000000000) (hn : l.length ≤ 1000000000) : ConP P (ρ.f 156) [.slice 1 (l.map .str), .str [c]] (.str (jn c l)) := by
 intro I F w args ha hs0
 obtain ⟨u, v, rfl, hu, hv⟩ := ha.two
 obtain rfl := hv.str_inv
 rcases hu.slice_inv with ⟨h0, a, cap, rfl⟩ | ⟨b, off, cap, rc, el, fr, rfl, h3, h4, h5, h6, h7⟩
 ·have : l = [] := by simpa using h0
  subst this
  refine (Any.strings_Join_none L X a cap ⟨[c].toArray⟩ w).mono ?_
  rintro _ w' ⟨rfl, rfl⟩
  exact ⟨_, _, [], I, rfl, .refl I, ⟨rfl, rfl⟩, .str [], hs0⟩
 ·have hb := hs0.imm _ _ h3
  let xs : List ByteArray := l.map fun s => ⟨s.toArray⟩
  have hx : xs.map (·.data.toList) = l := by simp [xs, List.map_map, Function.comp_def]
  have hxl : xs.length = l.length := by simp [xs]
  have hlt : b < w.heap.size := by
   rcases Nat.lt_or_ge b w.heap.size with h' | h'
   ·exact h'
   ·simp [Array.getElem?_eq_none h'] at hb
  have hsz : (l.map HVal.str).length = xs.length := by simp [xs]
  rw [hsz] at h5 h6 ⊢
  refine (Any.strings_Join L X b off cap xs ⟨[c].toArray⟩ w (fun j x hj => ?_) hlt (by omega) h5 (by rw [hx]; show (Lib.join l [c]).length ≤ _; rw [jn_join]; omega)).mono ?_
  ·have hq : l[j]? = some x.data.toList := by rw [← hx, List.getElem?_map, hj]; rfl
   have hj' := lt_of_get hj
   have hr : off + j < rc.size := by omega
   have h8 := h7 j 0 (.str x.data.toList) (.str x.data.toList) rc[off + j] (by rw [List.getElem?_map, hq]; rfl) rfl (by rw [Nat.mul_one, Nat.add_zero]; exact Array.getElem?_eq_getElem hr)
   rw [cell_of hb, Array.getElem?_eq_getElem hr, h8.str_inv]
  ·rintro _ w' ⟨rfl, hbw⟩
   refine ⟨_, _, [], I, rfl, .refl I, ⟨rfl, rfl⟩, ?_, ?_⟩
   ·rw [hx, show ((⟨[c].toArray⟩ : ByteArray).data.toList : Str) = [c] from rfl, jn_join]; exact .str _
   ·obtain ⟨h1, h2⟩ := hs0.lt
    exact hs0.of_same (fun k hk => hbw.block k (h1 k hk)) (fun k hk => hbw.block k (h2 k hk)) hbw.os hbw.output hbw.tape (fun h => by rw [hT] at h; cases h)
end Go.HL
end
section
namespace Go.HL
variable {P : Program}
def BufV (s : List UInt8) (v : Value) : Prop := (v = .slice none 0 0 ∧ s = []) ∨ ∃ g cap, 0 < cap ∧ v = .slice (some ⟨g, 0, none⟩) s.length cap
theorem MSat.bufV {I : Imm} {w : World} {b : Nat} {T el : TypeId} {h v : Value} {s : List UInt8} (hm : MSat I w (.bld b T el h v s)) : BufV s v := by
 rcases hm.2 with h | ⟨g, cap, rc, h, _, h5, _⟩
 ·exact .inl h
 ·exact .inr ⟨g, cap, h5.1, h⟩
theorem hw_bldc [Tracks] {n : Nat} {c : Code} {e : Env} {M : List MObj} {Q : Exit → Env → List MObj → Prop} {i b : Nat} {T el : TypeId} {h v : Value} {s : List UInt8} (hm : M[i]? = some (.bld b T el h v s)) (k : BufV s v → HWp P n c e M Q) : HWp P n c e M Q :=
 fun I F a w h1 h2 h3 h4 => k (h4.obj _ (List.mem_append_left _ (List.mem_of_getElem? hm))).bufV I F a w h1 h2 h3 h4
section
variable {e : Env} {dst : Option Tmp} {ty : TypeId} {pos : String} {af : Array Edge} {g : Option (Nat × Bool)} {M : List MObj} {K : HVal → List MObj → Prop}
theorem pop_dataV [Tracks] {x : Operand} {ats : Array TypeId} {v : Value} {s : List UInt8} (hb : BufV s v) (hx : evalO e x = some (.raw v)) : POp P e ⟨dst, .call ⟨.builtin .unsafeSliceData, #[x], ats⟩, ty, pos, af, g⟩ (.raw (dataP v)) :=
 POp.of_run fun I F a w ho hs => by
  have h1 := (ho.one (x := x) (by simp [Op.operands, Call.operands]) hx).raw_inv
  have hr : ∀ r : Sem Value, Builtin.unsafeSliceData_ ats ty #[v] = r → (execOp a.eval ⟨dst, .call ⟨.builtin .unsafeSliceData, #[x], ats⟩, ty, pos, af, g⟩).run P w = (r.run P w).andThen (fun v w => .ok (.value v) w) := by
   rintro r rfl
   simp [execOp, resolve, invoke, builtin, h1]
  refine ⟨dataP v, _, I, ?_, .refl I, .raw _ ?_, hs⟩
  ·rw [hr _ rfl]
   rcases hb with ⟨rfl, _⟩ | ⟨g, cap, h5, rfl⟩
   ·rfl
   ·rw [Lib.run_unsafeSliceData_row w _ _ _ _ _ (by omega)]; rfl
  ·rcases hb with ⟨rfl, _⟩ | ⟨g, cap, h5, rfl⟩ <;> rfl
theorem pop_lenV [Tracks] {x : Operand} {t tel : TypeId} {size bytes : Nat} {zero : Value} {v : Value} {s : List UInt8} (hf : Fits P t (.slice tel) size bytes zero) (hb : BufV s v) (hx : evalO e x = some (.raw v)) : POp P e ⟨dst, .call ⟨.builtin .len, #[x], #[t]⟩, ty, pos, af, g⟩ (.int .i64 s.length) :=
 POp.of_run fun I F a w ho hs => by
  have h1 := (ho.one (x := x) (by simp [Op.operands, Call.operands]) hx).raw_inv
  obtain ⟨a', cap, h2⟩ : ∃ a' cap, v = .slice a' s.length cap := by
   rcases hb with ⟨rfl, rfl⟩ | ⟨g, cap, _, rfl⟩
   ·exact ⟨_, _, rfl⟩
   ·exact ⟨_, _, rfl⟩
  exact ⟨.int .i64 s.length, w, I, by rw [run_len (ats := #[])]; simp [h1, h2, Builtin.len_, run_underlying hf.slice, goInt], .refl I, .int _ _, hs⟩
/-- The builder's bytes as a string; its header stays. -/
theorem eop_strH [Tracks] {x y : Operand} {pt it : TypeId} {i b : Nat} {T el : TypeId} {h v : Value} {s : List UInt8} (hpt : P.underlying pt = some (.pointer el)) (hc : P.cellsOf el = 1)
 (hx : evalO e x = some (.raw (dataP v))) (hy : evalO e y = some (.int .i64 s.length)) (hm : M[i]? = some (.bld b T el h v s))
 (hk : K (.str s) (M.set i (.cells b [.junk, .raw h]))) : EOp P e M ⟨dst, .call ⟨.builtin .unsafeString, #[x, y], #[pt, it]⟩, ty, pos, af, g⟩ K :=
 EOp.of_run fun I F a w ho hs => by
  have h1 := (ho.one (x := x) (by simp [Op.operands, Call.operands]) hx).raw_inv
  have h2 := (ho.one (x := y) (by simp [Op.operands, Call.operands]) hy).int_inv
  have hp := hs.pull hm
  obtain ⟨hnd, hap, him⟩ := hp.bld_nodup
  obtain ⟨⟨h0, p, hpp, hhd⟩, h3⟩ := hp.obj _ List.mem_cons_self
  have hr : ∀ r : Sem Value, Builtin.unsafeString_ #[pt, it] ty #[dataP v, .int .i64 s.length] = r → (execOp a.eval ⟨dst, .call ⟨.builtin .unsafeString, #[x, y], #[pt, it]⟩, ty, pos, af, g⟩).run P w = (r.run P w).andThen (fun v w => .ok (.value v) w) := by
   rintro r rfl
   simp [execOp, resolve, invoke, builtin, h1, h2]
  have key : ∀ w' : World, (∀ k, k ∉ bufB v → w'.heap[k]? = w.heap[k]?) → w'.os = w.os ∧ w'.output = w.output ∧ w'.tape = w.tape ∧ w'.drawn = w.drawn → Sat P I ((M.set i (.cells b [.junk, .raw h])) ++ F) w' := fun w' hk hfo => by
   refine Sat.unpull hm (hp.change (m' := .cells b [.junk, .raw h]) (fun k _ hnk => hk k fun hk' => hnk (by simp only [MObj.blocks]; exact List.mem_cons_of_mem _ hk')) (fun k hk => .inl ?_) (by simp [MObj.blocks]) ?_ hfo.1 hfo.2.1 hfo.2.2.1 (fun _ => Nat.le_of_eq hfo.2.2.2.symm))
   ·simp [MObj.blocks] at hk ⊢; exact .inl hk
   ·refine ⟨#[p, h], T, (0, 0), ?_, Free.zero _, ?_⟩
    ·rw [hk b (List.nodup_cons.1 hnd).1]; exact hhd
    ·exact VL.cons (.junk _) (VL.cons (.raw _ h0) VL.nil)
  by_cases hs0 : s = []
  ·subst hs0
   refine ⟨.string .empty, _, _, w, I, ?_, .refl I, hk, .str [], key w (fun _ _ => rfl) ⟨rfl, rfl, rfl, rfl⟩⟩
   rw [hr _ rfl]
   rcases h3 with ⟨rfl, _⟩ | ⟨g, cap, rc, rfl, h4, h5, h6⟩
   ·simp only [dataP, List.length_nil, Int.ofNat_zero]; erw [Lib.run_unsafeString_none w]; rfl
   ·simp only [dataP, List.length_nil, Int.ofNat_zero]; erw [Lib.run_unsafeString_none w]; rfl
  ·rcases h3 with ⟨rfl, h0⟩ | ⟨g, cap, rc, rfl, h4, h5, h6⟩
   ·exact absurd h0 hs0
   ·refine ⟨.string ⟨s.toArray⟩, _, _, w.freeze ⟨g, 0, none⟩ s.length, I, ?_, .refl I, hk, .str s, ?_⟩
    ·rw [hr _ rfl]
     simp only [dataP]
     rw [Lib.run_unsafeString_row w pt it ty el hpt hc g rc.size (by simp [World.shape?, h4]) s hs0 (by omega) (by omega) (fun j c hj => by rw [addr_add, cell_of h4]; simpa using h6 j c hj)]
     rfl
    ·refine key _ (fun k hk => ?_) ?_
     ·have hkg : k ≠ g := fun e => hk (by simp [bufB, e])
      unfold World.freeze
      split
      ·rfl
      ·simp only [Array.getElem?_modify]
       rw [if_neg (fun e => hkg e.symm)]
     ·unfold World.freeze; split <;> exact ⟨rfl, rfl, rfl, rfl⟩
end
end Go.HL
end
section
namespace Go.Proofs
open Go.Shelf
def Tryz.lays138_ren : Go.Shelf.Ren := ⟨fun | 138 => 81 | 195 => 129 | 218 => 130 | 143 => 131 | 219 => 181 | 217 => 150 | 225 => 241 | 224 => 242 | 267 => 243 | 266 => 192 | 314 => 281 | n => n, fun | 9 => 9 | 3 => 3 | 4 => 4 | 5 => 5 | 0 => 0 | 46 => 212 | 146 => 302 | 51 => 252 | n => n, fun | 1 => 0 | n => n⟩
theorem Tryz.lays138 : Go.Proofs.Lays.n138 Tryz.prog Tryz.lays138_ren := {
 mixed := by kernel_rfl
 f138 := Tryz.func81.trans (congrArg some (by kernel_rfl))
 f143 := Tryz.func131.trans (congrArg some (by kernel_rfl))
 f195 := Tryz.func129.trans (congrArg some (by kernel_rfl))
 f217 := Tryz.func150.trans (congrArg some (by kernel_rfl))
 f218 := Tryz.func130.trans (congrArg some (by kernel_rfl))
 f219 := Tryz.func181.trans (congrArg some (by kernel_rfl))
 f224 := Tryz.func242.trans (congrArg some (by kernel_rfl))
 f225 := Tryz.func241.trans (congrArg some (by kernel_rfl))
 f266 := Tryz.func192.trans (congrArg some (by kernel_rfl))
 f267 := Tryz.func243.trans (congrArg some (by kernel_rfl))
 f314 := Tryz.func281.trans (congrArg some (by kernel_rfl))
 t0 := Tryz.underlying0
 a0 := Tryz.isAgg0
 z0 := Tryz.sizeOf0
 v0 := Tryz.zeroValue0
 t3 := Tryz.underlying3
 a3 := Tryz.isAgg3
 z3 := Tryz.sizeOf3
 v3 := Tryz.zeroValue3
 t4 := Tryz.underlying4
 a4 := Tryz.isAgg4
 z4 := Tryz.sizeOf4
 v4 := Tryz.zeroValue4
 t5 := Tryz.underlying5
 a5 := Tryz.isAgg5
 z5 := Tryz.sizeOf5
 v5 := Tryz.zeroValue5
 t9 := Tryz.underlying9
 a9 := Tryz.isAgg9
 z9 := Tryz.sizeOf9
 v9 := Tryz.zeroValue9
 t46 := Tryz.underlying212
 a46 := Tryz.isAgg212
 z46 := Tryz.sizeOf212
 v46 := Tryz.zeroValue212
 t51 := Tryz.underlying252
 a51 := Tryz.isAgg252
 z51 := Tryz.sizeOf252
 v51 := Tryz.zeroValue252
 t146 := Tryz.underlying302
 a146 := Tryz.isAgg302
 z146 := Tryz.sizeOf302
 v146 := Tryz.zeroValue302
 g1 := by kernel_rfl }
def Tryz.lays146_ren : Go.Shelf.Ren := ⟨fun | 146 => 71 | 221 => 121 | 268 => 172 | 138 => 81 | 143 => 131 | 195 => 129 | 197 => 189 | 218 => 130 | 219 => 181 | 260 => 255 | 217 => 150 | 225 => 241 | 224 => 242 | 267 => 243 | 266 => 192 | 314 => 281 | n => n, fun | 9 => 9 | 31 => 39 | 3 => 3 | 4 => 4 | 0 => 0 | 105 => 241 | 21 => 21 | 5 => 5 | 46 => 212 | 119 => 311 | 139 => 314 | 138 => 313 | 146 => 302 | 51 => 252 | n => n, fun | 1 => 0 | 3 => 2 | 4 => 3 | n => n⟩
theorem Tryz.lays146 : Go.Proofs.Lays.n146 Tryz.prog Tryz.lays146_ren := {
 mixed := by kernel_rfl
 f138 := Tryz.func81.trans (congrArg some (by kernel_rfl))
 f143 := Tryz.func131.trans (congrArg some (by kernel_rfl))
 f146 := Tryz.func71.trans (congrArg some (by kernel_rfl))
 f195 := Tryz.func129.trans (congrArg some (by kernel_rfl))
 f197 := Tryz.func189.trans (congrArg some (by kernel_rfl))
 f217 := Tryz.func150.trans (congrArg some (by kernel_rfl))
 f218 := Tryz.func130.trans (congrArg some (by kernel_rfl))
 f219 := Tryz.func181.trans (congrArg some (by kernel_rfl))
 f221 := Tryz.func121.trans (congrArg some (by kernel_rfl))
 f224 := Tryz.func242.trans (congrArg some (by kernel_rfl))
 f225 := Tryz.func241.trans (congrArg some (by kernel_rfl))
 f260 := Tryz.func255.trans (congrArg some (by kernel_rfl))
 f266 := Tryz.func192.trans (congrArg some (by kernel_rfl))
 f267 := Tryz.func243.trans (congrArg some (by kernel_rfl))
 f268 := Tryz.func172.trans (congrArg some (by kernel_rfl))
 f314 := Tryz.func281.trans (congrArg some (by kernel_rfl))
 t0 := Tryz.underlying0
 a0 := Tryz.isAgg0
 z0 := Tryz.sizeOf0
 v0 := Tryz.zeroValue0
 t3 := Tryz.underlying3
 a3 := Tryz.isAgg3
 z3 := Tryz.sizeOf3
 v3 := Tryz.zeroValue3
 t4 := Tryz.underlying4
 a4 := Tryz.isAgg4
 z4 := Tryz.sizeOf4
 v4 := Tryz.zeroValue4
 t5 := Tryz.underlying5
 a5 := Tryz.isAgg5
 z5 := Tryz.sizeOf5
 v5 := Tryz.zeroValue5
 t9 := Tryz.underlying9
 a9 := Tryz.isAgg9
 z9 := Tryz.sizeOf9
 v9 := Tryz.zeroValue9
 t21 := Tryz.underlying21
 a21 := Tryz.isAgg21
 z21 := Tryz.sizeOf21
 v21 := Tryz.zeroValue21
 t31 := Tryz.underlying39
 a31 := Tryz.isAgg39
 z31 := Tryz.sizeOf39
 v31 := Tryz.zeroValue39
 t46 := Tryz.underlying212
 a46 := Tryz.isAgg212
 z46 := Tryz.sizeOf212
 v46 := Tryz.zeroValue212
 t51 := Tryz.underlying252
 a51 := Tryz.isAgg252
 z51 := Tryz.sizeOf252
 v51 := Tryz.zeroValue252
 t105 := Tryz.underlying241
 a105 := Tryz.isAgg241
 z105 := Tryz.sizeOf241
 v105 := Tryz.zeroValue241
 t119 := Tryz.underlying311
 a119 := Tryz.isAgg311
 z119 := Tryz.sizeOf311
 t138 := Tryz.underlying313
 a138 := Tryz.isAgg313
 z138 := Tryz.sizeOf313
 v138 := Tryz.zeroValue313
 t139 := Tryz.underlying314
 a139 := Tryz.isAgg314
 z139 := Tryz.sizeOf314
 v139 := Tryz.zeroValue314
 t146 := Tryz.underlying302
 a146 := Tryz.isAgg302
 z146 := Tryz.sizeOf302
 v146 := Tryz.zeroValue302
 g1 := by kernel_rfl
 g3 := by kernel_rfl
 g4 := by kernel_rfl }
def Tryz.lays104_ren : Go.Shelf.Ren := ⟨fun | 104 => 128 | 211 => 180 | 207 => 240 | n => n, fun | 9 => 9 | 4 => 4 | 24 => 184 | 3 => 3 | n => n, fun | n => n⟩
theorem Tryz.lays104 : Go.Proofs.Lays.n104 Tryz.prog Tryz.lays104_ren := {
 mixed := by kernel_rfl
 f104 := Tryz.func128.trans (congrArg some (by kernel_rfl))
 f207 := Tryz.func240.trans (congrArg some (by kernel_rfl))
 f211 := Tryz.func180.trans (congrArg some (by kernel_rfl))
 t3 := Tryz.underlying3
 a3 := Tryz.isAgg3
 z3 := Tryz.sizeOf3
 v3 := Tryz.zeroValue3
 t4 := Tryz.underlying4
 a4 := Tryz.isAgg4
 z4 := Tryz.sizeOf4
 v4 := Tryz.zeroValue4
 t9 := Tryz.underlying9
 a9 := Tryz.isAgg9
 z9 := Tryz.sizeOf9
 v9 := Tryz.zeroValue9
 t24 := Tryz.underlying184
 a24 := Tryz.isAgg184
 z24 := Tryz.sizeOf184
 v24 := Tryz.zeroValue184 }
def Tryz.lays156_ren : Go.Shelf.Ren := ⟨fun | 156 => 32 | 165 => 78 | 166 => 31 | 169 => 34 | 240 => 77 | 241 => 127 | 276 => 126 | 277 => 179 | n => n, fun | 31 => 39 | 9 => 9 | 3 => 3 | 4 => 4 | 0 => 0 | 20 => 20 | 72 => 61 | 76 => 65 | 70 => 58 | 37 => 59 | 75 => 64 | 127 => 125 | 164 => 182 | 5 => 5 | 80 => 36 | n => n, fun | n => n⟩
theorem Tryz.lays156 : Go.Proofs.Lays.n156 Tryz.prog Tryz.lays156_ren := {
 mixed := by kernel_rfl
 f156 := Tryz.func32.trans (congrArg some (by kernel_rfl))
 f165 := Tryz.func78.trans (congrArg some (by kernel_rfl))
 f166 := Tryz.func31.trans (congrArg some (by kernel_rfl))
 f169 := Tryz.func34.trans (congrArg some (by kernel_rfl))
 f240 := Tryz.func77.trans (congrArg some (by kernel_rfl))
 f241 := Tryz.func127.trans (congrArg some (by kernel_rfl))
 f276 := Tryz.func126.trans (congrArg some (by kernel_rfl))
 f277 := Tryz.func179.trans (congrArg some (by kernel_rfl))
 t0 := Tryz.underlying0
 a0 := Tryz.isAgg0
 z0 := Tryz.sizeOf0
 v0 := Tryz.zeroValue0
 t3 := Tryz.underlying3
 a3 := Tryz.isAgg3
 z3 := Tryz.sizeOf3
 v3 := Tryz.zeroValue3
 t4 := Tryz.underlying4
 a4 := Tryz.isAgg4
 z4 := Tryz.sizeOf4
 v4 := Tryz.zeroValue4
 t9 := Tryz.underlying9
 a9 := Tryz.isAgg9
 z9 := Tryz.sizeOf9
 v9 := Tryz.zeroValue9
 t20 := Tryz.underlying20
 a20 := Tryz.isAgg20
 z20 := Tryz.sizeOf20
 v20 := Tryz.zeroValue20
 t31 := Tryz.underlying39
 a31 := Tryz.isAgg39
 z31 := Tryz.sizeOf39
 v31 := Tryz.zeroValue39
 t37 := Tryz.underlying59
 a37 := Tryz.isAgg59
 z37 := Tryz.sizeOf59
 v37 := Tryz.zeroValue59
 t70 := Tryz.underlying58
 a70 := Tryz.isAgg58
 z70 := Tryz.sizeOf58
 v70 := Tryz.zeroValue58
 t72 := Tryz.underlying61
 a72 := Tryz.isAgg61
 z72 := Tryz.sizeOf61
 v72 := Tryz.zeroValue61
 t75 := Tryz.underlying64
 a75 := Tryz.isAgg64
 z75 := Tryz.sizeOf64
 v75 := Tryz.zeroValue64
 t76 := Tryz.underlying65
 a76 := Tryz.isAgg65
 z76 := Tryz.sizeOf65
 v76 := Tryz.zeroValue65
 t127 := Tryz.underlying125
 a127 := Tryz.isAgg125
 z127 := Tryz.sizeOf125
 v127 := Tryz.zeroValue125
 t164 := Tryz.underlying182
 a164 := Tryz.isAgg182
 z164 := Tryz.sizeOf182
 v164 := Tryz.zeroValue182 }
end Go.Proofs
end
section
namespace Go.Proofs
open Go.Shelf
def Tryz.lays240_ren : Go.Shelf.Ren := ⟨fun | 240 => 77 | 276 => 126 | n => n, fun | 0 => 0 | 4 => 4 | 9 => 9 | 20 => 20 | 70 => 58 | 72 => 61 | 164 => 182 | 37 => 59 | n => n, fun n => n⟩
theorem Tryz.lays240 : Go.Proofs.Lays.n240 Tryz.prog Tryz.lays240_ren := {
 mixed := by kernel_rfl
 f240 := Tryz.func77.trans (congrArg some (by kernel_rfl))
 f276 := Tryz.func126.trans (congrArg some (by kernel_rfl))
 t0 := Tryz.underlying0
 a0 := Tryz.isAgg0
 z0 := Tryz.sizeOf0
 v0 := Tryz.zeroValue0
 t4 := Tryz.underlying4
 a4 := Tryz.isAgg4
 z4 := Tryz.sizeOf4
 v4 := Tryz.zeroValue4
 t9 := Tryz.underlying9
 a9 := Tryz.isAgg9
 z9 := Tryz.sizeOf9
 v9 := Tryz.zeroValue9
 t20 := Tryz.underlying20
 a20 := Tryz.isAgg20
 z20 := Tryz.sizeOf20
 v20 := Tryz.zeroValue20
 t70 := Tryz.underlying58
 a70 := Tryz.isAgg58
 z70 := Tryz.sizeOf58
 v70 := Tryz.zeroValue58
 t72 := Tryz.underlying61
 a72 := Tryz.isAgg61
 z72 := Tryz.sizeOf61
 v72 := Tryz.zeroValue61
 t164 := Tryz.underlying182
 a164 := Tryz.isAgg182
 z164 := Tryz.sizeOf182
 v164 := Tryz.zeroValue182
}
end Go.Proofs
end
section
namespace Go.HL
theorem decFrom_app : ∀ (l m : List UInt8) (acc : Nat), Lib.decFrom acc (l ++ m) = (Lib.decFrom acc l).bind fun a => Lib.decFrom a m
 | [], m, acc => rfl
 | b :: l, m, acc => by
   simp only [List.cons_append, Lib.decFrom]
   cases Lib.digitVal b with
   | none => rfl
   | some d => exact decFrom_app l m _
theorem digit_ok : ∀ d, d < 10 → Lib.digitVal (UInt8.ofNat (48 + d)) = some d ∧ dig (UInt8.ofNat (48 + d)) = true ∧ dig10.contains (UInt8.ofNat (48 + d)) = true := by decide
theorem digits_read : ∀ u : Nat, Lib.decFrom 0 (Lib.decDigits u) = some u := fun u => by
 induction u using Nat.strongRecOn with
 | ind u ih =>
   rw [Lib.decDigits]
   by_cases h : u < 10
   ·rw [dif_pos h]
    simp only [Lib.decFrom, (digit_ok u h).1]; simp
   ·rw [dif_neg h, decFrom_app, ih (u / 10) (by omega)]
    simp only [Option.bind_some, Lib.decFrom, (digit_ok (u % 10) (by omega)).1]
    congr 1; omega
theorem digits_mem : ∀ (u : Nat) (c : UInt8), c ∈ Lib.decDigits u → ∃ d, d < 10 ∧ c = UInt8.ofNat (48 + d) := fun u => by
 induction u using Nat.strongRecOn with
 | ind u ih =>
   intro c hc
   rw [Lib.decDigits] at hc
   by_cases h : u < 10
   ·rw [dif_pos h] at hc
    exact ⟨u, h, by simpa using hc⟩
   ·rw [dif_neg h] at hc
    rcases List.mem_append.1 hc with hc | hc
    ·exact ih (u / 10) (by omega) c hc
    ·exact ⟨u % 10, by omega, by simpa using hc⟩
theorem digits_ne (u : Nat) : Lib.decDigits u ≠ [] := by
 rw [Lib.decDigits]; split <;> simp
theorem digits_cons (u : Nat) : ∃ d r, d < 10 ∧ Lib.decDigits u = UInt8.ofNat (48 + d) :: r := by
 cases h : Lib.decDigits u with
 | nil => exact absurd h (digits_ne u)
 | cons c r =>
   obtain ⟨d, hd, e⟩ := digits_mem u c (by rw [h]; exact List.mem_cons_self)
   exact ⟨d, r, hd, by rw [e]⟩
theorem digit_head : ∀ d, d < 10 → (UInt8.ofNat (48 + d) == 45) = false ∧ (UInt8.ofNat (48 + d) == 43) = false ∧ UInt8.ofNat (48 + d) ≠ 45 := by decide
theorem atoi_nat (u : Nat) : Lib.atoi (Lib.decDigits u) = some (u : Int) := by
 obtain ⟨d, r, hd, e⟩ := digits_cons u
 have h := digits_read u
 rw [e] at h ⊢
 simp only [Lib.atoi, (digit_head d hd).1, (digit_head d hd).2.1, Lib.decNat, h]; simp
theorem atoi_itoa (n : Int) : Lib.atoi (Lib.itoa n) = some n := by
 rcases Int.lt_or_le n 0 with h | h
 ·obtain ⟨u, rfl⟩ : ∃ u : Nat, n = -(u : Int) := ⟨n.natAbs, by omega⟩
  rw [Lib.itoa_neg u (by omega)]
  have h2 := digits_read u
  have h3 : (Lib.decDigits u).isEmpty = false := by simpa using digits_ne u
  simp [Lib.atoi, Lib.decNat, h2, h3]
 ·obtain ⟨u, rfl⟩ : ∃ u : Nat, n = (u : Int) := ⟨n.toNat, by omega⟩
  rw [Lib.itoa_nonneg]; exact atoi_nat u
theorem numV_itoa (n : Int) : numV (Lib.itoa n) = n := by unfold numV; rw [atoi_itoa]; rfl
theorem nDigits_le : ∀ (k u : Nat), u < 10 ^ (k + 1) → Lib.nDigits u ≤ k + 1
 | 0, u, h => by rw [Lib.nDigits_small (by simpa using h)]; omega
 | k + 1, u, h => by
   by_cases h1 : u < 10
   ·rw [Lib.nDigits_small h1]; omega
   ·rw [Lib.nDigits_big h1]
    have := nDigits_le k (u / 10) (by rw [Nat.pow_succ] at h; omega)
    omega
theorem dropW_all {p : UInt8 → Bool} : ∀ {s : Str}, (∀ c ∈ s, p c = true) → s.dropWhile p = []
 | [], _ => rfl
 | c :: s, h => by
   rw [List.dropWhile_cons, if_pos (h c List.mem_cons_self)]
   exact dropW_all fun x hx => h x (List.mem_cons_of_mem _ hx)
theorem cut_digits (u : Nat) : cutMinus (Lib.decDigits u) = Lib.decDigits u := by
 obtain ⟨d, r, hd, e⟩ := digits_cons u
 rw [e]
 unfold cutMinus
 split
 ·rename_i heq
  exact absurd (List.cons.inj heq).1 (digit_head d hd).2.2
 ·rfl
theorem dropW_nil {p : UInt8 → Bool} : ∀ {s : Str}, s.dropWhile p = [] → ∀ c ∈ s, p c = true
 | [], _, c, hc => by cases hc
 | x :: s, h, c, hc => by
   rw [List.dropWhile_cons] at h
   split at h
   ·rcases List.mem_cons.1 hc with rfl | hc
    ·assumption
    ·exact dropW_nil h c hc
   ·cases h
theorem dropW_sub {p : UInt8 → Bool} : ∀ {s : Str} (c : UInt8), c ∈ s → p c = true ∨ c ∈ s.dropWhile p
 | x :: s, c, hc => by
   rw [List.dropWhile_cons]
   split
   ·rename_i hx
    rcases List.mem_cons.1 hc with rfl | hc
    ·exact .inl hx
    ·exact dropW_sub c hc
   ·exact .inr hc
theorem trim10_nil {s : Str} (h : trim10 s = []) : ∀ c ∈ s, dig10.contains c = true := fun c hc => by
 unfold trim10 at h
 have h1 := dropW_nil h
 rcases dropW_sub (p := (dig10.contains ·)) (s := s.reverse) c (List.mem_reverse.2 hc) with h2 | h2
 ·exact h2
 ·exact h1 c (by unfold rtrim; exact List.mem_reverse.2 h2)
theorem dig10_val : ∀ c : UInt8, dig10.contains c = true → ∃ d, Lib.digitVal c = some d := fun c h => by
 have : c.toNat < 256 := c.toNat_lt
 simp only [dig10, List.contains_cons, List.contains_nil, Bool.or_false, Bool.or_eq_true, beq_iff_eq] at h
 rcases h with rfl | rfl | rfl | rfl | rfl | rfl | rfl | rfl | rfl | rfl <;> exact ⟨_, rfl⟩
theorem decFrom_some : ∀ (l : List UInt8) (acc : Nat), (∀ c ∈ l, dig10.contains c = true) → ∃ n, Lib.decFrom acc l = some n
 | [], acc, _ => ⟨acc, rfl⟩
 | c :: l, acc, h => by
   obtain ⟨d, hd⟩ := dig10_val c (h c List.mem_cons_self)
   obtain ⟨n, hn⟩ := decFrom_some l (acc * 10 + d) fun x hx => h x (List.mem_cons_of_mem _ hx)
   exact ⟨n, by simp only [Lib.decFrom, hd, hn]⟩
end Go.HL
end
section
namespace Go.HL
end Go.HL
end
section
namespace Go.HL
end Go.HL
end
section
namespace Go.HL
end Go.HL
end
section
namespace Go.Proofs.YtjecenjmphpmfaaGreatDoor
open Go.HL
set_option maxRecDepth 100000
set_option linter.unusedVariables false
set_option linter.unusedSimpArgs false
/-- what every writing method of a builder calls first -/
theorem c_strings_Builder_copyCheck [Tracks] {b : Nat} {h v : Value} {s : Str} : Con Tryz.prog 77 [.raw (.pointer (some ⟨b, 0, none⟩))] [.bld b 61 5 h v s] (fun x M' => x = .tup [] ∧ M' = [.bld b 61 5 h v s]) :=
 con_copyCheck (ρ := Tryz.lays240_ren) (el := 5) Tryz.lays240 ⟨by kernel_rfl, by kernel_rfl⟩

theorem maxLenIs [Tracks] : Tryz.prog.globalNamed "internal/bytealg.MaxLen" = some (Tryz.lays146_ren.g 1) := by kernel_rfl

theorem c_strings_Split [Tracks] {s : Str} {c : UInt8} (hs : s.length < 4294967281) : ConP Tryz.prog 71 [.str s, .str [c]] (.slice 1 ((spl c s).map .str)) :=
 conp_split Tryz.lays146 (by kernel_rfl) maxLenIs hs

theorem c_strings_Count [Tracks] {s : Str} {c : UInt8} : ConP Tryz.prog 81 [.str s, .str [c]] (.int .i64 ((s.count c : Nat) : Int)) := conp_count Tryz.lays138

theorem c_strings_CutSuffix [Tracks] {s p : Str} (hs : s.length ≤ 4294967281) : ConP Tryz.prog 128 [.str s, .str p] (.tup [.str (Lib.trimSuffix s p), .bool (Lib.hasSuffix s p)]) := conp_cutSuffix Tryz.lays104 hs

theorem c_strings_Join [Tracks] (hT : Tracks.on = false) {l : List Str} {c : UInt8} (hl : (jn c l).length ≤ 1000000000) (hn : l.length ≤ 1000000000) : ConP Tryz.prog 32 [.slice 1 (l.map .str), .str [c]] (.str (jn c l)) :=
 conp_join hT Tryz.lays156 { t5 := Tryz.underlying5, a5 := fun w => by kernel_rfl, z5 := fun w => by kernel_rfl, v5 := fun w => by kernel_rfl, infoByte := by kernel_rfl, cellsByte := by kernel_rfl, sizeByte := by kernel_rfl, neB5 := by decide, sizeBuilder := by kernel_rfl, liesBuilder := by kernel_rfl } hl hn

/-- (*strings.Builder).WriteString -/
theorem c_strings_Builder_WriteString [Tracks] {b : Nat} {v : Value} {s : Str} {t : Str}  (hl : s.length + t.length ≤ 1000000000) : Con Tryz.prog 31 [pAt b, .str t] [.bld b 61 5 v v s] (fun x M' => ∃ v', x = .tup [.int .i64 (t.length : Int), .raw .nilIface] ∧ M' = [.bld b 61 5 v' v' (s ++ t)]) := by
 refine Con.of_body Tryz.func31 rfl Tryz.ntmps31 rfl rfl ?_
 refine hw_reg ?_
 refine dp rfl (pop_assign rfl) ?_
 refine dp rfl (pop_assign rfl) ?_
 refine dn ?_
 refine hw_reg ?_
 refine dp rfl (pop_move rfl) ?_
 refine de rfl (eop_callx (i := 0) ca77 rfl (WeakL.refl _) rfl c_strings_Builder_copyCheck ?_)
 rintro _ _ ⟨rfl, rfl⟩
 refine dn ?_
 refine hw_reg ?_
 refine dp rfl (pop_move rfl) ?_
 refine dp rfl (pop_move rfl) ?_
 refine dp rfl ((by first | exact pop_nilCheck rfl | exact pop_nilCheck_raw rfl)) ?_
 refine dp rfl (pop_fieldAddr_raw ty61 rfl ty59 (by decide) rfl) ?_
 refine de rfl (eop_loadB (i := 0) ty59 rfl rfl ?_)
 refine dp rfl (pop_move rfl) ?_
 refine de rfl (eop_appendB (i := 0) ty59 ty9 ty5 rfl rfl rfl rfl rfl hl fun v14 => ?_)
 refine dp rfl ((by first | exact pop_nilCheck rfl | exact pop_nilCheck_raw rfl)) ?_
 refine dp rfl (pop_fieldAddr_raw ty61 rfl ty59 (by decide) rfl) ?_
 refine de0 (eop_storeB (i := 0) ty59 rfl rfl rfl ?_)
 refine dn ?_
 refine hw_reg ?_
 refine dp rfl (pop_move rfl) ?_
 refine dp rfl (pop_lens ty9 rfl) ?_
 refine dp rfl (pop_assign rfl) ?_
 refine dp rfl (pop_assign rfl) ?_
 refine dn ?_
 refine hw_ret ?_
 exact ret_q rfl ⟨v14, rfl, rfl⟩

/-- (*strings.Builder).Len -/
theorem c_strings_Builder_Len [Tracks] {b : Nat} {v : Value} {s : Str}   : Con Tryz.prog 33 [pAt b] [.bld b 61 5 v v s] (fun x M' => x = .int .i64 (s.length : Int) ∧ M' = [.bld b 61 5 v v s]) := by
 refine Con.of_body Tryz.func33 rfl Tryz.ntmps33 rfl rfl ?_
 refine hw_reg ?_
 refine dp rfl (pop_assign rfl) ?_
 refine dn ?_
 refine hw_reg ?_
 refine dp rfl (pop_move rfl) ?_
 refine dp rfl ((by first | exact pop_nilCheck rfl | exact pop_nilCheck_raw rfl)) ?_
 refine dp rfl (pop_fieldAddr_raw ty61 rfl ty59 (by decide) rfl) ?_
 refine de rfl (eop_loadB (i := 0) ty59 rfl rfl ?_)
 refine de rfl (eop_lenB (i := 0) ty59 rfl rfl ?_)
 refine dp rfl (pop_assign rfl) ?_
 refine dn ?_
 refine hw_ret ?_
 exact ret_q rfl ⟨rfl, rfl⟩

/-- (*strings.Builder).String -/
theorem c_strings_Builder_String [Tracks] {b : Nat} {v : Value} {s : Str}   : Con Tryz.prog 34 [pAt b] [.bld b 61 5 v v s] (fun x M' => x = .str s ∧ M' = []) := by
 refine Con.of_body Tryz.func34 rfl Tryz.ntmps34 rfl rfl ?_
 refine hw_reg ?_
 refine dp rfl (pop_assign rfl) ?_
 refine dn ?_
 refine hw_bldc (i := 0) rfl fun hbv => ?_
 refine hw_draw (fun M => ∃ i : Nat, (M[i]? = some (.bld b 61 5 v v s)) ∨ ∃ p, M[i]? = some (.cells b [p, .raw v])) [3, 8] mixed ?_
 refine ahp 0 rfl rfl (by kernel_rfl) (by kernel_rfl) (pop_move rfl) ?_
 refine ahp 1 rfl rfl (by kernel_rfl) (by kernel_rfl) ((by first | exact pop_nilCheck rfl | exact pop_nilCheck_raw rfl)) ?_
 refine ahp 2 rfl rfl (by kernel_rfl) (by kernel_rfl) (pop_fieldAddr_raw ty61 rfl ty59 (by decide) rfl) ?_
 refine ahl 3 rfl rfl (by kernel_rfl) (by kernel_rfl) (by simp) ⟨0, .inl rfl⟩ (fun M hM => by obtain ⟨i, hi | ⟨p, hi⟩⟩ := hM; exact eop_loadB (i := i) ty59 rfl hi ⟨rfl, rfl⟩; exact eop_load (i := i) ty59 rfl hi (.inl ⟨rfl, rfl⟩) ⟨rfl, rfl⟩) ?_
 refine ahp 4 rfl rfl (by kernel_rfl) (by kernel_rfl) (pop_dataV hbv rfl) ?_
 refine ahp 5 rfl rfl (by kernel_rfl) (by kernel_rfl) (pop_move rfl) ?_
 refine ahp 6 rfl rfl (by kernel_rfl) (by kernel_rfl) ((by first | exact pop_nilCheck rfl | exact pop_nilCheck_raw rfl)) ?_
 refine ahp 7 rfl rfl (by kernel_rfl) (by kernel_rfl) (pop_fieldAddr_raw ty61 rfl ty59 (by decide) rfl) ?_
 refine ahl 8 rfl rfl (by kernel_rfl) (by kernel_rfl) (by simp) ⟨0, .inl rfl⟩ (fun M hM => by obtain ⟨i, hi | ⟨p, hi⟩⟩ := hM; exact eop_loadB (i := i) ty59 rfl hi ⟨rfl, rfl⟩; exact eop_load (i := i) ty59 rfl hi (.inl ⟨rfl, rfl⟩) ⟨rfl, rfl⟩) ?_
 refine ahp 9 rfl rfl (by kernel_rfl) (by kernel_rfl) (pop_lenV ty59 hbv rfl) ?_
 refine ahe 10 rfl (by kernel_rfl) ?_
 refine hop_e rfl (eop_strH (i := 0) (by kernel_rfl) (by kernel_rfl) rfl rfl rfl ?_)
 refine ⟨fun _ => .inl ⟨0, .inr ⟨_, rfl⟩⟩, ?_⟩
 refine ahp 11 rfl rfl (by kernel_rfl) (by kernel_rfl) (pop_assign rfl) ?_
 refine ahz (by kernel_rfl) ?_
 refine hw_ret ?_
 refine ret_g Ghost.drop rfl ⟨rfl, rfl⟩
end Go.Proofs.YtjecenjmphpmfaaGreatDoor
end
section
namespace Go.HL
theorem numB_1g {s : Str} {m : Int} (h : (cutMinus s = [] ∨ m < ((cutMinus s).length : Int)) ∨ ((((cutMinus s).head?).getD 0).toNat : Int) = 48 ∧ ((1 : Int) < ((cutMinus s).length : Int) ∨ (cutMinus s).length < s.length)) : numB s m = false := by
 have : numC s m = true := decide_eq_true h
 simp [numB, this]
theorem numC_2g {s : Str} {m : Int} (h : (¬ cutMinus s = [] ∧ ((cutMinus s).length : Int) ≤ m) ∧ (((((cutMinus s).head?).getD 0).toNat : Int) = 48 → ((cutMinus s).length : Int) ≤ 1 ∧ s.length ≤ (cutMinus s).length)) : numC s m = false := by
 refine decide_eq_false ?_
 rintro ((a | a) | ⟨a, b⟩)
 ·exact h.1.1 a
 ·omega
 ·have := h.2 a; omega
set_option maxRecDepth 100000 in
theorem dig_dig10 : ∀ c : UInt8, dig c = dig10.contains c := fun c => by
 have : ∀ n, n < 256 → dig (UInt8.ofNat n) = dig10.contains (UInt8.ofNat n) := by decide
 have h := this c.toNat c.toNat_lt
 simpa using h
theorem digitVal_dig : ∀ c : UInt8, dig c = true → ∃ d, d < 10 ∧ Lib.digitVal c = some d ∧ c = UInt8.ofNat (48 + d) := fun c h => by
 simp only [dig, Bool.and_eq_true, decide_eq_true_eq] at h
 refine ⟨c.toNat - 48, by omega, by unfold Lib.digitVal; rw [if_pos h], ?_⟩
 rw [show 48 + (c.toNat - 48) = c.toNat by omega]; simp
theorem decDigits_big {u : Nat} (h : 10 ≤ u) : Lib.decDigits u = Lib.decDigits (u / 10) ++ [UInt8.ofNat (48 + u % 10)] := by
 rw [Lib.decDigits, dif_neg (by omega)]
theorem decDigits_small {u : Nat} (h : u < 10) : Lib.decDigits u = [UInt8.ofNat (48 + u)] := by
 rw [Lib.decDigits, dif_pos h]
/-- Digits without a nought ahead are the numeral of what they spell. -/
theorem canon_aux : ∀ (n : Nat) (t : Str), t.length = n + 1 → (∀ c ∈ t, dig c = true) → (t.length = 1 ∨ (t.head?).getD 0 ≠ 48) → ∃ v, Lib.decFrom 0 t = some v ∧ Lib.decDigits v = t ∧ ((t.head?).getD 0 ≠ 48 → 1 ≤ v)
 | 0, t, hl, hd, _ => by
   match t, hl with
   | [c], _ =>
     obtain ⟨d, hd1, hd2, hd3⟩ := digitVal_dig c (hd c (by simp))
     refine ⟨d, by simp [Lib.decFrom, hd2], by rw [decDigits_small hd1, hd3], fun h => ?_⟩
     rcases Nat.eq_zero_or_pos d with h0 | h0
     ·subst h0; exact absurd (by simp [hd3]) h
     ·exact h0
 | n + 1, t, hl, hd, hc => by
   obtain ⟨t', c, rfl⟩ : ∃ t' c, t = t' ++ [c] := by
    rcases List.eq_nil_or_concat t with h | ⟨t', c, h⟩
    ·subst h; simp at hl
    ·exact ⟨t', c, by simpa using h⟩
   simp only [List.length_append, List.length_cons, List.length_nil] at hl hc
   have hne : t' ≠ [] := by rintro rfl; simp at hl
   have hhd : ((t' ++ [c]).head?).getD 0 = (t'.head?).getD 0 := by
    cases t' with
    | nil => exact absurd rfl hne
    | cons a r => rfl
   rw [hhd] at hc ⊢
   have hc' : (t'.head?).getD 0 ≠ 48 := by
    rcases hc with h | h
    ·omega
    ·exact h
   obtain ⟨v, h1, h2, h3⟩ := canon_aux n t' (by omega) (fun x hx => hd x (List.mem_append_left _ hx)) (.inr hc')
   have hv := h3 hc'
   obtain ⟨d, hd1, hd2, hd3⟩ := digitVal_dig c (hd c (by simp))
   refine ⟨v * 10 + d, ?_, ?_, fun _ => by omega⟩
   ·rw [decFrom_app, h1]; simp [Lib.decFrom, hd2]
   ·rw [decDigits_big (by omega), show (v * 10 + d) / 10 = v by omega, show (v * 10 + d) % 10 = d by omega, h2, ← hd3]
theorem canon {t : Str} (h0 : t ≠ []) (hd : ∀ c ∈ t, dig c = true) (hc : t.length = 1 ∨ (t.head?).getD 0 ≠ 48) : ∃ v, Lib.decFrom 0 t = some v ∧ Lib.decDigits v = t ∧ ((t.head?).getD 0 ≠ 48 → 1 ≤ v) := by
 obtain ⟨n, hn⟩ : ∃ n, t.length = n + 1 := ⟨t.length - 1, by have := List.length_pos_iff.2 h0; omega⟩
 exact canon_aux n t hn hd hc
theorem head48 : ∀ u : Nat, ((Lib.decDigits u).head?).getD 0 = 48 → u = 0 := fun u => by
 induction u using Nat.strongRecOn with
 | ind u ih =>
   intro h
   by_cases hu : u < 10
   ·rw [decDigits_small hu] at h
    have : ∀ d, d < 10 → (UInt8.ofNat (48 + d)) = 48 → d = 0 := by decide
    exact this u hu (by simpa using h)
   ·rw [decDigits_big (by omega)] at h
    have h2 : ((Lib.decDigits (u / 10)).head?).getD 0 = 48 := by
     cases hq : Lib.decDigits (u / 10) with
     | nil => exact absurd hq (digits_ne _)
     | cons a r => rw [hq] at h; simpa using h
    have := ih (u / 10) (by omega) h2
    omega
theorem head_nat (t : Str) : (((t.head?).getD 0).toNat : Int) = 48 ↔ (t.head?).getD 0 = 48 := by
 constructor
 ·intro h
  have h' : ((t.head?).getD 0).toNat = 48 := by omega
  exact UInt8.toNat_inj.1 (h'.trans rfl)
 ·intro h; rw [h]; rfl
theorem cutMinus_cases (s : Str) : (∃ r, s = 45 :: r ∧ cutMinus s = r) ∨ ((∀ r, s ≠ 45 :: r) ∧ cutMinus s = s) := by
 cases s with
 | nil => exact .inr ⟨fun r h => (by cases h), rfl⟩
 | cons b r =>
   by_cases hb : b = 45
   ·subst hb; exact .inl ⟨r, rfl, rfl⟩
   ·refine .inr ⟨fun r' h => hb (List.cons.inj h).1, ?_⟩
    unfold cutMinus; split
    ·rename_i heq; exact absurd (List.cons.inj heq).1 hb
    ·rfl
theorem dig_not : dig 45 = false ∧ dig 43 = false := by decide
theorem atoi_pos {s : Str} {v : Nat} (h0 : s ≠ []) (hd : ∀ c ∈ s, dig c = true) (hv : Lib.decFrom 0 s = some v) : Lib.atoi s = some (v : Int) := by
 cases s with
 | nil => exact absurd rfl h0
 | cons b r =>
   have hb := hd b List.mem_cons_self
   have e1 : (b == 45) = false := by rw [beq_eq_false_iff_ne]; rintro rfl; rw [dig_not.1] at hb; cases hb
   have e2 : (b == 43) = false := by rw [beq_eq_false_iff_ne]; rintro rfl; rw [dig_not.2] at hb; cases hb
   simp [Lib.atoi, e1, e2, Lib.decNat, hv]
theorem atoi_minus {r : Str} {v : Nat} (h0 : r ≠ []) (hv : Lib.decFrom 0 r = some v) : Lib.atoi (45 :: r) = some (-(v : Int)) := by
 have : r.isEmpty = false := by cases r with
  | nil => exact absurd rfl h0
  | cons _ _ => rfl
 simp [Lib.atoi, Lib.decNat, hv, this]
/-- What is taken for a number strictly is its own numeral. -/
theorem numB_canon {s : Str} {m : Int} (h : numB s m = true) : (cutMinus s ≠ [] ∧ ((cutMinus s).length : Int) ≤ m ∧ ∀ c ∈ cutMinus s, dig c = true) ∧ (Lib.atoi s).isSome = true ∧ Lib.itoa (numV s) = s := by
 unfold numB at h
 rw [Bool.and_eq_true, Bool.not_eq_true'] at h
 obtain ⟨h1, h2⟩ := h
 have hd : ∀ c ∈ cutMinus s, dig c = true := List.all_eq_true.1 h2
 have h3 := of_decide_eq_false h1
 simp only [not_or, not_and] at h3
 obtain ⟨⟨h4, h5⟩, h6⟩ := h3
 rw [head_nat] at h6
 have hc : (cutMinus s).length = 1 ∨ ((cutMinus s).head?).getD 0 ≠ 48 := by
  by_cases e : ((cutMinus s).head?).getD 0 = 48
  ·have := h6 e
   have hp := List.length_pos_iff.2 h4
   left; omega
  ·exact .inr e
 obtain ⟨v, v1, v2, v3⟩ := canon h4 hd hc
 refine ⟨⟨h4, by omega, hd⟩, ?_⟩
 rcases cutMinus_cases s with ⟨r, rfl, hr⟩ | ⟨_, hr⟩
 ·rw [hr] at h4 h6 v1 v2 v3
  have ha := atoi_minus h4 v1
  have hne : (r.head?).getD 0 ≠ 48 := fun e => by have := h6 e; simp at this
  refine ⟨by rw [ha]; rfl, ?_⟩
  unfold numV
  rw [ha]
  show Lib.itoa (-(v : Int)) = _
  rw [Lib.itoa_neg v (v3 hne), v2]
 ·rw [hr] at h4 hd v1 v2
  have ha := atoi_pos h4 hd v1
  refine ⟨by rw [ha]; rfl, ?_⟩
  unfold numV
  rw [ha]
  show Lib.itoa (v : Int) = _
  rw [Lib.itoa_nonneg, v2]
theorem intC_f {s : Str} {m : Int} (h1 : cutMinus s ≠ []) (h2 : ((cutMinus s).length : Int) ≤ m) (h3 : ∀ c ∈ cutMinus s, dig c = true) : intC s m = false := by
 unfold intC
 have hp := List.length_pos_iff.2 h1
 rw [Bool.or_eq_false_iff]
 constructor
 ·simp [out]; omega
 ·have h : ∀ c ∈ cutMinus s, dig10.contains c = true := fun c hc => by rw [← dig_dig10]; exact h3 c hc
  unfold trim10 rtrim
  rw [dropW_all (s := (cutMinus s).reverse) fun c hc => h c (List.mem_reverse.1 hc)]
  rfl
theorem intC_of {s : Str} {m : Int} (h : intC s m = false) : cutMinus s ≠ [] ∧ ((cutMinus s).length : Int) ≤ m ∧ ∀ c ∈ cutMinus s, dig c = true := by
 unfold intC at h
 rw [Bool.or_eq_false_iff] at h
 obtain ⟨h1, h2⟩ := h
 have h1 := out_f h1
 have h3 := trim10_nil (by simpa using h2)
 refine ⟨fun e => by rw [e] at h1; simp at h1, h1.2, fun c hc => by rw [dig_dig10]; exact h3 c hc⟩
/-- Both ways to read a number say the same. -/
theorem num_int (s : Str) (m : Int) : numB s m = intB s m ∧ (numB s m = true → intR s m = numV s ∧ numR s m = numV s) := by
 cases hn : numB s m with
 | true =>
   obtain ⟨⟨a1, a2, a3⟩, _, a4⟩ := numB_canon hn
   have hc := intC_f (m := m) a1 a2 a3
   exact ⟨by simp [intB, hc, a4], fun _ => ⟨by simp [intR, hc], by simp [numR, hn]⟩⟩
 | false =>
   refine ⟨?_, fun h => by cases h⟩
   cases hc : intC s m with
   | true => simp [intB, hc]
   | false =>
     obtain ⟨a1, a2, a3⟩ := intC_of hc
     have hall : (cutMinus s).all dig = true := List.all_eq_true.2 a3
     have hC : numC s m = true := by
      unfold numB at hn
      rw [hall, Bool.and_true, Bool.not_eq_false'] at hn
      exact hn
     have h48 := of_decide_eq_true hC
     rw [head_nat] at h48
     have h48' : ((cutMinus s).head?).getD 0 = 48 ∧ ((1 : Int) < ((cutMinus s).length : Int) ∨ (cutMinus s).length < s.length) := by
      rcases h48 with (h | h) | h
      ·exact absurd h a1
      ·omega
      ·exact h
     have : Lib.itoa (numV s) ≠ s := by
      intro e
      rcases Int.lt_or_le (numV s) 0 with hneg | hpos
      ·obtain ⟨u, hu⟩ : ∃ u : Nat, numV s = -(u : Int) := ⟨(numV s).natAbs, by omega⟩
       rw [hu, Lib.itoa_neg u (by omega)] at e
       have hcut : cutMinus s = Lib.decDigits u := by rw [← e]; rfl
       rw [hcut] at h48'
       have := head48 u h48'.1
       omega
      ·obtain ⟨u, hu⟩ : ∃ u : Nat, numV s = (u : Int) := ⟨(numV s).toNat, by omega⟩
       rw [hu, Lib.itoa_nonneg] at e
       have hcut : cutMinus s = Lib.decDigits u := by rw [← e]; exact cut_digits u
       rw [hcut, ← e] at h48'
       have := head48 u h48'.1
       subst this
       have hl : (Lib.decDigits 0).length = 1 := by rw [decDigits_small (by omega)]; rfl
       omega
     simp [intB, this]
/-- What is taken for a number is read, and is not great. -/
theorem num_read {s : Str} {m : Int} (hm : m ≤ 17) (h : intC s m = false) : (Lib.atoi s).isSome = true ∧ s.length ≤ 18 ∧ -1000000000000000000 < numV s ∧ numV s < 1000000000000000000 := by
 obtain ⟨a1, a2, a3⟩ := intC_of h
 have a4 : ∀ c ∈ cutMinus s, dig10.contains c = true := fun c hc => by rw [← dig_dig10]; exact a3 c hc
 obtain ⟨n, hn⟩ := decFrom_some (cutMinus s) 0 a4
 have hl : s.length ≤ 18 := by
  have : s.length ≤ (cutMinus s).length + 1 := by
   unfold cutMinus; split <;> simp
  omega
 have hs : ∃ z, Lib.atoi s = some z := by
  rcases cutMinus_cases s with ⟨r, rfl, hr⟩ | ⟨_, hr⟩
  ·rw [hr] at a1 hn; exact ⟨_, atoi_minus a1 hn⟩
  ·rw [hr] at a1 a3 hn; exact ⟨_, atoi_pos a1 a3 hn⟩
 obtain ⟨z, hz⟩ := hs
 refine ⟨by rw [hz]; rfl, hl, ?_⟩
 have := Lib.atoi_bound hz hl
 unfold numV; rw [hz]; exact this
theorem numB_intC {s : Str} {m : Int} (h : numB s m = true) : intC s m = false := by
 obtain ⟨⟨a1, a2, a3⟩, _, _⟩ := numB_canon h
 exact intC_f a1 a2 a3
end Go.HL
end
section
namespace Go.HL
def wordsB (line : Str) (many : Int) : Bool := decide (((spl 32 line).length : Int) = many) && (spl 32 line).all (fun w => !w.isEmpty)
def wordsL (line : Str) (many : Int) : List Str := if wordsB line many then spl 32 line else []
theorem wordsB_1 {line : Str} {many : Int} (h : ((spl 32 line).length : Int) ≠ many) : wordsB line many = false := by simp [wordsB, h]
theorem wordsB_2 {line : Str} {many : Int} (h : (spl 32 line).all (fun w => !w.isEmpty) = false) : wordsB line many = false := by simp [wordsB, h]
theorem wordsB_3 {line : Str} {many : Int} (h0 : ((spl 32 line).length : Int) = many) (h : (spl 32 line).all (fun w => !w.isEmpty) = true) : wordsB line many = true := by simp [wordsB, h0, h]
theorem all_nilW {x : Str} {r : List Str} (h : x = []) : (x :: r).all (fun w => !w.isEmpty) = false := by subst h; rfl
def lnsL (text : Str) : List Str := if text = [] then [] else spl 10 (Lib.trimSuffix text [10])
def lnsE (text : Str) : Bool := if text = [] then true else Lib.hasSuffix text [10]
/-- The lines that a line feed ends. -/
def lns (text : Str) : List Str := (spl 10 text).dropLast
def goL (ok : Str → Bool) : Nat → List Str → Int × Bool
 | _, [] => (0, true)
 | k, [s] => if s = [] then (0, true) else ((k : Int), false)
 | k, s :: t :: r => if ok s then goL ok (k + 1) (t :: r) else ((k : Int), false)
def eachP (ok : Str → Bool) (ends : Bool) (n : Nat) : Nat → List Str → Int × Bool
 | _, [] => (0, true)
 | k, s :: r => if (!ends && decide ((k : Int) = (n : Int) - 1)) || !(ok s) then ((k : Int), false) else eachP ok ends n (k + 1) r
theorem eachP_cons (ok : Str → Bool) (ends : Bool) (n k : Nat) (s : Str) (r : List Str) : eachP ok ends n k (s :: r) = if (!ends && decide ((k : Int) = (n : Int) - 1)) || !(ok s) then ((k : Int), false) else eachP ok ends n (k + 1) r := rfl
theorem hasSuffix_iff {t : Str} : Lib.hasSuffix t [10] = true ↔ ∃ body, t = body ++ [10] := by
 unfold Lib.hasSuffix
 rw [List.isSuffixOf_iff_suffix]
 constructor
 ·rintro ⟨b, h⟩; exact ⟨b, h.symm⟩
 ·rintro ⟨b, h⟩; exact ⟨b, h.symm⟩
theorem trimSuffix_app (body : Str) : Lib.trimSuffix (body ++ [10]) [10] = body := by
 have : Lib.hasSuffix (body ++ [10]) [10] = true := hasSuffix_iff.2 ⟨_, rfl⟩
 unfold Lib.trimSuffix
 rw [if_pos this]
 simp
theorem trimSuffix_no {t : Str} (h : Lib.hasSuffix t [10] = false) : Lib.trimSuffix t [10] = t := by
 unfold Lib.trimSuffix
 rw [if_neg (by simp [h])]
theorem spl_snoc (c : UInt8) : ∀ b : Str, spl c (b ++ [c]) = spl c b ++ [[]]
 | [] => by simp [spl]
 | x :: b => by
   by_cases h : x = c
   ·subst h; rw [List.cons_append, spl_eq, spl_eq, spl_snoc x b]; rfl
   ·obtain ⟨y, r, hy⟩ := spl_cons (c := c) b
    have h2 := spl_snoc c b
    rw [hy] at h2
    rw [List.cons_append, spl_of_ne h hy, spl_of_ne h (x := y) (r := r ++ [[]]) (by rw [h2]; rfl)]
    rfl
theorem spl_last (c : UInt8) : ∀ b : Str, (∀ t, b ≠ t ++ [c]) → b ≠ [] → (spl c b).getLast (spl_ne c b) ≠ []
 | [], _, h => absurd rfl h
 | x :: b, h, _ => by
   by_cases hb : b = []
   ·subst hb
    have : x ≠ c := fun e => h [] (by simp [e])
    have h2 : spl c [x] = [[x]] := spl_of_ne this rfl
    simp [h2]
   ·have ih := spl_last c b (fun t e => h (x :: t) (by rw [e]; rfl)) hb
    by_cases hx : x = c
    ·subst hx
     have h2 := spl_eq x b
     simp only [h2]
     rw [List.getLast_cons (spl_ne x b)]; exact ih
    ·obtain ⟨y, r, hy⟩ := spl_cons (c := c) b
     have h2 := spl_of_ne hx hy
     simp only [h2]
     cases r with
     | nil => simp
     | cons z r =>
       simp only [hy] at ih
       rw [List.getLast_cons (by simp)] at ih ⊢
       exact ih
theorem lnsL_ends {text : Str} (h0 : text ≠ []) (h : lnsE text = true) : lnsE text = Lib.hasSuffix text [10] ∧ spl 10 text = lnsL text ++ [[]] ∧ lns text = lnsL text := by
 have e : lnsE text = Lib.hasSuffix text [10] := by unfold lnsE; rw [if_neg h0]
 obtain ⟨body, rfl⟩ := hasSuffix_iff.1 (e ▸ h)
 have h1 : lnsL (body ++ [10]) = spl 10 body := by unfold lnsL; rw [if_neg h0, trimSuffix_app]
 have h2 := spl_snoc 10 body
 refine ⟨e, by rw [h2, h1], ?_⟩
 unfold lns; rw [h2, h1]; simp
theorem lnsL_open {text : Str} (h : lnsE text = false) : text ≠ [] ∧ lnsL text = spl 10 text ∧ (lnsL text).getLast? ≠ some [] := by
 have h0 : text ≠ [] := by rintro rfl; simp [lnsE] at h
 have e : Lib.hasSuffix text [10] = false := by unfold lnsE at h; rw [if_neg h0] at h; exact h
 have h1 : lnsL text = spl 10 text := by unfold lnsL; rw [if_neg h0, trimSuffix_no e]
 refine ⟨h0, h1, ?_⟩
 rw [h1, List.getLast?_eq_some_getLast (spl_ne 10 text)]
 have := spl_last 10 text (fun t et => by rw [hasSuffix_iff.2 ⟨t, et⟩] at e; cases e) h0
 intro hh; exact this (Option.some.inj hh)
theorem eachP_ends (ok : Str → Bool) (n : Nat) : ∀ (l : List Str) (k : Nat), eachP ok true n k l = goL ok k (l ++ [[]])
 | [], k => by simp [eachP, goL]
 | s :: r, k => by
   have ih := eachP_ends ok n r (k + 1)
   obtain ⟨t, q, hq⟩ : ∃ t q, r ++ [[]] = t :: q := by
    cases r with
    | nil => exact ⟨[], [], rfl⟩
    | cons a b => exact ⟨a, b ++ [[]], rfl⟩
   rw [List.cons_append, hq]
   rw [hq] at ih
   simp only [eachP, goL, Bool.not_true, Bool.false_and, Bool.false_or, ih]
   cases ok s <;> simp
theorem eachP_open (ok : Str → Bool) (n : Nat) : ∀ (l : List Str) (k : Nat), l ≠ [] → n = k + l.length → l.getLast? ≠ some [] → eachP ok false n k l = goL ok k l
 | [], k, h, _, _ => absurd rfl h
 | [s], k, _, hn, hl => by
   have : s ≠ [] := fun e => hl (by simp [e])
   simp only [List.length_cons, List.length_nil] at hn
   have h2 : decide ((k : Int) = (n : Int) - 1) = true := decide_eq_true (by omega)
   simp [eachP, goL, this, h2]
 | s :: t :: r, k, _, hn, hl => by
   simp only [List.length_cons] at hn
   have ih := eachP_open ok n (t :: r) (k + 1) (by simp) (by simp only [List.length_cons]; omega) (by simpa using hl)
   have h2 : decide ((k : Int) = (n : Int) - 1) = false := decide_eq_false (by omega)
   rw [eachP, goL, h2, ih]
   cases ok s <;> simp
theorem eachP_goL (ok : Str → Bool) (text : Str) : eachP ok (lnsE text) (lnsL text).length 0 (lnsL text) = goL ok 0 (spl 10 text) := by
 by_cases h0 : text = []
 ·subst h0; simp [lnsL, eachP, goL, spl]
 ·cases he : lnsE text with
  | true =>
    obtain ⟨_, h1, _⟩ := lnsL_ends h0 he
    rw [h1]; exact eachP_ends ok _ _ _
  | false =>
    obtain ⟨_, h1, h2⟩ := lnsL_open he
    rw [eachP_open ok _ _ _ (by rw [h1]; exact spl_ne 10 text) (by omega) h2, h1]
/-- All lines were taken: the text ends with a line feed. -/
theorem eachP_true {ok : Str → Bool} {text : Str} (h : (goL ok 0 (spl 10 text)).2 = true) : lns text = lnsL text := by
 by_cases h0 : text = []
 ·subst h0; rfl
 ·cases he : lnsE text with
  | true => exact (lnsL_ends h0 he).2.2
  | false =>
    exfalso
    rw [← eachP_goL] at h
    obtain ⟨_, h1, h2⟩ := lnsL_open he
    rw [he] at h
    have key : ∀ (l : List Str) (k : Nat), l ≠ [] → (lnsL text).length = k + l.length → (eachP ok false (lnsL text).length k l).2 = false := by
     intro l
     induction l with
     | nil => intro k h; exact absurd rfl h
     | cons s r ih =>
       intro k _ hn
       simp only [List.length_cons] at hn
       simp only [eachP]
       by_cases hr : r = []
       ·subst hr
        simp only [List.length_nil] at hn
        have : decide ((k : Int) = ((lnsL text).length : Int) - 1) = true := decide_eq_true (by omega)
        rw [this]; rfl
       ·split
        ·rfl
        ·exact ih (k + 1) hr (by omega)
    rw [key _ 0 (by rw [h1]; exact spl_ne 10 text) (by omega)] at h
    cases h
theorem trimSuffix_len (text : Str) : (Lib.trimSuffix text [10]).length ≤ text.length := by unfold Lib.trimSuffix; split <;> simp
theorem lnsL_many (text : Str) : (lnsL text).length ≤ text.length := by
 by_cases h0 : text = []
 ·subst h0; simp [lnsL]
 ·cases he : lnsE text with
  | true =>
    obtain ⟨e, h1, _⟩ := lnsL_ends h0 he
    obtain ⟨body, hb⟩ := hasSuffix_iff.1 (e ▸ he)
    have h2 := spl_len 10 text
    rw [h1] at h2
    have h3 := List.count_le_length (a := (10 : UInt8)) (l := text)
    simp at h2; omega
  | false =>
    obtain ⟨_, h1, _⟩ := lnsL_open he
    have e : Lib.hasSuffix text [10] = false := by unfold lnsE at he; rw [if_neg h0] at he; exact he
    rw [h1, spl_len]
    have h4 : text.count 10 ≤ text.length := List.count_le_length
    rcases Nat.lt_or_ge (text.count 10) text.length with h | h
    ·omega
    ·exfalso
     have hall : ∀ c ∈ text, c = 10 := fun c hc => (List.count_eq_length.1 (by omega : text.count 10 = text.length) c hc).symm
     rcases List.eq_nil_or_concat text with h5 | ⟨t', c, h5⟩
     ·exact h0 h5
     ·have : c = 10 := hall c (by rw [h5]; simp)
      subst this
      have h6 : text = t' ++ [10] := by rw [h5]; simp
      rw [hasSuffix_iff.2 ⟨t', h6⟩] at e; cases e
theorem lnsL_len {text : Str} : ∀ x ∈ lnsL text, x.length ≤ text.length := fun x hx => by
 unfold lnsL at hx
 split at hx
 ·cases hx
 ·exact Nat.le_trans (spl_mem_len 10 _ x hx) (trimSuffix_len text)
/-- All is taken where each line is, and the last one is ended. -/
theorem goL_all {ok : Str → Bool} : ∀ (l : List Str) (k : Nat), (∀ s ∈ l, ok s = true) → goL ok k (l ++ [[]]) = (0, true)
 | [], k, _ => by simp [goL]
 | s :: r, k, h => by
   have ih := goL_all r (k + 1) fun x hx => h x (by simp [hx])
   obtain ⟨t, q, hq⟩ : ∃ t q, r ++ [[]] = t :: q := by
    cases r with
    | nil => exact ⟨[], [], rfl⟩
    | cons a b => exact ⟨a, b ++ [[]], rfl⟩
   rw [List.cons_append, hq]
   rw [hq] at ih
   simp only [goL, h s (by simp), if_true, ih]
theorem goL_of {ok : Str → Bool} : ∀ (l : List Str) (k : Nat), l ≠ [] → (goL ok k l).2 = true → (goL ok k l).1 = 0 ∧ (∀ s ∈ l.dropLast, ok s = true) ∧ l.getLast? = some []
 | [], k, h, _ => absurd rfl h
 | [s], k, _, h => by
   simp only [goL] at h ⊢
   split at h
   ·rename_i hs; subst hs; simp
   ·cases h
 | s :: t :: r, k, _, h => by
   simp only [goL] at h ⊢
   split at h
   ·rename_i hs
    rw [if_pos hs]
    obtain ⟨h1, h2, h3⟩ := goL_of (t :: r) (k + 1) (by simp) h
    refine ⟨h1, fun x hx => ?_, by simpa using h3⟩
    rw [List.dropLast_cons_cons] at hx
    rcases List.mem_cons.1 hx with rfl | hx
    ·exact hs
    ·exact h2 x hx
   ·cases h
end Go.HL
end
section
namespace Go.HL
end Go.HL
end
section
namespace Go.HL
theorem ret_gw [Tracks] {rs : List ResultVar} {e e' : Env} {M M' : List MObj} {h h' : HVal} {Q : HVal → List MObj → Prop} (hg : Ghost e M e' M') (hr : resH e' rs = some h) (hw : Weak h h') (hh : Q h' M') : RetQ rs Q .ret e M :=
 ⟨e', M', hg, h, h', hr, hw, hh⟩
theorem weakW [Tracks] {line : Str} {many : Int} (h : wordsB line many = false) : Weak (.tup [.raw (.slice none 0 0), .bool false]) (.tup [eSs (wordsL line many), .bool (wordsB line many)]) := by
 rw [wordsL, h]; exact weak_tup2 (weak_nil 1) (Weak.refl _)
theorem eqW {line : Str} {many : Int} (h : wordsB line many = true) : HVal.tup [eSs (spl 32 line), .bool true] = .tup [eSs (wordsL line many), .bool (wordsB line many)] := by
 rw [wordsL, h]; rfl
theorem weakLn [Tracks] {text : Str} (h : text = []) : Weak (.tup [.raw (.slice none 0 0), .bool true]) (.tup [eSs (lnsL text), .bool (lnsE text)]) := by
 subst h; exact weak_tup2 (weak_nil 1) (Weak.refl _)
theorem eqLn {text : Str} (h : text ≠ []) : HVal.tup [eSs (spl 10 (Lib.trimSuffix text [10])), .bool (Lib.hasSuffix text [10])] = .tup [eSs (lnsL text), .bool (lnsE text)] := by
 rw [lnsL, lnsE, if_neg h, if_neg h]
end Go.HL
end
section
namespace Go.Proofs.YtjecenjmphpmfaaGreatDoor
open Go.HL
set_option maxRecDepth 100000
set_option linter.unusedVariables false
set_option linter.unusedSimpArgs false
theorem VL_two [Tracks] {I : Imm} {c d : HVal} {vs : List Value} (h : VL I [c, d] vs) : ∃ u v, vs = [u, v] ∧ V I c u ∧ V I d v := by
 have h1 := h.1
 rcases vs with _ | ⟨u, _ | ⟨v, _ | ⟨w, r⟩⟩⟩
 ·simp at h1
 ·simp at h1
 ·exact ⟨u, v, rfl, h.head, h.tail.head⟩
 ·simp at h1
theorem trimMinus [Tracks] (s : Str) : Lib.trimPrefix s [45] = cutMinus s := by
 unfold Lib.trimPrefix Lib.hasPrefix
 cases s with
 | nil => rfl
 | cons c r =>
   by_cases h : c = 45
   ·subst h; simp [cutMinus]
   ·have h' : ¬ (45 : UInt8) = c := fun e => h e.symm
    simp only [List.isPrefixOf, beq_iff_eq, h', Bool.and_eq_true, false_and, if_false]
    unfold cutMinus
    split
    ·rename_i heq; simp at heq; exact absurd heq.1 h
    ·rfl
/-- strings.TrimPrefix of a minus -/
theorem c_strings_TrimPrefix [Tracks] {s : Str} : ConP Tryz.prog 173 [.str s, .str [45]] (.str (cutMinus s)) :=
 conp_of_calls fun I w args ha => by
  obtain ⟨u, v, rfl, hu, hv⟩ := VL_two ha
  obtain rfl := hu.str_inv
  obtain rfl := hv.str_inv
  refine ⟨_, .str _, ?_⟩
  have := Any.strings_TrimPrefix Tryz.lays101 ⟨s.toArray⟩ ⟨[45].toArray⟩ w
  rw [show (⟨s.toArray⟩ : ByteArray).data.toList = s by simp, show (⟨[45].toArray⟩ : ByteArray).data.toList = [45] by simp, trimMinus] at this
  exact this
/-- strconv.Atoi of a short numeral -/
theorem c_strconv_Atoi [Tracks] {s : Str} (hl : s.length ≤ 18) (h : (Lib.atoi s).isSome = true) : ConP Tryz.prog 174 [.str s] (.tup [.int .i64 (numV s), .raw .nilIface]) :=
 conp_atoi fun w => Any.strconv_Atoi Tryz.lays172 ⟨s.toArray⟩ (numV s) (by simpa [ByteArray.size] using hl) (by
  obtain ⟨n, hn⟩ := Option.isSome_iff_exists.1 h
  simp [numV, hn]) w

/-- benchwarmer/base.Words -/
theorem c_base_Words [Tracks] {line : Str} {many : Int} (hl : line.length ≤ 1000000) : ConP Tryz.prog 80 [.str line, .int .i64 many] (.tup [eSs (wordsL line many), .bool (wordsB line many)]) := by
 have hsl := spl_len 32 line
 have hsc := List.count_le_length (a := (32 : UInt8)) (l := line)
 refine Con.of_body Tryz.func80 rfl Tryz.ntmps80 rfl rfl ?_
 refine hw_reg ?_
 refine dp rfl (pop_assign rfl) ?_
 refine dp rfl (pop_assign rfl) ?_
 refine dn ?_
 refine hw_reg ?_
 refine dp rfl (pop_move rfl) ?_
 refine dp rfl (pop_call ca71 rfl (WeakL.refl _) (c_strings_Split (c := 32) (by omega))) ?_
 refine dp rfl (pop_assign rfl) ?_
 refine dn ?_
 refine hw_seq ?_
 refine hw_reg ?_
 refine dp rfl (pop_move rfl) ?_
 refine dp rfl (pop_lenm ty39 rfl) ?_
 refine dp rfl (pop_move rfl) ?_
 refine dp rfl (pop_neq rfl rfl) ?_
 refine dn ?_
 refine hw_cond rfl (fun h1 => ?_) (fun h2 => ?_)
 ·try simp at h1
  refine hw_reg ?_
  refine dp rfl (pop_assign rfl) ?_
  refine dp rfl (pop_assign rfl) ?_
  refine dn ?_
  refine hw_ret ?_
  first
  | exact ret_w rfl (weakW (wordsB_1 h1))
  | exact ret_w rfl (weakW (wordsB_2 (hg.trans (all_nilW h5))))
  | exact ret_p rfl (eqW (wordsB_3 h2 hg))
 ·try simp at h2
  refine hw_skip ?_
  refine seqQ_n ?_
  refine hw_seq ?_
  refine hw_reg ?_
  refine dp rfl (pop_move rfl) ?_
  refine dp rfl (pop_lenm ty39 rfl) ?_
  refine dp rfl (pop_move rfl) ?_
  refine dn ?_
  refine hw_block ?_
  refine hw_loopw [4, 5, 8, 17, 18, 19, 20, 21, 22, 23] (fun (k : Nat) => [(17, .int .i64 k)]) (fun (k : Nat) => []) (fun (k : Nat) => k ≤ (spl 32 line).length ∧ ((spl 32 line).all (fun w => !w.isEmpty) = ((spl 32 line).drop k).all (fun w => !w.isEmpty))) (fun (k : Nat) => (spl 32 line).length - k) (0) ?_ ?_ ?_ ?_
  ·exact ⟨Nat.zero_le _, rfl⟩
  ·exact ⟨rfl, trivial⟩
  ·exact List.Perm.refl _
  ·intro k hinv
   obtain ⟨hk, hg⟩ := hinv
   refine hw_reg ?_
   refine dp rfl (pop_lss rfl rfl) ?_
   refine dn ?_
   refine hw_seq ?_
   refine hw_cond rfl (fun h3 => ?_) (fun h4 => ?_)
   ·try simp at h3
    obtain ⟨x, hx⟩ : ∃ x, (spl 32 line)[k]? = some x := ⟨_, List.getElem?_eq_getElem h3⟩
    have hdx := drop_cons hx
    rw [hdx] at hg
    refine hw_skip ?_
    refine seqQ_n ?_
    refine hw_seq ?_
    refine hw_block ?_
    refine hw_reg ?_
    refine dp rfl (pop_idx ty39 ty9 rfl rfl rfl (by first | assumption | simp_all)) ?_
    refine dp rfl (pop_load ty9 rfl rfl rfl) ?_
    refine dp rfl (pop_assign rfl) ?_
    refine dn ?_
    refine hw_reg ?_
    refine dp rfl (pop_move rfl) ?_
    refine dp rfl (pop_eqls rfl rfl) ?_
    refine dn ?_
    refine hw_cond rfl (fun h5 => ?_) (fun h6 => ?_)
    ·try simp at h5
     refine hw_reg ?_
     refine dp rfl (pop_assign rfl) ?_
     refine dp rfl (pop_assign rfl) ?_
     refine dn ?_
     refine hw_ret ?_
     first
     | exact ret_w rfl (weakW (wordsB_1 h1))
     | exact ret_w rfl (weakW (wordsB_2 (hg.trans (all_nilW h5))))
     | exact ret_p rfl (eqW (wordsB_3 h2 hg))
    ·try simp at h6
     refine hw_skip ?_
     refine blockQ_n ?_
     refine seqQ_n ?_
     refine hw_reg1 ?_
     refine dp rfl (pop_add64 rfl rfl (by omega) (by omega)) ?_
     refine dp rfl (pop_move rfl) ?_
     refine dn ?_
     refine ⟨k + 1, ?_, ?_, ⟨rfl, trivial⟩, (by repeat (first | exact keeps_refl | refine keeps_upd rfl ?_ | refine keeps_loop rfl rfl ?_)), List.Perm.refl _⟩
     ·refine ⟨by omega, ?_⟩
      rw [hg]; simp_all
     ·dsimp only; omega
   ·try simp at h4
    have hnk : (spl 32 line).length ≤ k := by omega
    obtain rfl : k = (spl 32 line).length := by omega
    rw [drop_all (Nat.le_refl _)] at hg
    refine hw_exit ?_
    refine seqQ_x ?_
    refine loopQ_x ?_
    refine blockQ_eq ?_
    refine seqQ_n ?_
    refine hw_reg ?_
    refine dp rfl (pop_move rfl) ?_
    refine dp rfl (pop_assign rfl) ?_
    refine dp rfl (pop_assign rfl) ?_
    refine dn ?_
    refine hw_ret ?_
    first
    | exact ret_w rfl (weakW (wordsB_1 h1))
    | exact ret_w rfl (weakW (wordsB_2 (hg.trans (all_nilW h5))))
    | exact ret_p rfl (eqW (wordsB_3 h2 hg))

/-- benchwarmer/base.Lines -/
theorem c_base_Lines [Tracks] {text : Str} (ht : text.length ≤ 1000000) : ConP Tryz.prog 79 [.str text] (.tup [eSs (lnsL text), .bool (lnsE text)]) := by
 have htl : (Lib.trimSuffix text [10]).length ≤ text.length := by unfold Lib.trimSuffix; split <;> simp
 refine Con.of_body Tryz.func79 rfl Tryz.ntmps79 rfl rfl ?_
 refine hw_reg ?_
 refine dp rfl (pop_assign rfl) ?_
 refine dp rfl (pop_assign rfl) ?_
 refine dn ?_
 refine hw_seq ?_
 refine hw_reg ?_
 refine dp rfl (pop_move rfl) ?_
 refine dp rfl (pop_eqls rfl rfl) ?_
 refine dn ?_
 refine hw_cond rfl (fun h1 => ?_) (fun h2 => ?_)
 ·try simp at h1
  refine hw_reg ?_
  refine dp rfl (pop_assign rfl) ?_
  refine dp rfl (pop_assign rfl) ?_
  refine dn ?_
  refine hw_ret ?_
  first
  | exact ret_w rfl (weakLn h1)
  | exact ret_p rfl (eqLn h2)
 ·try simp at h2
  refine hw_skip ?_
  refine seqQ_n ?_
  refine hw_reg ?_
  refine dp rfl (pop_move rfl) ?_
  refine dp rfl (pop_call ca128 rfl (WeakL.refl _) (c_strings_CutSuffix (p := [10]) (by omega))) ?_
  refine dp rfl (pop_move rfl) ?_
  refine dp rfl (pop_extract rfl rfl) ?_
  refine dp rfl (pop_extract rfl rfl) ?_
  refine dp rfl (pop_assign rfl) ?_
  refine dp rfl (pop_assign rfl) ?_
  refine dn ?_
  refine hw_reg ?_
  refine dp rfl (pop_move rfl) ?_
  refine dp rfl (pop_call ca71 rfl (WeakL.refl _) (c_strings_Split (c := 10) (by omega))) ?_
  refine dp rfl (pop_move rfl) ?_
  refine dp rfl (pop_assign rfl) ?_
  refine dp rfl (pop_assign rfl) ?_
  refine dn ?_
  refine hw_ret ?_
  first
  | exact ret_w rfl (weakLn h1)
  | exact ret_p rfl (eqLn h2)

/-- benchwarmer/base.Number -/
theorem c_base_Number_g [Tracks] {s : Str} {m : Int} (hs : s.length ≤ 1000000) (hm : m ≤ 17) : ConP Tryz.prog 132 [.str s, .int .i64 m] (.tup [.int .i64 (numR s m), .bool (numB s m)]) := by
 have hcl := cutMinus_len s
 refine Con.of_body Tryz.func132 rfl Tryz.ntmps132 rfl rfl ?_
 refine hw_reg ?_
 refine dp rfl (pop_assign rfl) ?_
 refine dp rfl (pop_assign rfl) ?_
 refine dn ?_
 refine hw_reg ?_
 refine dp rfl (pop_move rfl) ?_
 refine dp rfl (pop_call ca173 rfl (WeakL.refl _) c_strings_TrimPrefix) ?_
 refine dp rfl (pop_assign rfl) ?_
 refine dn ?_
 refine hw_seq ?_
 refine hw_reg ?_
 refine dp rfl (pop_move rfl) ?_
 refine dp rfl (pop_eqls rfl rfl) ?_
 refine dp rfl (pop_move rfl) ?_
 refine dg rfl rfl (fun hc => ⟨_, OpenTo.refl _, pop_move rfl⟩) ?_
 refine dg rfl rfl (fun hc => ⟨_, OpenTo.upd (t := 15) rfl (by first | exact hc | simp_all) (OpenTo.refl _), pop_lens ty9 rfl⟩) ?_
 refine dg rfl rfl (fun hc => ⟨_, OpenTo.refl _, pop_move rfl⟩) ?_
 refine dg rfl rfl (fun hc => ⟨_, OpenTo.upd (t := 17) rfl (by first | exact hc | simp_all) (OpenTo.upd (t := 16) rfl (by first | exact hc | simp_all) (OpenTo.refl _)), pop_gtr rfl rfl⟩) ?_
 refine dp rfl (pop_picko rfl (.inl rfl) (.inr ⟨_, rfl, fun h => by simp_all⟩)) ?_
 refine dp rfl (pop_move rfl) ?_
 refine dg rfl rfl (fun hc => ⟨_, OpenTo.refl _, pop_move rfl⟩) ?_
 refine dg rfl rfl (fun hc => ⟨_, OpenTo.upd (t := 21) rfl (by first | exact hc | simp_all) (OpenTo.refl _), pop_indexs (j := 0) (b := (cutMinus s).headD 0) ty9 rfl rfl rfl (hd0 (by simp_all))⟩) ?_
 refine dg rfl rfl (fun hc => ⟨_, OpenTo.upd (t := 22) rfl (by first | exact hc | simp_all) (OpenTo.refl _), pop_eql rfl rfl⟩) ?_
 refine dg rfl rfl (fun hc => ⟨_, OpenTo.upd (t := 23) rfl (by first | exact hc | simp_all) (OpenTo.refl _), pop_move rfl⟩) ?_
 refine dg rfl rfl (fun hc => ⟨_, OpenTo.refl _, pop_move rfl⟩) ?_
 refine dg rfl rfl (fun hc => ⟨_, OpenTo.upd (t := 25) rfl (by first | exact hc | simp_all) (OpenTo.refl _), pop_lens ty9 rfl⟩) ?_
 refine dg rfl rfl (fun hc => ⟨_, OpenTo.upd (t := 26) rfl (by first | exact hc | simp_all) (OpenTo.refl _), pop_gtr rfl rfl⟩) ?_
 refine dg rfl rfl (fun hc => ⟨_, OpenTo.upd (t := 27) rfl (by first | exact hc | simp_all) (OpenTo.refl _), pop_move rfl⟩) ?_
 refine dg rfl rfl (fun hc => ⟨_, OpenTo.refl _, pop_move rfl⟩) ?_
 refine dg rfl rfl (fun hc => ⟨_, OpenTo.upd (t := 29) rfl (by first | exact hc | simp_all) (OpenTo.refl _), pop_lens ty9 rfl⟩) ?_
 refine dg rfl rfl (fun hc => ⟨_, OpenTo.refl _, pop_move rfl⟩) ?_
 refine dg rfl rfl (fun hc => ⟨_, OpenTo.upd (t := 31) rfl (by first | exact hc | simp_all) (OpenTo.refl _), pop_lens ty9 rfl⟩) ?_
 refine dg rfl rfl (fun hc => ⟨_, OpenTo.upd (t := 32) rfl (by first | exact hc | simp_all) (OpenTo.upd (t := 30) rfl (by first | exact hc | simp_all) (OpenTo.refl _)), pop_gtr rfl rfl⟩) ?_
 refine dg rfl rfl (fun hc => ⟨_, OpenTo.upd (t := 28) rfl (by first | exact hc | simp_all) (OpenTo.refl _), pop_picko rfl (.inl rfl) (.inr ⟨_, rfl, fun h => by simp_all⟩)⟩) ?_
 refine dg rfl rfl (fun hc => ⟨_, OpenTo.upd (t := 24) rfl (by first | exact hc | simp_all) (OpenTo.refl _), pop_picko rfl (.inr ⟨_, rfl, fun h => by simp_all⟩) (.inl rfl)⟩) ?_
 refine dp rfl (pop_picko rfl (.inl rfl) (.inr ⟨_, rfl, fun h => by simp_all⟩)) ?_
 refine dn ?_
 refine hw_cond rfl (fun h1 => ?_) (fun h2 => ?_)
 ·try simp at h1
  refine hw_reg ?_
  refine dp rfl (pop_assign rfl) ?_
  refine dp rfl (pop_assign rfl) ?_
  refine dn ?_
  refine hw_ret ?_
  refine ret_p rfl ?_
  show HVal.tup _ = _
  first | (rw [numR, numB_1g h1]; rfl) | (rw [numR, show numB s m = false by rw [numB, hg, List.all_cons, dig_f h5]; simp]; rfl) | (rw [numR, hnb]; rfl)
 ·try simp at h2
  refine hw_skip ?_
  refine seqQ_n ?_
  refine hw_seq ?_
  refine hw_reg ?_
  refine dp rfl (pop_move rfl) ?_
  refine dp rfl (pop_lens ty9 rfl) ?_
  refine dp rfl (pop_move rfl) ?_
  refine dn ?_
  refine hw_block ?_
  refine hw_loopw [4, 5, 7, 39, 40, 41, 42, 43, 44, 45, 46, 47, 48, 49, 50, 51, 52] (fun (k : Nat) => [(39, .int .i64 k)]) (fun (k : Nat) => []) (fun (k : Nat) => k ≤ (cutMinus s).length ∧ (cutMinus s).all dig = ((cutMinus s).drop k).all dig) (fun (k : Nat) => (cutMinus s).length - k) (0) ?_ ?_ ?_ ?_
  ·exact ⟨Nat.zero_le _, rfl⟩
  ·exact ⟨rfl, trivial⟩
  ·exact List.Perm.refl _
  ·intro k hinv
   obtain ⟨hk, hg⟩ := hinv
   refine hw_reg ?_
   refine dp rfl (pop_lss rfl rfl) ?_
   refine dn ?_
   refine hw_seq ?_
   refine hw_cond rfl (fun h3 => ?_) (fun h4 => ?_)
   ·try simp at h3
    obtain ⟨x, hx⟩ : ∃ x, (cutMinus s)[k]? = some x := ⟨_, List.getElem?_eq_getElem h3⟩
    have hd := drop_cons hx
    rw [hd] at hg
    refine hw_skip ?_
    refine seqQ_n ?_
    refine hw_seq ?_
    refine hw_block ?_
    refine hw_reg ?_
    refine dp rfl (pop_move rfl) ?_
    refine dp rfl (pop_assign rfl) ?_
    refine dn ?_
    refine hw_reg ?_
    refine dp rfl (pop_move rfl) ?_
    refine dp rfl (pop_move rfl) ?_
    refine dp rfl (pop_indexs ty9 rfl rfl rfl (by first | assumption | simp_all)) ?_
    refine dp rfl (pop_lss rfl rfl) ?_
    refine dp rfl (pop_move rfl) ?_
    refine dg rfl rfl (fun hc => ⟨_, OpenTo.refl _, pop_move rfl⟩) ?_
    refine dg rfl rfl (fun hc => ⟨_, OpenTo.refl _, pop_move rfl⟩) ?_
    refine dg rfl rfl (fun hc => ⟨_, OpenTo.upd (t := 48) rfl (by first | exact hc | simp_all) (OpenTo.upd (t := 47) rfl (by first | exact hc | simp_all) (OpenTo.refl _)), pop_indexs ty9 rfl rfl rfl (by first | assumption | simp_all)⟩) ?_
    refine dg rfl rfl (fun hc => ⟨_, OpenTo.upd (t := 49) rfl (by first | exact hc | simp_all) (OpenTo.refl _), pop_gtr rfl rfl⟩) ?_
    refine dp rfl (pop_picko rfl (.inl rfl) (.inr ⟨_, rfl, fun h => by simp_all⟩)) ?_
    refine dn ?_
    refine hw_cond rfl (fun h5 => ?_) (fun h6 => ?_)
    ·try simp at h5
     refine hw_reg ?_
     refine dp rfl (pop_assign rfl) ?_
     refine dp rfl (pop_assign rfl) ?_
     refine dn ?_
     refine hw_ret ?_
     refine ret_p rfl ?_
     show HVal.tup _ = _
     first | (rw [numR, numB_1g h1]; rfl) | (rw [numR, show numB s m = false by rw [numB, hg, List.all_cons, dig_f h5]; simp]; rfl) | (rw [numR, hnb]; rfl)
    ·try simp at h6
     refine hw_skip ?_
     refine blockQ_n ?_
     refine seqQ_n ?_
     refine hw_reg1 ?_
     refine dp rfl (pop_add64 rfl rfl (by omega) (by omega)) ?_
     refine dp rfl (pop_move rfl) ?_
     refine dn ?_
     refine ⟨k + 1, ?_, ?_, ⟨rfl, trivial⟩, (by repeat (first | exact keeps_refl | refine keeps_upd rfl ?_ | refine keeps_loop rfl rfl ?_)), List.Perm.refl _⟩
     ·refine ⟨by omega, ?_⟩
      rw [hg, List.all_cons, dig_t h6]; rfl
     ·dsimp only; omega
   ·try simp at h4
    rw [drop_all (by omega)] at hg
    refine hw_exit ?_
    refine seqQ_x ?_
    refine loopQ_x ?_
    refine blockQ_eq ?_
    refine seqQ_n ?_
    refine hw_reg ?_
    refine dp rfl (pop_move rfl) ?_
    have hnb : numB s m = true := by simp [numB, numC_2g h2, hg]
    obtain ⟨hvat, hv18, _, _⟩ := num_read hm (numB_intC hnb)
    refine dp rfl (pop_call ca174 rfl (WeakL.refl _) (c_strconv_Atoi hv18 hvat)) ?_
    refine dp rfl (pop_move rfl) ?_
    refine dp rfl (pop_extract rfl rfl) ?_
    refine dp rfl (pop_extract rfl rfl) ?_
    refine dp rfl (pop_assign rfl) ?_
    refine dp rfl (pop_assign rfl) ?_
    refine dn ?_
    refine hw_draw (fun _ => True) [] mixed ?_
    refine ahp 0 rfl rfl (by kernel_rfl) (by kernel_rfl) (pop_move rfl) ?_
    refine ahp 1 rfl rfl (by kernel_rfl) (by kernel_rfl) (pop_move rfl) ?_
    refine ahp 2 rfl rfl (by kernel_rfl) (by kernel_rfl) (pop_eqnilI Tryz.underlying64 rfl) ?_
    refine ahp 3 rfl rfl (by kernel_rfl) (by kernel_rfl) (pop_assign rfl) ?_
    refine ahp 4 rfl rfl (by kernel_rfl) (by kernel_rfl) (pop_assign rfl) ?_
    refine ahz (by kernel_rfl) ?_
    refine hw_ret ?_
    refine ret_p rfl ?_
    show HVal.tup _ = _
    first | (rw [numR, numB_1g h1]; rfl) | (rw [numR, show numB s m = false by rw [numB, hg, List.all_cons, dig_f h5]; simp]; rfl) | (rw [numR, hnb]; rfl)

end Go.Proofs.YtjecenjmphpmfaaGreatDoor
end
section
namespace Go.HL
section
variable {κ : Type}
/-- The inner maps by the outer key: block and entries. -/
abbrev GrM (κ : Type) := List (Str × (Nat × List (κ × Int)))
end
end Go.HL
end
section
namespace Go.HL
section
variable {P : Program} {e : Env} {dst : Option Tmp} {ty : TypeId} {pos : String} {af : Array Edge} {g : Option (Nat × Bool)} {M : List MObj} {K : HVal → List MObj → Prop}
end
end Go.HL
end
section
namespace Go.HL
section
variable {P : Program} {e : Env} {dst : Option Tmp} {ty : TypeId} {pos : String} {af : Array Edge} {g : Option (Nat × Bool)}
end
section
variable {P : Program} {n : Nat} {e e' : Env} {M M' : List MObj} {Q Q' : Exit → Env → List MObj → Prop} {c c' : Code}
def LoopW4 {α β γ δ : Type} (e : Env) (ks : List Nat) (W : α → β → γ → δ → List (Nat × HVal)) (MM : α → β → γ → δ → List MObj) (Iv : α → β → γ → δ → Prop) (μ : α → β → γ → δ → Nat) (x : α) (y : β) (u : γ) (v : δ) (Q : Exit → Env → List MObj → Prop) : Exit → Env → List MObj → Prop
 | .normal, e', M => ∃ j k l m, Iv j k l m ∧ μ j k l m < μ x y u v ∧ HoldsW e' (W j k l m) ∧ Keeps ks e e' ∧ M.Perm (MM j k l m)
 | z, e', M => Q z e' M
theorem loopQ4_x {α β γ δ : Type} {e0 : Env} {ks : List Nat} {W : α → β → γ → δ → List (Nat × HVal)} {MM : α → β → γ → δ → List MObj} {Iv : α → β → γ → δ → Prop} {μ : α → β → γ → δ → Nat} {x : α} {y : β} {u : γ} {v : δ} {id : Nat} (h : Q (.exit id) e M) :
 LoopW4 e0 ks W MM Iv μ x y u v Q (.exit id) e M := h
theorem hw_loopw4 [Tracks] {α β γ δ : Type} (ks : List Nat) (W : α → β → γ → δ → List (Nat × HVal)) (MM : α → β → γ → δ → List MObj) (Iv : α → β → γ → δ → Prop) (μ : α → β → γ → δ → Nat) (x : α) (y : β) (u : γ) (v : δ) (h0 : Iv x y u v) (hW : HoldsW e (W x y u v)) (hM : M.Perm (MM x y u v))
 (hb : ∀ x y u v, Iv x y u v → HWp P n c (loopE e ks (W x y u v)) (MM x y u v) (LoopW4 e ks W MM Iv μ x y u v Q)) : HWp P n (.loop c) e M Q := by
 refine hw_loopw (ι := α × β × γ × δ) ks (fun p => W p.1 p.2.1 p.2.2.1 p.2.2.2) (fun p => MM p.1 p.2.1 p.2.2.1 p.2.2.2) (fun p => Iv p.1 p.2.1 p.2.2.1 p.2.2.2) (fun p => μ p.1 p.2.1 p.2.2.1 p.2.2.2) (x, y, u, v) h0 hW hM fun p hp => hw_mono (hb p.1 p.2.1 p.2.2.1 p.2.2.2 hp) ?_
 intro z e1 M1 hq
 cases z with
 | normal => obtain ⟨j, k, l, m, h⟩ := hq; exact ⟨(j, k, l, m), h⟩
 | _ => exact hq
end
end Go.HL
end
section
namespace Go.Proofs.YtjecenjmphpmfaaGreatDoor
open Go.HL
set_option maxRecDepth 100000
set_option linter.unusedVariables false
set_option linter.unusedSimpArgs false
/-- benchwarmer/base.Each -/
theorem c_base_Each [Tracks] {σ : Type} {S : σ → List MObj} {Inv : List Str → σ → Prop} {ok : Str → Bool} {fid : FuncId} {caps : List HVal} {st0 : σ} {text : Str}  (hca : Callable Tryz.prog fid) (hp : ∀ (done : List Str) (s : Str) (st : σ), done.length ≤ 1000000 → s.length ≤ 1000000 → Inv done st → Con Tryz.prog fid ([.str s] ++ caps) (S st) fun x M' => ∃ st', x = .bool (ok s) ∧ M' = S st' ∧ (ok s = true → Inv (done ++ [s]) st')) (h0 : Inv [] st0) (ht : text.length ≤ 1000000) : Con Tryz.prog 35 [.str text, .fn (.func fid) [] caps] (S st0) (fun x M' => ∃ st', x = .tup [.int .i64 (goL ok 0 (spl 10 text)).1, .bool (goL ok 0 (spl 10 text)).2] ∧ M' = S st' ∧ ((goL ok 0 (spl 10 text)).2 = true → Inv (lns text) st')) := by
 have hll := lnsL_many text
 refine Con.of_body Tryz.func35 rfl Tryz.ntmps35 rfl rfl ?_
 refine hw_reg ?_
 refine dp rfl (pop_assign rfl) ?_
 refine dp rfl (pop_assign rfl) ?_
 refine dn ?_
 refine hw_reg ?_
 refine dp rfl (pop_move rfl) ?_
 refine dp rfl (pop_call ca79 rfl (WeakL.refl _) (c_base_Lines (by first | assumption | omega | (simp; omega) | simp_all))) ?_
 refine dp rfl (pop_move rfl) ?_
 refine dp rfl (pop_extract rfl rfl) ?_
 refine dp rfl (pop_extract rfl rfl) ?_
 refine dp rfl (pop_assign rfl) ?_
 refine dp rfl (pop_assign rfl) ?_
 refine dn ?_
 refine hw_seq ?_
 refine hw_reg ?_
 refine dp rfl (pop_move rfl) ?_
 refine dp rfl (pop_lenm ty39 rfl) ?_
 refine dp rfl (pop_move rfl) ?_
 refine dn ?_
 refine hw_block ?_
 refine hw_loopw2 [4, 5, 8, 9, 17, 18, 19, 20, 21, 22, 23, 24, 25, 26, 27, 28, 29, 30, 31, 32, 33, 34, 35, 36, 37, 38] (fun (k : Nat) (st : σ) => [(17, .int .i64 k)]) (fun (k : Nat) (st : σ) => (S st)) (fun (k : Nat) (st : σ) => k ≤ (lnsL text).length ∧ (Inv ((lnsL text).take k) st ∧ goL ok 0 (spl 10 text) = eachP ok (lnsE text) (lnsL text).length k ((lnsL text).drop k))) (fun (k : Nat) (st : σ) => (lnsL text).length - k) (0) (st0) ?_ ?_ ?_ ?_
 ·exact ⟨Nat.zero_le _, h0, (eachP_goL ok text).symm⟩
 ·exact ⟨rfl, trivial⟩
 ·exact perm_eq rfl
 ·intro k st hinv
  obtain ⟨hk, ⟨hq, hg⟩⟩ := hinv
  refine hw_reg ?_
  refine dp rfl (pop_lss rfl rfl) ?_
  refine dn ?_
  refine hw_seq ?_
  refine hw_cond rfl (fun h1 => ?_) (fun h2 => ?_)
  ·try simp at h1
   obtain ⟨x, hx⟩ : ∃ x, (lnsL text)[k]? = some x := ⟨_, List.getElem?_eq_getElem h1⟩
   have hdx := drop_cons hx
   rw [hdx, eachP_cons] at hg
   refine hw_skip ?_
   refine seqQ_n ?_
   refine hw_seq ?_
   refine hw_block ?_
   refine hw_reg ?_
   refine dp rfl (pop_move rfl) ?_
   refine dp rfl (pop_idx ty39 ty9 rfl rfl rfl (by first | assumption | simp_all)) ?_
   refine dp rfl (pop_load ty9 rfl rfl rfl) ?_
   refine dp rfl (pop_assign rfl) ?_
   refine dp rfl (pop_assign rfl) ?_
   refine dn ?_
   refine hw_reg ?_
   refine dp rfl (pop_move rfl) ?_
   refine dp rfl (pop_not rfl) ?_
   refine dp rfl (pop_move rfl) ?_
   refine dg rfl rfl (fun hc => ⟨_, OpenTo.refl _, pop_move rfl⟩) ?_
   refine dg rfl rfl (fun hc => ⟨_, OpenTo.refl _, pop_move rfl⟩) ?_
   refine dg rfl rfl (fun hc => ⟨_, OpenTo.upd (t := 26) rfl (by first | exact hc | simp_all) (OpenTo.refl _), pop_lenm ty39 rfl⟩) ?_
   refine dg rfl rfl (fun hc => by have hq := hc; (try simp at hq); exact ⟨_, OpenTo.upd (t := 27) rfl (by first | exact hc | simp_all) (OpenTo.refl _), pop_sub64 rfl rfl (by omega) (by omega)⟩) ?_
   refine dg rfl rfl (fun hc => ⟨_, OpenTo.upd (t := 28) rfl (by first | exact hc | simp_all) (OpenTo.upd (t := 25) rfl (by first | exact hc | simp_all) (OpenTo.refl _)), pop_eql rfl rfl⟩) ?_
   refine dp rfl (pop_picko rfl (.inr ⟨_, rfl, fun h => by simp_all⟩) (.inl rfl)) ?_
   refine dp rfl (pop_move rfl) ?_
   refine dg rfl rfl (fun hc => ⟨_, OpenTo.refl _, pop_move rfl⟩) ?_
   refine dg rfl rfl (fun hc => ⟨_, OpenTo.refl _, pop_move rfl⟩) ?_
   refine dgx (fun xq M' => ∃ st', xq = .bool (ok x) ∧ M' = S st' ∧ ((!(lnsE text) && decide ((k : Int) = ((lnsL text).length : Int) - 1)) = false → ok x = true → Inv ((lnsL text).take k ++ [x]) st')) rfl rfl (fun hc => ⟨_, st, rfl, rfl, fun h => (by simp_all)⟩) (fun hc => ⟨_, OpenTo.upd (t := 33) rfl (by first | exact hc | simp_all) (OpenTo.upd (t := 32) rfl (by first | exact hc | simp_all) (OpenTo.refl _)), EOp.mono (fun _ _ ⟨st', h1, h2, h3⟩ => ⟨st', h1, h2, fun _ => h3⟩) (eop_callv hca rfl rfl (WeakL.refl _) (hp ((lnsL text).take k) x st (by rw [List.length_take]; omega) (Nat.le_trans (lnsL_len x (List.mem_of_getElem? hx)) ht) hq))⟩) ?_
   rintro _ _ ⟨st2, rfl, rfl, hst2⟩
   refine dg rfl rfl (fun hc => ⟨_, OpenTo.upd (t := 34) rfl (by first | exact hc | simp_all) (OpenTo.refl _), pop_not rfl⟩) ?_
   refine dp rfl (pop_picko rfl (.inl rfl) (.inr ⟨_, rfl, fun h => by simp_all⟩)) ?_
   refine dn ?_
   refine hw_cond rfl (fun h3 => ?_) (fun h4 => ?_)
   ·try simp at h3
    refine hw_reg ?_
    refine dp rfl (pop_move rfl) ?_
    refine dp rfl (pop_assign rfl) ?_
    refine dp rfl (pop_assign rfl) ?_
    refine dn ?_
    refine hw_ret ?_
    first
    | (have hgf : goL ok 0 (spl 10 text) = ((k : Int), false) := hg.trans (if_pos (by simp; simpa using h3))
       exact ret_q rfl ⟨st2, by rw [hgf]; rfl, rfl, fun h => by rw [hgf] at h; cases h⟩)
    | (refine ret_q rfl ⟨st, ?_, rfl, fun h => ?_⟩
       ·rw [hg]; rfl
       ·rw [eachP_true h]; exact hq)
   ·try simp at h4
    refine hw_skip ?_
    refine blockQ_n ?_
    refine seqQ_n ?_
    refine hw_reg1 ?_
    refine dp rfl (pop_add64 rfl rfl (by omega) (by omega)) ?_
    refine dp rfl (pop_move rfl) ?_
    refine dn ?_
    exact ⟨k + 1, st2, ⟨by omega, (by simp_all [take_snoc' hx]), (by simp_all)⟩, by dsimp only; omega, ⟨rfl, trivial⟩, (by repeat (first | exact keeps_refl | refine keeps_upd rfl ?_ | refine keeps_loop rfl rfl ?_)), perm_eq rfl⟩
  ·try simp at h2
   have hnk : (lnsL text).length ≤ k := by omega
   obtain rfl : k = (lnsL text).length := by omega
   rw [drop_all (Nat.le_refl _)] at hg
   rw [List.take_length] at hq
   refine hw_exit ?_
   refine seqQ_x ?_
   refine loopQ2_x ?_
   refine blockQ_eq ?_
   refine seqQ_n ?_
   refine hw_reg ?_
   refine dp rfl (pop_assign rfl) ?_
   refine dp rfl (pop_assign rfl) ?_
   refine dn ?_
   refine hw_ret ?_
   first
   | (have hgf : goL ok 0 (spl 10 text) = ((k : Int), false) := hg.trans (if_pos (by simp; simpa using h3))
      exact ret_q rfl ⟨st2, by rw [hgf]; rfl, rfl, fun h => by rw [hgf] at h; cases h⟩)
   | (refine ret_q rfl ⟨st, ?_, rfl, fun h => ?_⟩
      ·rw [hg]; rfl
      ·rw [eachP_true h]; exact hq)

end Go.Proofs.YtjecenjmphpmfaaGreatDoor
end
section
namespace Go.HL
def pickF (p : Pick) : Int := if out p.No 0 600 then 1 else if !(key p.Team) || !(key p.Player) then 5 else if !(moment p.At) then 1 else 0
def autoS : Str := [97, 117, 116, 111]
def pickW (p : Pick) : List Str := [Lib.itoa p.No, p.Team, p.Player, Lib.itoa p.At] ++ (if p.Auto then [autoS] else [])
theorem pickF_z {p : Pick} (h : pickF p = 0) : (0 ≤ p.No ∧ p.No ≤ 600) ∧ key p.Team = true ∧ key p.Player = true ∧ (0 ≤ p.At ∧ p.At ≤ 345686399999) := by
 unfold pickF at h
 split at h
 ·cases h
 ·rename_i h1
  split at h
  ·cases h
  ·rename_i h2
   split at h
   ·cases h
   ·rename_i h3
    have a1 := out_f (by simpa using h1 : out p.No 0 600 = false)
    have a3 := out_f (by simpa [moment] using h3 : out p.At 0 345686399999 = false)
    simp at h2
    exact ⟨a1, h2.1, h2.2, a3⟩
theorem keyS_len {s : Str} (h : key s = true) : s.length ≤ 40 := by
 unfold key keyHd at h
 simp only [Bool.and_eq_true, decide_eq_true_eq] at h
 exact h.1.1.1.2
theorem key_ch {s : Str} (h : key s = true) : ∀ c ∈ s, keyCh c = true := by
 unfold key at h
 rw [Bool.and_eq_true] at h
 exact List.all_eq_true.1 h.2
theorem itoa_nat_len {n : Int} (h0 : 0 ≤ n) (h : n < 10000000000000) : (Lib.itoa n).length ≤ 13 := by
 obtain ⟨u, rfl⟩ : ∃ u : Nat, n = (u : Int) := ⟨n.toNat, by omega⟩
 rw [Lib.itoa_nonneg, Lib.decDigits_length]; exact nDigits_le 12 u (by omega)
theorem wordsB_n (line : Str) : wordsB line ((line.count 32 : Nat) + 1 : Int) = (spl 32 line).all (fun w => !w.isEmpty) := by
 unfold wordsB; rw [spl_len]; simp
theorem contains_nil (l : List Str) : l.contains [] = !(l.all fun w => !w.isEmpty) := by
 induction l with
 | nil => rfl
 | cons x r ih =>
   rw [List.contains_cons, ih, List.all_cons]
   cases x <;> simp
end Go.HL
end
section
namespace Go.HL
variable {P : Program}
theorem eop_buildSliceA [Tracks] {e : Env} {dst : Option Tmp} {ty : TypeId} {pos : String} {af : Array Edge} {g : Option (Nat × Bool)} {M : List MObj} {K : HVal → List MObj → Prop} {t el : TypeId} {size bytes sz b2 n : Nat} {zero z2 : Value} {d : TD} {parts : Array (Nat × Operand)} {hs : List HVal}
 (hf : Fits P t (.slice el) size bytes zero) (hel : Fits P el d sz b2 z2) (hz : z2.cells.size = sz) (hn : parts.toList.length = n) (hsz : n * sz ≤ 16777216) (h0 : n * sz ≠ 0)
 (hr : partsL e sz 0 parts.toList = some hs) (hk : ∀ v, K (.raw v) (.arr v sz hs :: M)) : EOp P e M ⟨dst, .buildSlice t n parts, ty, pos, af, g⟩ K :=
 EOp.of_run fun I F a w ho hs' => by
  let zr : Array Value := (Array.range (n * sz)).map (z2.cells[· % z2.cells.size]!)
  obtain ⟨rc, h1, h2, h3, h4, h5, h6⟩ := partsL_run (I := I) (f := a.eval) parts.toList 0 hs zr hr (fun x hx h hh => ho.one (by simpa [Op.operands] using hx) hh) (by simp [zr, hn])
  have hl : hs.length = n := by omega
  have hpos : 0 < sz := by
   rcases Nat.eq_zero_or_pos sz with h | h
   ·rw [h] at h0; simp at h0
   ·exact h
  have hnle : n ≤ n * sz := Nat.le_mul_of_pos_right n hpos
  refine ⟨.slice (some ⟨w.heap.size, 0, none⟩) n n, .raw (.slice (some ⟨w.heap.size, 0, none⟩) n n), _, push w (.cells rc el (0, 0)), I, ?_, .refl I, hk _, .raw _ rfl, ?_⟩
  ·have hp : (parts.map fun x => (x.1, a.eval x.2)).toList = parts.toList.map fun p => (p.1, a.eval p.2) := by simp
   have hle : ¬ n * sz > 2 ^ 24 := by omega
   simp only [execOp, Instr.buildSlice, Sem.run_bind, run_underlying hf.slice, Result.andThen_ok, hel.run_sizeOf]
   rw [if_neg hle]
   simp only [Sem.run_pure, Result.andThen_ok]
   rw [if_neg h0]
   simp only [Sem.run_bind, hel.run_zero, Result.andThen_ok, Sem.run_pure, hp]
   have h1' : Instr.fill (fun i => some (i * sz, sz)) ((Array.range (n * sz)).map fun x => z2.cells[x % z2.cells.size]!) (parts.toList.map fun p => (p.1, a.eval p.2)) = some rc := h1
   rw [h1']
   simp [newRow]
  ·have hrc : rc.size = n * sz := by rw [h2]; simp [zr]
   exact hs'.new_own (.cells rc el (0, 0)) (.arr (.slice (some ⟨w.heap.size, 0, none⟩) n n) sz hs) rfl (.inr ⟨w.heap.size, 0, n, rc, el, (0, 0), by rw [hl], by simp [push], Free.zero _, h5, ⟨by omega, by omega⟩, by omega, fun i j x c v b1 b2 b3 => h6 i j x c v b1 b2 (by simpa using b3)⟩)
end Go.HL
end
section
namespace Go.Proofs.YtjecenjmphpmfaaGreatDoor
open Go.HL
set_option maxRecDepth 100000
set_option linter.unusedVariables false
set_option linter.unusedSimpArgs false
end Go.Proofs.YtjecenjmphpmfaaGreatDoor
end
section
namespace Go.HL
variable {P : Program}
/-- What a rune reads as. -/
def runeS (m : Int) : List UInt8 := (Utf8.encode m).data.toList
theorem runeS_len (m : Int) : (runeS m).length ≤ 4 := by
 show (Utf8.encode m).data.toList.length ≤ 4
 rw [Array.length_toList]; exact encode_size_le m
theorem pop_runeS [Tracks] {e : Env} {dst : Option Tmp} {ty : TypeId} {pos : String} {af : Array Edge} {g : Option (Nat × Bool)} {x : Operand} {t d' : TypeId} {k : IntKind} {m : Int} {s1 s2 b1 b2 : Nat} {z1 z2 : Value} {ds : TD} (hs : Fits P t ds s1 b1 z1) (hf : Fits P d' .str s2 b2 z2) (hx : evalO e x = some (.int k m)) :
 POp P e ⟨dst, .convert t d' x, ty, pos, af, g⟩ (.str (runeS m)) :=
 POp.of_val fun I a w ho => ⟨.string (Utf8.encode m), by
  have h1 := (ho.one (x := x) (by simp [Op.operands]) hx).int_inv
  obtain ⟨u, hu, _⟩ := hs.underlying
  simp only [execOp, h1, convert, Sem.run_bind, run_underlying hu, run_underlying hf.strD, Result.andThen_ok, Sem.run_pure, Conv.intToString], by
  have : Value.string (Utf8.encode m) = .string ⟨(runeS m).toArray⟩ := by simp [runeS]
  rw [this]; exact .str _⟩
end Go.HL
end
section
namespace Go.Proofs.YtjecenjmphpmfaaGreatDoor
open Go.HL
set_option maxRecDepth 100000
set_option linter.unusedVariables false
set_option linter.unusedSimpArgs false
/-- (*benchwarmer/benchmake.Stream).Changed -/
theorem c_benchmake_Stream_Changed [Tracks] {b : Nat} {l : List Int} {a : Nat} {t w : Str} (ha : a ≤ 900000) (ht : t.length ≤ 1000000) (hw : w.length ≤ 1000000) : Con Tryz.prog 38 [pAt b, .str t, .str w] [St b l a] (fun x M' => ∃ (y : Str) (a' : Nat), x = .str y ∧ y.length ≤ t.length + w.length + 4 ∧ a' ≤ a + 3 ∧ M' = [St b l a']) := by
 refine Con.of_body Tryz.func38 rfl Tryz.ntmps38 rfl rfl ?_
 refine hw_reg ?_
 refine dp rfl (pop_assign rfl) ?_
 refine dn ?_
 refine hw_seq ?_
 refine hw_reg ?_
 refine dp rfl (pop_move rfl) ?_
 refine dp rfl (pop_eqls rfl rfl) ?_
 refine dp rfl (pop_move rfl) ?_
 refine dg rfl rfl (fun hc => ⟨_, OpenTo.refl _, pop_move rfl⟩) ?_
 refine dg rfl rfl (fun hc => ⟨_, OpenTo.upd (t := 12) rfl (by first | exact hc | simp_all) (OpenTo.refl _), pop_eqls rfl rfl⟩) ?_
 refine dp rfl (pop_picko rfl (.inl rfl) (.inr ⟨_, rfl, fun h => by simp_all⟩)) ?_
 refine dn ?_
 refine hw_cond rfl (fun h1 => ?_) (fun h2 => ?_)
 ·try simp at h1
  refine hw_reg ?_
  refine dp rfl (pop_move rfl) ?_
  refine dp rfl (pop_assign rfl) ?_
  refine dn ?_
  refine hw_ret ?_
  first
  | exact ret_q rfl ⟨_, a, rfl, by omega, by omega, rfl⟩
  | (refine ret_q rfl ⟨_, a + 1 + 1 + 1, rfl, ?_, by omega, rfl⟩
     simp only [List.length_append, List.length_drop, List.length_take]
     (try simp only [List.getD_eq_getElem?_getD])
     omega)
 ·try simp at h2
  refine hw_skip ?_
  refine seqQ_n ?_
  refine hw_reg ?_
  refine dp rfl (pop_move rfl) ?_
  refine dp rfl (pop_move rfl) ?_
  refine dp rfl (pop_lens ty9 rfl) ?_
  first
  | refine de rfl (eop_callx (i := 0) ca44 rfl (WeakL.refl _) rfl (c_benchmake_Stream_Next (by first | assumption | omega | (simp; omega) | simp_all) (by first | assumption | omega | (simp; omega) | simp_all)) ?_)
  | refine de rfl (eop_callx (i := 1) ca44 rfl (WeakL.refl _) rfl (c_benchmake_Stream_Next (by first | assumption | omega | (simp; omega) | simp_all) (by first | assumption | omega | (simp; omega) | simp_all)) ?_)
  | refine de rfl (eop_callx (i := 2) ca44 rfl (WeakL.refl _) rfl (c_benchmake_Stream_Next (by first | assumption | omega | (simp; omega) | simp_all) (by first | assumption | omega | (simp; omega) | simp_all)) ?_)
  | refine de rfl (eop_callx (i := 3) ca44 rfl (WeakL.refl _) rfl (c_benchmake_Stream_Next (by first | assumption | omega | (simp; omega) | simp_all) (by first | assumption | omega | (simp; omega) | simp_all)) ?_)
  rintro _ _ ⟨y19, rfl, hy19, rfl⟩
  refine dp rfl (pop_assign rfl) ?_
  refine dn ?_
  have hlt : y19 < t.length := by have := List.length_pos_iff.2 h2.1; omega
  have hwp := List.length_pos_iff.2 h2.2
  refine hw_reg ?_
  refine dp rfl (pop_move rfl) ?_
  refine dp rfl (pop_move rfl) ?_
  refine dp rfl (pop_move rfl) ?_
  refine dp rfl (pop_lens ty9 rfl) ?_
  first
  | refine de rfl (eop_callx (i := 0) ca44 rfl (WeakL.refl _) rfl (c_benchmake_Stream_Next (by first | assumption | omega | (simp; omega) | simp_all) (by first | assumption | omega | (simp; omega) | simp_all)) ?_)
  | refine de rfl (eop_callx (i := 1) ca44 rfl (WeakL.refl _) rfl (c_benchmake_Stream_Next (by first | assumption | omega | (simp; omega) | simp_all) (by first | assumption | omega | (simp; omega) | simp_all)) ?_)
  | refine de rfl (eop_callx (i := 2) ca44 rfl (WeakL.refl _) rfl (c_benchmake_Stream_Next (by first | assumption | omega | (simp; omega) | simp_all) (by first | assumption | omega | (simp; omega) | simp_all)) ?_)
  | refine de rfl (eop_callx (i := 3) ca44 rfl (WeakL.refl _) rfl (c_benchmake_Stream_Next (by first | assumption | omega | (simp; omega) | simp_all) (by first | assumption | omega | (simp; omega) | simp_all)) ?_)
  rintro _ _ ⟨y24, rfl, hy24, rfl⟩
  refine dp rfl (pop_indexs (j := y24) (b := w.getD y24 0) ty9 rfl rfl rfl (getD_some (by omega))) ?_
  refine dp rfl (pop_assign rfl) ?_
  refine dn ?_
  refine hw_seq ?_
  have hru : (runeS (IntKind.i32.wrap (((w[y24]?.getD 0).toNat : Nat) : Int))).length ≤ 4 := runeS_len _
  refine hw_reg ?_
  refine dp rfl (pop_move rfl) ?_
  first
  | refine de rfl (eop_callx (i := 0) ca44 rfl (WeakL.refl _) rfl (c_benchmake_Stream_Next (by first | assumption | omega | (simp; omega) | simp_all) (by first | assumption | omega | (simp; omega) | simp_all)) ?_)
  | refine de rfl (eop_callx (i := 1) ca44 rfl (WeakL.refl _) rfl (c_benchmake_Stream_Next (by first | assumption | omega | (simp; omega) | simp_all) (by first | assumption | omega | (simp; omega) | simp_all)) ?_)
  | refine de rfl (eop_callx (i := 2) ca44 rfl (WeakL.refl _) rfl (c_benchmake_Stream_Next (by first | assumption | omega | (simp; omega) | simp_all) (by first | assumption | omega | (simp; omega) | simp_all)) ?_)
  | refine de rfl (eop_callx (i := 3) ca44 rfl (WeakL.refl _) rfl (c_benchmake_Stream_Next (by first | assumption | omega | (simp; omega) | simp_all) (by first | assumption | omega | (simp; omega) | simp_all)) ?_)
  rintro _ _ ⟨y27, rfl, hy27, rfl⟩
  refine dn ?_
  refine hw_block ?_
  refine hw_reg ?_
  refine dp rfl (pop_eql rfl rfl) ?_
  refine dp rfl (pop_assign rfl) ?_
  refine dn ?_
  refine hw_cond rfl (fun h3 => ?_) (fun h4 => ?_)
  ·try simp at h3
   refine hw_draw (fun _ => True) [] mixed ?_
   refine ahp 0 rfl rfl (by kernel_rfl) (by kernel_rfl) (pop_move rfl) ?_
   refine ahp 1 rfl rfl (by kernel_rfl) (by kernel_rfl) (pop_move rfl) ?_
   refine ahp 2 rfl rfl (by kernel_rfl) (by kernel_rfl) (pop_slices ty9 rfl rfl ⟨_, _, rfl, rfl⟩ (by omega) (by omega)) ?_
   refine ahp 3 rfl rfl (by kernel_rfl) (by kernel_rfl) (pop_move rfl) ?_
   refine ahp 4 rfl rfl (by kernel_rfl) (by kernel_rfl) (pop_conv ty5 ty21 rfl) ?_
   refine ahp 5 rfl rfl (by kernel_rfl) (by kernel_rfl) (pop_runeS ty21 ty9 rfl) ?_
   refine ahp 6 rfl rfl (by kernel_rfl) (by kernel_rfl) (pop_adds rfl rfl (by first | assumption | (simp; omega))) ?_
   refine ahp 7 rfl rfl (by kernel_rfl) (by kernel_rfl) (pop_move rfl) ?_
   refine ahp 8 rfl rfl (by kernel_rfl) (by kernel_rfl) (pop_move rfl) ?_
   refine ahp 9 rfl rfl (by kernel_rfl) (by kernel_rfl) (pop_add64 rfl rfl (by omega) (by omega)) ?_
   refine ahp 10 rfl rfl (by kernel_rfl) (by kernel_rfl) (pop_slices (l := y19 + 1) (h := t.length) ty9 rfl ⟨_, _, rfl, by omega⟩ rfl (by omega) (by omega)) ?_
   refine ahp 11 rfl rfl (by kernel_rfl) (by kernel_rfl) (pop_adds rfl rfl (by first | assumption | (simp; omega))) ?_
   refine ahp 12 rfl rfl (by kernel_rfl) (by kernel_rfl) (pop_assign rfl) ?_
   refine ahz (by kernel_rfl) ?_
   refine hw_ret ?_
   first
   | exact ret_q rfl ⟨_, a, rfl, by omega, by omega, rfl⟩
   | (refine ret_q rfl ⟨_, a + 1 + 1 + 1, rfl, ?_, by omega, rfl⟩
      simp only [List.length_append, List.length_drop, List.length_take]
      (try simp only [List.getD_eq_getElem?_getD])
      omega)
  ·try simp at h4
   refine hw_reg ?_
   refine dp rfl (pop_eql rfl rfl) ?_
   refine dp rfl (pop_assign rfl) ?_
   refine dn ?_
   refine hw_cond rfl (fun h5 => ?_) (fun h6 => ?_)
   ·try simp at h5
    refine hw_draw (fun _ => True) [] mixed ?_
    refine ahp 0 rfl rfl (by kernel_rfl) (by kernel_rfl) (pop_move rfl) ?_
    refine ahp 1 rfl rfl (by kernel_rfl) (by kernel_rfl) (pop_move rfl) ?_
    refine ahp 2 rfl rfl (by kernel_rfl) (by kernel_rfl) (pop_slices ty9 rfl rfl ⟨_, _, rfl, rfl⟩ (by omega) (by omega)) ?_
    refine ahp 3 rfl rfl (by kernel_rfl) (by kernel_rfl) (pop_move rfl) ?_
    refine ahp 4 rfl rfl (by kernel_rfl) (by kernel_rfl) (pop_conv ty5 ty21 rfl) ?_
    refine ahp 5 rfl rfl (by kernel_rfl) (by kernel_rfl) (pop_runeS ty21 ty9 rfl) ?_
    refine ahp 6 rfl rfl (by kernel_rfl) (by kernel_rfl) (pop_adds rfl rfl (by first | assumption | (simp; omega))) ?_
    refine ahp 7 rfl rfl (by kernel_rfl) (by kernel_rfl) (pop_move rfl) ?_
    refine ahp 8 rfl rfl (by kernel_rfl) (by kernel_rfl) (pop_move rfl) ?_
    refine ahp 9 rfl rfl (by kernel_rfl) (by kernel_rfl) (pop_slices ty9 rfl ⟨_, _, rfl, rfl⟩ rfl (by omega) (by omega)) ?_
    refine ahp 10 rfl rfl (by kernel_rfl) (by kernel_rfl) (pop_adds rfl rfl (by first | assumption | (simp; omega))) ?_
    refine ahp 11 rfl rfl (by kernel_rfl) (by kernel_rfl) (pop_assign rfl) ?_
    refine ahz (by kernel_rfl) ?_
    refine hw_ret ?_
    first
    | exact ret_q rfl ⟨_, a, rfl, by omega, by omega, rfl⟩
    | (refine ret_q rfl ⟨_, a + 1 + 1 + 1, rfl, ?_, by omega, rfl⟩
       simp only [List.length_append, List.length_drop, List.length_take]
       (try simp only [List.getD_eq_getElem?_getD])
       omega)
   ·try simp at h6
    refine hw_skip ?_
    refine blockQ_n ?_
    refine seqQ_n ?_
    refine hw_draw (fun _ => True) [] mixed ?_
    refine ahp 0 rfl rfl (by kernel_rfl) (by kernel_rfl) (pop_move rfl) ?_
    refine ahp 1 rfl rfl (by kernel_rfl) (by kernel_rfl) (pop_move rfl) ?_
    refine ahp 2 rfl rfl (by kernel_rfl) (by kernel_rfl) (pop_slices ty9 rfl rfl ⟨_, _, rfl, rfl⟩ (by omega) (by omega)) ?_
    refine ahp 3 rfl rfl (by kernel_rfl) (by kernel_rfl) (pop_move rfl) ?_
    refine ahp 4 rfl rfl (by kernel_rfl) (by kernel_rfl) (pop_move rfl) ?_
    refine ahp 5 rfl rfl (by kernel_rfl) (by kernel_rfl) (pop_add64 rfl rfl (by omega) (by omega)) ?_
    refine ahp 6 rfl rfl (by kernel_rfl) (by kernel_rfl) (pop_slices (l := y19 + 1) (h := t.length) ty9 rfl ⟨_, _, rfl, by omega⟩ rfl (by omega) (by omega)) ?_
    refine ahp 7 rfl rfl (by kernel_rfl) (by kernel_rfl) (pop_adds rfl rfl (by first | assumption | (simp; omega))) ?_
    refine ahp 8 rfl rfl (by kernel_rfl) (by kernel_rfl) (pop_assign rfl) ?_
    refine ahz (by kernel_rfl) ?_
    refine hw_ret ?_
    first
    | exact ret_q rfl ⟨_, a, rfl, by omega, by omega, rfl⟩
    | (refine ret_q rfl ⟨_, a + 1 + 1 + 1, rfl, ?_, by omega, rfl⟩
       simp only [List.length_append, List.length_drop, List.length_take]
       (try simp only [List.getD_eq_getElem?_getD])
       omega)
end Go.Proofs.YtjecenjmphpmfaaGreatDoor
end
section
namespace Go.HL
theorem digits_dig (u : Nat) : ∀ c ∈ Lib.decDigits u, dig c = true := fun c hc => by
 obtain ⟨d, hd, rfl⟩ := digits_mem u c hc
 exact (digit_ok d hd).2.1
theorem itoa_plain {n : Int} (h0 : 0 ≤ n) : (∀ c ∈ Lib.itoa n, dig c = true) ∧ Lib.itoa n ≠ [] ∧ cutMinus (Lib.itoa n) = Lib.itoa n := by
 obtain ⟨u, rfl⟩ : ∃ u : Nat, n = (u : Int) := ⟨n.toNat, by omega⟩
 rw [Lib.itoa_nonneg]
 exact ⟨digits_dig u, digits_ne u, cut_digits u⟩
theorem dig_no {c : UInt8} (h : dig c = true) : c ≠ 32 ∧ c ≠ 10 := by
 constructor <;> · rintro rfl; simp [dig] at h
theorem keyCh_no {c : UInt8} (h : keyCh c = true) : c ≠ 32 ∧ c ≠ 10 := by
 constructor <;> · rintro rfl; simp [keyCh] at h
theorem key_not_nil {s : Str} (h : key s = true) : s ≠ [] := by
 rintro rfl; simp [key, keyHd] at h
theorem pickW_no {p : Pick} (h : pickF p = 0) : ∀ w ∈ pickW p, w ≠ [] ∧ (32 : UInt8) ∉ w ∧ (10 : UInt8) ∉ w := by
 obtain ⟨h1, h2, h3, h4⟩ := pickF_z h
 obtain ⟨a1, a2, _⟩ := itoa_plain h1.1
 obtain ⟨b1, b2, _⟩ := itoa_plain h4.1
 have fd : ∀ s : Str, (∀ c ∈ s, dig c = true) → (32 : UInt8) ∉ s ∧ (10 : UInt8) ∉ s := fun s hs => ⟨fun hm => (dig_no (hs _ hm)).1 rfl, fun hm => (dig_no (hs _ hm)).2 rfl⟩
 have fk : ∀ s : Str, key s = true → (32 : UInt8) ∉ s ∧ (10 : UInt8) ∉ s := fun s hs => ⟨fun hm => (keyCh_no (key_ch hs _ hm)).1 rfl, fun hm => (keyCh_no (key_ch hs _ hm)).2 rfl⟩
 intro w hw
 unfold pickW at hw
 rcases List.mem_append.1 hw with hw | hw
 ·simp only [List.mem_cons, List.not_mem_nil, or_false] at hw
  rcases hw with rfl | rfl | rfl | rfl
  ·exact ⟨a2, fd _ a1⟩
  ·exact ⟨key_not_nil h2, fk _ h2⟩
  ·exact ⟨key_not_nil h3, fk _ h3⟩
  ·exact ⟨b2, fd _ b1⟩
 ·cases hA : p.Auto with
  | false => rw [hA] at hw; simp at hw
  | true => rw [hA] at hw; simp at hw; subst hw; decide
theorem jn_no {c d : UInt8} (hcd : d ≠ c) : ∀ {l : List Str}, (∀ x ∈ l, d ∉ x) → d ∉ jn c l
 | [], _ => by simp [jn]
 | [x], h => h x (by simp)
 | x :: y :: r, h => by
   rw [jn_cons (by simp)]
   simp only [List.mem_append, List.mem_cons, not_or]
   exact ⟨h x (by simp), hcd, jn_no hcd fun z hz => h z (by simp [hz])⟩
theorem jn_lines : ∀ (l : List Str), jn 10 (l ++ [[]]) = (l.map (· ++ [10])).flatten
 | [] => rfl
 | x :: r => by
   rw [List.cons_append, jn_cons (by simp), jn_lines r]; simp
end Go.HL
end
section
namespace Go.HL
theorem itoa_cases (n : Int) : (∃ u : Nat, n = (u : Int) ∧ Lib.itoa n = Lib.decDigits u ∧ cutMinus (Lib.itoa n) = Lib.decDigits u) ∨ (∃ u : Nat, 1 ≤ u ∧ n = -(u : Int) ∧ Lib.itoa n = 45 :: Lib.decDigits u ∧ cutMinus (Lib.itoa n) = Lib.decDigits u) := by
 rcases Int.lt_or_le n 0 with h | h
 ·obtain ⟨u, rfl⟩ : ∃ u : Nat, n = -(u : Int) := ⟨n.natAbs, by omega⟩
  have e := Lib.itoa_neg u (by omega)
  exact .inr ⟨u, by omega, rfl, e, by rw [e]; rfl⟩
 ·obtain ⟨u, rfl⟩ : ∃ u : Nat, n = (u : Int) := ⟨n.toNat, by omega⟩
  have e := Lib.itoa_nonneg u
  exact .inl ⟨u, rfl, e, by rw [e]; exact cut_digits u⟩
theorem cut_itoa (n : Int) : cutMinus (Lib.itoa n) = Lib.decDigits n.natAbs := by
 rcases itoa_cases n with ⟨u, rfl, _, h⟩ | ⟨u, _, rfl, _, h⟩
 ·rw [h]; congr 1
 ·rw [h]; congr 1; omega
theorem itoa_len (n : Int) : (Lib.itoa n).length ≤ (Lib.decDigits n.natAbs).length + 1 := by
 have h := cut_itoa n
 rcases cutMinus_cases (Lib.itoa n) with ⟨r, e1, e2⟩ | ⟨_, e2⟩
 ·rw [e2] at h; rw [e1, h]; simp
 ·rw [e2] at h; rw [h]; omega
theorem itoa_no (n : Int) : Lib.itoa n ≠ [] ∧ (32 : UInt8) ∉ Lib.itoa n ∧ (10 : UInt8) ∉ Lib.itoa n := by
 have fd : ∀ u, (32 : UInt8) ∉ Lib.decDigits u ∧ (10 : UInt8) ∉ Lib.decDigits u := fun u => ⟨fun hm => (dig_no (digits_dig u _ hm)).1 rfl, fun hm => (dig_no (digits_dig u _ hm)).2 rfl⟩
 rcases itoa_cases n with ⟨u, _, e, _⟩ | ⟨u, _, _, e, _⟩
 ·rw [e]; exact ⟨digits_ne u, fd u⟩
 ·rw [e]
  refine ⟨by simp, ?_, ?_⟩ <;> simp only [List.mem_cons, not_or]
  ·exact ⟨by decide, (fd u).1⟩
  ·exact ⟨by decide, (fd u).2⟩
/-- A number of so many digits is read as it was written. -/
theorem num_itoaG {n : Int} {k : Nat} {m : Int} (h : n.natAbs < 10 ^ (k + 1)) (hm : ((k + 1 : Nat) : Int) ≤ m) : numB (Lib.itoa n) m = true ∧ numR (Lib.itoa n) m = n := by
 have hc := cut_itoa n
 have hl : (Lib.decDigits n.natAbs).length ≤ k + 1 := by rw [Lib.decDigits_length]; exact nDigits_le k _ h
 have hi : intC (Lib.itoa n) m = false := intC_f (by rw [hc]; exact digits_ne _) (by rw [hc]; omega) (by rw [hc]; exact digits_dig _)
 have hb : numB (Lib.itoa n) m = true := by
  rw [(num_int _ _).1]; unfold intB; rw [hi, numV_itoa]; simp
 exact ⟨hb, by unfold numR; rw [if_pos hb, numV_itoa]⟩
end Go.HL
end
section
namespace Go.HL
theorem lns_len (text : Str) : (lns text).length ≤ text.length := by
 unfold lns; rw [List.length_dropLast, spl_len]; simp only [Nat.add_sub_cancel]; exact List.count_le_length
end Go.HL
end
section
namespace Go.HL
section
variable {α : Type} (rB : Str → Bool) (rP : Str → α) (F : List α → Int) (W : α → List Str) (enc : α → HVal) (sz : Nat)
def txB (text : Str) : Bool := (goL rB 0 (spl 10 text)).2
def txL (text : Str) : List α := (lns text).map rP
def txE (text : Str) : Int := if (200000 : Int) < (text.length : Int) then 2 else if txB rB text then F (txL rP text) else 9
def txI (text : Str) : Int := if (200000 : Int) < (text.length : Int) then 0 else if txB rB text then 0 else (goL rB 0 (spl 10 text)).1
def txP (text : Str) : List α := if txE rB rP F text = 0 then txL rP text else []
def txLn (x : α) : Str := jn 32 (W x) ++ [10]
def txT (l : List α) : Str := (l.map (txLn W)).flatten
theorem txT_snoc (l : List α) (x : α) : txT W (l ++ [x]) = txT W l ++ txLn W x := by simp [txT]
def textE (l : List α) : Int := if F l ≠ 0 then F l else if (200000 : Int) < ((txT W l).length : Int) then 2 else 0
def textT (l : List α) : Str := if textE F W l = 0 then txT W l else []
theorem textE_1 {l : List α} (h : F l ≠ 0) : textE F W l = F l := by unfold textE; rw [if_pos h]
theorem textE_2 {l : List α} (h : F l = 0) (h2 : (200000 : Int) < ((txT W l).length : Int)) : textE F W l = 2 := by unfold textE; rw [if_neg (by simp [h]), if_pos h2]
theorem textE_3 {l : List α} (h : F l = 0) (h2 : ((txT W l).length : Int) ≤ 200000) : textE F W l = 0 := by unfold textE; rw [if_neg (by simp [h]), if_neg (by omega)]
theorem text_1 {l : List α} (h : F l ≠ 0) : HVal.tup [.str [], .int .i64 (F l)] = .tup [.str (textT F W l), .int .i64 (textE F W l)] := by
 have e := textE_1 F W h
 unfold textT; rw [e, if_neg h]
theorem text_2 {l : List α} (h : F l = 0) (h2 : (200000 : Int) < ((txT W l).length : Int)) : HVal.tup [.str [], .int .i64 2] = .tup [.str (textT F W l), .int .i64 (textE F W l)] := by
 have e := textE_2 F W h h2
 unfold textT; rw [e]; rfl
theorem text_3 {l : List α} (h : F l = 0) (h2 : ((txT W l).length : Int) ≤ 200000) : HVal.tup [.str (txT W l), .int .i64 0] = .tup [.str (textT F W l), .int .i64 (textE F W l)] := by
 have e := textE_3 F W h h2
 unfold textT; rw [e, if_pos rfl]
theorem tx_1 {text : Str} (h : (200000 : Int) < (text.length : Int)) : txE rB rP F text = 2 ∧ txI rB text = 0 := by
 unfold txE txI; rw [if_pos h, if_pos h]; exact ⟨rfl, rfl⟩
theorem tx_2 {text : Str} (h : (text.length : Int) ≤ 200000) (h2 : (goL rB 0 (spl 10 text)).2 = false) : txE rB rP F text = 9 ∧ txI rB text = (goL rB 0 (spl 10 text)).1 := by
 have h' : ¬ (200000 : Int) < (text.length : Int) := by omega
 unfold txE txI txB; simp only [h', if_false, h2]; exact ⟨rfl, rfl⟩
theorem tx_3 {text : Str} (h : (text.length : Int) ≤ 200000) (h2 : (goL rB 0 (spl 10 text)).2 = true) : txE rB rP F text = F (txL rP text) ∧ txI rB text = 0 := by
 have h' : ¬ (200000 : Int) < (text.length : Int) := by omega
 unfold txE txI txB; simp only [h', if_false, h2]; exact ⟨rfl, rfl⟩
theorem txL_len (text : Str) : (txL rP text).length ≤ text.length := by
 unfold txL; rw [List.length_map]; exact lns_len text
def STx (bo : Nat) (q : Value × List α) : List MObj := [.cells bo [.raw q.1], .arr q.1 sz (q.2.map enc)]
theorem weakTx [Tracks] {text : Str} {i e : Int} (h1 : txE rB rP F text = e) (he : e ≠ 0) (h2 : txI rB text = i) : Weak (.tup [.raw (.slice none 0 0), .int .i64 i, .int .i64 e]) (.tup [.slice sz ((txP rB rP F text).map enc), .int .i64 (txI rB text), .int .i64 (txE rB rP F text)]) := by
 have : txP rB rP F text = [] := by unfold txP; rw [if_neg (by rw [h1]; exact he)]
 rw [this, h1, h2]; exact weak_tup3 (weak_nil sz) (Weak.refl _) (Weak.refl _)
theorem eqTx {text : Str} (h1 : txE rB rP F text = 0) (h2 : txI rB text = 0) : HVal.tup [.slice sz ((txL rP text).map enc), .int .i64 0, .int .i64 0] = .tup [.slice sz ((txP rB rP F text).map enc), .int .i64 (txI rB text), .int .i64 (txE rB rP F text)] := by
 have : txP rB rP F text = txL rP text := by unfold txP; rw [if_pos h1]
 rw [this, h1, h2]
theorem spl_tx : ∀ {l : List α}, (∀ x ∈ l, (10 : UInt8) ∉ jn 32 (W x)) → spl 10 (txT W l) = l.map (fun x => jn 32 (W x)) ++ [[]]
 | [], _ => rfl
 | p :: r, h => by
   have ih := spl_tx (l := r) fun q hq => h q (by simp [hq])
   have e : txT W (p :: r) = jn 32 (W p) ++ 10 :: txT W r := by simp [txT, txLn]
   rw [e, spl_app _ (h p (by simp)), ih]; rfl
/-- What is written is read as it was. -/
theorem tx_back {l : List α} (h0 : ∀ x ∈ l, (10 : UInt8) ∉ jn 32 (W x)) (h1 : ∀ x ∈ l, rB (jn 32 (W x)) = true ∧ rP (jn 32 (W x)) = x) (hF : F l = 0) (hl : (txT W l).length ≤ 200000) : txE rB rP F (txT W l) = 0 ∧ txP rB rP F (txT W l) = l ∧ txI rB (txT W l) = 0 := by
 have hs := spl_tx W h0
 have hg : goL rB 0 (spl 10 (txT W l)) = (0, true) := by
  rw [hs]
  refine goL_all _ 0 fun s hs => ?_
  obtain ⟨p, hp, rfl⟩ := List.mem_map.1 hs
  exact (h1 p hp).1
 have hL : txL rP (txT W l) = l := by
  unfold txL lns
  rw [hs, List.dropLast_concat, List.map_map]
  conv => rhs; rw [← List.map_id l]
  exact List.map_congr_left fun p hp => (h1 p hp).2
 have hE := tx_3 rB rP F (text := txT W l) (by omega) (by rw [hg])
 rw [hL, hF] at hE
 exact ⟨hE.1, by unfold txP; rw [if_pos hE.1, hL], hE.2⟩
/-- What is read is written so. -/
theorem tx_again {text : Str} (hw : ∀ line, rB line = true → jn 32 (W (rP line)) = line) (h : txE rB rP F text = 0) : txP rB rP F text = txL rP text ∧ F (txL rP text) = 0 ∧ txT W (txL rP text) = text ∧ text.length ≤ 200000 := by
 have hp : txP rB rP F text = txL rP text := by unfold txP; rw [if_pos h]
 unfold txE at h
 split at h
 ·cases h
 ·rename_i hlen
  split at h
  ·rename_i hb
   refine ⟨hp, h, ?_, by omega⟩
   obtain ⟨_, h2, h3⟩ := goL_of (spl 10 text) 0 (spl_ne 10 text) hb
   have hs : spl 10 text = lns text ++ [[]] := by
    unfold lns
    obtain ⟨r, hr⟩ := List.getLast?_eq_some_iff.1 h3
    rw [hr, List.dropLast_concat]
   have h4 : jn 10 (spl 10 text) = text := jn_spl 10 text
   rw [hs, jn_lines] at h4
   unfold txT txL
   rw [List.map_map]
   conv => rhs; rw [← h4]
   congr 1
   exact List.map_congr_left fun x hx => by
    show txLn W (rP x) = x ++ [10]
    unfold txLn; rw [hw x (h2 x hx)]
  ·cases h
end
end Go.HL
end
section
namespace Go.HL
open Go.Sort Go.Proofs
structure Play where
 Source : Str
 No : Int
 At : Int
 Week : Int
 Match : Str
 Player : Str
 Stat : Str
 Count : Int
 Undo : Int
structure StatS where
 Name : Str
 Count : Int
structure LineS where
 Player : Str
 Week : Int
 Stats : List StatS
abbrev ePlay (x : Play) : HVal := .agg [.str x.Source, .int .i64 x.No, .int .i64 x.At, .int .i64 x.Week, .str x.Match, .str x.Player, .str x.Stat, .int .i64 x.Count, .int .i64 x.Undo]
abbrev ePlays (l : List Play) : HVal := .slice 9 (l.map ePlay)
abbrev eStat (x : StatS) : HVal := .agg [.str x.Name, .int .i64 x.Count]
abbrev eStats (l : List StatS) : HVal := .slice 2 (l.map eStat)
abbrev eLine (x : LineS) : HVal := .agg [.str x.Player, .int .i64 x.Week, eStats x.Stats]
abbrev eLines (l : List LineS) : HVal := .slice 3 (l.map eLine)
abbrev Num := Str × Int
abbrev Of2 := Str × Str
abbrev eNum (x : Num) : HVal := .agg [.str x.1, .int .i64 x.2]
abbrev eOf (x : Of2) : HVal := .agg [.str x.1, .str x.2]
def play0 : Play := ⟨[], 0, 0, 0, [], [], [], 0, 0⟩
def weekB (n : Int) : Bool := !(out n 1 60)
def playFault (p : Play) : Int :=
 if !(key p.Source) then 5 else if out p.No 1 3000 || !(moment p.At) || !(weekB p.Week) then 1
 else if !(key p.Match) || !(key p.Player) || !(key p.Stat) then 5
 else if out p.Count (-100000) 100000 || out p.Undo 0 (p.No - 1) then 1
 else if decide (0 < p.Undo) && decide (p.Count ≠ 0) then 3 else 0
def byNo (a b : Play) : Int := orI [cmpS a.Source b.Source, cmpI a.No b.No]
def playsGo (l : List Play) : Nat → List Play → Int
 | _, [] => 0
 | k, p :: r => if playFault p ≠ 0 then playFault p else if 0 < k ∧ byNo p (l.getD (k - 1) play0) ≤ 0 then 7 else playsGo l (k + 1) r
structure ChkS where
 S : List Str
 W : List (Str × Int)
 c : Bool
def chkStep (q : ChkS) (p : Play) : ChkS :=
 ⟨sadd p.Source q.S, aput p.Match p.Week q.W, q.c || ((alk p.Match q.W).isSome && ((alk p.Match q.W).getD 0 != p.Week))⟩
def chkSt (l : List Play) : ChkS := l.foldl chkStep ⟨[], [], false⟩
theorem chkSt_snoc {l : List Play} {k : Nat} {x : Play} (h : l[k]? = some x) : chkSt (l.take (k + 1)) = chkStep (chkSt (l.take k)) x := by
 rw [take_snoc' h]; simp [chkSt, List.foldl_append]
def playsTail (q : ChkS) : Int := if 20 < q.S.length ∨ 400 < q.W.length then 2 else if q.c then 13 else 0
def playsE (l : List Play) : Int := if 3000 < l.length then 2 else if playsGo l 0 l ≠ 0 then playsGo l 0 l else playsTail (chkSt l)
theorem playsGo_ne {l : List Play} {k : Nat} {x : Play} {r : List Play} (h1 : playFault x = 0) (h2 : 0 < k → ¬ byNo x (l.getD (k - 1) play0) ≤ 0) : playsGo l k (x :: r) = playsGo l (k + 1) r := by
 rw [playsGo, if_neg (by simp [h1]), if_neg (fun h => h2 h.1 h.2)]
theorem playsE_go {l : List Play} {c : Int} (h1 : l.length ≤ 3000) (h : playsGo l 0 l = c) (hc : c ≠ 0) : playsE l = c := by
 rw [playsE, if_neg (by omega), if_pos (by rw [h]; exact hc), h]
theorem playsE_tail {l : List Play} (h1 : l.length ≤ 3000) (h : playsGo l 0 l = 0) : playsE l = playsTail (chkSt l) := by
 rw [playsE, if_neg (by omega), if_neg (by simp [h])]
theorem playsE_ok {l : List Play} (h : playsE l = 0) : l.length ≤ 3000 ∧ playsGo l 0 l = 0 := by
 unfold playsE at h
 split at h
 ·omega
 ·split at h
  ·contradiction
  ·rename_i h1 h2; exact ⟨by omega, by simpa using h2⟩
theorem playFault_ok {p : Play} (h : playFault p = 0) : key p.Source = true ∧ (1 ≤ p.No ∧ p.No ≤ 3000) ∧ moment p.At = true ∧ weekB p.Week = true ∧ (key p.Match = true ∧ key p.Player = true ∧ key p.Stat = true) ∧ (-100000 ≤ p.Count ∧ p.Count ≤ 100000) ∧ (0 ≤ p.Undo ∧ p.Undo ≤ p.No - 1) := by
 unfold playFault at h
 split at h
 ·omega
 split at h
 ·omega
 split at h
 ·omega
 split at h
 ·omega
 rename_i h1 h2 h3 h4
 simp only [Bool.or_eq_true, Bool.not_eq_true', not_or, Bool.not_eq_false, Bool.not_eq_true] at h1 h2 h3 h4
 exact ⟨h1, out_f h2.1.1, h2.1.2, h2.2, ⟨h3.1.1, h3.1.2, h3.2⟩, out_f h4.1, out_f h4.2⟩
theorem playsGo_ok {l : List Play} : ∀ (r : List Play) (k : Nat), playsGo l k r = 0 → ∀ x ∈ r, playFault x = 0
 | [], _, _, x, hx => by cases hx
 | p :: r, k, h, x, hx => by
   rw [playsGo] at h
   split at h
   ·contradiction
   ·split at h
    ·omega
    ·rename_i h1 _
     rcases List.mem_cons.1 hx with rfl | hx
     ·simpa using h1
     ·exact playsGo_ok r (k + 1) h x hx
theorem plays_fault {l : List Play} (h : playsE l = 0) : ∀ x ∈ l, playFault x = 0 := playsGo_ok l 0 (playsE_ok h).2
/-! the source that counts -/
def bestStep (trust : List Str) (at' : Int) (B : List (Str × Int)) (p : Play) : List (Str × Int) :=
 if at' < p.At ∨ idxOf p.Source trust 0 < 0 then B
 else if (alk p.Match B).isSome = false ∨ idxOf p.Source trust 0 < (alk p.Match B).getD 0 then aput p.Match (idxOf p.Source trust 0) B else B
def bestL (l : List Play) (trust : List Str) (at' : Int) : List (Str × Int) := l.foldl (bestStep trust at') []
theorem bestL_snoc {l : List Play} {trust : List Str} {at' : Int} {k : Nat} {x : Play} (h : l[k]? = some x) : bestL (l.take (k + 1)) trust at' = bestStep trust at' (bestL (l.take k) trust at') x := by
 rw [take_snoc' h]; simp [bestL, List.foldl_append]
def srcOf (l : List Play) (trust : List Str) (at' : Int) (m : Str) : Option Str := (alk m (bestL l trust at')).map fun k => trust.getD k.toNat []
/-! what is taken back -/
def numStep (at' : Int) (A : List (Num × Play)) (p : Play) : List (Num × Play) := if p.At ≤ at' then aput (p.Source, p.No) p A else A
def numL (l : List Play) (at' : Int) : List (Num × Play) := l.foldl (numStep at') []
theorem numL_snoc {l : List Play} {at' : Int} {k : Nat} {x : Play} (h : l[k]? = some x) : numL (l.take (k + 1)) at' = numStep at' (numL (l.take k) at') x := by
 rw [take_snoc' h]; simp [numL, List.foldl_append]
def undoes (q p : Play) : Bool := decide (q.Undo = 0) && decide (q.Match = p.Match) && decide (q.Player = p.Player) && decide (q.Stat = p.Stat)
def goneStep (A : List (Num × Play)) (at' : Int) (G : List (Num × Bool)) (p : Play) : List (Num × Bool) :=
 if at' < p.At ∨ p.Undo = 0 then G else if (alk (p.Source, p.Undo) A).isSome = true ∧ undoes ((alk (p.Source, p.Undo) A).getD play0) p = true then aput (p.Source, p.Undo) true G else G
def goneGo (A : List (Num × Play)) (at' : Int) (l : List Play) : List (Num × Bool) := l.foldl (goneStep A at') []
def goneL (l : List Play) (at' : Int) : List (Num × Bool) := goneGo (numL l at') at' l
theorem goneGo_snoc {A : List (Num × Play)} {l : List Play} {at' : Int} {k : Nat} {x : Play} (h : l[k]? = some x) : goneGo A at' (l.take (k + 1)) = goneStep A at' (goneGo A at' (l.take k)) x := by
 rw [take_snoc' h]; simp [goneGo, List.foldl_append]
def isGone (l : List Play) (at' : Int) (x : Num) : Bool := (alk x (goneL l at')).getD false
/-! lines -/
def inLine (l : List Play) (trust : List Str) (week at' : Int) (p : Play) : Bool :=
 !(decide (at' < p.At) || p.Week != week || decide (0 < p.Undo) || isGone l at' (p.Source, p.No) || (srcOf l trust at' p.Match).getD [] != p.Source)
structure LnS where
 S : List Str
 c : List (Of2 × Int)
def lnPut (q : LnS) (p : Play) : LnS := ⟨sadd p.Player q.S, aput (p.Player, p.Stat) ((alk (p.Player, p.Stat) q.c).getD 0 + p.Count) q.c⟩
def lnStep (l : List Play) (trust : List Str) (week at' : Int) (q : LnS) (p : Play) : LnS := if inLine l trust week at' p then lnPut q p else q
def lnGo (l : List Play) (trust : List Str) (week at' : Int) (m : List Play) : LnS := m.foldl (lnStep l trust week at') ⟨[], []⟩
theorem lnGo_snoc {l m : List Play} {trust : List Str} {week at' : Int} {k : Nat} {x : Play} (h : m[k]? = some x) : lnGo l trust week at' (m.take (k + 1)) = lnStep l trust week at' (lnGo l trust week at' (m.take k)) x := by
 rw [take_snoc' h]; simp [lnGo, List.foldl_append]
def byNm (a b : StatS) : Int := cmpS a.Name b.Name
def rawStats (c : List (Of2 × Int)) (s : Str) : List StatS := (c.filter fun e => e.1.1 == s && e.2 != 0).map fun e => ⟨e.1.2, e.2⟩
def statsOf (c : List (Of2 × Int)) (s : Str) : List StatS := isort byNm (rawStats c s)
def fullB (c : List (Of2 × Int)) (S : List Str) : Bool := c.any (fun e => out e.2 (-100000) 100000) || S.any (fun s => decide (40 < (rawStats c s).length))
def clinesE (c : List (Of2 × Int)) (S : List Str) : Int := if fullB c S then 12 else 0
def clinesL (c : List (Of2 × Int)) (S : List Str) (week : Int) : List LineS := if fullB c S then [] else (sortS S).map fun s => ⟨s, week, statsOf c s⟩
def linesE (l : List Play) (trust : List Str) (week at' : Int) : Int := clinesE (lnGo l trust week at' l).c (lnGo l trust week at' l).S
def linesL (l : List Play) (trust : List Str) (week at' : Int) : List LineS := clinesL (lnGo l trust week at' l).c (lnGo l trust week at' l).S week
/-! order of trust -/
def trustGo (l : List Str) : Nat → List Str → Int
 | _, [] => 0
 | k, s :: r => if !(key s) then 5 else if (l.take k).contains s then 6 else trustGo l (k + 1) r
def trustE (l : List Str) : Int := if 20 < l.length then 2 else trustGo l 0 l
theorem key_len {s : Str} (h : key s = true) : s.length ≤ 40 := by
 simp only [key, keyHd, Bool.and_eq_true, decide_eq_true_eq] at h; exact h.1.1.1.2
theorem isort_of_sorted {α : Type} {c : α → α → Int} (hc : Cmp c fun _ => True) {l l' : List α} (he : ∀ x y, x ∈ l → y ∈ l → c x y = 0 → x = y) (hp : l'.Perm l) (hw : l'.Pairwise fun a b => ¬ c b a < 0) : l' = isort c l := by
 have hs := isort_sorted hc (l := l) (fun _ _ => trivial)
 have hw' : l'.Pairwise fun a b => c a b ≤ 0 := hw.imp fun {a b} h => by
  have := hc.flip b a trivial trivial
  omega
 refine List.Perm.eq_of_pairwise (le := fun a b => c a b ≤ 0) (fun a b ha hb h1 h2 => ?_) hw' hs (hp.trans (isort_perm c l).symm)
 have f1 := hc.flip a b trivial trivial
 exact he a b (hp.mem_iff.1 ha) ((isort_perm c l).mem_iff.1 hb) (by omega)
theorem byNm_cmp : Cmp byNm fun _ => True where
 flip x y _ _ := by unfold byNm; rw [cmpS_flip x.Name y.Name]; omega
 trans x y z _ _ _ h1 h2 := cmpS_trans h1 h2
theorem swo_cmp {α : Type} {c : α → α → Int} (hc : Cmp c fun _ => True) : SWO (ltOf c) := by
 have h : ∀ a b, ltOf c a b = decide (c a b < 0) := fun a b => rfl
 refine ⟨fun x => ?_, fun x y z h1 h2 => ?_, fun x y z h1 h2 => ?_⟩
 ·rw [h]; have := hc.flip x x trivial trivial; simp; omega
 ·rw [h] at *
  simp only [decide_eq_true_eq] at *
  have a1 := hc.trans x y z trivial trivial trivial (by omega) (by omega)
  rcases Int.lt_or_eq_of_le a1 with e | e
  ·exact e
  ·exfalso
   have f1 := hc.flip x z trivial trivial
   have a2 := hc.trans z x y trivial trivial trivial (by have := hc.flip z x trivial trivial; omega) (by omega)
   have f2 := hc.flip y z trivial trivial
   omega
 ·rw [h] at *
  simp only [decide_eq_false_iff_not] at *
  have f1 := hc.flip x y trivial trivial
  have f2 := hc.flip y z trivial trivial
  have f3 := hc.flip x z trivial trivial
  have g1 := hc.flip y x trivial trivial
  have g2 := hc.flip z y trivial trivial
  have g3 := hc.flip z x trivial trivial
  have := hc.trans z y x trivial trivial trivial (by omega) (by omega)
  omega
end Go.HL
end
section
namespace Go.HL
def playW (p : Play) : List Str := [p.Source, Lib.itoa p.No, Lib.itoa p.At, Lib.itoa p.Week, p.Match, p.Player, p.Stat, Lib.itoa p.Count] ++ (if 0 < p.Undo then [Lib.itoa p.Undo] else [])
theorem playFault_z {p : Play} (h : playFault p = 0) : key p.Source = true ∧ (1 ≤ p.No ∧ p.No ≤ 3000) ∧ (0 ≤ p.At ∧ p.At ≤ 345686399999) ∧ (1 ≤ p.Week ∧ p.Week ≤ 60) ∧ (key p.Match = true ∧ key p.Player = true ∧ key p.Stat = true) ∧ (-100000 ≤ p.Count ∧ p.Count ≤ 100000) ∧ (0 ≤ p.Undo ∧ p.Undo ≤ 2999) := by
 obtain ⟨h1, h2, h3, h4, h5, h6, h7⟩ := playFault_ok h
 have a3 := out_f (by simpa [moment] using h3 : out p.At 0 345686399999 = false)
 have a4 := out_f (by simpa [weekB] using h4 : out p.Week 1 60 = false)
 exact ⟨h1, h2, a3, a4, h5, h6, h7.1, by omega⟩
theorem plays_z {l : List Play} (h : playsE l = 0) : l.length ≤ 3000 ∧ ∀ x ∈ l, playFault x = 0 := ⟨(playsE_ok h).1, playsGo_ok l 0 (playsE_ok h).2⟩
theorem count_len {n : Int} (h : -100000 ≤ n ∧ n ≤ 100000) : (Lib.itoa n).length ≤ 7 := by
 have a := itoa_len n
 have b : (Lib.decDigits n.natAbs).length ≤ 6 := by rw [Lib.decDigits_length]; exact nDigits_le 5 _ (by omega)
 omega
theorem playW_len {p : Play} (h : playFault p = 0) : (jn 32 (playW p)).length ≤ 230 := by
 obtain ⟨h1, h2, h3, h4, ⟨h5, h6, h7⟩, h8, h9⟩ := playFault_z h
 have a1 := keyS_len h1
 have a2 := itoa_nat_len (n := p.No) (by omega) (by omega)
 have a3 := itoa_nat_len (n := p.At) (by omega) (by omega)
 have a4 := itoa_nat_len (n := p.Week) (by omega) (by omega)
 have a5 := keyS_len h5
 have a6 := keyS_len h6
 have a7 := keyS_len h7
 have a8 := count_len h8
 have a9 := itoa_nat_len (n := p.Undo) (by omega) (by omega)
 unfold playW
 split <;> simp only [jn, List.cons_append, List.nil_append, List.length_append, List.length_cons, List.length_nil, List.append_nil] <;> omega
theorem playW_many (p : Play) : (playW p).length ≤ 9 := by unfold playW; split <;> simp
theorem playT_len {l : List Play} : (∀ x ∈ l, playFault x = 0) → (txT playW l).length ≤ 231 * l.length := by
 induction l with
 | nil => intro _; simp [txT]
 | cons p r ih =>
   intro h
   have h1 := playW_len (h p (by simp))
   have h2 := ih fun q hq => h q (by simp [hq])
   simp only [txT, txLn, List.map_cons, List.flatten_cons, List.length_append, List.length_cons, List.length_nil] at h2 ⊢
   omega
/-- A line as a play, and whether it is one. -/
def plC (line : Str) : Bool := (spl 32 line).all (fun w => !w.isEmpty) && !(out ((spl 32 line).length : Int) 8 9)
def plN (line : Str) : List Str := ((spl 32 line).take 4).drop 1
def plM (line : Str) : List Str := (spl 32 line).drop 7
def plB (line : Str) : Bool := plC line && (plN line).all (numB · 15) && (plM line).all (numB · 15) && (!((((spl 32 line).length : Nat) : Int) == 9) || decide (0 < numR ((spl 32 line).getD 8 []) 15))
def plP (line : Str) : Play := ⟨(spl 32 line).getD 0 [], numR ((spl 32 line).getD 1 []) 15, numR ((spl 32 line).getD 2 []) 15, numR ((spl 32 line).getD 3 []) 15, (spl 32 line).getD 4 [], (spl 32 line).getD 5 [], (spl 32 line).getD 6 [], numR ((spl 32 line).getD 7 []) 15, if (((spl 32 line).length : Nat) : Int) = 9 then numR ((spl 32 line).getD 8 []) 15 else 0⟩
theorem playW_no {p : Play} (h : playFault p = 0) : ∀ w ∈ playW p, w ≠ [] ∧ (32 : UInt8) ∉ w ∧ (10 : UInt8) ∉ w := by
 obtain ⟨h1, h2, h3, h4, ⟨h5, h6, h7⟩, h8, h9⟩ := playFault_z h
 have fk : ∀ s : Str, key s = true → s ≠ [] ∧ (32 : UInt8) ∉ s ∧ (10 : UInt8) ∉ s := fun s hs => ⟨key_not_nil hs, fun hm => (keyCh_no (key_ch hs _ hm)).1 rfl, fun hm => (keyCh_no (key_ch hs _ hm)).2 rfl⟩
 intro w hw
 unfold playW at hw
 rcases List.mem_append.1 hw with hw | hw
 ·simp only [List.mem_cons, List.not_mem_nil, or_false] at hw
  rcases hw with rfl | rfl | rfl | rfl | rfl | rfl | rfl | rfl
  ·exact fk _ h1
  ·exact itoa_no _
  ·exact itoa_no _
  ·exact itoa_no _
  ·exact fk _ h5
  ·exact fk _ h6
  ·exact fk _ h7
  ·exact itoa_no _
 ·split at hw
  ·simp only [List.mem_cons, List.not_mem_nil, or_false] at hw
   subst hw; exact itoa_no _
  ·cases hw
theorem play_ln {p : Play} (h : playFault p = 0) : plB (jn 32 (playW p)) = true ∧ plP (jn 32 (playW p)) = p := by
 obtain ⟨h1, h2, h3, h4, ⟨h5, h6, h7⟩, h8, h9⟩ := playFault_z h
 have hno := playW_no h
 have hs : spl 32 (jn 32 (playW p)) = playW p := spl_jn (by unfold playW; simp) fun y hy => (hno y hy).2.1
 have hall : (playW p).all (fun w => !w.isEmpty) = true := List.all_eq_true.2 fun w hw => by
  have := (hno w hw).1
  cases w with
  | nil => exact absurd rfl this
  | cons _ _ => rfl
 obtain ⟨a1, a2⟩ := num_itoaG (n := p.No) (k := 14) (m := 15) (by omega) (by omega)
 obtain ⟨b1, b2⟩ := num_itoaG (n := p.At) (k := 14) (m := 15) (by omega) (by omega)
 obtain ⟨c1, c2⟩ := num_itoaG (n := p.Week) (k := 14) (m := 15) (by omega) (by omega)
 obtain ⟨d1, d2⟩ := num_itoaG (n := p.Count) (k := 14) (m := 15) (by omega) (by omega)
 obtain ⟨e1, e2⟩ := num_itoaG (n := p.Undo) (k := 14) (m := 15) (by omega) (by omega)
 obtain ⟨Source, No, At, Week, Match, Player, Stat, Count, Undo⟩ := p
 simp only at a1 a2 b1 b2 c1 c2 d1 d2 e1 e2 h9
 unfold plB plP plC plN plM
 rw [hs, hall]
 by_cases hu : 0 < Undo
 ·simp [playW, hu, out, a1, a2, b1, b2, c1, c2, d1, d2, e1, e2]
 ·have : Undo = 0 := by omega
  subst this
  simp [playW, out, a1, a2, b1, b2, c1, c2, d1, d2]
theorem play_line {line : Str} (h : plB line = true) : jn 32 (playW (plP line)) = line := by
 unfold plB at h
 simp only [Bool.and_eq_true] at h
 obtain ⟨⟨⟨hc, hN⟩, hM⟩, hU⟩ := h
 unfold plC at hc
 rw [Bool.and_eq_true, Bool.not_eq_true'] at hc
 have ho := out_f hc.2
 have fn : ∀ w, numB w 15 = true → Lib.itoa (numR w 15) = w := fun w n1 => by
  rw [((num_int _ _).2 n1).2]; exact (numB_canon n1).2.2
 unfold plN at hN
 unfold plM at hM
 have hW : playW (plP line) = spl 32 line := by
  unfold plP
  generalize spl 32 line = ws at *
  match ws, ho, hM, hU, hN with
  | [w0, w1, w2, w3, w4, w5, w6, w7], _, hM, _, hN =>
    simp at hM hN
    simp [playW, fn _ hN.1, fn _ hN.2.1, fn _ hN.2.2, fn _ hM]
  | [w0, w1, w2, w3, w4, w5, w6, w7, w8], _, hM, hU, hN =>
    simp at hM hU hN
    simp [playW, fn _ hN.1, fn _ hN.2.1, fn _ hN.2.2, fn _ hM.1, fn _ hM.2, hU]
  | [], ho, _, _, _ => simp at ho
  | [_], ho, _, _, _ => simp at ho
  | [_, _], ho, _, _, _ => simp at ho
  | [_, _, _], ho, _, _, _ => simp at ho
  | [_, _, _, _], ho, _, _, _ => simp at ho
  | [_, _, _, _, _], ho, _, _, _ => simp at ho
  | [_, _, _, _, _, _], ho, _, _, _ => simp at ho
  | [_, _, _, _, _, _, _], ho, _, _, _ => simp at ho
  | _ :: _ :: _ :: _ :: _ :: _ :: _ :: _ :: _ :: _ :: r, ho, _, _, _ => simp at ho; omega
 rw [hW, jn_spl]
theorem plays_back {l : List Play} (h : playsE l = 0) (hl : (txT playW l).length ≤ 200000) : txE plB plP playsE (txT playW l) = 0 ∧ txP plB plP playsE (txT playW l) = l ∧ txI plB (txT playW l) = 0 := by
 obtain ⟨_, hz⟩ := plays_z h
 refine tx_back plB plP playsE playW (fun x hx => jn_no (by decide) fun y hy => (playW_no (hz x hx) y hy).2.2) (fun x hx => play_ln (hz x hx)) h hl
end Go.HL
end
section
namespace Go.HL
section
variable {α : Type}
def Srt (c : α → α → Int) (l : List α) : Prop := l.Pairwise fun a b => c a b ≤ 0
theorem Cmp.self {c : α → α → Int} (hc : Cmp c fun _ => True) (x : α) : c x x ≤ 0 := by
 have := hc.flip x x trivial trivial; omega
theorem Srt.get {c : α → α → Int} (hc : Cmp c fun _ => True) {l : List α} (h : Srt c l) {i j : Nat} {x y : α} (hij : i ≤ j) (hx : l[i]? = some x) (hy : l[j]? = some y) : c x y ≤ 0 := by
 rcases Nat.lt_or_ge i j with hlt | hge
 ·have h1 := lt_of_get hx
  have h2 := lt_of_get hy
  have := List.pairwise_iff_getElem.1 h i j h1 h2 hlt
  rw [List.getElem?_eq_getElem h1] at hx
  rw [List.getElem?_eq_getElem h2] at hy
  rw [Option.some.inj hx, Option.some.inj hy] at this
  exact this
 ·have e : i = j := by omega
  rw [e, hy] at hx
  rw [Option.some.inj hx]; exact hc.self _
theorem Srt.take {c : α → α → Int} {l : List α} (h : Srt c l) (k : Nat) : Srt c (l.take k) := List.Pairwise.sublist (List.take_sublist k l) h
theorem Srt.drop {c : α → α → Int} {l : List α} (h : Srt c l) (k : Nat) : Srt c (l.drop k) := List.Pairwise.sublist (List.drop_sublist k l) h
theorem Srt.nil {c : α → α → Int} : Srt c [] := List.Pairwise.nil
end
end Go.HL
end
section
namespace Go.HL
section
variable {α : Type} {c : α → α → Int}
/-- Each block of so many elements is sorted. -/
def Blk (c : α → α → Int) (bs : Nat) (l : List α) : Prop := ∀ q, Srt c ((l.drop (bs * q)).take bs)
theorem Blk.all {bs : Nat} {l : List α} (h : Blk c bs l) (hl : l.length ≤ bs) : Srt c l := by
 have := h 0
 rw [Nat.mul_zero, List.drop_zero, List.take_of_length_le hl] at this
 exact this
theorem Blk.nil {bs : Nat} : Blk c bs [] := fun q => by simp [Srt.nil]
theorem Blk.add {bs k : Nat} {Z W : List α} (h : Blk c bs Z) (hZ : Z.length = bs * k) (hW : Srt c W) (hl : W.length ≤ bs) : Blk c bs (Z ++ W) := by
 intro q
 rcases Nat.lt_trichotomy q k with hq | hq | hq
 ·have h1 : bs * q + bs ≤ Z.length := by rw [hZ, ← Nat.mul_succ]; exact Nat.mul_le_mul_left bs hq
  rw [List.drop_append_of_le_length (by omega), List.take_append_of_le_length (by rw [List.length_drop]; omega)]
  exact h q
 ·rw [hq, ← hZ, List.drop_left, List.take_of_length_le hl]; exact hW
 ·have h1 : Z.length + bs ≤ bs * q := by rw [hZ, ← Nat.mul_succ]; exact Nat.mul_le_mul_left bs hq
  rw [List.drop_of_length_le (by rw [List.length_append]; omega)]
  simp [Srt.nil]
theorem Blk.at {bs q a : Nat} {l : List α} (h : Blk c bs l) (ha : a = bs * q) : Srt c ((l.drop a).take bs) := by rw [ha]; exact h q
end
end Go.HL
end
section
namespace Go.HL
section
variable {α : Type} [DecidableEq α]
/-- A list without the things that equal the one before (p ahead of the first). -/
def uniqA (p : Option α) : List α → List α
 | [] => []
 | x :: r => if p = some x then uniqA (some x) r else x :: uniqA (some x) r
theorem uniqA_snoc (x : α) : ∀ (A : List α) (p : Option α), uniqA p (A ++ [x]) = uniqA p A ++ if (A.getLast?.or p) = some x then [] else [x]
 | [], p => by
   by_cases h : p = some x <;> simp [uniqA, h]
 | y :: A, p => by
   have ih := uniqA_snoc x A (some y)
   have e : ((y :: A).getLast?.or p) = (A.getLast?.or (some y)) := by
    cases A with
    | nil => simp
    | cons z A => simp [List.getLast?_cons_cons, List.getLast?_cons]
   simp only [List.cons_append, uniqA]
   rw [e, ih]
   split <;> simp
theorem uniqA_step {l : List α} {k : Nat} {x y : α} (hx : l[k]? = some x) (hy : l[k - 1]? = some y) (h0 : 0 < k) : uniqA none (l.take (k + 1)) = uniqA none (l.take k) ++ if x = y then [] else [x] := by
 have hk := lt_of_get hx
 rw [take_snoc' hx, uniqA_snoc]
 have e : ((l.take k).getLast?.or none) = some y := by
  rw [List.getLast?_eq_getElem?, List.length_take, Nat.min_eq_left (by omega), List.getElem?_take_of_lt (by omega), hy]; rfl
 rw [e]
 by_cases h : x = y
 ·rw [if_pos h, if_pos (by rw [h])]
 ·rw [if_neg h, if_neg (by simpa using fun q : y = x => h q.symm)]
structure CmpA (l : List α) (j : Nat) (D : List α) : Prop where
 len : D.length = l.length
 lo : D.take (uniqA none (l.take j)).length = uniqA none (l.take j)
 lt : (uniqA none (l.take j)).length < j
 hi : ∀ i, j ≤ i + 1 → D[i]? = l[i]?
theorem CmpA.start {l : List α} {k : Nat} {x y : α} (hx : l[k]? = some x) (hy : l[k - 1]? = some y) (h0 : 0 < k) (e : x = y) (h : uniqA none (l.take k) = l.take k) : CmpA l (k + 1) l ∧ (uniqA none (l.take (k + 1))).length = k := by
 have hk := lt_of_get hx
 have h1 : uniqA none (l.take (k + 1)) = l.take k := by rw [uniqA_step hx hy h0, if_pos e, h]; simp
 have h2 : (l.take k).length = k := by rw [List.length_take]; omega
 exact ⟨⟨rfl, by rw [h1, h2], by rw [h1, h2]; omega, fun _ _ => rfl⟩, by rw [h1, h2]⟩
theorem CmpA.same {l D : List α} {j : Nat} (h : CmpA l j D) {x y : α} (hx : l[j]? = some x) (hy : l[j - 1]? = some y) (e : x = y) : CmpA l (j + 1) D ∧ (uniqA none (l.take (j + 1))).length = (uniqA none (l.take j)).length := by
 have h0 := h.lt
 have h1 : uniqA none (l.take (j + 1)) = uniqA none (l.take j) := by rw [uniqA_step hx hy (by omega), if_pos e]; simp
 exact ⟨⟨h.len, by rw [h1]; exact h.lo, by rw [h1]; omega, fun i hi => h.hi i (by omega)⟩, by rw [h1]⟩
variable {c : α → α → Int}
end
end Go.HL
end
section
namespace Go.HL
section
variable {κ α γ : Type} [DecidableEq κ]
theorem VisOk.fresh {L E : List (κ × α)} {vis : List Nat} (h : VisOk L vis E) (hn : ANodup L) {j : Nat} {q : κ × α} (hj : L[j]? = some q) (hv : j ∉ vis) : alk q.1 E = none := by
 rw [alk_none]
 intro hm
 obtain ⟨q', h1, h2⟩ := List.mem_map.1 hm
 have h3 : some q' ∈ E.map some := List.mem_map_of_mem h1
 rw [h.eq] at h3
 obtain ⟨j', h4, h5⟩ := List.mem_map.1 h3
 have e : j' = j := nodup_at hn (a := q.1) (by rw [List.getElem?_map, h5]; simp [h2]) (by rw [List.getElem?_map, hj]; rfl)
 exact hv (e ▸ h4)
theorem ANodup.perm {A B : Type} {E L : List (A × B)} (hn : ANodup L) (hp : E.Perm L) : ANodup E := (hp.map (fun p : A × B => p.1)).nodup_iff.2 hn
theorem alk_perm {E L : List (κ × α)} (hp : E.Perm L) (hn : ANodup L) (m : κ) : alk m E = alk m L := by
 have hne : ANodup E := hn.perm hp
 cases h : alk m L with
 | none =>
   rw [alk_none] at h ⊢
   exact fun hm => h ((hp.map (·.1)).mem_iff.1 hm)
 | some v => exact (alk_mem hne).1 (hp.mem_iff.2 ((alk_mem hn).2 h))
theorem alk_map (g : α → γ) (m : κ) : ∀ (E : List (κ × α)), alk m (E.map fun q => (q.1, g q.2)) = (alk m E).map g
 | [] => rfl
 | p :: r => by
   have ih := alk_map g m r
   simp only [List.map_cons, alk]
   by_cases h : m = p.1
   ·rw [if_pos h, if_pos h]; rfl
   ·rw [if_neg h, if_neg h, ih]
theorem ANodup.map {A B C : Type} (g : B → C) {E : List (A × B)} (h : ANodup E) : ANodup (E.map fun q => (q.1, g q.2)) := by
 unfold ANodup at *; rw [List.map_map]; exact h
end
theorem idxOf_lt (s : Str) : ∀ (l : List Str) (k : Int), idxOf s l k = -1 ∨ (k ≤ idxOf s l k ∧ idxOf s l k < k + l.length)
 | [], k => .inl rfl
 | x :: r, k => by
   simp only [idxOf]
   by_cases h : s = x
   ·rw [if_pos h]; right; simp; omega
   ·rw [if_neg h]
    rcases idxOf_lt s r (k + 1) with h' | h'
    ·exact .inl h'
    ·right; simp only [List.length_cons]; omega
theorem best_ok {trust : List Str} {n : Int} : ∀ (l : List Play) (B : List (Str × Int)), ANodup B → (∀ q ∈ B, 0 ≤ q.2 ∧ q.2 < trust.length) → ANodup (l.foldl (bestStep trust n) B) ∧ ∀ q ∈ l.foldl (bestStep trust n) B, 0 ≤ q.2 ∧ q.2 < trust.length
 | [], B, h1, h2 => ⟨h1, h2⟩
 | p :: r, B, h1, h2 => by
   refine best_ok r (bestStep trust n B p) ?_ ?_
   ·unfold bestStep; split
    ·exact h1
    ·split
     ·exact h1.put
     ·exact h1
   ·unfold bestStep; split
    ·exact h2
    ·rename_i hc
     split
     ·intro q hq
      rcases mem_aput hq with rfl | hq
      ·rcases idxOf_lt p.Source trust 0 with h | h
       ·exfalso; exact hc (.inr (by rw [h]; decide))
       ·dsimp only; omega
      ·exact h2 q hq
     ·exact h2
theorem best_nodup (l : List Play) (trust : List Str) (n : Int) : ANodup (bestL l trust n) := (best_ok l [] ANodup.nil (fun q h => by cases h)).1
theorem best_range {l : List Play} {trust : List Str} {n : Int} {q : Str × Int} (h : q ∈ bestL l trust n) : 0 ≤ q.2 ∧ q.2 < trust.length := (best_ok l [] ANodup.nil (fun q h => by cases h)).2 q h
abbrev toldE (trust : List Str) (E : List (Str × Int)) : List (Str × Str) := E.map fun q => (q.1, trust.getD q.2.toNat [])
theorem told_step {trust : List Str} {L E : List (Str × Int)} {vis : List Nat} (h : VisOk L vis E) (hn : ANodup L) {j : Nat} {q : Str × Int} (hj : L[j]? = some q) (hv : j ∉ vis) : aput q.1 (trust.getD q.2.toNat []) (toldE trust E) = toldE trust (E ++ [q]) := by
 rw [aput_new]
 ·simp
 ·have := alk_map (fun k : Int => trust.getD k.toNat []) q.1 E
  rw [this, h.fresh hn hj hv]; rfl
theorem told_src {l : List Play} {trust : List Str} {n : Int} {E : List (Str × Int)} (hp : E.Perm (bestL l trust n)) (m : Str) : alk m (toldE trust E) = srcOf l trust n m := by
 have := alk_map (fun k : Int => trust.getD k.toNat []) m E
 rw [this, alk_perm hp (best_nodup _ _ _)]; rfl
theorem told_nodup {l : List Play} {trust : List Str} {n : Int} {E : List (Str × Int)} (hp : E.Perm (bestL l trust n)) : ANodup (toldE trust E) :=
 ANodup.map (fun k : Int => trust.getD k.toNat []) ((best_nodup _ _ _).perm hp)
/-! groups of statistics -/
structure GOk (E : List (Of2 × Int)) (G : Grp StatS) : Prop where
 nd : ANodup G
 raw : ∀ s, gL s G = rawStats E s
theorem GOk.nil : GOk [] [] := ⟨ANodup.nil, fun s => rfl⟩
theorem rawStats_snoc (E : List (Of2 × Int)) (q : Of2 × Int) (s : Str) : rawStats (E ++ [q]) s = rawStats E s ++ if q.1.1 = s ∧ q.2 ≠ 0 then [⟨q.1.2, q.2⟩] else [] := by
 unfold rawStats
 rw [List.filter_append, List.map_append, List.filter_cons]
 by_cases h : q.1.1 = s ∧ q.2 ≠ 0
 ·rw [if_pos h, if_pos (by simpa using h)]; rfl
 ·rw [if_neg h, if_neg (by simpa using h)]; rfl
theorem GOk.skip {E : List (Of2 × Int)} {G : Grp StatS} (h : GOk E G) {q : Of2 × Int} (hq : q.2 = 0) : GOk (E ++ [q]) G :=
 ⟨h.nd, fun s => by rw [rawStats_snoc, if_neg (by simp [hq]), List.append_nil, h.raw]⟩
theorem gL_put (s t : Str) (v : Value) (l : List StatS) (G : Grp StatS) : gL t (aput s (v, l) G) = if t = s then l else gL t G := by
 unfold gL; rw [alk_put]; split <;> rfl
theorem GOk.put {E : List (Of2 × Int)} {G : Grp StatS} (h : GOk E G) {q : Of2 × Int} (hq : ¬ q.2 = 0) (v : Value) : GOk (E ++ [q]) (aput q.1.1 (v, gL q.1.1 G ++ [⟨q.1.2, q.2⟩]) G) := by
 refine ⟨h.nd.put, fun s => ?_⟩
 rw [gL_put, rawStats_snoc]
 by_cases hs : s = q.1.1
 ·rw [if_pos hs, if_pos ⟨hs.symm, hq⟩, hs, h.raw]
 ·rw [if_neg hs, if_neg (fun e => hs e.1.symm), List.append_nil, h.raw]
theorem rawStats_le (E : List (Of2 × Int)) (s : Str) : (rawStats E s).length ≤ E.length := by
 unfold rawStats; rw [List.length_map]; exact List.length_filter_le _ _
theorem rawStats_perm {E c : List (Of2 × Int)} (h : E.Perm c) (s : Str) : (rawStats E s).Perm (rawStats c s) := (h.filter _).map _
theorem raw_names {c : List (Of2 × Int)} (h : ANodup c) (s : Str) {x y : StatS} (hx : x ∈ rawStats c s) (hy : y ∈ rawStats c s) (e : x.Name = y.Name) : x = y := by
 unfold rawStats at hx hy
 obtain ⟨p, hp, rfl⟩ := List.mem_map.1 hx
 obtain ⟨p', hp', rfl⟩ := List.mem_map.1 hy
 have h1 := List.mem_filter.1 hp
 have h2 := List.mem_filter.1 hp'
 have k1 : p.1.1 = s := by have := h1.2; simp only [Bool.and_eq_true, beq_iff_eq] at this; exact this.1
 have k2 : p'.1.1 = s := by have := h2.2; simp only [Bool.and_eq_true, beq_iff_eq] at this; exact this.1
 have k3 : p.1 = p'.1 := Prod.ext (k1.trans k2.symm) e
 have a1 := (alk_mem h (x := p.1) (v := p.2)).1 h1.1
 have a2 := (alk_mem h (x := p'.1) (v := p'.2)).1 h2.1
 rw [← k3, a1] at a2
 have k4 : p.2 = p'.2 := Option.some.inj a2
 have k5 : p.1.2 = p'.1.2 := e
 rw [k4, k5]
theorem stats_sorted {E c : List (Of2 × Int)} (hE : E.Perm c) (hn : ANodup c) {G : Grp StatS} (hG : GOk E G) {s : Str} {l' : List StatS} (hp : l'.Perm (gL s G)) (hw : l'.Pairwise fun a b => ¬ byNm b a < 0) : l' = statsOf c s := by
 unfold statsOf
 rw [hG.raw] at hp
 exact isort_of_sorted byNm_cmp (fun x y hx hy e => raw_names hn s hx hy (cmpS_zero.1 e)) (hp.trans (rawStats_perm hE s)) hw
theorem gL_len {E c : List (Of2 × Int)} (hE : E.Perm c) {G : Grp StatS} (hG : GOk E G) (s : Str) : (gL s G).length = (rawStats c s).length := by
 rw [hG.raw]; exact (rawStats_perm hE s).length_eq
abbrev restG (G : Grp StatS) (N : List Str) : Grp StatS := G.filter fun q => !(N.contains q.1)
theorem rest_nil (G : Grp StatS) : restG G [] = G := by unfold restG; rw [List.filter_eq_self]; simp
theorem rest_alk {G : Grp StatS} {N : List Str} {s : Str} (h : s ∉ N) : alk s (restG G N) = alk s G := by
 have := alk_filter (s := s) (p := fun k => !(N.contains k)) (G := G)
 unfold restG
 rw [this, if_pos (by simpa using h)]
theorem rest_snoc (G : Grp StatS) (N : List Str) (s : Str) : (restG G N).filter (fun q => decide (q.1 ≠ s)) = restG G (N ++ [s]) := by
 unfold restG
 rw [List.filter_filter]
 refine List.filter_congr fun q _ => ?_
 by_cases h1 : q.1 ∈ N <;> by_cases h2 : q.1 = s <;> simp [h1, h2]
theorem rest_nodup {G : Grp StatS} {N : List Str} (h : ANodup G) : ANodup (restG G N) := by
 unfold ANodup at *
 exact h.sublist ((List.filter_sublist).map _)
theorem take_notin {l : List Str} (hn : l.Nodup) {k : Nat} {s : Str} (h : l[k]? = some s) : s ∉ l.take k := by
 intro hm
 obtain ⟨j, hj⟩ := List.getElem?_of_mem hm
 have hjk : j < k := by have := lt_of_get hj; simp at this; omega
 rw [List.getElem?_take_of_lt hjk] at hj
 have := nodup_at hn hj h
 omega
theorem sortS_perm (l : List Str) : (sortS l).Perm l := List.mergeSort_perm _ _
theorem full_count {c : List (Of2 × Int)} {S : List Str} {q : Of2 × Int} (hq : q ∈ c) (ho : out q.2 (-100000) 100000 = true) : fullB c S = true := by
 unfold fullB; rw [Bool.or_eq_true]; left; rw [List.any_eq_true]; exact ⟨q, hq, ho⟩
theorem full_stats {c : List (Of2 × Int)} {S : List Str} {s : Str} (hs : s ∈ S) (ho : 40 < (rawStats c s).length) : fullB c S = true := by
 unfold fullB; rw [Bool.or_eq_true]; right; rw [List.any_eq_true]; exact ⟨s, hs, by simpa using ho⟩
theorem full_none {c : List (Of2 × Int)} {S : List Str} (h1 : ∀ q ∈ c, out q.2 (-100000) 100000 = false) (h2 : ∀ s ∈ S, ¬ 40 < (rawStats c s).length) : fullB c S = false := by
 unfold fullB; rw [Bool.or_eq_false_iff]
 constructor
 ·rw [List.any_eq_false]; intro q hq; rw [h1 q hq]; simp
 ·rw [List.any_eq_false]; intro s hs; simpa using h2 s hs
/-! lines -/
theorem mem_sadd {s t : Str} {S : List Str} : t ∈ sadd s S ↔ t = s ∨ t ∈ S := by
 unfold sadd
 by_cases h : S.contains s = true
 ·rw [if_pos h]
  have : s ∈ S := by simpa using h
  constructor
  ·exact .inr
  ·rintro (rfl | h)
   ·exact this
   ·exact h
 ·rw [if_neg h]; simp; exact Or.comm
theorem sadd_nodup {s : Str} {S : List Str} (h : S.Nodup) : (sadd s S).Nodup := by
 unfold sadd
 by_cases hc : S.contains s = true
 ·rw [if_pos hc]; exact h
 ·rw [if_neg hc]
  exact List.nodup_append.2 ⟨h, by simp, fun a ha b hb => by simp at hb; subst hb; intro e; subst e; simp at hc; exact hc ha⟩
theorem sadd_le (s : Str) (S : List Str) : (sadd s S).length ≤ S.length + 1 := by
 unfold sadd; split
 ·omega
 ·simp
structure LnOk (q : LnS) (n : Nat) : Prop where
 c : ANodup q.c
 S : q.S.Nodup
 k : ∀ s ∈ q.S, s.length ≤ 40
 cl : q.c.length ≤ n
 Sl : q.S.length ≤ n
 bd : ∀ e ∈ q.c, -(100000 * (n : Int)) ≤ e.2 ∧ e.2 ≤ 100000 * (n : Int)
theorem LnOk.val {q : LnS} {n : Nat} (h : LnOk q n) (s : Of2) : -(100000 * (n : Int)) ≤ (alk s q.c).getD 0 ∧ (alk s q.c).getD 0 ≤ 100000 * (n : Int) := by
 cases hq : alk s q.c with
 | none => simp; omega
 | some v => exact h.bd _ (alk_of_mem hq)
theorem LnOk.put {q : LnS} {n : Nat} (h : LnOk q n) {p : Play} (hp : playFault p = 0) : LnOk (lnPut q p) (n + 1) := by
 obtain ⟨_, _, _, _, ⟨_, k2, _⟩, hb, _⟩ := playFault_ok hp
 have hv := h.val (p.Player, p.Stat)
 refine ⟨h.c.put, sadd_nodup h.S, fun s hs => ?_, Nat.le_trans (aput_le _ _ _) (by have := h.cl; omega), Nat.le_trans (sadd_le _ _) (by have := h.Sl; omega), fun e he => ?_⟩
 ·rcases mem_sadd.1 hs with rfl | hs
  ·exact key_len k2
  ·exact h.k s hs
 ·rcases mem_aput he with rfl | he
  ·dsimp only; omega
  ·have := h.bd e he; omega
theorem LnOk.up {q : LnS} {n : Nat} (h : LnOk q n) : LnOk q (n + 1) :=
 ⟨h.c, h.S, h.k, by have := h.cl; omega, by have := h.Sl; omega, fun e he => by have := h.bd e he; omega⟩
theorem lnGo_ok {l : List Play} {trust : List Str} {week n : Int} : ∀ (m : List Play) (q : LnS) (i : Nat), LnOk q i → (∀ x ∈ m, playFault x = 0) → LnOk (m.foldl (lnStep l trust week n) q) (i + m.length)
 | [], q, i, h, _ => h
 | x :: m, q, i, h, hm => by
   have h1 : LnOk (lnStep l trust week n q x) (i + 1) := by
    unfold lnStep; split
    ·exact h.put (hm x List.mem_cons_self)
    ·exact h.up
   have := lnGo_ok (l := l) (trust := trust) (week := week) (n := n) m _ (i + 1) h1 fun y hy => hm y (List.mem_cons_of_mem _ hy)
   rw [List.foldl_cons, List.length_cons, show i + (m.length + 1) = i + 1 + m.length by omega]
   exact this
theorem ln_ok {l m : List Play} {trust : List Str} {week n : Int} (hm : ∀ x ∈ m, playFault x = 0) : LnOk (lnGo l trust week n m) m.length := by
 have := lnGo_ok (l := l) (trust := trust) (week := week) (n := n) m ⟨[], []⟩ 0 ⟨ANodup.nil, List.nodup_nil, (fun s h => by cases h), Nat.le_refl _, Nat.le_refl _, fun e h => by cases h⟩ hm
 rw [Nat.zero_add] at this; exact this
theorem inLine_f {l : List Play} {O : List (Str × Str)} {trust : List Str} {week n : Int} {x : Play} (hO : ∀ m, alk m O = srcOf l trust n m)
 (h : (((n < x.At ∨ ¬ x.Week = week) ∨ 0 < x.Undo) ∨ (alk (x.Source, x.No) (goneL l n)).getD false = true) ∨ ¬ (alk x.Match O).getD [] = x.Source) : inLine l trust week n x = false := by
 rw [hO] at h
 simp only [inLine, isGone, Bool.not_eq_false', Bool.or_eq_true, decide_eq_true_eq, bne_iff_ne, ne_eq]
 exact h
theorem inLine_t {l : List Play} {O : List (Str × Str)} {trust : List Str} {week n : Int} {x : Play} (hO : ∀ m, alk m O = srcOf l trust n m)
 (h : (((x.At ≤ n ∧ x.Week = week) ∧ x.Undo ≤ 0) ∧ (alk (x.Source, x.No) (goneL l n)).getD false = false) ∧ (alk x.Match O).getD [] = x.Source) : inLine l trust week n x = true := by
 rw [hO] at h
 obtain ⟨⟨⟨⟨h1, h2⟩, h3⟩, h4⟩, h5⟩ := h
 simp only [inLine, isGone, h4, h5, h2, Bool.not_eq_true', Bool.or_eq_false_iff, decide_eq_false_iff_not, bne_self_eq_false, and_true]
 omega
def LinesE (l : List Play) (t : List Str) (week n : Int) : Int := if orI [playsE l, trustE t] != 0 then orI [playsE l, trustE t] else if !(weekB week) || !(moment n) then 1 else linesE l t week n
def LinesL (l : List Play) (t : List Str) (week n : Int) : List LineS := if orI [playsE l, trustE t] != 0 then [] else if !(weekB week) || !(moment n) then [] else linesL l t week n
theorem okPT {l : List Play} {t : List Str} (h : orI [playsE l, trustE t] = 0) : playsE l = 0 ∧ trustE t = 0 := by
 rw [orI2] at h; split at h
 ·contradiction
 ·rename_i h1; exact ⟨by simpa using h1, h⟩
end Go.HL
end
section
namespace Go.HL
structure MendS where
 Player : Str
 Week : Int
 Stat : Str
 Count : Int
 At : Int
 Version : Int
 By : Str
abbrev Plc := Str × Int
section
variable {α : Type}
end
end Go.HL
end
section
namespace Go.HL
section
variable {α : Type} [DecidableEq α]
end
end Go.HL
end
section
namespace Go.HL
def goalS : Str := [103, 111, 97, 108]
def play1 : Play := ⟨[115], 1, 0, 1, [109], [112], goalS, 2, 0⟩
def line1 : LineS := ⟨[112], 1, [⟨goalS, 2⟩]⟩
theorem ready_ln : lnGo [play1] [[115]] 1 5 [play1] = ⟨[[112]], [(([112], goalS), 2)]⟩ := by kernel_rfl
theorem ready_or : orI [playsE [play1], trustE [[115]]] = 0 := by kernel_rfl
theorem ready_full : fullB [(([112], goalS), 2)] [[112]] = false := by kernel_rfl
theorem ready_stats : statsOf [(([112], goalS), 2)] [112] = [⟨goalS, 2⟩] := by kernel_rfl
theorem ready_E : LinesE [play1] [[115]] 1 5 = 0 := by
 rw [LinesE, ready_or, if_neg (by decide), if_neg (by decide), linesE, ready_ln, clinesE, ready_full]; rfl
theorem ready_L : LinesL [play1] [[115]] 1 5 = [line1] := by
 rw [LinesL, ready_or, if_neg (by decide), if_neg (by decide), linesL, ready_ln, clinesL, ready_full, if_neg (by decide)]
 simp [sortS, ready_stats, line1]
end Go.HL
end
section
namespace Go.HL
end Go.HL
end
section
namespace Go.HL
theorem Cmp.lt_trans {α : Type} {c : α → α → Int} {s : α → Prop} (h : Cmp c s) {x y z : α} (hx : s x) (hy : s y) (hz : s z) (h1 : c x y < 0) (h2 : c y z < 0) : c x z < 0 := by
 rcases Int.lt_or_le (c x z) 0 with q | q
 ·exact q
 ·exfalso
  have a1 := h.flip y z hy hz
  have a2 := h.flip z x hz hx
  have hzx : c z x ≤ 0 := by
   rcases Int.lt_or_le 0 (c z x) with r | r
   ·have := h.flip x z hx hz; omega
   ·exact r
  have := h.trans z x y hz hx hy hzx (by omega)
  omega
theorem byNo_flip (x y : Play) : byNo x y = -byNo y x := by
 unfold byNo
 rw [cmpI_flip, cmpS_flip x.Source, orI_flip]
theorem cmpS_lt_trans {a b c : Str} (h1 : cmpS a b ≤ 0) (h2 : cmpS b c ≤ 0) (h : cmpS a c = 0) : cmpS a b = 0 ∧ cmpS b c = 0 := by
 have e := cmpS_zero.1 h
 subst e
 rw [cmpS_flip b a] at *
 omega
end Go.HL
end
section
namespace Go.HL
/-- The sums of one player. -/
def inner {κ : Type} (c : List ((Str × κ) × Int)) (s : Str) : List (κ × Int) := (c.filter fun e => e.1.1 == s).map fun e => (e.1.2, e.2)
theorem inner_put {κ : Type} [DecidableEq κ] (s : Str) (st : κ) (v : Int) (s' : Str) : ∀ c : List ((Str × κ) × Int), inner (aput (s, st) v c) s' = if s' = s then aput st v (inner c s) else inner c s'
 | [] => by
   by_cases e : s' = s
   ·subst e; simp [inner, aput]
   ·have : ¬ s = s' := fun q => e q.symm
    simp [inner, aput, e, this]
 | p :: r => by
   have ih := inner_put s st v s' r
   obtain ⟨⟨a, b⟩, w⟩ := p
   simp only [aput, Prod.mk.injEq]
   by_cases h1 : s = a
   ·subst h1
    by_cases h2 : st = b
    ·subst h2
     rw [if_pos ⟨rfl, rfl⟩]
     by_cases e : s' = s
     ·subst e; simp [inner, aput]
     ·have : ¬ s = s' := fun q => e q.symm
      simp [inner, e, this]
    ·rw [if_neg (fun q => h2 q.2)]
     by_cases e : s' = s
     ·subst e
      rw [if_pos rfl] at ih ⊢
      simp only [inner, List.filter_cons, beq_self_eq_true, if_true, List.map_cons, aput, if_neg h2] at ih ⊢
      rw [ih]
     ·have : ¬ s = s' := fun q => e q.symm
      rw [if_neg e] at ih ⊢
      simp only [inner, List.filter_cons, beq_iff_eq, if_neg this] at ih ⊢
      exact ih
   ·rw [if_neg (fun q => h1 q.1)]
    by_cases e : s' = s
    ·subst e
     have : ¬ a = s' := fun q => h1 q.symm
     rw [if_pos rfl] at ih ⊢
     simp only [inner, List.filter_cons, beq_iff_eq, if_neg this] at ih ⊢
     exact ih
    ·rw [if_neg e] at ih ⊢
     by_cases h3 : a = s'
     ·simp only [inner, List.filter_cons, beq_iff_eq, if_pos h3, List.map_cons] at ih ⊢
      rw [ih]
     ·simp only [inner, List.filter_cons, beq_iff_eq, if_neg h3] at ih ⊢
      exact ih
end Go.HL
end
section
namespace Go.HL
end Go.HL
end
section
namespace Go.HL
def byOf (a b : Of2) : Int := orI [cmpS a.1 b.1, cmpS a.2 b.2]
theorem byOf_eq (a b : Of2) : byOf a b = if cmpS a.1 b.1 ≠ 0 then cmpS a.1 b.1 else cmpS a.2 b.2 := by unfold byOf; rw [orI2]
theorem byOf_flip (a b : Of2) : byOf a b = -byOf b a := by
 unfold byOf
 rw [cmpS_flip a.1, cmpS_flip a.2, orI_flip]
theorem byOf_cmp : Cmp byOf (fun _ => True) where
 flip x y _ _ := by rw [byOf_flip x y]; omega
 trans x y z _ _ _ h1 h2 := by
  rw [byOf_eq] at *
  have k1 : cmpS x.1 y.1 ≤ 0 := by split at h1 <;> omega
  have k2 : cmpS y.1 z.1 ≤ 0 := by split at h2 <;> omega
  have k3 := cmpS_trans k1 k2
  split
  ·exact k3
  ·rename_i hz
   have hz' : cmpS x.1 z.1 = 0 := by simpa using hz
   obtain ⟨e1, e2⟩ := cmpS_lt_trans k1 k2 hz'
   rw [if_neg (by simp [e1])] at h1
   rw [if_neg (by simp [e2])] at h2
   exact cmpS_trans h1 h2
def OLt (a b : Of2) : Prop := byOf a b < 0
/-- The sums of each source: who told, and what they count. -/
structure DisS where
 S : List Str
 c : List ((Str × Of2) × Int)
def disKey (p : Play) : Str × Of2 := (p.Source, (p.Player, p.Stat))
def disPut (q : DisS) (p : Play) : List ((Str × Of2) × Int) := aput (disKey p) ((alk (disKey p) q.c).getD 0 + p.Count) q.c
end Go.HL
end
section
namespace Go.HL
theorem aput_keys' {α : Type} {s : Str} {v : α} : ∀ {G : List (Str × α)}, (aput s v G).map (·.1) = sadd s (G.map (·.1))
 | [] => by simp [aput, sadd]
 | p :: r => by
   have ih := aput_keys' (s := s) (v := v) (G := r)
   simp only [aput]
   by_cases h : s = p.1
   ·rw [if_pos h]
    unfold sadd
    rw [if_pos (by simp [h])]
    simp [h]
   ·rw [if_neg h, List.map_cons, ih]
    unfold sadd
    by_cases hc : (r.map (·.1)).contains s = true
    ·rw [if_pos hc, if_pos (by simp at hc ⊢; exact .inr hc)]; rfl
    ·rw [if_neg hc, if_neg (by simp at hc ⊢; exact ⟨h, hc⟩)]; rfl
theorem aput_mem' {α : Type} {s : Str} {v : α} {p : Str × α} : ∀ {G : List (Str × α)}, ANodup G → p ∈ aput s v G → p = (s, v) ∨ (p ∈ G ∧ p.1 ≠ s)
 | [], _, h => by simp [aput] at h; exact .inl h
 | q :: r, hn, h => by
   have h1 := List.nodup_cons.1 hn
   simp only [aput] at h
   by_cases hs : s = q.1
   ·rw [if_pos hs] at h
    rcases List.mem_cons.1 h with h | h
    ·exact .inl h
    ·refine .inr ⟨List.mem_cons_of_mem _ h, fun e => h1.1 ?_⟩
     show q.1 ∈ r.map (·.1)
     rw [← hs, ← e]; exact List.mem_map_of_mem h
   ·rw [if_neg hs] at h
    rcases List.mem_cons.1 h with h | h
    ·subst h; exact .inr ⟨by simp, fun e => hs e.symm⟩
    ·rcases aput_mem' h1.2 h with e | e
     ·exact .inl e
     ·exact .inr ⟨List.mem_cons_of_mem _ e.1, e.2⟩
section
variable {κ : Type}
/-- The maps of maps hold the flat sums. -/
structure GrOk (S : List Str) (c : List ((Str × κ) × Int)) (G : GrM κ) : Prop where
 keys : G.map (·.1) = S
 nodup : S.Nodup
 val : ∀ p ∈ G, p.2.2 = inner c p.1
 inS : ∀ e ∈ c, e.1.1 ∈ S
theorem GrOk.anodup {S : List Str} {c : List ((Str × κ) × Int)} {G : GrM κ} (h : GrOk S c G) : ANodup G := by unfold ANodup; rw [h.keys]; exact h.nodup
theorem GrOk.nil : GrOk ([] : List Str) ([] : List ((Str × κ) × Int)) [] := ⟨rfl, List.nodup_nil, (fun p h => by cases h), (fun e h => by cases h)⟩
theorem GrOk.get {S : List Str} {c : List ((Str × κ) × Int)} {G : GrM κ} (h : GrOk S c G) {s : Str} {b : Nat} {L : List (κ × Int)} (hq : alk s G = some (b, L)) : L = inner c s := h.val _ (alk_of_mem hq)
theorem GrOk.none {S : List Str} {c : List ((Str × κ) × Int)} {G : GrM κ} (h : GrOk S c G) {s : Str} : alk s G = none ↔ s ∉ S := by rw [alk_none, h.keys]
theorem inner_nil {S : List Str} {c : List ((Str × κ) × Int)} {s : Str} (h : ∀ e ∈ c, e.1.1 ∈ S) (hs : s ∉ S) : inner c s = [] := by
 unfold inner
 rw [List.map_eq_nil_iff, List.filter_eq_nil_iff]
 intro e he hq
 exact hs ((eq_of_beq hq) ▸ h e he)
theorem GrOk.add {S : List Str} {c : List ((Str × κ) × Int)} {G : GrM κ} (h : GrOk S c G) {s : Str} (b : Nat) (hs : alk s G = Option.none) : GrOk (sadd s S) c (aput s (b, []) G) := by
 have hn := h.none.1 hs
 refine ⟨by rw [aput_keys', h.keys], sadd_nodup h.nodup, fun p hp => ?_, fun e he => mem_sadd.2 (.inr (h.inS e he))⟩
 rcases aput_mem' h.anodup hp with rfl | ⟨hp, _⟩
 ·exact (inner_nil h.inS hn).symm
 ·exact h.val p hp
variable [DecidableEq κ]
theorem GrOk.put {S : List Str} {c : List ((Str × κ) × Int)} {G : GrM κ} (h : GrOk S c G) {s : Str} {b : Nat} {L : List (κ × Int)} (hq : alk s G = some (b, L)) (k : κ) (v : Int) : GrOk S (aput (s, k) v c) (aput s (b, aput k v L) G) := by
 have hs : s ∈ S := by
  refine Decidable.not_not.1 fun hn => ?_
  have := h.none.2 hn
  rw [this] at hq; cases hq
 refine ⟨?_, h.nodup, fun p hp => ?_, fun e he => ?_⟩
 ·rw [aput_keys', h.keys]
  unfold sadd
  rw [if_pos (by simpa using hs)]
 ·rw [inner_put]
  rcases aput_mem' h.anodup hp with rfl | ⟨hp, hne⟩
  ·rw [if_pos rfl, ← h.get hq]
  ·rw [if_neg hne]; exact h.val p hp
 ·rcases mem_aput he with rfl | he
  ·exact hs
  ·exact h.inS e he
end
end Go.HL
end
section
namespace Go.HL
end Go.HL
end
section
namespace Go.HL
/-- A list without the things that equal the one before (p ahead of the first). -/
def uniqO (p : Option Of2) : List Of2 → List Of2
 | [] => []
 | x :: r => if p = some x then uniqO (some x) r else x :: uniqO (some x) r
theorem OLt.trans {a b c : Of2} (h1 : OLt a b) (h2 : OLt b c) : OLt a c := byOf_cmp.lt_trans trivial trivial trivial h1 h2
end Go.HL
end
section
namespace Go.HL
/-- The plays of the sources that count. -/
def keptB (l : List Play) (trust : List Str) (n : Int) (x : Play) : Bool := decide (srcOf l trust n x.Match = some x.Source)
def kept (l : List Play) (trust : List Str) (n : Int) : List Play := l.filter (keptB l trust n)
end Go.HL
end
section
namespace Go.HL
structure ChkIs (q : ChkS) (l : List Play) : Prop where
 sn : q.S.Nodup
 s : ∀ s, s ∈ q.S ↔ ∃ x ∈ l, x.Source = s
 wn : ANodup q.W
 w : ∀ m, m ∈ q.W.map (·.1) ↔ ∃ x ∈ l, x.Match = m
 wv : ∀ m v, alk m q.W = some v → ∃ x ∈ l, x.Match = m ∧ x.Week = v
 c : q.c = false ↔ ∀ x ∈ l, ∀ y ∈ l, x.Match = y.Match → x.Week = y.Week
theorem ChkIs.step {q : ChkS} {l : List Play} (h : ChkIs q l) (p : Play) : ChkIs (chkStep q p) (l ++ [p]) where
 sn := sadd_nodup h.sn
 s s := by
  show s ∈ sadd p.Source q.S ↔ _
  rw [mem_sadd, h.s]
  constructor
  ·rintro (rfl | ⟨x, hx, e⟩)
   ·exact ⟨p, by simp, rfl⟩
   ·exact ⟨x, List.mem_append_left _ hx, e⟩
  ·rintro ⟨x, hx, e⟩
   rcases List.mem_append.1 hx with hx | hx
   ·exact .inr ⟨x, hx, e⟩
   ·rw [List.mem_singleton.1 hx] at e; exact .inl e.symm
 wn := h.wn.put
 w m := by
  show m ∈ (aput p.Match p.Week q.W).map (·.1) ↔ _
  rw [aput_keys, h.w]
  constructor
  ·rintro (rfl | ⟨x, hx, e⟩)
   ·exact ⟨p, by simp, rfl⟩
   ·exact ⟨x, List.mem_append_left _ hx, e⟩
  ·rintro ⟨x, hx, e⟩
   rcases List.mem_append.1 hx with hx | hx
   ·exact .inr ⟨x, hx, e⟩
   ·rw [List.mem_singleton.1 hx] at e; exact .inl e.symm
 wv m v hv := by
  have hv' : alk m (aput p.Match p.Week q.W) = some v := hv
  rw [alk_put] at hv'
  by_cases e : m = p.Match
  ·rw [if_pos e] at hv'; cases hv'
   exact ⟨p, by simp, e.symm, rfl⟩
  ·rw [if_neg e] at hv'
   obtain ⟨x, hx, e1⟩ := h.wv m v hv'
   exact ⟨x, List.mem_append_left _ hx, e1⟩
 c := by
  show (q.c || ((alk p.Match q.W).isSome && ((alk p.Match q.W).getD 0 != p.Week))) = false ↔ _
  rw [Bool.or_eq_false_iff, h.c]
  constructor
  ·rintro ⟨h1, h2⟩
   have hp : ∀ x ∈ l, x.Match = p.Match → x.Week = p.Week := fun x hx e => by
    have hk : p.Match ∈ q.W.map (·.1) := (h.w _).2 ⟨x, hx, e⟩
    have hne : ¬ alk p.Match q.W = none := by rw [alk_none]; exact fun z => z hk
    obtain ⟨v, hv⟩ := Option.ne_none_iff_exists'.1 hne
    rw [hv] at h2
    simp at h2
    obtain ⟨y, hy, e1, e2⟩ := h.wv _ _ hv
    rw [h1 x hx y hy (by rw [e, e1]), e2, h2]
   intro x hx y hy e
   rcases List.mem_append.1 hx with hx | hx <;> rcases List.mem_append.1 hy with hy | hy
   ·exact h1 x hx y hy e
   ·rw [List.mem_singleton.1 hy] at e ⊢; exact hp x hx e
   ·rw [List.mem_singleton.1 hx] at e ⊢; exact (hp y hy e.symm).symm
   ·rw [List.mem_singleton.1 hx, List.mem_singleton.1 hy]
  ·intro hall
   refine ⟨fun x hx y hy e => hall x (List.mem_append_left _ hx) y (List.mem_append_left _ hy) e, ?_⟩
   cases hv : alk p.Match q.W with
   | none => rfl
   | some v =>
     obtain ⟨y, hy, e1, e2⟩ := h.wv _ _ hv
     have := hall y (List.mem_append_left _ hy) p (by simp) e1
     simp
     rw [← e2, this]
theorem chk_is (l : List Play) : ChkIs (chkSt l) l := by
 have key : ∀ k, k ≤ l.length → ChkIs (chkSt (l.take k)) (l.take k) := by
  intro k
  induction k with
  | zero =>
    intro _
    refine ⟨List.nodup_nil, fun s => ?_, ANodup.nil, fun m => ?_, fun m v hv => ?_, ?_⟩
    ·simp [chkSt]
    ·simp [chkSt]
    ·simp [chkSt, alk] at hv
    ·simp [chkSt]
  | succ k ih =>
    intro hk
    have hx := List.getElem?_eq_getElem (l := l) (i := k) (by omega)
    rw [chkSt_snoc hx, take_snoc' hx]
    exact (ih (by omega)).step _
 have := key l.length (Nat.le_refl _)
 rwa [List.take_length] at this
end Go.HL
end
section
namespace Go.HL
theorem wk_pos {p : Play} (h : playFault p = 0) : 1 ≤ p.Week := by
 have h1 := (playFault_ok h).2.2.2.1
 unfold weekB at h1
 have := out_f (n := p.Week) (lo := 1) (hi := 60) (by simpa using h1)
 omega
theorem chk_pos {l : List Play} (hok : ∀ y ∈ l, playFault y = 0) {m : Str} {v : Int} (h : alk m (chkSt l).W = some v) : 1 ≤ v := by
 obtain ⟨x, hx, _, rfl⟩ := (chk_is l).wv m v h
 exact wk_pos (hok x hx)
/-- Two weeks of a match, asked as the references ask. -/
theorem chk_ref {l : List Play} (hok : ∀ y ∈ l, playFault y = 0) (p : Play) :
 ((chkSt l).c || ((alk p.Match (chkSt l).W).getD 0 != 0 && (alk p.Match (chkSt l).W).getD 0 != p.Week)) = (chkStep (chkSt l) p).c := by
 unfold chkStep
 dsimp only
 cases h : alk p.Match (chkSt l).W with
 | none => simp
 | some v =>
   have := chk_pos hok h
   have h0 : (v != 0) = true := by simp; omega
   simp [h0]
/-! statistics -/
end Go.HL
end
section
namespace Go.HL
def GoodPl1 (x : Play) : Prop := Sh x.Source ∧ Sh x.Match ∧ Sh x.Player ∧ Sh x.Stat
structure GoodPl (k : List Play) : Prop where
 len : k.length ≤ 15
 all : ∀ x ∈ k, GoodPl1 x
def src3 : List Str := [[102, 97], [102, 98], [102, 99]]
theorem src3_sh : ∀ s ∈ src3, Sh s := fun s hs => by simp [src3] at hs; rcases hs with rfl | rfl | rfl <;> (unfold Sh; simp)
def week3 : List Int := [1, 1, 2]
def match3 : List Str := [[109, 97], [109, 98], [109, 99]]
theorem match3_sh (k : Nat) : Sh (match3.getD k []) := by
 match k with
 | 0 => unfold Sh; simp [match3]
 | 1 => unfold Sh; simp [match3]
 | 2 => unfold Sh; simp [match3]
 | n + 3 => unfold Sh; simp [match3]
end Go.HL
end
section
namespace Go.HL
section
variable {κ : Type}
end
end Go.HL
end
section
namespace Go.HL
variable {P : Program}
open Go.Sort Go.Proofs
end Go.HL
end
section
namespace Go.HL
section
variable {κ : Type} [DecidableEq κ] {β : Type}
end
section
variable {P : Program} {e : Env} {κ : Type} [DecidableEq κ] {β : Type} {eb : β → HVal}
end
end Go.HL
end
section
namespace Go.HL
/-! lines by their places, with mends -/
abbrev GrS := List (Plc × List StatS)
def mdDel (x : MendS) (l : List StatS) : List StatS := l.filter fun s => !(s.Name == x.Stat)
def mdPut (x : MendS) (l : List StatS) : List StatS := mdDel x l ++ if x.Count ≠ 0 then [⟨x.Stat, x.Count⟩] else []
def mdStep (n : Int) (G : GrS) (x : MendS) : GrS := if n < x.At then G else aput (x.Player, x.Week) (mdPut x ((alk (x.Player, x.Week) G).getD [])) G
def GLen (b : Nat) (G : GrS) : Prop := ∀ q ∈ G, q.2.length ≤ b
theorem GLen.put {b : Nat} {G : GrS} {p : Plc} {l : List StatS} (h : GLen b G) (hl : l.length ≤ b) : GLen b (aput p l G) := fun q hq => by
 rcases mem_aput hq with rfl | hq
 ·exact hl
 ·exact h q hq
theorem GLen.get {b : Nat} {G : GrS} (h : GLen b G) (p : Plc) : ((alk p G).getD []).length ≤ b := by
 cases hq : alk p G with
 | none => simp
 | some l => exact h _ (alk_of_mem hq)
theorem GLen.up {b c : Nat} {G : GrS} (h : GLen b G) (hb : b ≤ c) : GLen c G := fun q hq => Nat.le_trans (h q hq) hb
theorem mdDel_len (x : MendS) (l : List StatS) : (mdDel x l).length ≤ l.length := List.length_filter_le _ _
theorem mdPut_len (x : MendS) (l : List StatS) : (mdPut x l).length ≤ l.length + 1 := by
 have := mdDel_len x l
 unfold mdPut; rw [List.length_append]; split
 ·simp only [List.length_cons, List.length_nil]; omega
 ·simp only [List.length_nil]; omega
theorem GLen.step {b : Nat} {n : Int} {G : GrS} {x : MendS} (h : GLen b G) : GLen (b + 1) (mdStep n G x) := by
 unfold mdStep; split
 ·exact h.up (by omega)
 ·refine (h.up (by omega)).put ?_
  have h1 := mdPut_len x ((alk (x.Player, x.Week) G).getD [])
  have h2 := h.get (x.Player, x.Week)
  omega
def GNm (G : GrS) : Prop := ∀ q ∈ G, (q.2.map (·.Name)).Nodup
theorem GNm.put {G : GrS} {p : Plc} {l : List StatS} (h : GNm G) (hl : (l.map (·.Name)).Nodup) : GNm (aput p l G) := fun q hq => by
 rcases mem_aput hq with rfl | hq
 ·exact hl
 ·exact h q hq
theorem GNm.get {G : GrS} (h : GNm G) (p : Plc) : (((alk p G).getD []).map (·.Name)).Nodup := by
 cases hq : alk p G with
 | none => exact List.nodup_nil
 | some l => exact h _ (alk_of_mem hq)
theorem mdPut_names {x : MendS} {l : List StatS} (h : (l.map (·.Name)).Nodup) : ((mdPut x l).map (·.Name)).Nodup := by
 have h1 : ((mdDel x l).map (·.Name)).Nodup := h.sublist ((List.filter_sublist).map _)
 unfold mdPut
 split
 ·rw [List.map_append]
  refine List.nodup_append.2 ⟨h1, by simp, fun a ha b hb => ?_⟩
  simp at hb; subst hb
  obtain ⟨s, hs, rfl⟩ := List.mem_map.1 ha
  have := (List.mem_filter.1 hs).2
  simpa using this
 ·rw [List.append_nil]; exact h1
theorem GNm.step {n : Int} {G : GrS} {x : MendS} (h : GNm G) : GNm (mdStep n G x) := by
 unfold mdStep; split
 ·exact h
 ·exact h.put (mdPut_names (h.get _))
end Go.HL
end
section
namespace Go.HL
theorem eqPlays_refl : ∀ l : List Play, eqSts ePlay l l = true
 | [] => rfl
 | a :: r => by simp [eqSts, eqSt, eqPlays_refl r, hcells, eqHL, eqH]
/-! laid together -/
end Go.HL
end
section
namespace Go.HL
def numsB (w : List Str) (m : Int) : Bool := w.all (numB · m)
def numsL (w : List Str) (m : Int) : List Int := if numsB w m then w.map (numR · m) else []
theorem numsB_cons (s : Str) (w : List Str) (m : Int) : numsB (s :: w) m = (numB s m && numsB w m) := rfl
theorem weakNs [Tracks] {w : List Str} {m : Int} (h : numsB w m = false) : Weak (.tup [.raw (.slice none 0 0), .bool false]) (.tup [.slice 1 ((numsL w m).map (.int .i64)), .bool (numsB w m)]) := by
 rw [numsL, h]; exact weak_tup2 (weak_nil 1) (Weak.refl _)
theorem eqNs {w : List Str} {m : Int} (h : numsB w m = true) : HVal.tup [.slice 1 ((w.map (numR · m)).map (.int .i64)), .bool true] = .tup [.slice 1 ((numsL w m).map (.int .i64)), .bool (numsB w m)] := by
 rw [numsL, h]; rfl
theorem numsB_f {x : Str} {w w' : List Str} {m : Int} (hg : numsB w m = (numB x m && numsB w' m)) (h : numB x m = false) : numsB w m = false := by rw [hg, h]; rfl
theorem numsL_t {w : List Str} {m : Int} (h : numsB w m = true) : numsL w m = w.map (numR · m) := by unfold numsL; rw [if_pos h]
def plK (line : Str) : Bool := plC line && numsB (plN line) 15 && numsB (plM line) 15
theorem plB_K (line : Str) : plB line = (plK line && (!((((spl 32 line).length : Nat) : Int) == 9) || decide (0 < numR ((spl 32 line).getD 8 []) 15))) := rfl
/-- What the line's reader gives back, right or not. -/
def plQ (line : Str) : Play := if plK line then plP line else play0
theorem plQ_B {line : Str} (h : plB line = true) : plQ line = plP line := by
 rw [plB_K, Bool.and_eq_true] at h
 unfold plQ; rw [if_pos h.1]
theorem plK_f {line : Str} (h : plK line = false) : plB line = false ∧ plQ line = play0 := by
 refine ⟨by rw [plB_K, h]; rfl, by unfold plQ; rw [h]; rfl⟩
theorem plC_t {line : Str} (h : wordsB line ((line.count 32 : Nat) + 1 : Int) = true ∧ out ((wordsL line ((line.count 32 : Nat) + 1 : Int)).length : Int) 8 9 = false) :
 wordsL line ((line.count 32 : Nat) + 1 : Int) = spl 32 line ∧ wordsB line ((line.count 32 : Nat) + 1 : Int) = true ∧ plC line = true ∧ 8 ≤ (spl 32 line).length ∧ (spl 32 line).length ≤ 9 := by
 obtain ⟨h1, h2⟩ := h
 have hw : wordsL line ((line.count 32 : Nat) + 1 : Int) = spl 32 line := by unfold wordsL; rw [if_pos h1]
 rw [hw] at h2
 have ho := out_f h2
 refine ⟨hw, h1, ?_, by omega, by omega⟩
 unfold plC
 rw [← wordsB_n, h1, h2]; rfl
theorem plC_f {line : Str} (h : wordsB line ((line.count 32 : Nat) + 1 : Int) = true → out ((wordsL line ((line.count 32 : Nat) + 1 : Int)).length : Int) 8 9 = true) : plK line = false := by
 have : plC line = false := by
  unfold plC
  rw [← wordsB_n]
  cases h1 : wordsB line ((line.count 32 : Nat) + 1 : Int) with
  | false => rfl
  | true =>
    have h2 := h h1
    unfold wordsL at h2
    rw [if_pos h1] at h2
    rw [h2]; rfl
 unfold plK; rw [this]; rfl
/-- The numbers of a line that has as many words as a play. -/
structure PlNs (line : Str) : Prop where
 n : (plN line).map (numR · 15) = [numR ((spl 32 line).getD 1 []) 15, numR ((spl 32 line).getD 2 []) 15, numR ((spl 32 line).getD 3 []) 15]
 m0 : ((plM line).map (numR · 15))[0]? = some (numR ((spl 32 line).getD 7 []) 15)
 m1 : (spl 32 line).length = 9 → ((plM line).map (numR · 15))[1]? = some (numR ((spl 32 line).getD 8 []) 15)
 l : (((plM line).map (numR · 15)).length : Int) = ((spl 32 line).length : Int) - 7
 all : (plN line ++ plM line).map (numR · 15) = numR ((spl 32 line).getD 1 []) 15 :: numR ((spl 32 line).getD 2 []) 15 :: numR ((spl 32 line).getD 3 []) 15 :: (plM line).map (numR · 15)
theorem pl_ns {line : Str} (h : 8 ≤ (spl 32 line).length ∧ (spl 32 line).length ≤ 9) : PlNs line := by
 have h1 : (plN line).map (numR · 15) = [numR ((spl 32 line).getD 1 []) 15, numR ((spl 32 line).getD 2 []) 15, numR ((spl 32 line).getD 3 []) 15] := by
  unfold plN
  generalize spl 32 line = ws at *
  match ws, h with
  | w0 :: w1 :: w2 :: w3 :: r, _ => rfl
  | [], h => simp at h
  | [_], h => simp at h
  | [_, _], h => simp at h
  | [_, _, _], h => simp at h
 refine ⟨h1, ?_, fun h9 => ?_, ?_, ?_⟩
 ·unfold plM
  rw [List.getElem?_map, List.getElem?_drop, List.getElem?_eq_getElem (by omega), List.getD_eq_getElem?_getD, List.getElem?_eq_getElem (by omega)]; rfl
 ·unfold plM
  rw [List.getElem?_map, List.getElem?_drop, List.getElem?_eq_getElem (by omega), List.getD_eq_getElem?_getD, List.getElem?_eq_getElem (by omega)]; rfl
 ·unfold plM; simp; omega
 ·rw [List.map_append, h1]; rfl
theorem plN_len {line : Str} : (plN line).length ≤ 3 := by unfold plN; simp; omega
theorem plM_len {line : Str} (h : (spl 32 line).length ≤ 9) : (plM line).length ≤ 2 := by unfold plM; simp; omega
theorem plN_mem {line : Str} : ∀ s ∈ plN line, s.length ≤ line.length := fun s hs => spl_mem_len 32 line s (List.mem_of_mem_take (List.mem_of_mem_drop hs))
theorem plM_mem {line : Str} : ∀ s ∈ plM line, s.length ≤ line.length := fun s hs => spl_mem_len 32 line s (List.mem_of_mem_drop hs)
theorem plK_t {line : Str} (h1 : plC line = true) (h2 : numsB (plN line) 15 = true) (h3 : numsB (plM line) 15 = true) : plK line = true ∧ plQ line = plP line := by
 have : plK line = true := by unfold plK; rw [h1, h2, h3]; rfl
 exact ⟨this, by unfold plQ; rw [if_pos this]⟩
theorem plK_n {line : Str} (h : numsB (plN line) 15 = true → numsB (plM line) 15 = false) : plK line = false := by
 unfold plK
 cases h2 : numsB (plN line) 15 with
 | false => simp
 | true => rw [h h2]; simp
theorem plP_8 {line : Str} (h : ((plM line).map (numR · 15)).length = 1) (hp : PlNs line) : plP line = ⟨(spl 32 line).getD 0 [], numR ((spl 32 line).getD 1 []) 15, numR ((spl 32 line).getD 2 []) 15, numR ((spl 32 line).getD 3 []) 15, (spl 32 line).getD 4 [], (spl 32 line).getD 5 [], (spl 32 line).getD 6 [], numR ((spl 32 line).getD 7 []) 15, 0⟩ := by
 have := hp.l
 unfold plP; rw [if_neg (by omega)]
theorem plP_9 {line : Str} (h : (spl 32 line).length = 9) : plP line = ⟨(spl 32 line).getD 0 [], numR ((spl 32 line).getD 1 []) 15, numR ((spl 32 line).getD 2 []) 15, numR ((spl 32 line).getD 3 []) 15, (spl 32 line).getD 4 [], (spl 32 line).getD 5 [], (spl 32 line).getD 6 [], numR ((spl 32 line).getD 7 []) 15, numR ((spl 32 line).getD 8 []) 15⟩ := by
 unfold plP; rw [if_pos (by omega)]
theorem plB_8 {line : Str} (h : plK line = true) (h9 : ((plM line).map (numR · 15)).length ≠ 2) (hp : PlNs line) : plB line = true := by
 have := hp.l
 rw [plB_K, h, show (((((spl 32 line).length : Nat) : Int)) == 9) = false by rw [beq_eq_false_iff_ne]; omega]; rfl
theorem plB_9 {line : Str} (h : plK line = true) (h9 : (spl 32 line).length = 9) : plB line = decide (0 < numR ((spl 32 line).getD 8 []) 15) := by
 rw [plB_K, h, show (((((spl 32 line).length : Nat) : Int)) == 9) = true by rw [beq_iff_eq]; omega]; rfl
theorem pl_8 {line : Str} (hp : PlNs line) (h4 : 8 ≤ (spl 32 line).length) (h5 : (spl 32 line).length ≤ 9) (h : ¬ (((plM line).length : Int) = 2)) : ((plM line).map (numR · 15)).length = 1 := by
 have := hp.l
 simp only [List.length_map] at this ⊢
 omega
theorem pl_82 {line : Str} (hp : PlNs line) (h4 : 8 ≤ (spl 32 line).length) (h5 : (spl 32 line).length ≤ 9) (h : ¬ (((plM line).length : Int) = 2)) : ((plM line).map (numR · 15)).length ≠ 2 := by
 have := pl_8 hp h4 h5 h
 omega
end Go.HL
end
section
namespace Go.Proofs.YtjecenjmphpmfaaGreatDoor
open Go.HL
set_option maxRecDepth 100000
set_option linter.unusedVariables false
set_option linter.unusedSimpArgs false
theorem ok150 [Tracks] : KeyOk Tryz.prog 150 eNum := keyOk_struct (cs := fun x : Num => hcells (eNum x)) ty150 eq150 (fun x y => ⟨rfl, ⟨_, _, _, _, ty9, rfl⟩, ⟨rfl, ⟨_, _, _, _, ty3, rfl⟩, trivial⟩⟩)
 (fun x y => by obtain ⟨a, b⟩ := x; obtain ⟨c, d⟩ := y; show (_ && (_ && true)) = _; rw [Bool.eq_iff_iff]; simp [eqH, Prod.mk.injEq]) (fun x => rfl)

theorem ok152 [Tracks] : KeyOk Tryz.prog 152 eOf := keyOk_struct (cs := fun x : Of2 => hcells (eOf x)) ty152 eq152 (fun x y => ⟨rfl, ⟨_, _, _, _, ty9, rfl⟩, ⟨rfl, ⟨_, _, _, _, ty9, rfl⟩, trivial⟩⟩)
 (fun x y => by obtain ⟨a, b⟩ := x; obtain ⟨c, d⟩ := y; show (_ && (_ && true)) = _; rw [Bool.eq_iff_iff]; simp [eqH, Prod.mk.injEq]) (fun x => rfl)

/-- benchwarmer/base.Week -/
theorem c_base_Week [Tracks] {n : Int}  : ConP Tryz.prog 58 [.int .i64 n] (.bool (weekB n)) := by
 refine Con.of_body Tryz.func58 rfl Tryz.ntmps58 rfl rfl ?_
 refine hw_reg ?_
 refine dp rfl (pop_assign rfl) ?_
 refine dn ?_
 refine hw_reg ?_
 refine dp rfl (pop_move rfl) ?_
 refine dp rfl (pop_call ca82 rfl (WeakL.refl _) c_base_Out) ?_
 refine dp rfl (pop_not rfl) ?_
 refine dp rfl (pop_assign rfl) ?_
 refine dn ?_
 refine hw_ret ?_
 refine ret_p rfl ?_
 rfl

/-- benchwarmer/play.playFault -/
theorem c_play_playFault [Tracks] {p : Play}  : ConP Tryz.prog 74 [ePlay p] (.int .i64 (playFault p)) := by
 refine Con.of_body Tryz.func74 rfl Tryz.ntmps74 rfl rfl ?_
 refine hw_reg ?_
 refine dp rfl (pop_box rfl rfl) ?_
 refine dp rfl (pop_assign rfl) ?_
 refine dn ?_
 refine hw_seq ?_
 refine hw_block ?_
 refine hw_reg ?_
 refine dp rfl (pop_fieldAddr ty35 rfl ty9 (by decide) rfl) ?_
 refine dp rfl (pop_load ty9 rfl rfl rfl) ?_
 refine dp rfl (pop_call ca96 rfl (WeakL.refl _) c_base_Key) ?_
 refine dp rfl (pop_not rfl) ?_
 refine dp rfl (pop_assign rfl) ?_
 refine dn ?_
 refine hw_cond rfl (fun h1 => ?_) (fun h2 => ?_)
 ·try simp at h1
  refine hw_reg ?_
  refine dp rfl (pop_assign rfl) ?_
  refine dn ?_
  refine hw_ret ?_
  refine ret_p rfl ?_
  show HVal.int .i64 _ = _
  simp_all [playFault]
 ·try simp at h2
  refine hw_reg ?_
  refine dp rfl (pop_fieldAddr ty35 rfl ty3 (by decide) rfl) ?_
  refine dp rfl (pop_load ty3 rfl rfl rfl) ?_
  refine dp rfl (pop_call ca82 rfl (WeakL.refl _) c_base_Out) ?_
  refine dp rfl (pop_move rfl) ?_
  refine dg rfl rfl (fun hc => ⟨_, OpenTo.refl _, pop_fieldAddr ty35 rfl ty3 (by decide) rfl⟩) ?_
  refine dg rfl rfl (fun hc => ⟨_, OpenTo.upd (t := 13) rfl (hc) (OpenTo.refl _), pop_load ty3 rfl rfl rfl⟩) ?_
  refine dg rfl rfl (fun hc => ⟨_, OpenTo.upd (t := 14) rfl (hc) (OpenTo.refl _), pop_call ca59 rfl (WeakL.refl _) c_base_Moment⟩) ?_
  refine dg rfl rfl (fun hc => ⟨_, OpenTo.upd (t := 15) rfl (hc) (OpenTo.refl _), pop_not rfl⟩) ?_
  refine dp rfl (pop_picko rfl (.inl rfl) (.inr ⟨_, rfl, fun h => by simp_all⟩)) ?_
  refine dp rfl (pop_move rfl) ?_
  refine dg rfl rfl (fun hc => ⟨_, OpenTo.refl _, pop_fieldAddr ty35 rfl ty3 (by decide) rfl⟩) ?_
  refine dg rfl rfl (fun hc => ⟨_, OpenTo.upd (t := 19) rfl (hc) (OpenTo.refl _), pop_load ty3 rfl rfl rfl⟩) ?_
  refine dg rfl rfl (fun hc => ⟨_, OpenTo.upd (t := 20) rfl (hc) (OpenTo.refl _), pop_call ca58 rfl (WeakL.refl _) c_base_Week⟩) ?_
  refine dg rfl rfl (fun hc => ⟨_, OpenTo.upd (t := 21) rfl (hc) (OpenTo.refl _), pop_not rfl⟩) ?_
  refine dp rfl (pop_picko rfl (.inl rfl) (.inr ⟨_, rfl, fun h => by simp_all⟩)) ?_
  refine dp rfl (pop_assign rfl) ?_
  refine dn ?_
  refine hw_cond rfl (fun h3 => ?_) (fun h4 => ?_)
  ·try simp at h3
   refine hw_reg ?_
   refine dp rfl (pop_assign rfl) ?_
   refine dn ?_
   refine hw_ret ?_
   refine ret_p rfl ?_
   show HVal.int .i64 _ = _
   simp_all [playFault]
  ·try simp at h4
   refine hw_reg ?_
   refine dp rfl (pop_fieldAddr ty35 rfl ty9 (by decide) rfl) ?_
   refine dp rfl (pop_load ty9 rfl rfl rfl) ?_
   refine dp rfl (pop_call ca96 rfl (WeakL.refl _) c_base_Key) ?_
   refine dp rfl (pop_not rfl) ?_
   refine dp rfl (pop_move rfl) ?_
   refine dg rfl rfl (fun hc => ⟨_, OpenTo.refl _, pop_fieldAddr ty35 rfl ty9 (by decide) rfl⟩) ?_
   refine dg rfl rfl (fun hc => ⟨_, OpenTo.upd (t := 30) rfl (hc) (OpenTo.refl _), pop_load ty9 rfl rfl rfl⟩) ?_
   refine dg rfl rfl (fun hc => ⟨_, OpenTo.upd (t := 31) rfl (hc) (OpenTo.refl _), pop_call ca96 rfl (WeakL.refl _) c_base_Key⟩) ?_
   refine dg rfl rfl (fun hc => ⟨_, OpenTo.upd (t := 32) rfl (hc) (OpenTo.refl _), pop_not rfl⟩) ?_
   refine dp rfl (pop_picko rfl (.inl rfl) (.inr ⟨_, rfl, fun h => by simp_all⟩)) ?_
   refine dp rfl (pop_move rfl) ?_
   refine dg rfl rfl (fun hc => ⟨_, OpenTo.refl _, pop_fieldAddr ty35 rfl ty9 (by decide) rfl⟩) ?_
   refine dg rfl rfl (fun hc => ⟨_, OpenTo.upd (t := 36) rfl (hc) (OpenTo.refl _), pop_load ty9 rfl rfl rfl⟩) ?_
   refine dg rfl rfl (fun hc => ⟨_, OpenTo.upd (t := 37) rfl (hc) (OpenTo.refl _), pop_call ca96 rfl (WeakL.refl _) c_base_Key⟩) ?_
   refine dg rfl rfl (fun hc => ⟨_, OpenTo.upd (t := 38) rfl (hc) (OpenTo.refl _), pop_not rfl⟩) ?_
   refine dp rfl (pop_picko rfl (.inl rfl) (.inr ⟨_, rfl, fun h => by simp_all⟩)) ?_
   refine dp rfl (pop_assign rfl) ?_
   refine dn ?_
   refine hw_cond rfl (fun h5 => ?_) (fun h6 => ?_)
   ·try simp at h5
    refine hw_reg ?_
    refine dp rfl (pop_assign rfl) ?_
    refine dn ?_
    refine hw_ret ?_
    refine ret_p rfl ?_
    show HVal.int .i64 _ = _
    simp_all [playFault]
   ·try simp at h6
    refine hw_reg ?_
    refine dp rfl (pop_fieldAddr ty35 rfl ty3 (by decide) rfl) ?_
    refine dp rfl (pop_load ty3 rfl rfl rfl) ?_
    refine dp rfl (pop_call ca82 rfl (WeakL.refl _) c_base_Out) ?_
    refine dp rfl (pop_move rfl) ?_
    refine dg rfl rfl (fun hc => ⟨_, OpenTo.refl _, pop_fieldAddr ty35 rfl ty3 (by decide) rfl⟩) ?_
    refine dg rfl rfl (fun hc => ⟨_, OpenTo.upd (t := 46) rfl (hc) (OpenTo.refl _), pop_load ty3 rfl rfl rfl⟩) ?_
    refine dg rfl rfl (fun hc => ⟨_, OpenTo.refl _, pop_fieldAddr ty35 rfl ty3 (by decide) rfl⟩) ?_
    refine dg rfl rfl (fun hc => ⟨_, OpenTo.upd (t := 48) rfl (hc) (OpenTo.refl _), pop_load ty3 rfl rfl rfl⟩) ?_
    have hN := out_f (n := p.No) (lo := 1) (hi := 3000) (by simp_all)
    refine dg rfl rfl (fun hc => by have hq := hc; (try simp at hq); exact ⟨_, OpenTo.upd (t := 49) rfl (hc) (OpenTo.refl _), pop_sub64 rfl rfl (by omega) (by omega)⟩) ?_
    refine dg rfl rfl (fun hc => ⟨_, OpenTo.upd (t := 50) rfl (hc) (OpenTo.upd (t := 47) rfl (hc) (OpenTo.refl _)), pop_call ca82 rfl (WeakL.refl _) c_base_Out⟩) ?_
    refine dp rfl (pop_picko rfl (.inl rfl) (.inr ⟨_, rfl, fun h => by simp_all⟩)) ?_
    refine dp rfl (pop_assign rfl) ?_
    refine dn ?_
    refine hw_cond rfl (fun h7 => ?_) (fun h8 => ?_)
    ·try simp at h7
     refine hw_reg ?_
     refine dp rfl (pop_assign rfl) ?_
     refine dn ?_
     refine hw_ret ?_
     refine ret_p rfl ?_
     show HVal.int .i64 _ = _
     simp_all [playFault]
    ·try simp at h8
     refine hw_reg ?_
     refine dp rfl (pop_fieldAddr ty35 rfl ty3 (by decide) rfl) ?_
     refine dp rfl (pop_load ty3 rfl rfl rfl) ?_
     refine dp rfl (pop_gtr rfl rfl) ?_
     refine dp rfl (pop_move rfl) ?_
     refine dg rfl rfl (fun hc => ⟨_, OpenTo.refl _, pop_fieldAddr ty35 rfl ty3 (by decide) rfl⟩) ?_
     refine dg rfl rfl (fun hc => ⟨_, OpenTo.upd (t := 58) rfl (hc) (OpenTo.refl _), pop_load ty3 rfl rfl rfl⟩) ?_
     refine dg rfl rfl (fun hc => ⟨_, OpenTo.upd (t := 59) rfl (hc) (OpenTo.refl _), pop_neq rfl rfl⟩) ?_
     refine dp rfl (pop_picko rfl (.inr ⟨_, rfl, fun h => by simp_all⟩) (.inl rfl)) ?_
     refine dp rfl (pop_assign rfl) ?_
     refine dn ?_
     refine hw_cond rfl (fun h9 => ?_) (fun h10 => ?_)
     ·try simp at h9
      refine hw_reg ?_
      refine dp rfl (pop_assign rfl) ?_
      refine dn ?_
      refine hw_ret ?_
      refine ret_p rfl ?_
      show HVal.int .i64 _ = _
      simp_all [playFault]
     ·try simp at h10
      refine hw_skip ?_
      refine blockQ_n ?_
      refine seqQ_n ?_
      refine hw_reg ?_
      refine dp rfl (pop_assign rfl) ?_
      refine dn ?_
      refine hw_ret ?_
      refine ret_p rfl ?_
      show HVal.int .i64 _ = _
      simp_all [playFault]

/-- benchwarmer/play.byNo -/
theorem c_play_byNo [Tracks] {a b : Play}  : ConP Tryz.prog 75 [ePlay a, ePlay b] (.int .i64 (byNo a b)) := by
 refine Con.of_body Tryz.func75 rfl Tryz.ntmps75 rfl rfl ?_
 refine hw_reg ?_
 refine dp rfl (pop_box rfl rfl) ?_
 refine dp rfl (pop_box rfl rfl) ?_
 refine dp rfl (pop_assign rfl) ?_
 refine dn ?_
 refine hw_draw (fun _ => True) [] mixed ?_
 refine ahp 0 rfl rfl (by kernel_rfl) (by kernel_rfl) (pop_fieldAddr ty35 rfl ty9 (by decide) rfl) ?_
 refine ahp 1 rfl rfl (by kernel_rfl) (by kernel_rfl) (pop_load ty9 rfl rfl rfl) ?_
 refine ahp 2 rfl rfl (by kernel_rfl) (by kernel_rfl) (pop_fieldAddr ty35 rfl ty9 (by decide) rfl) ?_
 refine ahp 3 rfl rfl (by kernel_rfl) (by kernel_rfl) (pop_load ty9 rfl rfl rfl) ?_
 refine ahp 4 rfl rfl (by kernel_rfl) (by kernel_rfl) (pop_call ca91 rfl (WeakL.refl _) c_strings_Compare) ?_
 refine ahp 5 rfl rfl (by kernel_rfl) (by kernel_rfl) (pop_fieldAddr ty35 rfl ty3 (by decide) rfl) ?_
 refine ahp 6 rfl rfl (by kernel_rfl) (by kernel_rfl) (pop_load ty3 rfl rfl rfl) ?_
 refine ahp 7 rfl rfl (by kernel_rfl) (by kernel_rfl) (pop_fieldAddr ty35 rfl ty3 (by decide) rfl) ?_
 refine ahp 8 rfl rfl (by kernel_rfl) (by kernel_rfl) (pop_load ty3 rfl rfl rfl) ?_
 refine ahp 9 rfl rfl (by kernel_rfl) (by kernel_rfl) (pop_call ca92 rfl (WeakL.refl _) c_cmp_Compare_int) ?_
 refine ahp 10 rfl rfl (by kernel_rfl) (by kernel_rfl) (pop_buildSlice (hs := [_, _]) ty22 ty3 rfl rfl (by decide) (by decide) rfl) ?_
 refine ahp 11 rfl rfl (by kernel_rfl) (by kernel_rfl) (pop_call ca90 rfl (WeakL.refl _) (c_cmp_Or_int (l := [_, _]) (by simp))) ?_
 refine ahp 12 rfl rfl (by kernel_rfl) (by kernel_rfl) (pop_assign rfl) ?_
 refine ahz (by kernel_rfl) ?_
 refine hw_ret ?_
 refine ret_p rfl ?_
 rfl

/-- benchwarmer/play.CheckPlays -/
theorem c_play_CheckPlays [Tracks] {l : List Play} (hl : l.length ≤ 1000000) : ConP Tryz.prog 29 [ePlays l] (.int .i64 (playsE l)) := by
 refine Con.of_body Tryz.func29 rfl Tryz.ntmps29 rfl rfl ?_
 refine hw_reg ?_
 refine dp rfl (pop_assign rfl) ?_
 refine dn ?_
 refine hw_seq ?_
 refine hw_reg ?_
 refine dp rfl (pop_move rfl) ?_
 refine dp rfl (pop_lenm ty26 rfl) ?_
 refine dp rfl (pop_gtr rfl rfl) ?_
 refine dn ?_
 refine hw_cond rfl (fun h1 => ?_) (fun h2 => ?_)
 ·try simp at h1
  refine hw_reg ?_
  refine dp rfl (pop_assign rfl) ?_
  refine dn ?_
  refine hw_ret ?_
  refine ret_g Ghost.clear rfl ⟨?_, rfl⟩
  show HVal.int .i64 _ = _
  (rw [playsE, if_pos (by omega)]; done)
 ·try simp at h2
  refine hw_skip ?_
  refine seqQ_n ?_
  refine hw_reg ?_
  refine de rfl (eop_makeMap fun m14 => ?_)
  refine de rfl (eop_makeMap fun m15 => ?_)
  refine dp rfl (pop_assign rfl) ?_
  refine dp rfl (pop_assign rfl) ?_
  refine dn ?_
  refine hw_reg ?_
  refine dp rfl (pop_assign rfl) ?_
  refine dn ?_
  refine hw_seq ?_
  refine hw_reg ?_
  refine dp rfl (pop_move rfl) ?_
  refine dp rfl (pop_lenm ty26 rfl) ?_
  refine dp rfl (pop_move rfl) ?_
  refine dn ?_
  refine hw_block ?_
  refine hw_loopw [2, 5, 6, 7, 8, 9, 10, 18, 19, 20, 21, 22, 23, 24, 25, 26, 27, 28, 29, 30, 31, 32, 33, 34, 35, 36, 37, 38, 39, 40, 41, 42, 43, 44, 45, 46, 47, 48, 49, 50, 51, 52, 53, 54, 55, 56, 57, 58, 59, 60, 61, 62] (fun (k : Nat) => [(18, .int .i64 k), (5, .bool (chkSt (l.take k)).c)]) (fun (k : Nat) => [.map m15 (sk (em (.int .i64) (chkSt (l.take k)).W)), .map m14 (sk (mset (chkSt (l.take k)).S))]) (fun (k : Nat) => k ≤ l.length ∧ (playsGo l 0 l = playsGo l k (l.drop k))) (fun (k : Nat) => l.length - k) (0) ?_ ?_ ?_ ?_
  ·exact ⟨Nat.zero_le _, rfl⟩
  ·exact ⟨rfl, rfl, trivial⟩
  ·exact List.Perm.refl _
  ·intro k hinv
   obtain ⟨hk, hg⟩ := hinv
   refine hw_reg ?_
   refine dp rfl (pop_lss rfl rfl) ?_
   refine dn ?_
   refine hw_seq ?_
   refine hw_cond rfl (fun h3 => ?_) (fun h4 => ?_)
   ·try simp at h3
    obtain ⟨x, hx⟩ : ∃ x, l[k]? = some x := ⟨_, List.getElem?_eq_getElem h3⟩
    have hdx := drop_cons hx
    rw [hdx] at hg
    refine hw_skip ?_
    refine seqQ_n ?_
    refine hw_seq ?_
    refine hw_block ?_
    refine hw_reg ?_
    refine dp rfl (pop_move rfl) ?_
    refine dp rfl (pop_idx ty26 ty35 rfl rfl rfl (by assumption)) ?_
    refine dp rfl (pop_loadw ty35 rfl rfl rfl rfl) ?_
    refine de rfl (eop_alloc ty35 rfl fun b7 => ?_)
    refine dp rfl (pop_assign rfl) ?_
    refine de0 (eop_storew ty35 rfl rfl rfl rfl rfl ?_)
    refine dn ?_
    refine hw_ghost (Ghost.fc0 7 rfl) ?_
    refine hw_seq ?_
    refine hw_reg ?_
    refine dp rfl (pop_loadw ty35 rfl rfl rfl rfl) ?_
    refine dp rfl (pop_call ca74 rfl (WeakL.refl _) c_play_playFault) ?_
    refine dp rfl (pop_assign rfl) ?_
    refine dn ?_
    refine hw_reg ?_
    refine dp rfl (pop_move rfl) ?_
    refine dp rfl (pop_neq rfl rfl) ?_
    refine dn ?_
    refine hw_cond rfl (fun h5 => ?_) (fun h6 => ?_)
    ·try simp at h5
     refine hw_reg ?_
     refine dp rfl (pop_move rfl) ?_
     refine dp rfl (pop_assign rfl) ?_
     refine dn ?_
     refine hw_ret ?_
     refine ret_g Ghost.clear rfl ⟨?_, rfl⟩
     show HVal.int .i64 _ = _
     (rw [playsE_go (by omega) (by rw [hg, playsGo, if_pos (by simpa using h5)]) (by simpa using h5)]; done)
    ·try simp at h6
     refine hw_skip ?_
     refine seqQ_n ?_
     refine hw_seq ?_
     refine hw_draw (fun _ => True) [] mixed ?_
     refine ahp 0 rfl rfl (by kernel_rfl) (by kernel_rfl) (pop_move rfl) ?_
     refine ahp 1 rfl rfl (by kernel_rfl) (by kernel_rfl) (pop_gtr rfl rfl) ?_
     refine ahp 2 rfl rfl (by kernel_rfl) (by kernel_rfl) (pop_move rfl) ?_
     refine ahg 3 rfl rfl (by kernel_rfl) (by kernel_rfl) rfl (fun hc => ⟨_, OpenTo.refl _, pop_loadw ty35 rfl rfl rfl rfl⟩) ?_
     refine ahg 4 rfl rfl (by kernel_rfl) (by kernel_rfl) rfl (fun hc => ⟨_, OpenTo.refl _, pop_move rfl⟩) ?_
     refine ahg 5 rfl rfl (by kernel_rfl) (by kernel_rfl) rfl (fun hc => ⟨_, OpenTo.refl _, pop_move rfl⟩) ?_
     refine ahg 6 rfl rfl (by kernel_rfl) (by kernel_rfl) rfl (fun hc => by have hq := hc; (try simp at hq); exact ⟨_, OpenTo.upd (t := 33) rfl (hc) (OpenTo.refl _), pop_sub64 rfl rfl (by omega) (by omega)⟩) ?_
     refine ahg 7 rfl rfl (by kernel_rfl) (by kernel_rfl) rfl (fun hc => by have hq := hc; (try simp at hq); exact ⟨_, OpenTo.upd (t := 34) rfl (hc) (OpenTo.upd (t := 32) rfl (hc) (OpenTo.refl _)), pop_idx (j := k - 1) (a := l.getD (k - 1) play0) ty26 ty35 rfl rfl (by omega) (getD_some (by omega))⟩) ?_
     refine ahg 8 rfl rfl (by kernel_rfl) (by kernel_rfl) rfl (fun hc => ⟨_, OpenTo.upd (t := 35) rfl (hc) (OpenTo.refl _), pop_loadw ty35 rfl rfl rfl rfl⟩) ?_
     refine ahg 9 rfl rfl (by kernel_rfl) (by kernel_rfl) rfl (fun hc => ⟨_, OpenTo.upd (t := 36) rfl (hc) (OpenTo.upd (t := 31) rfl (hc) (OpenTo.refl _)), pop_call ca75 rfl (WeakL.refl _) c_play_byNo⟩) ?_
     refine ahg 10 rfl rfl (by kernel_rfl) (by kernel_rfl) rfl (fun hc => ⟨_, OpenTo.upd (t := 37) rfl (hc) (OpenTo.refl _), pop_leq rfl rfl⟩) ?_
     refine ahp 11 rfl rfl (by kernel_rfl) (by kernel_rfl) (pop_picko rfl (.inr ⟨_, rfl, fun h => by simp_all⟩) (.inl rfl)) ?_
     refine ahz (by kernel_rfl) ?_
     refine hw_cond rfl (fun h7 => ?_) (fun h8 => ?_)
     ·try simp at h7
      refine hw_reg ?_
      refine dp rfl (pop_assign rfl) ?_
      refine dn ?_
      refine hw_ret ?_
      refine ret_g Ghost.clear rfl ⟨?_, rfl⟩
      show HVal.int .i64 _ = _
      (rw [playsE_go (c := 7) (by omega) (by rw [hg, playsGo, if_neg (by simpa using h6), if_pos (by obtain ⟨qa, qb⟩ := h7; exact ⟨by omega, by simpa using qb⟩)]) (by decide)]; done)
     ·try simp at h8
      refine hw_skip ?_
      refine seqQ_n ?_
      refine hw_reg ?_
      refine dp rfl (pop_move rfl) ?_
      refine dp rfl (pop_fieldAddr ty35 rfl ty9 (by decide) rfl) ?_
      refine dp rfl (pop_load ty9 rfl rfl rfl) ?_
      refine de0 (eop_update_set (i := 1) ty102 ty9 rfl rfl rfl rfl ?_)
      refine dn ?_
      refine hw_seq ?_
      refine hw_reg ?_
      refine dp rfl (pop_move rfl) ?_
      refine dp rfl (pop_fieldAddr ty35 rfl ty9 (by decide) rfl) ?_
      refine dp rfl (pop_load ty9 rfl rfl rfl) ?_
      refine de rfl (eop_lookup2A (i := 0) (z0 := (0 : Int)) ty103 ty9 ty3 rfl rfl rfl rfl ?_)
      refine dp rfl (pop_move rfl) ?_
      refine dp rfl (pop_extract rfl rfl) ?_
      refine dp rfl (pop_extract rfl rfl) ?_
      refine dp rfl (pop_assign rfl) ?_
      refine dp rfl (pop_assign rfl) ?_
      refine dn ?_
      refine hw_reg ?_
      refine dp rfl (pop_move rfl) ?_
      refine dp rfl (pop_move rfl) ?_
      refine dg rfl rfl (fun hc => ⟨_, OpenTo.refl _, pop_move rfl⟩) ?_
      refine dg rfl rfl (fun hc => ⟨_, OpenTo.refl _, pop_fieldAddr ty35 rfl ty3 (by decide) rfl⟩) ?_
      refine dg rfl rfl (fun hc => ⟨_, OpenTo.upd (t := 53) rfl (hc) (OpenTo.refl _), pop_load ty3 rfl rfl rfl⟩) ?_
      refine dg rfl rfl (fun hc => ⟨_, OpenTo.upd (t := 54) rfl (hc) (OpenTo.upd (t := 52) rfl (hc) (OpenTo.refl _)), pop_neq rfl rfl⟩) ?_
      refine dp rfl (pop_picko rfl (.inr ⟨_, rfl, fun h => by simp_all⟩) (.inl rfl)) ?_
      refine dn ?_
      refine hw_cond rfl (fun h9 => ?_) (fun h10 => ?_)
      ·try simp at h9
       refine hw_reg1 ?_
       refine dp rfl (pop_assign rfl) ?_
       refine dn ?_
       refine seqQ_n ?_
       refine hw_reg1 ?_
       refine dp rfl (pop_move rfl) ?_
       refine dp rfl (pop_fieldAddr ty35 rfl ty9 (by decide) rfl) ?_
       refine dp rfl (pop_load ty9 rfl rfl rfl) ?_
       refine dp rfl (pop_fieldAddr ty35 rfl ty3 (by decide) rfl) ?_
       refine dp rfl (pop_load ty3 rfl rfl rfl) ?_
       refine de0 (eop_updateA (i := 0) ty103 ty9 rfl rfl rfl rfl ?_)
       refine dn ?_
       refine blockQ_n ?_
       refine seqQ_n ?_
       refine hw_reg1 ?_
       refine dp rfl (pop_add64 rfl rfl (by omega) (by omega)) ?_
       refine dp rfl (pop_move rfl) ?_
       refine dn ?_
       refine ⟨k + 1, ⟨by omega, ?_⟩, by dsimp only; omega, ⟨rfl, ?_, trivial⟩, (by repeat (first | exact keeps_refl | refine keeps_upd rfl ?_ | refine keeps_loop rfl rfl ?_)), ?_⟩
       ·rw [hg, playsGo_ne (by simpa using h6) (fun hk0 => by simp_all)]
       ·rw [chkSt_snoc hx]; exact congrArg (fun b => some (HVal.bool b)) (by simp_all [chkStep])
       ·exact perm_eq (by dsimp only; rw [chkSt_snoc hx]; rfl)
      ·try simp at h10
       refine hw_skip ?_
       refine seqQ_n ?_
       refine hw_reg1 ?_
       refine dp rfl (pop_move rfl) ?_
       refine dp rfl (pop_fieldAddr ty35 rfl ty9 (by decide) rfl) ?_
       refine dp rfl (pop_load ty9 rfl rfl rfl) ?_
       refine dp rfl (pop_fieldAddr ty35 rfl ty3 (by decide) rfl) ?_
       refine dp rfl (pop_load ty3 rfl rfl rfl) ?_
       refine de0 (eop_updateA (i := 0) ty103 ty9 rfl rfl rfl rfl ?_)
       refine dn ?_
       refine blockQ_n ?_
       refine seqQ_n ?_
       refine hw_reg1 ?_
       refine dp rfl (pop_add64 rfl rfl (by omega) (by omega)) ?_
       refine dp rfl (pop_move rfl) ?_
       refine dn ?_
       refine ⟨k + 1, ⟨by omega, ?_⟩, by dsimp only; omega, ⟨rfl, ?_, trivial⟩, (by repeat (first | exact keeps_refl | refine keeps_upd rfl ?_ | refine keeps_loop rfl rfl ?_)), ?_⟩
       ·rw [hg, playsGo_ne (by simpa using h6) (fun hk0 => by simp_all)]
       ·rw [chkSt_snoc hx]; exact congrArg (fun b => some (HVal.bool b)) (by simp_all [chkStep])
       ·exact perm_eq (by dsimp only; rw [chkSt_snoc hx]; rfl)
   ·try simp at h4
    have hnk : l.length ≤ k := by omega
    obtain rfl : k = l.length := by omega
    rw [drop_all (Nat.le_refl _)] at hg
    rw [List.take_length]
    refine hw_exit ?_
    refine seqQ_x ?_
    refine loopQ_x ?_
    refine blockQ_eq ?_
    refine seqQ_n ?_
    refine hw_seq ?_
    refine hw_block ?_
    have e1 : (sk (mset (chkSt l).S)).length = (chkSt l).S.length := by simp [sk, mset]
    have e2 : (sk (em (HVal.int .i64) (chkSt l).W)).length = (chkSt l).W.length := by simp [sk]
    refine hw_reg ?_
    refine dp rfl (pop_move rfl) ?_
    refine de rfl (eop_maplen (i := 1) ty102 rfl rfl ?_)
    refine dp rfl (pop_gtr rfl rfl) ?_
    refine dp rfl (pop_move rfl) ?_
    refine dg rfl rfl (fun hc => ⟨_, OpenTo.refl _, pop_move rfl⟩) ?_
    refine dgl rfl rfl (fun hc => ⟨_, OpenTo.upd (t := 68) rfl (hc) (OpenTo.refl _), eop_maplen (i := 0) ty103 rfl rfl ⟨rfl, rfl⟩⟩) ?_
    refine dg rfl rfl (fun hc => ⟨_, OpenTo.upd (t := 69) rfl (hc) (OpenTo.refl _), pop_gtr rfl rfl⟩) ?_
    refine dp rfl (pop_picko rfl (.inl rfl) (.inr ⟨_, rfl, fun h => by simp_all⟩)) ?_
    refine dp rfl (pop_assign rfl) ?_
    refine dn ?_
    refine hw_cond rfl (fun h11 => ?_) (fun h12 => ?_)
    ·try simp at h11
     refine hw_reg ?_
     refine dp rfl (pop_assign rfl) ?_
     refine dn ?_
     refine hw_ret ?_
     refine ret_g Ghost.clear rfl ⟨?_, rfl⟩
     show HVal.int .i64 _ = _
     (rw [playsE_tail (by omega) hg, playsTail, if_pos (by omega)]; done)
    ·try simp at h12
     refine hw_reg ?_
     refine dp rfl (pop_move rfl) ?_
     refine dp rfl (pop_assign rfl) ?_
     refine dn ?_
     refine hw_cond rfl (fun h13 => ?_) (fun h14 => ?_)
     ·try simp at h13
      refine hw_reg ?_
      refine dp rfl (pop_assign rfl) ?_
      refine dn ?_
      refine hw_ret ?_
      refine ret_g Ghost.clear rfl ⟨?_, rfl⟩
      show HVal.int .i64 _ = _
      (rw [playsE_tail (by omega) hg, playsTail, if_neg (by omega), if_pos (by assumption)]; done)
     ·try simp at h14
      refine hw_skip ?_
      refine blockQ_n ?_
      refine seqQ_n ?_
      refine hw_reg ?_
      refine dp rfl (pop_assign rfl) ?_
      refine dn ?_
      refine hw_ret ?_
      refine ret_g Ghost.clear rfl ⟨?_, rfl⟩
      show HVal.int .i64 _ = _
      (rw [playsE_tail (by omega) hg, playsTail, if_neg (by omega), if_neg (by simp_all)]; done)

/-- benchwarmer/play.CheckTrust -/
theorem c_play_CheckTrust [Tracks] {l : List Str} (hl : l.length ≤ 1000000) : ConP Tryz.prog 56 [eSs l] (.int .i64 (trustE l)) := by
 refine Con.of_body Tryz.func56 rfl Tryz.ntmps56 rfl rfl ?_
 refine hw_reg ?_
 refine dp rfl (pop_assign rfl) ?_
 refine dn ?_
 refine hw_seq ?_
 refine hw_reg ?_
 refine dp rfl (pop_move rfl) ?_
 refine dp rfl (pop_lenm ty39 rfl) ?_
 refine dp rfl (pop_gtr rfl rfl) ?_
 refine dn ?_
 refine hw_cond rfl (fun h1 => ?_) (fun h2 => ?_)
 ·try simp at h1
  refine hw_reg ?_
  refine dp rfl (pop_assign rfl) ?_
  refine dn ?_
  refine hw_ret ?_
  refine ret_p rfl ?_
  show HVal.int .i64 _ = _
  (rw [trustE, if_pos (by omega)]; done)
 ·try simp at h2
  refine hw_skip ?_
  refine seqQ_n ?_
  refine hw_seq ?_
  refine hw_reg ?_
  refine dp rfl (pop_move rfl) ?_
  refine dp rfl (pop_lenm ty39 rfl) ?_
  refine dp rfl (pop_move rfl) ?_
  refine dn ?_
  refine hw_block ?_
  refine hw_loopw [2, 3, 4, 10, 11, 12, 13, 14, 15, 16, 17, 18, 19, 20, 21, 22, 23] (fun (k : Nat) => [(10, .int .i64 k)]) (fun (k : Nat) => []) (fun (k : Nat) => k ≤ l.length ∧ (trustE l = trustGo l k (l.drop k))) (fun (k : Nat) => l.length - k) (0) ?_ ?_ ?_ ?_
  ·refine ⟨Nat.zero_le _, ?_⟩
   rw [trustE, if_neg (by omega)]; rfl
  ·exact ⟨rfl, trivial⟩
  ·exact List.Perm.refl _
  ·intro k hinv
   obtain ⟨hk, hg⟩ := hinv
   refine hw_reg ?_
   refine dp rfl (pop_lss rfl rfl) ?_
   refine dn ?_
   refine hw_seq ?_
   refine hw_cond rfl (fun h3 => ?_) (fun h4 => ?_)
   ·try simp at h3
    obtain ⟨x, hx⟩ : ∃ x, l[k]? = some x := ⟨_, List.getElem?_eq_getElem h3⟩
    have hdx := drop_cons hx
    rw [hdx] at hg
    refine hw_skip ?_
    refine seqQ_n ?_
    refine hw_seq ?_
    refine hw_block ?_
    refine hw_reg ?_
    refine dp rfl (pop_move rfl) ?_
    refine dp rfl (pop_idx ty39 ty9 rfl rfl rfl (by assumption)) ?_
    refine dp rfl (pop_load ty9 rfl rfl rfl) ?_
    refine dp rfl (pop_assign rfl) ?_
    refine dp rfl (pop_assign rfl) ?_
    refine dn ?_
    refine hw_seq ?_
    refine hw_reg ?_
    refine dp rfl (pop_move rfl) ?_
    refine dp rfl (pop_call ca96 rfl (WeakL.refl _) c_base_Key) ?_
    refine dp rfl (pop_not rfl) ?_
    refine dn ?_
    refine hw_cond rfl (fun h5 => ?_) (fun h6 => ?_)
    ·try simp at h5
     refine hw_reg ?_
     refine dp rfl (pop_assign rfl) ?_
     refine dn ?_
     refine hw_ret ?_
     refine ret_p rfl ?_
     show HVal.int .i64 _ = _
     (rw [hg]; simp_all [trustGo]; done)
    ·try simp at h6
     refine hw_skip ?_
     refine seqQ_n ?_
     refine hw_reg ?_
     refine dp rfl (pop_move rfl) ?_
     refine dp rfl (pop_move rfl) ?_
     refine dp rfl (pop_slicem ty39 ty9 rfl rfl ⟨_, _, rfl, rfl⟩ (by omega) (by omega)) ?_
     refine dp rfl (pop_move rfl) ?_
     refine dp rfl (pop_call ca51 rfl (WeakL.refl _) (c_slices_Contains_string_string (by simp; omega))) ?_
     refine dn ?_
     refine hw_cond rfl (fun h7 => ?_) (fun h8 => ?_)
     ·try simp at h7
      refine hw_reg ?_
      refine dp rfl (pop_assign rfl) ?_
      refine dn ?_
      refine hw_ret ?_
      refine ret_p rfl ?_
      show HVal.int .i64 _ = _
      (rw [hg]; simp_all [trustGo]; done)
     ·try simp at h8
      refine hw_skip ?_
      refine blockQ_n ?_
      refine seqQ_n ?_
      refine hw_reg1 ?_
      refine dp rfl (pop_add64 rfl rfl (by omega) (by omega)) ?_
      refine dp rfl (pop_move rfl) ?_
      refine dn ?_
      refine ⟨k + 1, ?_, ?_, ⟨rfl, trivial⟩, (by repeat (first | exact keeps_refl | refine keeps_upd rfl ?_ | refine keeps_loop rfl rfl ?_)), List.Perm.refl _⟩
      ·refine ⟨by omega, ?_⟩
       rw [hg]; simp_all [trustGo]
      ·dsimp only; omega
   ·try simp at h4
    have hnk : l.length ≤ k := by omega
    obtain rfl : k = l.length := by omega
    rw [drop_all (Nat.le_refl _)] at hg
    refine hw_exit ?_
    refine seqQ_x ?_
    refine loopQ_x ?_
    refine blockQ_eq ?_
    refine seqQ_n ?_
    refine hw_reg ?_
    refine dp rfl (pop_assign rfl) ?_
    refine dn ?_
    refine hw_ret ?_
    refine ret_p rfl ?_
    show HVal.int .i64 _ = _
    (rw [hg]; simp_all [trustGo]; done)

/-- benchwarmer/play.told -/
theorem c_play_told [Tracks] {l : List Play} {trust : List Str} {n : Int} (hl : l.length ≤ 1000000) (ht : trust.length ≤ 1000000) : Con Tryz.prog 98 [ePlays l, eSs trust, .int .i64 n] [] (fun x M' => ∃ b O, x = .raw (.map (some b)) ∧ ANodup O ∧ (∀ m, alk m O = srcOf l trust n m) ∧ M' = [.map b (sk (em .str O))]) := by
 refine Con.of_body Tryz.func98 rfl Tryz.ntmps98 rfl rfl ?_
 refine hw_reg ?_
 refine dp rfl (pop_assign rfl) ?_
 refine dn ?_
 refine hw_reg ?_
 refine de rfl (eop_makeMap fun m16 => ?_)
 refine dp rfl (pop_assign rfl) ?_
 refine dn ?_
 refine hw_seq ?_
 refine hw_reg ?_
 refine dp rfl (pop_move rfl) ?_
 refine dp rfl (pop_lenm ty26 rfl) ?_
 refine dp rfl (pop_move rfl) ?_
 refine dn ?_
 refine hw_block ?_
 refine hw_loopw [9, 10, 11, 12, 19, 20, 21, 22, 23, 24, 25, 26, 27, 28, 29, 30, 31, 32, 33, 34, 35, 36, 37, 38, 39, 40, 41, 42, 43, 44, 45, 46, 47, 48, 49, 50, 51, 52, 53] (fun (k : Nat) => [(19, .int .i64 k)]) (fun (k : Nat) => [.map m16 (sk (em (.int .i64) (bestL (l.take k) trust n)))]) (fun (k : Nat) => k ≤ l.length ∧ (True)) (fun (k : Nat) => l.length - k) (0) ?_ ?_ ?_ ?_
 ·exact ⟨Nat.zero_le _, trivial⟩
 ·exact ⟨rfl, trivial⟩
 ·exact List.Perm.refl _
 ·intro k hinv
  obtain ⟨hk, -⟩ := hinv
  refine hw_reg ?_
  refine dp rfl (pop_lss rfl rfl) ?_
  refine dn ?_
  refine hw_seq ?_
  refine hw_cond rfl (fun h1 => ?_) (fun h2 => ?_)
  ·try simp at h1
   obtain ⟨x, hx⟩ : ∃ x, l[k]? = some x := ⟨_, List.getElem?_eq_getElem h1⟩
   have hdx := drop_cons hx
   refine hw_skip ?_
   refine seqQ_n ?_
   refine hw_seq ?_
   refine hw_block ?_
   refine hw_reg ?_
   refine dp rfl (pop_idx ty26 ty35 rfl rfl rfl (by assumption)) ?_
   refine dp rfl (pop_loadw ty35 rfl rfl rfl rfl) ?_
   refine de rfl (eop_alloc ty35 rfl fun b9 => ?_)
   refine de0 (eop_storew ty35 rfl rfl rfl rfl rfl ?_)
   refine dn ?_
   refine hw_ghost (Ghost.fc0 9 rfl) ?_
   refine hw_reg ?_
   refine dp rfl (pop_move rfl) ?_
   refine dp rfl (pop_fieldAddr ty35 rfl ty9 (by decide) rfl) ?_
   refine dp rfl (pop_load ty9 rfl rfl rfl) ?_
   refine dp rfl (pop_call ca95 rfl (WeakL.refl _) (c_slices_Index_string_string (by omega))) ?_
   refine dp rfl (pop_assign rfl) ?_
   refine dn ?_
   refine hw_seq ?_
   refine hw_reg ?_
   refine dp rfl (pop_fieldAddr ty35 rfl ty3 (by decide) rfl) ?_
   refine dp rfl (pop_load ty3 rfl rfl rfl) ?_
   refine dp rfl (pop_move rfl) ?_
   refine dp rfl (pop_gtr rfl rfl) ?_
   refine dp rfl (pop_move rfl) ?_
   refine dg rfl rfl (fun hc => ⟨_, OpenTo.refl _, pop_move rfl⟩) ?_
   refine dg rfl rfl (fun hc => ⟨_, OpenTo.upd (t := 32) rfl (hc) (OpenTo.refl _), pop_lss rfl rfl⟩) ?_
   refine dp rfl (pop_picko rfl (.inl rfl) (.inr ⟨_, rfl, fun h => by simp_all⟩)) ?_
   refine dn ?_
   refine hw_cond rfl (fun h3 => ?_) (fun h4 => ?_)
   ·try simp at h3
    refine hw_exit ?_
    refine seqQ_x ?_
    refine blockQ_eq ?_
    refine seqQ_n ?_
    refine hw_reg1 ?_
    refine dp rfl (pop_add64 rfl rfl (by omega) (by omega)) ?_
    refine dp rfl (pop_move rfl) ?_
    refine dn ?_
    exact ⟨k + 1, ⟨by omega, trivial⟩, by dsimp only; omega, ⟨rfl, trivial⟩, (by repeat (first | exact keeps_refl | refine keeps_upd rfl ?_ | refine keeps_loop rfl rfl ?_)), perm_eq (by dsimp only; rw [bestL_snoc hx, bestStep, if_pos (by simpa using h3)]; try rfl)⟩
   ·try simp at h4
    refine hw_skip ?_
    refine seqQ_n ?_
    refine hw_reg ?_
    refine dp rfl (pop_move rfl) ?_
    refine dp rfl (pop_fieldAddr ty35 rfl ty9 (by decide) rfl) ?_
    refine dp rfl (pop_load ty9 rfl rfl rfl) ?_
    refine de rfl (eop_lookup2A (i := 0) (z0 := (0 : Int)) ty103 ty9 ty3 rfl rfl rfl rfl ?_)
    refine dp rfl (pop_move rfl) ?_
    refine dp rfl (pop_extract rfl rfl) ?_
    refine dp rfl (pop_extract rfl rfl) ?_
    refine dp rfl (pop_assign rfl) ?_
    refine dp rfl (pop_assign rfl) ?_
    refine dn ?_
    refine hw_reg ?_
    refine dp rfl (pop_move rfl) ?_
    refine dp rfl (pop_not rfl) ?_
    refine dp rfl (pop_move rfl) ?_
    refine dg rfl rfl (fun hc => ⟨_, OpenTo.refl _, pop_move rfl⟩) ?_
    refine dg rfl rfl (fun hc => ⟨_, OpenTo.refl _, pop_move rfl⟩) ?_
    refine dg rfl rfl (fun hc => ⟨_, OpenTo.upd (t := 46) rfl (hc) (OpenTo.upd (t := 45) rfl (hc) (OpenTo.refl _)), pop_lss rfl rfl⟩) ?_
    refine dp rfl (pop_picko rfl (.inl rfl) (.inr ⟨_, rfl, fun h => by simp_all⟩)) ?_
    refine dn ?_
    refine hw_cond rfl (fun h5 => ?_) (fun h6 => ?_)
    ·try simp at h5
     refine hw_reg1 ?_
     refine dp rfl (pop_move rfl) ?_
     refine dp rfl (pop_fieldAddr ty35 rfl ty9 (by decide) rfl) ?_
     refine dp rfl (pop_load ty9 rfl rfl rfl) ?_
     refine dp rfl (pop_move rfl) ?_
     refine de0 (eop_updateA (i := 0) ty103 ty9 rfl rfl rfl rfl ?_)
     refine dn ?_
     refine blockQ_n ?_
     refine seqQ_n ?_
     refine hw_reg1 ?_
     refine dp rfl (pop_add64 rfl rfl (by omega) (by omega)) ?_
     refine dp rfl (pop_move rfl) ?_
     refine dn ?_
     exact ⟨k + 1, ⟨by omega, trivial⟩, by dsimp only; omega, ⟨rfl, trivial⟩, (by repeat (first | exact keeps_refl | refine keeps_upd rfl ?_ | refine keeps_loop rfl rfl ?_)), perm_eq (by dsimp only; rw [bestL_snoc hx, bestStep, if_neg (by simp_all; try omega), if_pos (by simpa using h5)]; try rfl)⟩
    ·try simp at h6
     refine hw_skip ?_
     refine blockQ_n ?_
     refine seqQ_n ?_
     refine hw_reg1 ?_
     refine dp rfl (pop_add64 rfl rfl (by omega) (by omega)) ?_
     refine dp rfl (pop_move rfl) ?_
     refine dn ?_
     exact ⟨k + 1, ⟨by omega, trivial⟩, by dsimp only; omega, ⟨rfl, trivial⟩, (by repeat (first | exact keeps_refl | refine keeps_upd rfl ?_ | refine keeps_loop rfl rfl ?_)), perm_eq (by dsimp only; rw [bestL_snoc hx, bestStep, if_neg (by simp_all; try omega), if_neg (by simp_all; try omega)]; try rfl)⟩
  ·try simp at h2
   have hnk : l.length ≤ k := by omega
   obtain rfl : k = l.length := by omega
   refine hw_exit ?_
   refine seqQ_x ?_
   refine loopQ_x ?_
   refine blockQ_eq ?_
   refine seqQ_n ?_
   rw [List.take_length]
   refine hw_reg ?_
   refine de rfl (eop_makeMap fun m54 => ?_)
   refine dp rfl (pop_assign rfl) ?_
   refine dn ?_
   refine hw_seq ?_
   refine hw_reg ?_
   refine dp rfl (pop_move rfl) ?_
   refine de rfl (eop_range (i := 1) ty103 rfl rfl fun r => ?_)
   refine dn ?_
   refine hw_block ?_
   refine hw_loopw2 [14, 15, 57, 58, 59, 60, 61, 62, 63, 64, 65, 66, 67] (fun (vis : List Nat) (E : List (Str × Int)) => []) (fun (vis : List Nat) (E : List (Str × Int)) => [.map m54 (sk (em .str (toldE trust E))), .iter r m16 (sk (em (.int .i64) (bestL l trust n))) vis]) (fun (vis : List Nat) (E : List (Str × Int)) => VisOk ((bestL l trust n)) vis E ∧ (True)) (fun (vis : List Nat) (E : List (Str × Int)) => ((bestL l trust n)).length - vis.length) ([]) ([]) ?_ ?_ ?_ ?_
   ·exact ⟨VisOk.nil _, trivial⟩
   ·exact trivial
   ·exact List.Perm.refl _
   ·intro vis E hinv
    obtain ⟨hvis, -⟩ := hinv
    refine hw_reg ?_
    refine de rfl (eop_nextA (i := 1) (L := (bestL l trust n)) (enc := (fun p : Str × Int => (HVal.str p.1, HVal.int .i64 p.2))) rfl rfl (sk_em _ _) hvis.nd hvis.lt fun cb R vis' hnx => ?_)
    refine dp rfl (pop_extract rfl rfl) ?_
    refine dn ?_
    refine hw_seq ?_
    refine hw_cond rfl (fun h7 => ?_) (fun h8 => ?_)
    ·try simp at h7
     obtain ⟨j, q, hq, hj, rfl⟩ := hnx.t h7
     have hroom := hvis.room hq hj
     have hstep := hvis.step hq hj
     have hqm := List.mem_of_getElem? hq
     refine hw_skip ?_
     refine seqQ_n ?_
     refine hw_block ?_
     refine hw_reg ?_
     refine de rfl (eop_entryA (i := 1) (L := (bestL l trust n)) (enc := (fun p : Str × Int => (HVal.str p.1, HVal.int .i64 p.2))) rfl rfl (sk_em _ _) hq ?_)
     refine dp rfl (pop_extract rfl rfl) ?_
     refine dp rfl (pop_extract rfl rfl) ?_
     refine dp rfl (pop_assign rfl) ?_
     refine dp rfl (pop_assign rfl) ?_
     refine dn ?_
     refine hw_reg1 ?_
     refine dp rfl (pop_move rfl) ?_
     refine dp rfl (pop_move rfl) ?_
     refine dp rfl (pop_move rfl) ?_
     refine dp rfl (pop_move rfl) ?_
     obtain ⟨hq0, hq1⟩ := best_range hqm
     refine dp rfl (pop_idx (j := q.2.toNat) (a := trust.getD q.2.toNat []) ty39 ty9 rfl rfl (by omega) (getD_some (by omega))) ?_
     refine dp rfl (pop_load ty9 rfl rfl rfl) ?_
     refine de0 (eop_updateA (i := 0) (v := trust.getD q.2.toNat []) ty143 ty9 rfl rfl rfl rfl ?_)
     refine dn ?_
     refine blockQ_n ?_
     exact ⟨_, E ++ [q], ⟨hstep, trivial⟩, by dsimp only; rw [List.length_append]; simp only [List.length_cons, List.length_nil]; omega, trivial, (by repeat (first | exact keeps_refl | refine keeps_upd rfl ?_ | refine keeps_loop rfl rfl ?_)), perm_eq (by dsimp only; rw [told_step hvis (best_nodup _ _ _) hq hj]; rfl)⟩
    ·try simp at h8
     obtain ⟨rfl, hlen⟩ := hnx.f h8
     have hEp := hvis.done hlen
     refine hw_exit ?_
     refine seqQ_x ?_
     refine loopQ2_x ?_
     refine blockQ_eq ?_
     refine seqQ_n ?_
     refine hw_ghost (Ghost.only (i := 0) rfl) ?_
     refine hw_reg ?_
     refine dp rfl (pop_move rfl) ?_
     refine dp rfl (pop_assign rfl) ?_
     refine dn ?_
     refine hw_ret ?_
     exact ret_q rfl ⟨_, _, rfl, told_nodup hEp, told_src hEp, rfl⟩
end Go.Proofs.YtjecenjmphpmfaaGreatDoor
end
