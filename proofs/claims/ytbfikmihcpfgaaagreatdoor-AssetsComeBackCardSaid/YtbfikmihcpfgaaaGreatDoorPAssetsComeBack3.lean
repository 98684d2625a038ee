/- Part 3 of the proof: a program logic, contracts of functions and plain facts; no conditions. -/
import Derived.Test.YtbfikmihcpfgaaaGreatDoorPAssetsComeBack2
import Derived.Ground.Names2Prog
import Derived.Laws.Cover4
import Derived.Lib.AppendStr
import Derived.Lib.AtoiBound
import Derived.Lib.ItoaMem
import Derived.Lib.Join
import Derived.Lib.SplitLaws
import Derived.Lib.Strings
import Derived.Lib.UnsafeStr
import Derived.Shelf.Lay
import Derived.Shelf.LaySoft
import Derived.Shelf.Slices.CompactS
import Derived.Shelf.Slices.Delete
import Derived.Shelf.Small.Wraps
import Derived.Shelf.Sort.Plain
import Derived.Shelf.Strconv.Atoi
import Derived.Shelf.Strconv.Itoa3
import Derived.Shelf.Strings.Builder1
import Derived.Shelf.Strings.Count
import Derived.Shelf.Strings.Cut
import Derived.Shelf.Strings.OnBuilder
import Derived.Shelf.Strings.Prefix
import Derived.Shelf.Strings.Shaped
import Derived.Shelf.Strings.Split
import Derived.Test.YtbfikmihcpfgaaaGreatDoorProg
set_option linter.unusedVariables false
set_option linter.unusedSimpArgs false
section
namespace Go.HL
section
variable {P : Program} {e : Env} {dst : Option Tmp} {ty : TypeId} {pos : String} {af : Array Edge} {g : Option (Nat × Bool)} {M : List MObj} {K : HVal → List MObj → Prop}
theorem eop_entry [Tracks] {x : Operand} {i r b j : Nat} {l : List (HVal × HVal)} {vis : List Nat} {p : HVal × HVal} (hx : evalO e x = some (.raw (.pointer (some ⟨r, 0, none⟩)))) (hm : M[i]? = some (.iter r b l (vis ++ [j]))) (hp' : l[j]? = some p)
 (hk : K (.tup [p.1, p.2]) M) : EOp P e M ⟨dst, .entry x, ty, pos, af, g⟩ K :=
 EOp.of_run fun I F a w ho hs => by
  have h2 := (ho.one (x := x) (by simp [Op.operands]) hx).raw_inv
  have hp := hs.pull hm
  obtain ⟨es, clk, seen, a1, a2, a3, a4, a5⟩ := hp.obj _ List.mem_cons_self
  have hjl := lt_of_get hp'
  have hj : es[j]? = some es[j] := Array.getElem?_eq_getElem (by omega)
  obtain ⟨k1, k2⟩ := a5 j p _ hp' hj
  have hback : seen.back? = some es[j].born := by
   have : seen = (vis.map fun i => ((es[i]?).map (·.born)).getD 0).toArray.push es[j].born := by
    apply Array.ext'
    rw [a4]; simp [hj]
   rw [this]; simp
  have hfind : es.find? (fun m => m.born == es[j].born) = some es[j] := by
   cases hf : es.find? (fun m => m.born == es[j].born) with
   | none =>
     have := Array.find?_eq_none.1 hf es[j] (Array.getElem_mem _)
     simp at this
   | some m =>
     have h1 := Array.find?_some hf
     have h3 := Array.mem_of_find?_eq_some hf
     obtain ⟨q, hq⟩ := Array.getElem?_of_mem h3
     have := a3.2.2 q j m _ hq hj (by simpa using h1)
     subst this
     rw [hj] at hq; exact hq.symm
  refine ⟨.tuple #[es[j].key, es[j].val], .tup [p.1, p.2], M, w, I, ?_, .refl I, hk, V.tup2 k1 k2, hs⟩
  have hgr : (getObj r).run P w = .ok (.mapIter (some b) clk seen clk) w := by simp [getObj, Sem.run, a2]
  have hgb : (getObj b).run P w = .ok (.map es clk) w := by simp [getObj, Sem.run, a1]
  simp only [execOp, h2, Instr.entry, Sem.run_bind, hgr, Result.andThen_ok, hback, hgb, bne_self_eq_false, Bool.false_eq_true, if_false, hfind, Sem.run_pure]
end
section
variable {κ : Type} [DecidableEq κ]
/-- With an entry for the key. -/
def kent (s : κ) (z : HVal) (ls : List (κ × HVal)) : List (κ × HVal) := match kidx s ls with | some _ => ls | none => ls ++ [(s, z)]
theorem kidx_snoc {s : κ} {z : HVal} : ∀ {ls : List (κ × HVal)}, kidx s ls = none → kidx s (ls ++ [(s, z)]) = some ls.length
 | [], _ => by simp [kidx]
 | p :: r, h => by
   simp only [kidx] at h
   by_cases e : s = p.1
   ·rw [if_pos e] at h; simp at h
   ·rw [if_neg e] at h
    have hr : kidx s r = none := by cases hq : kidx s r with | none => rfl | some j => rw [hq] at h; simp at h
    simp only [List.cons_append, kidx, if_neg e, kidx_snoc hr]; simp
theorem kput_kent (s : κ) (z h : HVal) (ls : List (κ × HVal)) : kput s h (kent s z ls) = kput s h ls := by
 unfold kent
 cases hq : kidx s ls with
 | some j => rfl
 | none =>
   simp only
   rw [(kidx_some (kidx_snoc (z := z) hq)).choose_spec.2.2 h, (kidx_none hq).2 h]
   simp
theorem klk_kent {s : κ} {z : HVal} (ls : List (κ × HVal)) : (klk s (kent s z ls)).getD z = (klk s ls).getD z := by
 unfold kent
 cases hq : kidx s ls with
 | some j => rfl
 | none =>
   obtain ⟨h, h1, h2, _⟩ := kidx_some (kidx_snoc (z := z) hq)
   simp only
   rw [h2, (kidx_none hq).1]
   simp at h1; simp [h1]
variable {P : Program} {kt : TypeId} {ek : κ → HVal} {e : Env} {dst : Option Tmp} {ty : TypeId} {pos : String} {af : Array Edge} {g : Option (Nat × Bool)} {M : List MObj} {K : HVal → List MObj → Prop}
theorem eop_mapEntry [Tracks] {x y : Operand} {t et : TypeId} {size bytes s3 b3 : Nat} {zero z3 : Value} {d : TD} {i b : Nat} {ls : List (κ × HVal)} {s : κ}
 (hf : Fits P t (.map kt et) size bytes zero) (ok : KeyOk P kt ek) (het : Fits P et d s3 b3 z3) (hx : evalO e x = some (.raw (.map (some b)))) (hy : evalO e y = some (ek s)) (hm : M[i]? = some (.map b (kk ek ls)))
 (hk : ∀ (j st : Nat), kidx s (kent s (ofVal z3) ls) = some j → K (.tup [(klk s ls).getD (ofVal z3), .int .i64 (st : Int)]) (M.set i (.mape b (kk ek (kent s (ofVal z3) ls)) j st))) : EOp P e M ⟨dst, .mapEntry t x y, ty, pos, af, g⟩ K :=
 EOp.of_run fun I F a w ho hs => by
  have h1 := (ho.one (x := x) (by simp [Op.operands]) hx).raw_inv
  have h2 := ho.one (x := y) (by simp [Op.operands]) hy
  have hp := hs.pull hm
  obtain ⟨es, clk, h3, h4, h5⟩ := hp.obj _ List.mem_cons_self
  obtain ⟨h6, h7⟩ := kk_ent h4.1 h5
  obtain ⟨n1, n2⟩ := run_find ok h2 w es.toList ls 0 h6 h7
  have hfk := ok.run_key h2 w es.toList ls h6 h7
  have hlt : b < w.heap.size := by
   rcases Nat.lt_or_ge b w.heap.size with h' | h'
   ·exact h'
   ·simp [Array.getElem?_eq_none h'] at h3
  have hsz : es.size = ls.length := by simpa using h6
  have fin : ∀ (ls' : List (κ × HVal)) (es' : Array MapEntry) (clk' j st : Nat), es'.size = (kk ek ls').length ∧ BornOk es' clk' →
   (∀ (i : Nat) (p : HVal × HVal) (m : MapEntry), (kk ek ls')[i]? = some p → es'[i]? = some m → V I p.1 m.key ∧ V I p.2 m.val) → (∃ m, es'[j]? = some m ∧ m.born = st) →
   Sat P I (M.set i (.mape b (kk ek ls') j st) ++ F) { w with heap := w.heap.setIfInBounds b (.map es' clk') } := fun ls' es' clk' j st e1 e2 e3 => by
   refine Sat.unpull hm (hp.change (m' := .mape b (kk ek ls') j st) (fun k hk hnk => ?_) (fun k hk => .inl hk) (by simp [MObj.blocks]) ⟨es', clk', by simp [hlt], e1, e2, e3⟩ rfl rfl rfl)
   have : k ≠ b := by simpa [MObj.blocks] using hnk
   simp [Array.getElem?_setIfInBounds_ne (Ne.symm this)]
  cases hq : kidx s ls with
  | none =>
    have hke : kent s (ofVal z3) ls = ls ++ [(s, ofVal z3)] := by simp [kent, hq]
    have hki := kidx_snoc (z := ofVal z3) hq
    have hlk := (kidx_none hq).1
    refine ⟨.tuple #[z3, .int .i64 clk], _, _, _, I, ?_, .refl I, hk ls.length clk (by rw [hke]; exact hki), by rw [hlk]; exact V.tup2 (V_ofVal I z3) (.int _ _),
     fin _ (es.push ⟨a.eval y, z3, clk⟩) (clk + 1) _ _ ⟨by rw [hke]; simp [kk, hsz], h4.2.push rfl⟩ (fun j p m a1 a2 => ?_) ⟨⟨a.eval y, z3, clk⟩, by rw [← hsz]; simp, rfl⟩⟩
    ·simp only [execOp, h1, Instr.mapEntry, Sem.run_bind, run_underlying hf.mapD, Result.andThen_ok, run_getMap h3, ok.check I s _ _ w h2, hfk, n1 hq, Sem.run_pure, run_setMap h3, het.run_zero, goInt]
    ·rw [hke] at a1
     simp only [kk, List.map_append, List.map_cons, List.map_nil] at a1
     by_cases hj : j < ls.length
     ·rw [List.getElem?_append_left (by simpa using hj)] at a1
      rw [Array.getElem?_push, if_neg (by omega)] at a2
      exact h5 j p m (by simpa [kk] using a1) a2
     ·rw [List.getElem?_append_right (by simp; omega)] at a1
      rw [Array.getElem?_push] at a2
      by_cases hje : j = es.size
      ·rw [if_pos hje] at a2
       simp at a2
       subst a2
       have : j - (ls.map fun p => (ek p.1, p.2)).length = 0 := by simp; omega
       rw [this] at a1
       simp at a1
       subst a1
       exact ⟨h2, V_ofVal I z3⟩
      ·rw [if_neg hje, Array.getElem?_eq_none (by omega)] at a2
       cases a2
  | some j0 =>
    obtain ⟨m0, h', g1, g2, g3, g4⟩ := n2 j0 hq
    obtain ⟨h'', g5, g6, _⟩ := kidx_some hq
    rw [g5] at g2; cases g2
    have hke : kent s (ofVal z3) ls = ls := by simp [kent, hq]
    have hm0 : es[j0]? = some m0 := by simpa using g1
    have hkey : V I (ek s) m0.key := (h7 j0 _ m0 g5 g1).1
    refine ⟨.tuple #[m0.val, .int .i64 m0.born], _, _, _, I, ?_, .refl I, hk j0 m0.born (by rw [hke]; exact hq), by rw [g6]; exact V.tup2 g3 (.int _ _),
     fin _ (es.modify j0 fun e => { e with key := a.eval y }) clk _ _ ⟨by rw [hke]; simp [kk, hsz], h4.2.modify _ fun _ => rfl⟩ (fun j p m a1 a2 => ?_) ⟨{ m0 with key := a.eval y }, by rw [Array.getElem?_modify, if_pos rfl, hm0]; rfl, rfl⟩⟩
    ·have hstay : (Instr.keyThatStays m0.key (a.eval y)).run P w = .ok (a.eval y) w := by
      simp only [Instr.keyThatStays]
      rw [if_pos (ok.same I s _ _ hkey h2)]; rfl
     simp only [execOp, h1, Instr.mapEntry, Sem.run_bind, run_underlying hf.mapD, Result.andThen_ok, run_getMap h3, ok.check I s _ _ w h2, hfk, g4, Sem.run_pure, Nat.zero_add, hstay, run_setMap h3, goInt, hm0, Option.map_some, Option.getD_some]
    ·rw [hke] at a1
     rw [Array.getElem?_modify] at a2
     by_cases hj : j0 = j
     ·subst hj
      rw [if_pos rfl, hm0] at a2
      simp at a2
      subst a2
      have := h5 j0 p m0 a1 hm0
      simp only [kk, List.getElem?_map, g5, Option.map_some, Option.some.injEq] at a1
      subst a1
      exact ⟨h2, this.2⟩
     ·rw [if_neg hj] at a2
      exact h5 j p m a1 a2
theorem eop_entryStore [Tracks] {x y z : Operand} {t : TypeId} {i b j st : Nat} {ls : List (κ × HVal)} {s : κ} {h : HVal}
 (hx : evalO e x = some (.raw (.map (some b)))) (hy : evalO e y = some (.int .i64 (st : Int))) (hz : evalO e z = some h) (hm : M[i]? = some (.mape b (kk ek ls) j st)) (hj : kidx s ls = some j)
 (hk : K .junk (M.set i (.map b (kk ek (kput s h ls))))) : EOp P e M ⟨dst, .entryStore t x y z, ty, pos, af, g⟩ K :=
 EOp.of_skip fun I F a w ho hs => by
  have h1 := (ho.one (x := x) (by simp [Op.operands]) hx).raw_inv
  have h2 := (ho.one (x := y) (by simp [Op.operands]) hy).int_inv
  have h0 := ho.one (x := z) (by simp [Op.operands]) hz
  have hp := hs.pull hm
  obtain ⟨es, clk, h3, h4, h5, m0, h6, h7⟩ := hp.obj _ List.mem_cons_self
  have hlt : b < w.heap.size := by
   rcases Nat.lt_or_ge b w.heap.size with h' | h'
   ·exact h'
   ·simp [Array.getElem?_eq_none h'] at h3
  obtain ⟨h', g1, _, g2⟩ := kidx_some hj
  have hjl : j < es.size := by
   rcases Nat.lt_or_ge j es.size with h' | h'
   ·exact h'
   ·simp [Array.getElem?_eq_none h'] at h6
  have hfi : es.findIdx? (fun m => (m.born : Int) == (st : Int)) = some j := by
   rw [Array.findIdx?_eq_some_iff_getElem]
   refine ⟨hjl, ?_, fun q hq => ?_⟩
   ·rw [Array.getElem?_eq_getElem hjl] at h6
    have := Option.some.inj h6
    rw [this]; simp [h7]
   ·intro hc
    have hq2 := Array.getElem?_eq_getElem (xs := es) (i := q) (by omega)
    have := h4.2.2 q j _ m0 hq2 h6 (by have h8 : ((es[q].born : Nat) : Int) = (st : Int) := (by simpa using hc); omega)
    omega
  refine ⟨_, { w with heap := w.heap.setIfInBounds b (.map (es.modify j fun e => { e with val := a.eval z }) clk) }, I, ?_, .refl I, hk, ?_⟩
  ·simp only [execOp, h1, h2, Instr.entryStore, Sem.run_bind, run_getMap h3, Result.andThen_ok, asInt, asIntOf, Sem.run_pure, hfi, run_setMap h3]
  ·refine Sat.unpull hm (hp.change (m' := .map b (kk ek (kput s h ls))) (fun k hk hnk => ?_) (fun k hk => .inl hk) (by simp [MObj.blocks]) ⟨es.modify j fun e => { e with val := a.eval z }, clk, by simp [hlt], ⟨by rw [g2]; simp [kk]; simpa [kk] using h4.1, h4.2.modify _ fun _ => rfl⟩, fun q p m a1 a2 => ?_⟩ rfl rfl rfl)
   ·have : k ≠ b := by simpa [MObj.blocks] using hnk
    simp [Array.getElem?_setIfInBounds_ne (Ne.symm this)]
   ·rw [g2] at a1
    simp only [kk] at a1
    rw [Array.getElem?_modify] at a2
    rw [List.getElem?_map, List.getElem?_set] at a1
    by_cases hjq : j = q
    ·subst hjq
     have hl := lt_of_get g1
     rw [if_pos rfl, h6] at a2
     rw [if_pos rfl, if_pos hl] at a1
     simp at a1 a2
     subst a1 a2
     exact ⟨(h5 j (ek s, h') m0 (by simp [kk, g1]) h6).1, h0⟩
    ·rw [if_neg hjq] at a1 a2
     exact h5 q p m (by simp only [kk, List.getElem?_map]; exact a1) a2
end
end Go.HL
end
section
namespace Go.HL
section
variable {κ : Type} [DecidableEq κ] {α : Type}
def alk (x : κ) : List (κ × α) → Option α
 | [] => none
 | p :: r => if x = p.1 then some p.2 else alk x r
def aput (x : κ) (v : α) : List (κ × α) → List (κ × α)
 | [] => [(x, v)]
 | p :: r => if x = p.1 then (x, v) :: r else p :: aput x v r
abbrev em (f : α → HVal) (L : List (κ × α)) : List (κ × HVal) := L.map fun p => (p.1, f p.2)
theorem klk_em (f : α → HVal) (x : κ) : ∀ L : List (κ × α), klk x (em f L) = (alk x L).map f
 | [] => rfl
 | p :: r => by
   have ih := klk_em f x r
   simp only [List.map_cons, klk, alk] at ih ⊢
   by_cases h : x = p.1
   ·rw [if_pos h, if_pos h]; rfl
   ·rw [if_neg h, if_neg h]; exact ih
theorem kput_em (f : α → HVal) (x : κ) (v : α) : ∀ L : List (κ × α), kput x (f v) (em f L) = em f (aput x v L)
 | [] => rfl
 | p :: r => by
   have ih := kput_em f x v r
   simp only [List.map_cons, kput, aput] at ih ⊢
   by_cases h : x = p.1
   ·rw [if_pos h, if_pos h]; rfl
   ·rw [if_neg h, if_neg h, ih]; rfl
theorem alk_put (x y : κ) (v : α) : ∀ (l : List (κ × α)), alk y (aput x v l) = if y = x then some v else alk y l
 | [] => by simp [aput, alk]
 | p :: r => by
   have ih := alk_put x y v r
   simp only [aput]
   by_cases h : x = p.1
   ·subst h
    rw [if_pos rfl]; simp only [alk]
    by_cases hy : y = p.1
    ·rw [if_pos hy, if_pos hy]
    ·rw [if_neg hy, if_neg hy, if_neg hy]
   ·rw [if_neg h]; simp only [alk]
    by_cases hy : y = p.1
    ·have : ¬ y = x := fun e => h (e ▸ hy)
     rw [if_pos hy, if_neg this, if_pos hy]
    ·rw [if_neg hy, ih, if_neg hy]
theorem alk_none {x : κ} : ∀ {l : List (κ × α)}, alk x l = none ↔ x ∉ l.map (·.1)
 | [] => by simp [alk]
 | p :: r => by
   have ih := alk_none (x := x) (l := r)
   simp only [alk, List.map_cons, List.mem_cons, not_or]
   by_cases h : x = p.1
   ·rw [if_pos h]; simp [h]
   ·rw [if_neg h, ih]; simp [h]
theorem aput_new {x : κ} {v : α} : ∀ {l : List (κ × α)}, alk x l = none → aput x v l = l ++ [(x, v)]
 | [], _ => rfl
 | p :: r, h => by
   simp only [alk] at h
   by_cases hx : x = p.1
   ·rw [if_pos hx] at h; cases h
   ·rw [if_neg hx] at h
    simp only [aput, if_neg hx, List.cons_append, aput_new h]
theorem aput_keys {x y : κ} {v : α} : ∀ {l : List (κ × α)}, y ∈ (aput x v l).map (·.1) ↔ y = x ∨ y ∈ l.map (·.1)
 | [] => by simp [aput]
 | p :: r => by
   have ih := aput_keys (x := x) (y := y) (v := v) (l := r)
   simp only [aput]
   by_cases h : x = p.1
   ·subst h; rw [if_pos rfl]; simp
   ·rw [if_neg h]; simp only [List.map_cons, List.mem_cons, ih]
    constructor
    ·rintro (h | h | h)
     ·exact .inr (.inl h)
     ·exact .inl h
     ·exact .inr (.inr h)
    ·rintro (h | h | h)
     ·exact .inr (.inl h)
     ·exact .inl h
     ·exact .inr (.inr h)
def ANodup (l : List (κ × α)) : Prop := (l.map (·.1)).Nodup
theorem ANodup.nil {A B : Type} : ANodup ([] : List (A × B)) := List.nodup_nil
theorem ANodup.put {x : κ} {v : α} : ∀ {l : List (κ × α)}, ANodup l → ANodup (aput x v l)
 | [], _ => by simp [ANodup, aput]
 | p :: r, hn => by
   have h1 := (List.nodup_cons.1 hn)
   by_cases h : x = p.1
   ·subst h
    have e : aput p.1 v (p :: r) = (p.1, v) :: r := by simp [aput]
    rw [e]; exact List.nodup_cons.2 h1
   ·have e : aput x v (p :: r) = p :: aput x v r := by simp [aput, h]
    rw [e]
    refine List.nodup_cons.2 ⟨fun hm => ?_, ANodup.put (l := r) h1.2⟩
    rcases aput_keys.1 hm with e | e
    ·exact h e.symm
    ·exact h1.1 e
theorem alk_mem {x : κ} {v : α} : ∀ {l : List (κ × α)}, ANodup l → ((x, v) ∈ l ↔ alk x l = some v)
 | [], _ => by simp [alk]
 | p :: r, hn => by
   have h1 := (List.nodup_cons.1 hn)
   have ih := alk_mem (x := x) (v := v) (l := r) h1.2
   simp only [List.mem_cons, alk]
   by_cases h : x = p.1
   ·subst h
    rw [if_pos rfl]
    constructor
    ·rintro (h | h)
     ·rw [← h]
     ·exact absurd (List.mem_map_of_mem (f := (·.1)) h) h1.1
    ·intro h; left; simp at h; rw [← h]
   ·rw [if_neg h, ← ih]
    constructor
    ·rintro (h' | h')
     ·exact absurd (by rw [← h']) h
     ·exact h'
    ·exact .inr
theorem alk_of_mem {x : κ} {v : α} : ∀ {l : List (κ × α)}, alk x l = some v → (x, v) ∈ l
 | [], h => by simp [alk] at h
 | p :: r, h => by
   simp only [alk] at h
   by_cases hx : x = p.1
   ·rw [if_pos hx] at h; cases h; rw [hx]; exact List.mem_cons_self
   ·rw [if_neg hx] at h; exact List.mem_cons_of_mem _ (alk_of_mem h)
theorem aput_len (x : κ) (v : α) : ∀ (l : List (κ × α)), (aput x v l).length = if (alk x l).isSome then l.length else l.length + 1
 | [] => by simp [aput, alk]
 | p :: r => by
   have ih := aput_len x v r
   by_cases h : x = p.1
   ·have e1 : aput x v (p :: r) = (x, v) :: r := by simp [aput, h]
    have e2 : alk x (p :: r) = some p.2 := by simp [alk, h]
    rw [e1, e2]; simp
   ·have e1 : aput x v (p :: r) = p :: aput x v r := by simp [aput, h]
    have e2 : alk x (p :: r) = alk x r := by simp [alk, h]
    rw [e1, e2, List.length_cons, ih]; split <;> simp
theorem aput_le (x : κ) (v : α) (l : List (κ × α)) : (aput x v l).length ≤ l.length + 1 := by rw [aput_len]; split <;> omega
theorem mem_aput {x : κ} {v : α} {p : κ × α} : ∀ {l : List (κ × α)}, p ∈ aput x v l → p = (x, v) ∨ p ∈ l
 | [], hp => by simp [aput] at hp; exact .inl hp
 | q :: r, hp => by
   simp only [aput] at hp
   by_cases h : x = q.1
   ·rw [if_pos h] at hp
    rcases List.mem_cons.1 hp with e | e
    ·exact .inl e
    ·exact .inr (List.mem_cons_of_mem _ e)
   ·rw [if_neg h] at hp
    rcases List.mem_cons.1 hp with e | e
    ·exact .inr (e ▸ List.mem_cons_self)
    ·rcases mem_aput e with e | e
     ·exact .inl e
     ·exact .inr (List.mem_cons_of_mem _ e)
theorem sfind_em (f : α → HVal) (s : Str) : ∀ L : List (Str × α), (sfind s (em f L)).map (·.2) = (alk s L).map f
 | [] => rfl
 | p :: r => by
   have ih := sfind_em f s r
   obtain ⟨k, v⟩ := p
   simp only [List.map_cons, sfind, alk] at ih ⊢
   by_cases h : s = k
   ·rw [if_pos h, if_pos h]; rfl
   ·rw [if_neg h, if_neg h, ← ih]; cases sfind s (r.map fun p => (p.1, f p.2)) <;> rfl
theorem sput_em (f : α → HVal) (s : Str) (v : α) : ∀ L : List (Str × α), sput s (f v) (em f L) = em f (aput s v L)
 | [] => rfl
 | p :: r => by
   have ih := sput_em f s v r
   obtain ⟨k, u⟩ := p
   simp only [sput, List.map_cons, sfind, aput] at ih ⊢
   by_cases h : s = k
   ·subst h; rw [if_pos rfl, if_pos rfl]; rfl
   ·rw [if_neg h, if_neg h]
    cases hq : sfind s (r.map fun p => (p.1, f p.2)) with
    | none => rw [hq] at ih; simp only [Option.map_none, List.cons_append, List.map_cons, ← ih]
    | some q => rw [hq] at ih; simp only [Option.map_some, List.set_cons_succ, List.map_cons, ← ih]
end
section
variable {κ : Type} [DecidableEq κ] {α : Type}
variable {P : Program} {e : Env} {dst : Option Tmp} {ty : TypeId} {pos : String} {af : Array Edge} {g : Option (Nat × Bool)} {M : List MObj} {K : HVal → List MObj → Prop}
theorem getD_f {f : α → HVal} {o : Option α} {z0 : α} : f (o.getD z0) = (o.map f).getD (f z0) := by cases o <;> rfl
theorem eop_lookupA [Tracks] {x y : Operand} {t kt et : TypeId} {size bytes s2 b2 s3 b3 : Nat} {zero z2 z3 : Value} {d : TD} {i b : Nat} {f : α → HVal} {L : List (Str × α)} {s : Str} {z0 : α}
 (hf : Fits P t (.map kt et) size bytes zero) (hkt : Fits P kt .str s2 b2 z2) (het : Fits P et d s3 b3 z3) (hx : evalO e x = some (.raw (.map (some b)))) (hy : evalO e y = some (.str s)) (hm : M[i]? = some (.map b (sk (em f L)))) (hz : ofVal z3 = f z0)
 (hk : K (f ((alk s L).getD z0)) M) : EOp P e M ⟨dst, .lookup t x y false, ty, pos, af, g⟩ K := by
 refine eop_lookup hf hkt het hx hy hm ?_
 rw [getD_f (f := f), ← sfind_em, ← hz] at hk
 cases h : sfind s (em f L) with
 | none => rw [h] at hk; exact hk
 | some p => rw [h] at hk; exact hk
theorem eop_lookup2A [Tracks] {x y : Operand} {t kt et : TypeId} {size bytes s2 b2 s3 b3 : Nat} {zero z2 z3 : Value} {d : TD} {i b : Nat} {f : α → HVal} {L : List (Str × α)} {s : Str} {z0 : α}
 (hf : Fits P t (.map kt et) size bytes zero) (hkt : Fits P kt .str s2 b2 z2) (het : Fits P et d s3 b3 z3) (hx : evalO e x = some (.raw (.map (some b)))) (hy : evalO e y = some (.str s)) (hm : M[i]? = some (.map b (sk (em f L)))) (hz : ofVal z3 = f z0)
 (hk : K (.tup [f ((alk s L).getD z0), .bool (alk s L).isSome]) M) : EOp P e M ⟨dst, .lookup t x y true, ty, pos, af, g⟩ K := by
 refine eop_lookup2 hf hkt het hx hy hm ?_
 have h1 : (alk s L).isSome = ((alk s L).map f).isSome := by cases alk s L <;> rfl
 rw [getD_f (f := f), h1, ← sfind_em, ← hz] at hk
 cases h : sfind s (em f L) with
 | none => rw [h] at hk; exact hk
 | some p => rw [h] at hk; exact hk
theorem eop_updateA [Tracks] {x y z : Operand} {t kt et : TypeId} {size bytes s2 b2 : Nat} {zero z2 : Value} {i b : Nat} {f : α → HVal} {L : List (Str × α)} {s : Str} {v : α}
 (hf : Fits P t (.map kt et) size bytes zero) (hkt : Fits P kt .str s2 b2 z2) (hx : evalO e x = some (.raw (.map (some b)))) (hy : evalO e y = some (.str s)) (hz : evalO e z = some (f v)) (hm : M[i]? = some (.map b (sk (em f L))))
 (hk : K .junk (M.set i (.map b (sk (em f (aput s v L)))))) : EOp P e M ⟨dst, .mapUpdate t x y z, ty, pos, af, g⟩ K := by
 refine eop_mapUpdate hf hkt hx hy hz hm ?_
 rw [sput_em]; exact hk
variable {kt : TypeId} {ek : κ → HVal}
theorem eop_lookupkA [Tracks] {x y : Operand} {t et : TypeId} {size bytes s3 b3 : Nat} {zero z3 : Value} {d : TD} {i b : Nat} {f : α → HVal} {L : List (κ × α)} {s : κ} {z0 : α}
 (hf : Fits P t (.map kt et) size bytes zero) (ok : KeyOk P kt ek) (het : Fits P et d s3 b3 z3) (hx : evalO e x = some (.raw (.map (some b)))) (hy : evalO e y = some (ek s)) (hm : M[i]? = some (.map b (kk ek (em f L)))) (hz : ofVal z3 = f z0)
 (hk : K (f ((alk s L).getD z0)) M) : EOp P e M ⟨dst, .lookup t x y false, ty, pos, af, g⟩ K := by
 refine eop_lookupk hf ok het hx hy hm ?_
 rw [getD_f (f := f), ← hz] at hk
 rw [klk_em]; exact hk
theorem eop_lookupk2A [Tracks] {x y : Operand} {t et : TypeId} {size bytes s3 b3 : Nat} {zero z3 : Value} {d : TD} {i b : Nat} {f : α → HVal} {L : List (κ × α)} {s : κ} {z0 : α}
 (hf : Fits P t (.map kt et) size bytes zero) (ok : KeyOk P kt ek) (het : Fits P et d s3 b3 z3) (hx : evalO e x = some (.raw (.map (some b)))) (hy : evalO e y = some (ek s)) (hm : M[i]? = some (.map b (kk ek (em f L)))) (hz : ofVal z3 = f z0)
 (hk : K (.tup [f ((alk s L).getD z0), .bool (alk s L).isSome]) M) : EOp P e M ⟨dst, .lookup t x y true, ty, pos, af, g⟩ K := by
 refine eop_lookupk2 hf ok het hx hy hm ?_
 have h1 : ((alk s L).map f).isSome = (alk s L).isSome := by cases alk s L <;> rfl
 rw [getD_f (f := f), ← hz] at hk
 rw [klk_em, h1]; exact hk
theorem eop_lookupke [Tracks] {x y : Operand} {t et : TypeId} {size bytes s3 b3 : Nat} {zero z3 : Value} {d : TD} {i b j st : Nat} {f : α → HVal} {L : List (κ × α)} {s : κ} {z0 : α}
 (hf : Fits P t (.map kt et) size bytes zero) (ok : KeyOk P kt ek) (het : Fits P et d s3 b3 z3) (hx : evalO e x = some (.raw (.map (some b)))) (hy : evalO e y = some (ek s)) (hm : M[i]? = some (.mape b (kk ek (kent s (f z0) (em f L))) j st)) (hz : ofVal z3 = f z0)
 (hk : K (f ((alk s L).getD z0)) M) : EOp P e M ⟨dst, .lookup t x y false, ty, pos, af, g⟩ K := by
 have h0 : f ((alk s L).getD z0) = (klk s (kent s (f z0) (em f L))).getD (ofVal z3) := by rw [hz, klk_kent, klk_em, getD_f (f := f)]
 rw [h0] at hk
 generalize kent s (f z0) (em f L) = ls at hm hk
 exact EOp.of_run fun I F a w ho hs => by
  have h1 := (ho.one (x := x) (by simp [Op.operands]) hx).raw_inv
  have h2 := ho.one (x := y) (by simp [Op.operands]) hy
  obtain ⟨es, clk, h3, h4, h5, _⟩ := hs.obj _ (List.mem_append_left _ (List.mem_of_getElem? hm))
  obtain ⟨h6, h7⟩ := kk_ent h4.1 h5
  obtain ⟨n1, n2⟩ := run_find ok h2 w es.toList ls 0 h6 h7
  have hfk := ok.run_key h2 w es.toList ls h6 h7
  cases hq : kidx s ls with
  | none =>
    rw [(kidx_none hq).1] at hk
    refine ⟨z3, _, M, w, I, ?_, .refl I, hk, V_ofVal I z3, hs⟩
    simp only [execOp, h1, Instr.lookup, Sem.run_bind, run_underlying hf.mapD, Result.andThen_ok, run_getMap h3, Sem.run_pure, ok.check I s _ _ w h2, hfk, n1 hq, het.run_zero]
    simp
  | some j' =>
    obtain ⟨m, h, g1, g2, g3, g4⟩ := n2 j' hq
    obtain ⟨h', g5, g6, _⟩ := kidx_some hq
    rw [g5] at g2; cases g2
    rw [g6] at hk
    refine ⟨m.val, _, M, w, I, ?_, .refl I, hk, g3, hs⟩
    simp only [execOp, h1, Instr.lookup, Sem.run_bind, run_underlying hf.mapD, Result.andThen_ok, run_getMap h3, Sem.run_pure, ok.check I s _ _ w h2, hfk, g4]
    simp
theorem eop_updatekA [Tracks] {x y z : Operand} {t et : TypeId} {size bytes : Nat} {zero : Value} {i b : Nat} {f : α → HVal} {L : List (κ × α)} {s : κ} {v : α}
 (hf : Fits P t (.map kt et) size bytes zero) (ok : KeyOk P kt ek) (hx : evalO e x = some (.raw (.map (some b)))) (hy : evalO e y = some (ek s)) (hz : evalO e z = some (f v)) (hm : M[i]? = some (.map b (kk ek (em f L))))
 (hk : K .junk (M.set i (.map b (kk ek (em f (aput s v L)))))) : EOp P e M ⟨dst, .mapUpdate t x y z, ty, pos, af, g⟩ K := by
 refine eop_updatek hf ok hx hy hz hm ?_
 rw [kput_em]; exact hk
theorem eop_mapEntryA [Tracks] {x y : Operand} {t et : TypeId} {size bytes s3 b3 : Nat} {zero z3 : Value} {d : TD} {i b : Nat} {f : α → HVal} {L : List (κ × α)} {s : κ} {z0 : α}
 (hf : Fits P t (.map kt et) size bytes zero) (ok : KeyOk P kt ek) (het : Fits P et d s3 b3 z3) (hx : evalO e x = some (.raw (.map (some b)))) (hy : evalO e y = some (ek s)) (hm : M[i]? = some (.map b (kk ek (em f L)))) (hz : ofVal z3 = f z0)
 (hk : ∀ (j st : Nat), kidx s (kent s (f z0) (em f L)) = some j → K (.tup [f ((alk s L).getD z0), .int .i64 (st : Int)]) (M.set i (.mape b (kk ek (kent s (f z0) (em f L))) j st))) : EOp P e M ⟨dst, .mapEntry t x y, ty, pos, af, g⟩ K := by
 refine eop_mapEntry hf ok het hx hy hm ?_
 rw [hz]
 have h1 : (klk s (em f L)).getD (f z0) = f ((alk s L).getD z0) := by rw [klk_em]; cases alk s L <;> rfl
 rw [h1]; exact hk
theorem eop_entryStoreA [Tracks] {x y z : Operand} {t : TypeId} {i b j st : Nat} {f : α → HVal} {L : List (κ × α)} {s : κ} {z0 v : α}
 (hx : evalO e x = some (.raw (.map (some b)))) (hy : evalO e y = some (.int .i64 (st : Int))) (hz : evalO e z = some (f v)) (hm : M[i]? = some (.mape b (kk ek (kent s (f z0) (em f L))) j st)) (hj : kidx s (kent s (f z0) (em f L)) = some j)
 (hk : K .junk (M.set i (.map b (kk ek (em f (aput s v L)))))) : EOp P e M ⟨dst, .entryStore t x y z, ty, pos, af, g⟩ K := by
 refine eop_entryStore hx hy hz hm hj ?_
 rw [kput_kent, kput_em]; exact hk
/-- How many entries. -/
theorem eop_maplen [Tracks] {x : Operand} {t kt' et : TypeId} {size bytes : Nat} {zero : Value} {i b : Nat} {l : List (HVal × HVal)} (hf : Fits P t (.map kt' et) size bytes zero) (hx : evalO e x = some (.raw (.map (some b)))) (hm : M[i]? = some (.map b l))
 (hk : K (.int .i64 (l.length : Int)) M) : EOp P e M ⟨dst, .call ⟨.builtin .len, #[x], #[t]⟩, ty, pos, af, g⟩ K :=
 EOp.of_run fun I F a w ho hs => by
  have h1 := (ho.one (x := x) (by simp [Op.operands, Call.operands]) hx).raw_inv
  obtain ⟨es, clk, h3, h4, h5⟩ := hs.obj _ (List.mem_append_left _ (List.mem_of_getElem? hm))
  exact ⟨.int .i64 (es.size : Int), _, M, w, I, by rw [run_len (ats := #[])]; simp [h1, Builtin.len_, run_underlying hf.mapD, run_getMap h3, goInt], .refl I, hk, by rw [h4.1]; exact .int _ _, hs⟩
end
end Go.HL
end
section
namespace Go.HL
theorem nodup_at {α : Type} {l : List α} (h : l.Nodup) {i j : Nat} {a : α} (hi : l[i]? = some a) (hj : l[j]? = some a) : i = j := by
 have key : ∀ (i j : Nat), i < j → l[i]? = some a → l[j]? = some a → False := fun i j hij h1 h2 => by
  have hi := lt_of_get h1
  have hj := lt_of_get h2
  rw [List.getElem?_eq_getElem hi] at h1
  rw [List.getElem?_eq_getElem hj] at h2
  exact List.pairwise_iff_getElem.1 h i j hi hj hij (Option.some.inj (h1.trans h2.symm))
 rcases Nat.lt_trichotomy i j with h' | h' | h'
 ·exact (key i j h' hi hj).elim
 ·exact h'
 ·exact (key j i h' hj hi).elim
/-! what a range has come to -/
structure VisOk {β : Type} (L : List β) (vis : List Nat) (E : List β) : Prop where
 nd : vis.Nodup
 lt : ∀ j ∈ vis, j < L.length
 eq : E.map some = vis.map fun j => L[j]?
theorem VisOk.nil {β : Type} (L : List β) : VisOk L [] [] := ⟨List.nodup_nil, (fun j h => by cases h), rfl⟩
theorem VisOk.step {β : Type} {L E : List β} {vis : List Nat} (h : VisOk L vis E) {j : Nat} {q : β} (hj : L[j]? = some q) (hn : j ∉ vis) : VisOk L (vis ++ [j]) (E ++ [q]) where
 nd := List.nodup_append.2 ⟨h.nd, by simp, fun a ha b hb => by simp at hb; subst hb; exact fun e => hn (e ▸ ha)⟩
 lt k hk := by
  rcases List.mem_append.1 hk with hk | hk
  ·exact h.lt k hk
  ·simp at hk; subst hk; exact lt_of_get hj
 eq := by simp only [List.map_append, h.eq, List.map_cons, List.map_nil, hj]
theorem VisOk.len {β : Type} {L E : List β} {vis : List Nat} (h : VisOk L vis E) : E.length = vis.length := by
 have := congrArg List.length h.eq; simpa using this
theorem VisOk.le {β : Type} {L E : List β} {vis : List Nat} (h : VisOk L vis E) : vis.length ≤ L.length := by
 have := nd_sub h.nd (m := List.range L.length) fun j hj => List.mem_range.2 (h.lt j hj)
 simpa using this
theorem VisOk.room {β : Type} {L E : List β} {vis : List Nat} (h : VisOk L vis E) {j : Nat} {q : β} (hj : L[j]? = some q) (hn : j ∉ vis) : vis.length < L.length := by
 have := (h.step hj hn).le
 rw [List.length_append] at this
 simp only [List.length_cons, List.length_nil] at this
 omega
theorem VisOk.done {β : Type} {L E : List β} {vis : List Nat} (h : VisOk L vis E) (hl : vis.length = L.length) : E.Perm L := by
 have hp : vis.Perm (List.range L.length) := by
  refine (List.perm_ext_iff_of_nodup h.nd List.nodup_range).2 fun a => ⟨fun ha => List.mem_range.2 (h.lt a ha), fun ha => ?_⟩
  refine Classical.byContradiction fun hna => ?_
  have h1 : (a :: vis).Nodup := List.nodup_cons.2 ⟨hna, h.nd⟩
  have h2 := nd_sub h1 (m := List.range L.length) fun j hj => by
   rcases List.mem_cons.1 hj with rfl | hj
   ·exact ha
   ·exact List.mem_range.2 (h.lt j hj)
  simp at h2; omega
 have h1 := hp.map fun j => L[j]?
 rw [← h.eq] at h1
 have h2 : ((List.range L.length).map fun j => L[j]?) = L.map some := by
  refine List.ext_getElem? fun i => ?_
  rw [List.getElem?_map, List.getElem?_map]
  rcases Nat.lt_or_ge i L.length with hi | hi
  ·rw [List.getElem?_range hi, List.getElem?_eq_getElem hi]; simp [hi]
  ·rw [List.getElem?_eq_none (by simpa using hi), List.getElem?_eq_none hi]; rfl
 rw [h2] at h1
 have h3 := h1.filterMap id
 have key : ∀ l : List β, (l.map some).filterMap id = l := fun l => by
  induction l with
  | nil => rfl
  | cons x l ih => simp [ih]
 rwa [key, key] at h3
def NextOk {β : Type} (L : List β) (vis : List Nat) (c : Bool) (vis' : List Nat) : Prop :=
 (c = false ∧ vis' = vis ∧ vis.length = L.length) ∨ (c = true ∧ ∃ j q, L[j]? = some q ∧ j ∉ vis ∧ vis' = vis ++ [j])
theorem NextOk.t {β : Type} {L : List β} {vis vis' : List Nat} {c : Bool} (h : NextOk L vis c vis') (hc : c = true) : ∃ j q, L[j]? = some q ∧ j ∉ vis ∧ vis' = vis ++ [j] := by
 rcases h with ⟨h, _⟩ | ⟨_, h⟩
 ·rw [hc] at h; cases h
 ·exact h
theorem NextOk.f {β : Type} {L : List β} {vis vis' : List Nat} {c : Bool} (h : NextOk L vis c vis') (hc : c = false) : vis' = vis ∧ vis.length = L.length := by
 rcases h with ⟨_, h⟩ | ⟨h, _⟩
 ·exact h
 ·rw [hc] at h; cases h
section
variable {P : Program} {e : Env} {dst : Option Tmp} {ty : TypeId} {pos : String} {af : Array Edge} {g : Option (Nat × Bool)} {M : List MObj} {K : HVal → List MObj → Prop}
theorem setM_self {α : Type} : ∀ {M : List α} {i : Nat} {m : α}, M[i]? = some m → M.set i m = M
 | [], i, m, h => by simp at h
 | x :: M, 0, m, h => by simp at h; simp [h]
 | x :: M, i + 1, m, h => by simp at h; simp [setM_self h]
theorem eop_nextA [Tracks] {β : Type} {L : List β} {enc : β → HVal × HVal} {x : Operand} {i r b : Nat} {l : List (HVal × HVal)} {vis : List Nat} (hx : evalO e x = some (.raw (.pointer (some ⟨r, 0, none⟩)))) (hm : M[i]? = some (.iter r b l vis)) (hL : l = L.map enc)
 (hv : vis.Nodup) (hvl : ∀ j ∈ vis, j < L.length) (hk : ∀ c R vis', NextOk L vis c vis' → K (.tup (.bool c :: R)) (M.set i (.iter r b l vis'))) : EOp P e M ⟨dst, .next x false, ty, pos, af, g⟩ K := by
 have hl : l.length = L.length := by rw [hL, List.length_map]
 refine eop_next hx hm hv (fun j hj => by rw [hl]; exact hvl j hj) (fun hlen => ?_) (fun j p hj hn => ?_)
 ·have := hk false [] vis (.inl ⟨rfl, rfl, by rw [hlen, hl]⟩)
  rw [setM_self hm] at this
  exact this
 ·rw [hL, List.getElem?_map] at hj
  cases hq : L[j]? with
  | none => rw [hq] at hj; cases hj
  | some q => exact hk true [p.1, p.2] (vis ++ [j]) (.inr ⟨rfl, j, q, hq, hn, rfl⟩)
theorem eop_entryA [Tracks] {β : Type} {L : List β} {enc : β → HVal × HVal} {x : Operand} {i r b j : Nat} {l : List (HVal × HVal)} {vis : List Nat} {q : β} (hx : evalO e x = some (.raw (.pointer (some ⟨r, 0, none⟩)))) (hm : M[i]? = some (.iter r b l (vis ++ [j]))) (hL : l = L.map enc) (hq : L[j]? = some q)
 (hk : K (.tup [(enc q).1, (enc q).2]) M) : EOp P e M ⟨dst, .entry x, ty, pos, af, g⟩ K :=
 eop_entry hx hm (p := enc q) (by rw [hL, List.getElem?_map, hq]; rfl) hk
theorem sk_em {α : Type} (f : α → HVal) (L : List (Str × α)) : sk (em f L) = L.map fun p => (.str p.1, f p.2) := by simp [sk]
theorem kk_em {κ α : Type} [DecidableEq κ] (ek : κ → HVal) (f : α → HVal) (L : List (κ × α)) : kk ek (em f L) = L.map fun p => (ek p.1, f p.2) := by simp [kk]
end
theorem perm3 {α : Type} {a b c d : α} {X : List α} : (a :: b :: c :: d :: X).Perm (a :: d :: c :: b :: X) :=
 List.Perm.cons a (((List.Perm.swap c b (d :: X)).trans ((List.Perm.swap d b X).cons c)).trans (((List.Perm.swap d c (b :: X)))))
/-! maps whose values are owned slices -/
section
variable {β : Type}
abbrev Grp (β : Type) := List (Str × (Value × List β))
abbrev fG {β : Type} (q : Value × List β) : HVal := .raw q.1
abbrev gZ (β : Type) : Value × List β := (.slice none 0 0, [])
def gV (s : Str) (G : Grp β) : Value := ((alk s G).getD (gZ β)).1
def gL (s : Str) (G : Grp β) : List β := ((alk s G).getD (gZ β)).2
def grp (sz : Nat) (e : β → HVal) (G : Grp β) : List MObj := G.map fun p => .arr p.2.1 sz (p.2.2.map e)
theorem alk_idx {κ α : Type} [DecidableEq κ] {s : κ} {v : α} : ∀ {G : List (κ × α)}, alk s G = some v → ∃ n, G[n]? = some (s, v) ∧ ∀ u, aput s u G = G.set n (s, u)
 | [], h => by simp [alk] at h
 | p :: r, h => by
   simp only [alk] at h
   by_cases hs : s = p.1
   ·rw [if_pos hs] at h
    simp only [Option.some.injEq] at h
    subst h
    exact ⟨0, by simp [hs], fun u => by simp [aput, hs]⟩
   ·rw [if_neg hs] at h
    obtain ⟨n, h1, h2⟩ := alk_idx h
    exact ⟨n + 1, by simpa using h1, fun u => by simp [aput, hs, h2]⟩
theorem alk_filter {κ α : Type} [DecidableEq κ] {s : κ} {p : κ → Bool} : ∀ {G : List (κ × α)}, alk s (G.filter fun q => p q.1) = if p s then alk s G else none
 | [] => by simp [alk]
 | q :: r => by
   have ih := alk_filter (s := s) (p := p) (G := r)
   rw [List.filter_cons]
   by_cases hq : p q.1 = true
   ·rw [if_pos hq]
    simp only [alk]
    by_cases hs : s = q.1
    ·rw [if_pos hs, if_pos hs, hs, if_pos hq]
    ·rw [if_neg hs, if_neg hs, ih]
   ·rw [if_neg hq, ih]
    simp only [alk]
    by_cases hs : s = q.1
    ·rw [hs, if_neg hq, if_neg hq]
    ·rw [if_neg hs]
theorem filter_ne_none {κ α : Type} [DecidableEq κ] {s : κ} {G : List (κ × α)} (h : alk s G = none) : (G.filter fun q => decide (q.1 ≠ s)) = G := by
 rw [List.filter_eq_self]
 intro q hq
 rw [alk_none] at h
 simp only [decide_eq_true_eq]
 exact fun e => h (e ▸ List.mem_map_of_mem hq)
theorem filter_ne_perm {κ α : Type} [DecidableEq κ] {s : κ} {v : α} : ∀ {G : List (κ × α)}, ANodup G → alk s G = some v → G.Perm ((s, v) :: G.filter fun q => decide (q.1 ≠ s))
 | [], _, h => by simp [alk] at h
 | p :: r, hn, h => by
   have h1 := List.nodup_cons.1 hn
   simp only [alk] at h
   by_cases hs : s = p.1
   ·rw [if_pos hs] at h
    simp only [Option.some.injEq] at h
    have h2 : alk s r = none := by rw [alk_none, hs]; exact h1.1
    rw [List.filter_cons, if_neg (by simp [hs]), filter_ne_none h2, hs, ← h]
   ·rw [if_neg hs] at h
    rw [List.filter_cons, if_pos (by simp; exact fun e => hs e.symm)]
    exact (List.Perm.cons p (filter_ne_perm h1.2 h)).trans (List.Perm.swap _ _ _)
end
section
variable {P : Program} {e : Env} {dst : Option Tmp} {ty : TypeId} {pos : String} {af : Array Edge} {g : Option (Nat × Bool)} {M : List MObj} {K : HVal → List MObj → Prop} {β : Type} {eb : β → HVal}
theorem sat_arr_nil [Tracks] {I : Imm} {M : List MObj} {w : World} (sz : Nat) (hs : Sat P I M w) : Sat P I (.arr (.slice none 0 0) sz [] :: M) w where
 imm := hs.imm
 obj m hm := by
  rcases List.mem_cons.1 hm with rfl | hm
  ·exact .inl ⟨rfl, rfl⟩
  ·exact hs.obj m hm
 nodup := by simp only [blocks, List.flatMap_cons, MObj.blocks, List.nil_append]; exact hs.nodup
 apart b hb := hs.apart b (by simpa only [blocks, List.flatMap_cons, MObj.blocks, List.nil_append] using hb)
 os := hs.os
 output := hs.output
 tape := hs.tape
 tab := hs.tab
 low := hs.low
theorem EOp.pre [Tracks] {M' : List MObj} {o : Oper} (hm : ∀ I F w, Sat P I (M ++ F) w → Sat P I (M' ++ F) w) (h : EOp P e M' o K) : EOp P e M o K := fun I F a w ho hs => h I F a w ho (hm I F w hs)
theorem EOp.post_perm [Tracks] {o : Oper} (h : EOp P e M o fun x N => ∃ N', N.Perm N' ∧ K x N') : EOp P e M o K := fun I F a w ho hs =>
 Oper.wp_noQ (fun _ _ ⟨v, x, M', J, h1, h2, ⟨N', h3, h4⟩, h5, h6⟩ => ⟨v, x, N', J, h1, h2, h4, h5, h6.perm (h3.append_right F)⟩) (h I F a w ho hs)
theorem eop_append_grp [Tracks] {x y : Operand} {t el : TypeId} {size bytes sz b2 : Nat} {zero z2 : Value} {d : TD} {A : List MObj} {G : Grp β} {s : Str} {ys : List β}
 (hf : Fits P t (.slice el) size bytes zero) (hel : Fits P el d sz b2 z2) (hz : z2.cells.size = sz) (hby : Nat.ble b2 100000 = true)
 (hx : evalO e x = some (.raw (gV s G))) (hy : evalO e y = some (.slice sz (ys.map eb))) (hfl : ∀ y ∈ ys.map eb, flat (hcells y) = true) (hlen : (gL s G).length + ys.length ≤ 1000000000)
 (hk : ∀ v', K (.raw v') (A ++ grp sz eb (aput s (v', gL s G ++ ys) G))) : EOp P e (A ++ grp sz eb G) ⟨dst, .call ⟨.builtin .append, #[x, y], #[t, t]⟩, ty, pos, af, g⟩ K := by
 cases hq : alk s G with
 | none =>
   have h1 : gV s G = .slice none 0 0 := by unfold gV; rw [hq]; rfl
   have h2 : gL s G = [] := by unfold gL; rw [hq]; rfl
   rw [h1] at hx
   rw [h2, List.nil_append] at hk
   refine EOp.pre (M' := .arr (.slice none 0 0) sz [] :: (A ++ grp sz eb G)) (fun I F w hs => sat_arr_nil sz hs) (EOp.post_perm ?_)
   refine eop_append (i := 0) hf hel hz hby hx hy rfl hfl (by rw [h2] at hlen; simpa using hlen) fun v' => ⟨_, ?_, hk v'⟩
   rw [aput_new hq]
   simp only [List.set_cons_zero, grp, List.map_append, List.map_cons, List.map_nil, List.nil_append]
   rw [← List.append_assoc]
   exact (List.perm_append_comm (l₁ := [MObj.arr v' sz (ys.map eb)]) (l₂ := A ++ G.map fun p => MObj.arr p.2.1 sz (p.2.2.map eb)))
 | some q =>
   obtain ⟨v, l⟩ := q
   have h1 : gV s G = v := by unfold gV; rw [hq]; rfl
   have h2 : gL s G = l := by unfold gL; rw [hq]; rfl
   obtain ⟨n, h3, h4⟩ := alk_idx hq
   rw [h1] at hx
   rw [h2] at hk hlen
   have h5 : (A ++ grp sz eb G)[A.length + n]? = some (.arr v sz (l.map eb)) := by
    rw [List.getElem?_append_right (by omega), Nat.add_sub_cancel_left]
    simp [grp, h3]
   refine eop_append (i := A.length + n) hf hel hz hby hx hy h5 hfl (by simpa using hlen) fun v' => ?_
   have h6 : (A ++ grp sz eb G).set (A.length + n) (.arr v' sz (l.map eb ++ ys.map eb)) = A ++ grp sz eb (aput s (v', l ++ ys) G) := by
    rw [List.set_append_right _ _ (by omega), Nat.add_sub_cancel_left, h4]
    simp [grp, List.map_set]
   rw [h6]
   exact hk v'
theorem Ghost.grp_take [Tracks] {A : List MObj} {G G' : Grp β} {s : Str} {sz : Nat} (hn : ANodup G) (hG : alk s G = alk s G') : Ghost e (A ++ grp sz eb G) e (.arr (gV s G') sz ((gL s G').map eb) :: (A ++ grp sz eb (G.filter fun q => decide (q.1 ≠ s)))) := by
 cases hq : alk s G with
 | none =>
   have h1 : gV s G' = .slice none 0 0 := by unfold gV; rw [← hG, hq]; rfl
   have h2 : gL s G' = [] := by unfold gL; rw [← hG, hq]; rfl
   rw [h1, h2, filter_ne_none hq]
   exact Ghost.arr_nil sz
 | some q =>
   obtain ⟨v, l⟩ := q
   have h1 : gV s G' = v := by unfold gV; rw [← hG, hq]; rfl
   have h2 : gL s G' = l := by unfold gL; rw [← hG, hq]; rfl
   rw [h1, h2]
   refine Ghost.perm ?_
   have h3 := ((filter_ne_perm hn hq).map fun p => MObj.arr p.2.1 sz (p.2.2.map eb)).append_left A
   refine h3.trans ?_
   simp only [List.map_cons, grp]
   exact List.perm_middle
end
end Go.HL
end
section
namespace Go.HL
end Go.HL
end
section
namespace Go.HL
variable {P : Program}
section
variable {e : Env} {dst : Option Tmp} {ty : TypeId} {pos : String} {af : Array Edge} {g : Option (Nat × Bool)} {M : List MObj} {K : HVal → List MObj → Prop}
end
end Go.HL
end
section
namespace Go.HL
open Go.Proofs Go.Shelf
variable {P : Program}
/-- A string's bytes as cells. -/
def bvs (s : List UInt8) : List Value := s.map fun c => .int .u8 c.toNat
theorem bvs_get {s : List UInt8} {i : Nat} {c : UInt8} (h : s[i]? = some c) : (bvs s)[i]? = some (.int .u8 c.toNat) := by simp [bvs, h]
theorem bvs_len (s : List UInt8) : (bvs s).length = s.length := by simp [bvs]
theorem bvs_str (s : List UInt8) : Lib.strCells ⟨s.toArray⟩ = bvs s := by simp [Lib.strCells, bvs]
/-- A slice's data pointer. -/
def dataP : Value → Value
 | .slice a _ _ => .pointer a
 | _ => .pointer none
theorem MSat.bld_one {I : Imm} {w : World} {b : Nat} {T el : TypeId} {h v : Value} {s : List UInt8} (hm : MSat I w (.bld b T el h v s)) : v.oneCell' = true := by
 rcases hm.2 with ⟨rfl, _⟩ | ⟨g, cap, rc, rfl, _⟩ <;> rfl
theorem MSat.bld_len {I : Imm} {w : World} {b : Nat} {T el : TypeId} {h v : Value} {s : List UInt8} (hm : MSat I w (.bld b T el h v s)) : ∃ a cap, v = .slice a s.length cap := by
 rcases hm.2 with ⟨rfl, rfl⟩ | ⟨g, cap, rc, rfl, _⟩
 ·exact ⟨none, 0, rfl⟩
 ·exact ⟨_, _, rfl⟩
theorem cells_one {u : Value} (h : u.oneCell' = true) : u.cells.toList = [u] := by cases u <;> first | rfl | simp [Value.oneCell'] at h
theorem Sat.bld_nodup [Tracks] {I : Imm} {M : List MObj} {w : World} {b : Nat} {T el : TypeId} {h v : Value} {s : List UInt8} (hs : Sat P I (.bld b T el h v s :: M) w) : (b :: bufB v).Nodup ∧ (∀ k ∈ b :: bufB v, k ∉ blocks M) ∧ ∀ k ∈ b :: bufB v, I.heap k = none := by
 have h1 := hs.nodup
 simp only [blocks, List.flatMap_cons] at h1
 have h2 := List.nodup_append.1 h1
 exact ⟨h2.1, fun k hk hk' => h2.2.2 k hk k hk' rfl, fun k hk => hs.apart k (by simp only [blocks, List.flatMap_cons]; exact List.mem_append_left _ hk)⟩
section
variable {e : Env} {dst : Option Tmp} {ty : TypeId} {pos : String} {af : Array Edge} {g : Option (Nat × Bool)} {M : List MObj} {K : HVal → List MObj → Prop}

theorem eop_allocB [Tracks] {t : TypeId} (el : TypeId) {d : TD} {size bytes : Nat} {zero : Value} (hf : Fits P t d size bytes zero) (hz : zero.cells = #[.pointer none, .slice none 0 0])
 (hk : ∀ b, K (.raw (.pointer (some ⟨b, 0, none⟩))) (.bld b t el (.slice none 0 0) (.slice none 0 0) [] :: M)) : EOp P e M ⟨dst, .alloc t, ty, pos, af, g⟩ K :=
 EOp.of_run fun I F a w ho hs => by
  refine ⟨.pointer (some ⟨w.heap.size, 0, none⟩), _, _, push w (.cells zero.cells t (0, 0)), I, ?_, .refl I, hk w.heap.size, .raw _ rfl, ?_⟩
  ·simp [execOp, Instr.alloc, hf.run_zero, newVar, newRow]
  ·exact hs.new_own _ _ rfl ⟨⟨rfl, _, .inl rfl, by simp [push, hz]⟩, .inl ⟨rfl, rfl⟩⟩

theorem eop_loadB [Tracks] {x : Operand} {t T el tel : TypeId} {size bytes : Nat} {zero : Value} {i b : Nat} {h v : Value} {s : List UInt8} (hf : Fits P t (.slice tel) size bytes zero)
 (hx : evalO e x = some (.raw (.pointer (some ⟨b, 1, none⟩)))) (hm : M[i]? = some (.bld b T el h v s)) (hk : K (.raw h) M) : EOp P e M ⟨dst, .load t x, ty, pos, af, g⟩ K :=
 EOp.of_run fun I F a w ho hs => by
  have h1 := (ho.one (x := x) (by simp [Op.operands]) hx).raw_inv
  obtain ⟨⟨h0, p, hp, h2⟩, h3⟩ := hs.obj _ (List.mem_append_left _ (List.mem_of_getElem? hm))
  have hV : ∀ (j : Nat) (c : HVal) (u : Value), [HVal.junk, .raw h][j]? = some c → (#[p, h] : Array Value)[0 + j]? = some u → V I c u := by
   intro j c u a1 a2
   match j, a1, a2 with
   | 0, a1, a2 => simp at a1; subst a1; exact .junk _
   | 1, a1, a2 => simp at a1 a2; subst a1; subst a2; exact .raw _ h0
   | j + 2, a1, _ => simp at a1
  obtain ⟨u, h5, h6⟩ := run_loadVar (I := I) (o := 1) (cs := [.junk, .raw h]) (off := 1) (base := 0) hf h2 rfl (by simp) hV (.inl ⟨rfl, rfl⟩)
  exact ⟨u, .raw h, M, w, I, by simp [execOp, h1, Instr.loadAt, Instr.sureAddr, h5], .refl I, hk, h6, hs⟩

theorem eop_storeB [Tracks] {x y : Operand} {t T el tel : TypeId} {bytes : Nat} {zero : Value} {i b : Nat} {h v : Value} {s : List UInt8} (hf : Fits P t (.slice tel) 1 bytes zero)
 (hx : evalO e x = some (.raw (.pointer (some ⟨b, 1, none⟩)))) (hy : evalO e y = some (.raw v)) (hm : M[i]? = some (.bld b T el h v s))
 (hk : K .junk (M.set i (.bld b T el v v s))) : EOp P e M ⟨dst, .store t x y, ty, pos, af, g⟩ K :=
 EOp.of_skip fun I F a w hop hs => by
  have h1 := (hop.one (x := x) (by simp [Op.operands]) hx).raw_inv
  have hye := (hop.one (x := y) (by simp [Op.operands]) hy).raw_inv
  have hp := hs.pull hm
  have hobj := hp.obj _ List.mem_cons_self
  have hu1 := hobj.bld_one
  obtain ⟨hnd, _, _⟩ := hp.bld_nodup
  obtain ⟨⟨h0, p, hpp, h2⟩, h3⟩ := hobj
  have hc1 := cells_one hu1
  obtain ⟨w', rc', g1, g2, g3, g4, g5, g6, g7, g8, g9⟩ := run_storeCells (P := P) b T (0, 0) 1 [v] 0 w #[p, h] h2 (Free.zero _) (by simpa using hu1) (by simp)
  have hrc : rc' = #[p, v] := by
   apply Array.ext_getElem?
   intro x
   rw [g4 x]
   match x with
   | 0 => simp
   | 1 => simp
   | x + 2 => simp
  subst hrc
  refine ⟨_, w', I, ?_, .refl I, hk, ?_⟩
  ·simp only [execOp, h1, hye, Instr.storeAt, Instr.sureAddr, Sem.run_bind, Sem.run_pure, Result.andThen_ok, storeVar, hf.run_sizeOf]
   rw [if_neg (by rw [← Array.length_toList, hc1]; simp)]
   simp only [Sem.run_pure, Result.andThen_ok, hc1, g1]
  ·refine Sat.unpull hm (hp.change (m' := .bld b T el v v s) (fun k hk hnk => g5 k (fun e => hnk (e ▸ List.mem_cons_self))) (fun k hk => .inl hk) hnd ?_ g7 g8 g9.1 (fun _ => Nat.le_of_eq g9.2.symm))
   refine ⟨⟨hu1, p, hpp, g2⟩, ?_⟩
   rcases h3 with h3 | ⟨g, cap, rc, rfl, h4, h5, h6⟩
   ·exact .inl h3
   ·refine .inr ⟨g, cap, rc, rfl, ?_, h5, h6⟩
    rw [g5 g (fun e => by subst e; simp [bufB] at hnd)]; exact h4

theorem eop_appendB [Tracks] {x y : Operand} {t el u T : TypeId} {size bytes b2 su bu : Nat} {zero z2 zu : Value} {d : TD} {i b : Nat} {h v : Value} {s r : List UInt8}
 (hf : Fits P t (.slice el) size bytes zero) (hu : Fits P u .str su bu zu) (hel : Fits P el d 1 b2 z2) (hz : z2.cells.size = 1) (hby : Nat.ble b2 100000 = true)
 (hx : evalO e x = some (.raw v)) (hy : evalO e y = some (.str r)) (hm : M[i]? = some (.bld b T el h v s)) (hlen : s.length + r.length ≤ 1000000000)
 (hk : ∀ v', K (.raw v') (M.set i (.bld b T el h v' (s ++ r)))) : EOp P e M ⟨dst, .call ⟨.builtin .append, #[x, y], #[t, u]⟩, ty, pos, af, g⟩ K :=
 EOp.of_run fun I F a w ho hs => by
  have h1 := (ho.one (x := x) (by simp [Op.operands, Call.operands]) hx).raw_inv
  have hyv := ho.one (x := y) (by simp [Op.operands, Call.operands]) hy
  have hye : a.eval y = .string ⟨r.toArray⟩ := hyv.str_inv
  have hp := hs.pull hm
  have hobj := hp.obj _ List.mem_cons_self
  have hu1 := hobj.bld_one
  obtain ⟨hnd, _, _⟩ := hp.bld_nodup
  obtain ⟨⟨h0, p, hpp, h2⟩, h3⟩ := hobj
  have hbl : b < w.heap.size := by
   rcases Nat.lt_or_ge b w.heap.size with h' | h'
   ·exact h'
   ·simp [Array.getElem?_eq_none h'] at h2
  have hsize : (⟨r.toArray⟩ : ByteArray).size = r.length := by simp [ByteArray.size]
  have hnv : ∀ w1 : World, (Builtin.firstCells 1 r.length (a.eval y)).run P w1 = .ok (bvs r).toArray w1 := fun w1 => by
   rw [hye, ← bvs_str, ← hsize]; exact Lib.run_firstCells_string w1 1 _
  have hov : ∀ w1 : World, w1.heap = w.heap → (Builtin.firstCells 1 s.length v).run P w1 = .ok (bvs s).toArray w1 := fun w1 hw1 => by
   rcases h3 with ⟨rfl, rfl⟩ | ⟨g, cap, rc, rfl, h4, h5, h6⟩
   ·simp [Builtin.firstCells, bvs]
   ·have h3' : w1.heap[g]? = some (.cells rc el (0, 0)) := by rw [hw1]; exact h4
    have := run_loadCells_list (P := P) w1 ⟨g, 0, none⟩ (bvs s) fun j c hj => by
     rw [addr_add, cell_of h3']
     rw [bvs, List.getElem?_map] at hj
     cases hq : s[j]? with
     | none => rw [hq] at hj; cases hj
     | some c' => rw [hq] at hj; simp at hj; subst hj; simpa using h6 j c' hq
    rw [bvs_len] at this
    simp only [Builtin.firstCells, Nat.mul_one]
    exact this
  have hboth : ∀ (i : Nat) (c : UInt8), (s ++ r)[i]? = some c → ((bvs s).toArray ++ (bvs r).toArray)[i]? = some (.int .u8 c.toNat) := fun i c hc => by
   have : bvs s ++ bvs r = bvs (s ++ r) := by simp [bvs]
   rw [List.append_toArray, this, List.getElem?_toArray]; exact bvs_get hc
  have done : (∃ v' w', (execOp a.eval ⟨dst, .call ⟨.builtin .append, #[x, y], #[t, u]⟩, ty, pos, af, g⟩).run P w = .ok (.value v') w' ∧ Sat P I (.bld b T el h v' (s ++ r) :: (M.eraseIdx i ++ F)) w') →
   ∃ v h M' w' J, (execOp a.eval ⟨dst, .call ⟨.builtin .append, #[x, y], #[t, u]⟩, ty, pos, af, g⟩).run P w = .ok (.value v) w' ∧ Le I J ∧ K h M' ∧ V J h v ∧ Sat P J (M' ++ F) w' := by
   rintro ⟨v', w', r1, r2⟩
   exact ⟨v', .raw v', _, w', I, r1, .refl I, hk v', .raw _ (r2.obj _ List.mem_cons_self).bld_one, Sat.unpull hm r2⟩
  apply done
  have hlenof : ∀ w1 : World, (Builtin.lenOf (a.eval y)).run P w1 = .ok r.length w1 := fun w1 => by rw [hye, ← hsize]; simp [Builtin.lenOf]
  -- the new block
  have grows : ∀ (base : Option Addr) (cap : Nat), v = .slice base s.length cap → cap < s.length + r.length →
   ∃ v' w', (execOp a.eval ⟨dst, .call ⟨.builtin .append, #[x, y], #[t, u]⟩, ty, pos, af, g⟩).run P w = .ok (.value v') w' ∧ Sat P I (.bld b T el h v' (s ++ r) :: (M.eraseIdx i ++ F)) w' := by
   intro base cap hv hcap
   let nc := (Question.appendCap (s.length + r.length) cap el).cut (w.tape w.drawn (.appendCap (s.length + r.length) cap el))
   have hnc : s.length + r.length ≤ nc := by simp only [nc, Question.cut]; omega
   have hnm : nc ≤ 9223372036854775807 := by
    simp only [nc, Question.cut]
    have := Nat.mod_lt (w.tape w.drawn (.appendCap (s.length + r.length) cap el)) (show 0 < 2 ^ 63 - (s.length + r.length) by omega)
    omega
   let cells : Array Value := (bvs s).toArray ++ (bvs r).toArray ++ Builtin.zeroCells z2.cells (nc - (s.length + r.length))
   refine ⟨.slice (some ⟨w.heap.size, 0, none⟩) (s.length + r.length) nc, { w with heap := w.heap.push (.cells cells el (0, 0)), drawn := w.drawn + 1 }, ?_, ?_⟩
   ·rw [run_append]
    have hb1 : ¬ s.length + r.length ≤ cap := by omega
    have hb2 : ¬ ((((s.length + r.length : Nat) : Int) > IntKind.i64.max) ∧ (False ∨ b2 = 0)) := by
     have : IntKind.i64.max = 9223372036854775807 := by decide
     rw [this]; omega
    have hb3 : ¬ Builtin.nextslicecap (s.length + r.length) cap * b2 > 2 ^ 48 := by
     have e1 := nextslicecap_le hcap
     have e2 : b2 ≤ 100000 := Nat.le_of_ble_eq_true hby
     have : Builtin.nextslicecap (s.length + r.length) cap * b2 ≤ (2 * 1000000000 + 192) * 100000 := Nat.mul_le_mul (by omega) e2
     omega
    obtain ⟨ti, t1, t2, t3, t4⟩ := hel.typeInfo
    have hti : ∀ w1, (Go.typeInfo el).run P w1 = .ok ti w1 := fun w1 => by simp [Go.typeInfo, t1]
    simp only [List.map_toArray, List.map_cons, List.map_nil, h1, Builtin.append_, List.getElem?_toArray, List.getElem?_cons_zero, List.getElem?_cons_succ, hv, Sem.run_bind, run_underlying hf.slice, run_underlying hu.strD, Result.andThen_ok,
     hel.run_sizeOf, Sem.run_pure, Bool.false_eq_true, if_false, hlenof, hb1, hti, t3]
    rw [if_neg (by simpa using hb2)]
    simp only [Sem.run_bind, Sem.run_pure, Result.andThen_ok, hti, t3]
    rw [if_neg hb3]
    have hch : (choose (.appendCap (s.length + r.length) cap el)).run P w = .ok nc { w with drawn := w.drawn + 1 } := by
     simp [Question.forced, nc]
    simp only [Sem.run_pure, Sem.run_bind, Result.andThen_ok, hch, run_askRoom, hti]
    rw [← hv]
    have hov' := hov { w with drawn := w.drawn + 1 } rfl
    have hnv' := hnv { w with drawn := w.drawn + 1 }
    simp only [hov', Bool.not_false, if_true, hnv', Result.andThen_ok, hel.run_zero, newRow, Sem.run_bind, Sem.run_pure, run_newObj]
    rfl
   ·refine hp.change (m' := .bld b T el h (.slice (some ⟨w.heap.size, 0, none⟩) (s.length + r.length) nc) (s ++ r)) (fun k hk hnk => ?_) ?_ ?_ ?_ rfl rfl rfl
    ·simp [Array.getElem?_push, Nat.ne_of_lt hk]
    ·intro k hk
     simp [MObj.blocks, bufB] at hk
     rcases hk with rfl | rfl
     ·exact .inl List.mem_cons_self
     ·exact .inr (Nat.le_refl _)
    ·simp [MObj.blocks, bufB]; omega
    ·refine ⟨⟨h0, p, hpp, ?_⟩, .inr ⟨w.heap.size, nc, cells, by simp, by simp, ⟨by omega, by simpa using hnc, hnm, ?_⟩, fun j c hc => ?_⟩⟩
     ·simp [Array.getElem?_push, Nat.ne_of_lt hbl]; exact h2
     ·simp [cells, zeroCells_size, hz, bvs_len]; omega
     ·have hj := lt_of_get hc
      simp only [List.length_append] at hj
      simp only [cells]
      rw [Array.getElem?_append_left (by simp [bvs_len]; omega)]
      exact hboth j c hc
  rcases h3 with ⟨hv, hs0⟩ | ⟨gb, cap, rc, hv, h4, ⟨h5a, h5b, h5c, h5d⟩, h6⟩
  ·by_cases hr0 : r = []
   ·subst hr0
    refine ⟨v, w, ?_, by rw [List.append_nil]; exact hp⟩
    subst hs0
    have hnv' := hnv w
    have hl0 := hlenof w
    simp only [List.length_nil] at hnv' hl0
    rw [run_append]
    simp only [List.map_toArray, List.map_cons, List.map_nil, h1, Builtin.append_, List.getElem?_toArray, List.getElem?_cons_zero, List.getElem?_cons_succ, hv, Sem.run_bind, run_underlying hf.slice, run_underlying hu.strD, Result.andThen_ok,
     hel.run_sizeOf, Sem.run_pure, Bool.false_eq_true, if_false, hl0, Nat.le_refl, if_true, Bool.not_false, hnv', Nat.add_zero]
   ·have hpos : 0 < r.length := by cases r with | nil => exact absurd rfl hr0 | cons _ _ => simp
    exact grows none 0 (by rw [hv, hs0]; rfl) (by omega)
  ·by_cases hfit : s.length + r.length ≤ cap
   ·obtain ⟨w', rc', g1, g2, g3, g4, g5, g6, g7, g8, g9⟩ := run_storeCells (P := P) gb el (0, 0) s.length (bvs r) 0 w rc h4 (Free.zero _) (fun c hc => by simp only [bvs, List.mem_map] at hc; obtain ⟨c', _, rfl⟩ := hc; rfl) (by rw [bvs_len]; omega)
    refine ⟨.slice (some ⟨gb, 0, none⟩) (s.length + r.length) cap, w', ?_, ?_⟩
    ·rw [run_append]
     have hnv' := hnv w
     have hl0 := hlenof w
     simp only [List.map_toArray, List.map_cons, List.map_nil, h1, Builtin.append_, List.getElem?_toArray, List.getElem?_cons_zero, List.getElem?_cons_succ, hv, Sem.run_bind, run_underlying hf.slice, run_underlying hu.strD, Result.andThen_ok,
      hel.run_sizeOf, Sem.run_pure, Bool.false_eq_true, if_false, hl0, hfit, if_true, Bool.not_false, hnv', addr_add, Nat.mul_one, Nat.zero_add, g1]
    ·have hne : b ≠ gb := fun e => by subst e; rw [hv] at hnd; simp [bufB] at hnd
     refine hp.change (m' := .bld b T el h (.slice (some ⟨gb, 0, none⟩) (s.length + r.length) cap) (s ++ r)) (fun k hk hnk => g5 k ?_) ?_ ?_ ?_ g7 g8 g9.1 (fun _ => Nat.le_of_eq g9.2.symm)
     ·rintro rfl; exact hnk (by rw [hv]; simp [MObj.blocks, bufB])
     ·intro k hk; left; rw [hv]; exact hk
     ·simp [MObj.blocks, bufB]; exact hne
     ·refine ⟨⟨h0, p, hpp, by rw [g5 b hne]; exact h2⟩, .inr ⟨gb, cap, rc', by simp, g2, ⟨h5a, by simpa using hfit, h5c, by rw [g3]; exact h5d⟩, fun j c hc => ?_⟩⟩
      have hj := lt_of_get hc
      simp only [List.length_append] at hj
      rw [g4]
      by_cases hi : j < s.length
      ·rw [List.getElem?_append_left hi] at hc
       rw [if_neg (by omega)]
       exact h6 j c hc
      ·rw [List.getElem?_append_right (by omega)] at hc
       rw [if_pos (by rw [bvs_len]; omega)]
       have := bvs_get hc
       simpa using this
   ·exact grows (some ⟨gb, 0, none⟩) cap hv (by omega)

theorem eop_lenB [Tracks] {x : Operand} {t tel : TypeId} {size bytes : Nat} {zero : Value} {i b : Nat} {T el : TypeId} {h v : Value} {s : List UInt8} (hf : Fits P t (.slice tel) size bytes zero) (hx : evalO e x = some (.raw v))
 (hm : M[i]? = some (.bld b T el h v s)) (hk : K (.int .i64 s.length) M) : EOp P e M ⟨dst, .call ⟨.builtin .len, #[x], #[t]⟩, ty, pos, af, g⟩ K :=
 EOp.of_run fun I F a w ho hs => by
  have h1 := (ho.one (x := x) (by simp [Op.operands, Call.operands]) hx).raw_inv
  obtain ⟨b, cap, h2⟩ := (hs.obj _ (List.mem_append_left _ (List.mem_of_getElem? hm))).bld_len
  exact ⟨.int .i64 s.length, _, M, w, I, by rw [run_len (ats := #[])]; simp [h1, h2, Builtin.len_, run_underlying hf.slice, goInt], .refl I, hk, .int _ _, hs⟩

end

/-- What every writing method calls first. -/
theorem con_copyCheck [Tracks] {ρ : Ren} (L : Lays.n240 P ρ) (X : Builder.X72 P ρ) {b : Nat} {el : TypeId} {h v : Value} {s : List UInt8} :
 Con P (ρ.f 240) [.raw (.pointer (some ⟨b, 0, none⟩))] [.bld b (ρ.t 72) el h v s] fun x M' => x = .tup [] ∧ M' = [.bld b (ρ.t 72) el h v s] := by
 intro I F w args ha hs
 obtain ⟨u, rfl, hu⟩ := ha.one
 obtain rfl := hu.raw_inv
 obtain ⟨hnd, _, _⟩ := Sat.bld_nodup (M := F) hs
 obtain ⟨⟨h0, p, hpp, h2⟩, h3⟩ := hs.obj (.bld b (ρ.t 72) el h v s) (by simp)
 have ht : V I (.tup []) (.tuple #[]) := .tup rfl fun j c v h _ => by simp at h
 rcases hpp with rfl | rfl
 ·refine (Any.Builder_copyCheck_fresh L X b w (by rw [cell_of h2]; rfl) (by simp [World.shape?, h2]) (by simp [World.frozen?, h2])).mono ?_
  rintro _ w' ⟨rfl, rfl⟩
  refine ⟨_, _, _, I, rfl, .refl I, ⟨rfl, rfl⟩, ht, ?_⟩
  have hk : ∀ k, k ≠ b → (w.setCell ⟨b, 0, none⟩ (.pointer (some ⟨b, 0, none⟩))).heap[k]? = w.heap[k]? := fun k hk => by
   simp only [World.setCell, Array.getElem?_modify]
   rw [if_neg (fun e => hk e.symm)]
  refine Sat.change (m' := .bld b (ρ.t 72) el h v s) (M := F) hs (fun k _ hnk => hk k (fun e => hnk (e ▸ List.mem_cons_self))) (fun k hk => .inl hk) hnd ⟨⟨h0, _, .inr rfl, ?_⟩, ?_⟩ rfl rfl rfl
  ·simp [World.setCell, Array.getElem?_modify, h2]
  ·rcases h3 with h3 | ⟨g, cap, rc, rfl, h4, h5, h6⟩
   ·exact .inl h3
   ·exact .inr ⟨g, cap, rc, rfl, by rw [hk g (fun e => by subst e; simp [bufB] at hnd)]; exact h4, h5, h6⟩
 ·refine (Any.Builder_copyCheck_used L X b w (by rw [cell_of h2]; rfl)).mono ?_
  rintro _ w' ⟨rfl, rfl⟩
  exact ⟨_, _, _, I, rfl, .refl I, ⟨rfl, rfl⟩, ht, hs⟩
end Go.HL
end
section
namespace Go.HL
open Go
/-- The pieces of a string between the places where a byte stands. -/
def spl (c : UInt8) : Str → List Str
 | [] => [[]]
 | b :: l => if b = c then [] :: spl c l else match spl c l with
   | [] => [[b]]
   | x :: r => (b :: x) :: r
theorem spl_ne (c : UInt8) (s : Str) : spl c s ≠ [] := by
 cases s with
 | nil => simp [spl]
 | cons b l =>
   simp only [spl]
   split
   ·simp
   ·split <;> simp
theorem spl_cons {c : UInt8} (s : Str) : ∃ x r, spl c s = x :: r := by
 cases h : spl c s with
 | nil => exact absurd h (spl_ne c s)
 | cons x r => exact ⟨x, r, rfl⟩
theorem spl_eq (c : UInt8) (l : Str) : spl c (c :: l) = [] :: spl c l := by simp [spl]
theorem spl_of_ne {b c : UInt8} (h : b ≠ c) {l x : Str} {r : List Str} (hl : spl c l = x :: r) : spl c (b :: l) = (b :: x) :: r := by
 simp only [spl, h, if_false, hl]
theorem spl_len (c : UInt8) : ∀ s : Str, (spl c s).length = s.count c + 1
 | [] => rfl
 | b :: l => by
   have ih := spl_len c l
   by_cases h : b = c
   ·subst h; rw [spl_eq, List.count_cons_self]; simp [ih]
   ·obtain ⟨x, r, hx⟩ := spl_cons (c := c) l
    rw [spl_of_ne h hx, List.count_cons_of_ne h, ← ih, hx]; simp
theorem index_ge0 {s : Str} {c : UInt8} (h : 0 < s.count c) : ∃ i : Nat, Lib.index s [c] = i := by
 rcases Int.lt_or_le (Lib.index s [c]) 0 with h' | h'
 ·have h1 : Lib.index s [c] = -1 := by have := Lib.index_ge s [c]; omega
  have := Lib.count_miss h1
  rw [Lib.count_one] at this
  omega
 ·exact ⟨_, (Int.toNat_of_nonneg h').symm⟩
theorem index_self (c : UInt8) (l : Str) : Lib.index (c :: l) [c] = 0 := by simp [Lib.index]
theorem index_next {b c : UInt8} (h : b ≠ c) (l : Str) {i : Nat} (hi : Lib.index l [c] = i) : Lib.index (b :: l) [c] = ((i + 1 : Nat) : Int) := by
 have h1 : ([c] : Str).isPrefixOf (b :: l) = false := by simp [List.isPrefixOf, Ne.symm h]
 unfold Lib.index
 rw [h1, hi]
 have h2 : ((i : Int) == -1) = false := by simp
 rw [h2]; simp
theorem splitK_spl (c : UInt8) : ∀ s : Str, Lib.splitK [c] 0 (s.count c) s = spl c s
 | [] => rfl
 | b :: l => by
   have ih := splitK_spl c l
   by_cases h : b = c
   ·subst h
    rw [spl_eq, List.count_cons_self, ← ih]
    simp only [Lib.splitK, index_self]
    simp
   ·rw [List.count_cons_of_ne h]
    cases hk : l.count c with
    | zero =>
      rw [hk] at ih
      have h1 : spl c l = [l] := ih.symm
      rw [spl_of_ne h h1]; rfl
    | succ k =>
      obtain ⟨i, hi⟩ := index_ge0 (s := l) (c := c) (by omega)
      have h0 := index_next h l hi
      rw [hk] at ih
      have e1 : Lib.splitK [c] 0 (k + 1) l = l.take i :: Lib.splitK [c] 0 k (l.drop (i + 1)) := by
       simp only [Lib.splitK, hi]
       have h2 : ((i : Int) == -1) = false := by simp
       rw [h2]; simp
      have e2 : Lib.splitK [c] 0 (k + 1) (b :: l) = (b :: l.take i) :: Lib.splitK [c] 0 k (l.drop (i + 1)) := by
       simp only [Lib.splitK, h0]
       have h2 : (((i + 1 : Nat) : Int) == -1) = false := by simp; omega
       rw [h2]; simp
      rw [e1] at ih
      rw [e2, spl_of_ne h ih.symm]
theorem split_spl (s : Str) (c : UInt8) : (Lib.splitB ⟨#[c]⟩ 0 (Lib.countB ⟨s.toArray⟩ ⟨#[c]⟩) ⟨s.toArray⟩).map (·.data.toList) = spl c s := by
 rw [Lib.splitB_data]
 have : Lib.countB ⟨s.toArray⟩ ⟨#[c]⟩ = s.count c := Lib.count_one c s
 rw [this]
 exact splitK_spl c s
theorem spl_mem_len (c : UInt8) : ∀ (s : Str), ∀ x ∈ spl c s, x.length ≤ s.length
 | [], x, hx => by simp [spl] at hx; subst hx; simp
 | b :: l, x, hx => by
   have ih := spl_mem_len c l
   by_cases hb : b = c
   ·subst hb
    rw [spl_eq] at hx
    rcases List.mem_cons.1 hx with rfl | hx
    ·simp
    ·have := ih x hx; simp only [List.length_cons]; omega
   ·obtain ⟨y, r, hy⟩ := spl_cons (c := c) l
    rw [spl_of_ne hb hy] at hx
    rcases List.mem_cons.1 hx with rfl | hx
    ·have := ih y (by rw [hy]; simp); simp only [List.length_cons]; omega
    ·have := ih x (by rw [hy]; simp [hx]); simp only [List.length_cons]; omega
theorem spl_none {c : UInt8} : ∀ {s : Str}, c ∉ s → spl c s = [s]
 | [], _ => rfl
 | b :: l, h => by
   have h1 : b ≠ c := fun e => h (by simp [e])
   exact spl_of_ne h1 (spl_none fun hm => h (by simp [hm]))
/-- Pieces with the byte between. -/
def jn (c : UInt8) : List Str → Str
 | [] => []
 | [x] => x
 | x :: r => x ++ c :: jn c r
theorem jn_cons {c : UInt8} {x : Str} {r : List Str} (h : r ≠ []) : jn c (x :: r) = x ++ c :: jn c r := by
 cases r with
 | nil => exact absurd rfl h
 | cons y r => rfl
theorem spl_app {c : UInt8} : ∀ {x : Str} (s : Str), c ∉ x → spl c (x ++ c :: s) = x :: spl c s
 | [], s, _ => spl_eq c s
 | b :: x, s, h => by
   have h1 : b ≠ c := fun e => h (by simp [e])
   exact spl_of_ne h1 (spl_app s fun hm => h (by simp [hm]))
theorem spl_jn {c : UInt8} : ∀ {l : List Str}, l ≠ [] → (∀ x ∈ l, c ∉ x) → spl c (jn c l) = l
 | [], h, _ => absurd rfl h
 | [x], _, h => spl_none (h x (by simp))
 | x :: y :: r, _, h => by
   rw [jn_cons (by simp), spl_app _ (h x (by simp)), spl_jn (by simp) fun z hz => h z (by simp [hz])]
theorem jn_spl (c : UInt8) : ∀ s : Str, jn c (spl c s) = s
 | [] => rfl
 | b :: l => by
   have ih := jn_spl c l
   by_cases hb : b = c
   ·subst hb; rw [spl_eq, jn_cons (spl_ne b l), ih]; rfl
   ·obtain ⟨y, r, hy⟩ := spl_cons (c := c) l
    rw [spl_of_ne hb hy]
    rw [hy] at ih
    cases r with
    | nil => simp only [jn] at ih ⊢; rw [ih]
    | cons z r => rw [jn_cons (by simp)] at ih ⊢; rw [← ih]; rfl
end Go.HL
end
section
namespace Go.HL
open Go.Proofs Go.Shelf Go.RowKit
variable {P : Program}
theorem VL.two {I : Imm} {c d : HVal} {vs : List Value} (h : VL I [c, d] vs) : ∃ u v, vs = [u, v] ∧ V I c u ∧ V I d v := by
 match vs, h with
 | [u, v], h => exact ⟨u, v, rfl, h.head, h.tail.head⟩
 | [], h => have := h.1; simp at this
 | [_], h => have := h.1; simp at this
 | _ :: _ :: _ :: _, h => have := h.1; simp at this
theorem bsz (s : Str) : (⟨s.toArray⟩ : ByteArray).size = s.length := by simp [ByteArray.size]
/-- A row of strings that the call laid. -/
theorem v_strs [Tracks] {I : Imm} {b : Nat} {l : List Str} {t : TypeId} {fr : Nat × Nat} {xs : List ByteArray} (hx : xs.map (·.data.toList) = l) (hI : I.heap b = some (.cells (xs.map Value.string).toArray t fr)) (n : Nat) (hn : n = l.length) :
 V I (.slice 1 (l.map .str)) (.slice (some ⟨b, 0, none⟩) n n) := by
 have hl : n = (l.map HVal.str).length := by rw [hn, List.length_map]
 rw [hl]
 have hxl : xs.length = l.length := by rw [← hx, List.length_map]
 refine V.slice hI (fun e he => ?_) (Nat.le_refl _) (by simp [hxl]) (fun i j e c v h1 h2 h3 => ?_)
 ·obtain ⟨s, _, rfl⟩ := List.mem_map.1 he; rfl
 ·rw [List.getElem?_map] at h1
  cases hq : l[i]? with
  | none => rw [hq] at h1; cases h1
  | some s =>
    rw [hq] at h1
    simp at h1
    subst h1
    have hj : j = 0 := by
     have := lt_of_get h2
     simp [hcells] at this; omega
    subst hj
    simp [hcells] at h2
    subst h2
    simp only [Nat.zero_add, Nat.mul_one, Nat.add_zero, List.getElem?_toArray, List.getElem?_map] at h3
    rw [← hx, List.getElem?_map] at hq
    cases hr : xs[i]? with
    | none => rw [hr] at hq; cases hq
    | some y =>
      rw [hr] at hq h3
      simp at hq h3
      subst h3
      rw [← hq]
      exact .str _
theorem conp_split [Tracks] {ρ : Ren} (L : Lays.n146 P ρ) (hi9 : (P.info? (ρ.t 9)).map (fun i => (i.zero, i.size, i.bytes)) = some (some (.string ByteArray.empty), 1, 16)) (hg : P.globalNamed "internal/bytealg.MaxLen" = some (ρ.g 1)) {s : Str} {c : UInt8} (hs : s.length < 4294967281) :
 ConP P (ρ.f 146) [.str s, .str [c]] (.slice 1 ((spl c s).map .str)) := by
 intro I F w args ha hs0
 obtain ⟨u, v, rfl, hu, hv⟩ := ha.two
 obtain rfl := hu.str_inv
 obtain rfl := hv.str_inv
 obtain ⟨m, hm⟩ := hs0.maxLen hg
 refine (Any.strings_Split L hi9 ⟨s.toArray⟩ ⟨[c].toArray⟩ m w (by rw [bsz]; exact hs) hm (by rw [bsz]; simp)).mono ?_
 rintro _ w' ⟨rfl, rfl⟩
 obtain ⟨hle, hsat⟩ := Sat.new_imm hs0 (.cells ((Lib.splitB ⟨[c].toArray⟩ 0 (Lib.countB ⟨s.toArray⟩ ⟨[c].toArray⟩) ⟨s.toArray⟩).map Value.string).toArray (ρ.t 9))
 refine ⟨_, _, [], _, rfl, hle, ⟨rfl, rfl⟩, v_strs (split_spl s c) Imm.add_self _ ?_, hsat⟩
 have : Lib.countB ⟨s.toArray⟩ ⟨[c].toArray⟩ = s.count c := Lib.count_one c s
 rw [this, spl_len]
theorem conp_cutSuffix [Tracks] {ρ : Ren} (L : Lays.n104 P ρ) {s p : Str} (hs : s.length ≤ 4294967281) : ConP P (ρ.f 104) [.str s, .str p] (.tup [.str (Lib.trimSuffix s p), .bool (Lib.hasSuffix s p)]) :=
 conp_of_calls fun I w args ha => by
  obtain ⟨u, v, rfl, hu, hv⟩ := ha.two
  obtain rfl := hu.str_inv
  obtain rfl := hv.str_inv
  refine ⟨_, ?_, Any.strings_CutSuffix L ⟨s.toArray⟩ ⟨p.toArray⟩ w (by rw [bsz]; omega)⟩
  have hV := VL.cons (V.str (I := I) (Lib.trimSuffix s p)) (VL.cons (V.bool (Lib.hasSuffix s p)) VL.nil)
  exact .tup hV.1 (by simpa using hV.2)
end Go.HL
end
section
namespace Go.HL
variable {P : Program}
def BufV (s : List UInt8) (v : Value) : Prop := (v = .slice none 0 0 ∧ s = []) ∨ ∃ g cap, 0 < cap ∧ v = .slice (some ⟨g, 0, none⟩) s.length cap
theorem MSat.bufV {I : Imm} {w : World} {b : Nat} {T el : TypeId} {h v : Value} {s : List UInt8} (hm : MSat I w (.bld b T el h v s)) : BufV s v := by
 rcases hm.2 with h | ⟨g, cap, rc, h, _, h5, _⟩
 ·exact .inl h
 ·exact .inr ⟨g, cap, h5.1, h⟩
theorem hw_bldc [Tracks] {n : Nat} {c : Code} {e : Env} {M : List MObj} {Q : Exit → Env → List MObj → Prop} {i b : Nat} {T el : TypeId} {h v : Value} {s : List UInt8} (hm : M[i]? = some (.bld b T el h v s)) (k : BufV s v → HWp P n c e M Q) : HWp P n c e M Q :=
 fun I F a w h1 h2 h3 h4 => k (h4.obj _ (List.mem_append_left _ (List.mem_of_getElem? hm))).bufV I F a w h1 h2 h3 h4
section
variable {e : Env} {dst : Option Tmp} {ty : TypeId} {pos : String} {af : Array Edge} {g : Option (Nat × Bool)} {M : List MObj} {K : HVal → List MObj → Prop}
theorem pop_dataV [Tracks] {x : Operand} {ats : Array TypeId} {v : Value} {s : List UInt8} (hb : BufV s v) (hx : evalO e x = some (.raw v)) : POp P e ⟨dst, .call ⟨.builtin .unsafeSliceData, #[x], ats⟩, ty, pos, af, g⟩ (.raw (dataP v)) :=
 POp.of_run fun I F a w ho hs => by
  have h1 := (ho.one (x := x) (by simp [Op.operands, Call.operands]) hx).raw_inv
  have hr : ∀ r : Sem Value, Builtin.unsafeSliceData_ ats ty #[v] = r → (execOp a.eval ⟨dst, .call ⟨.builtin .unsafeSliceData, #[x], ats⟩, ty, pos, af, g⟩).run P w = (r.run P w).andThen (fun v w => .ok (.value v) w) := by
   rintro r rfl
   simp [execOp, resolve, invoke, builtin, h1]
  refine ⟨dataP v, _, I, ?_, .refl I, .raw _ ?_, hs⟩
  ·rw [hr _ rfl]
   rcases hb with ⟨rfl, _⟩ | ⟨g, cap, h5, rfl⟩
   ·rfl
   ·rw [Lib.run_unsafeSliceData_row w _ _ _ _ _ (by omega)]; rfl
  ·rcases hb with ⟨rfl, _⟩ | ⟨g, cap, h5, rfl⟩ <;> rfl
theorem pop_lenV [Tracks] {x : Operand} {t tel : TypeId} {size bytes : Nat} {zero : Value} {v : Value} {s : List UInt8} (hf : Fits P t (.slice tel) size bytes zero) (hb : BufV s v) (hx : evalO e x = some (.raw v)) : POp P e ⟨dst, .call ⟨.builtin .len, #[x], #[t]⟩, ty, pos, af, g⟩ (.int .i64 s.length) :=
 POp.of_run fun I F a w ho hs => by
  have h1 := (ho.one (x := x) (by simp [Op.operands, Call.operands]) hx).raw_inv
  obtain ⟨a', cap, h2⟩ : ∃ a' cap, v = .slice a' s.length cap := by
   rcases hb with ⟨rfl, rfl⟩ | ⟨g, cap, _, rfl⟩
   ·exact ⟨_, _, rfl⟩
   ·exact ⟨_, _, rfl⟩
  exact ⟨.int .i64 s.length, w, I, by rw [run_len (ats := #[])]; simp [h1, h2, Builtin.len_, run_underlying hf.slice, goInt], .refl I, .int _ _, hs⟩
/-- The builder's bytes as a string; its header stays. -/
theorem eop_strH [Tracks] {x y : Operand} {pt it : TypeId} {i b : Nat} {T el : TypeId} {h v : Value} {s : List UInt8} (hpt : P.underlying pt = some (.pointer el)) (hc : P.cellsOf el = 1)
 (hx : evalO e x = some (.raw (dataP v))) (hy : evalO e y = some (.int .i64 s.length)) (hm : M[i]? = some (.bld b T el h v s))
 (hk : K (.str s) (M.set i (.cells b [.junk, .raw h]))) : EOp P e M ⟨dst, .call ⟨.builtin .unsafeString, #[x, y], #[pt, it]⟩, ty, pos, af, g⟩ K :=
 EOp.of_run fun I F a w ho hs => by
  have h1 := (ho.one (x := x) (by simp [Op.operands, Call.operands]) hx).raw_inv
  have h2 := (ho.one (x := y) (by simp [Op.operands, Call.operands]) hy).int_inv
  have hp := hs.pull hm
  obtain ⟨hnd, hap, him⟩ := hp.bld_nodup
  obtain ⟨⟨h0, p, hpp, hhd⟩, h3⟩ := hp.obj _ List.mem_cons_self
  have hr : ∀ r : Sem Value, Builtin.unsafeString_ #[pt, it] ty #[dataP v, .int .i64 s.length] = r → (execOp a.eval ⟨dst, .call ⟨.builtin .unsafeString, #[x, y], #[pt, it]⟩, ty, pos, af, g⟩).run P w = (r.run P w).andThen (fun v w => .ok (.value v) w) := by
   rintro r rfl
   simp [execOp, resolve, invoke, builtin, h1, h2]
  have key : ∀ w' : World, (∀ k, k ∉ bufB v → w'.heap[k]? = w.heap[k]?) → w'.os = w.os ∧ w'.output = w.output ∧ w'.tape = w.tape ∧ w'.drawn = w.drawn → Sat P I ((M.set i (.cells b [.junk, .raw h])) ++ F) w' := fun w' hk hfo => by
   refine Sat.unpull hm (hp.change (m' := .cells b [.junk, .raw h]) (fun k _ hnk => hk k fun hk' => hnk (by simp only [MObj.blocks]; exact List.mem_cons_of_mem _ hk')) (fun k hk => .inl ?_) (by simp [MObj.blocks]) ?_ hfo.1 hfo.2.1 hfo.2.2.1 (fun _ => Nat.le_of_eq hfo.2.2.2.symm))
   ·simp [MObj.blocks] at hk ⊢; exact .inl hk
   ·refine ⟨#[p, h], T, (0, 0), ?_, Free.zero _, ?_⟩
    ·rw [hk b (List.nodup_cons.1 hnd).1]; exact hhd
    ·exact VL.cons (.junk _) (VL.cons (.raw _ h0) VL.nil)
  by_cases hs0 : s = []
  ·subst hs0
   refine ⟨.string .empty, _, _, w, I, ?_, .refl I, hk, .str [], key w (fun _ _ => rfl) ⟨rfl, rfl, rfl, rfl⟩⟩
   rw [hr _ rfl]
   rcases h3 with ⟨rfl, _⟩ | ⟨g, cap, rc, rfl, h4, h5, h6⟩
   ·simp only [dataP, List.length_nil, Int.ofNat_zero]; erw [Lib.run_unsafeString_none w]; rfl
   ·simp only [dataP, List.length_nil, Int.ofNat_zero]; erw [Lib.run_unsafeString_none w]; rfl
  ·rcases h3 with ⟨rfl, h0⟩ | ⟨g, cap, rc, rfl, h4, h5, h6⟩
   ·exact absurd h0 hs0
   ·refine ⟨.string ⟨s.toArray⟩, _, _, w.freeze ⟨g, 0, none⟩ s.length, I, ?_, .refl I, hk, .str s, ?_⟩
    ·rw [hr _ rfl]
     simp only [dataP]
     rw [Lib.run_unsafeString_row w pt it ty el hpt hc g rc.size (by simp [World.shape?, h4]) s hs0 (by omega) (by omega) (fun j c hj => by rw [addr_add, cell_of h4]; simpa using h6 j c hj)]
     rfl
    ·refine key _ (fun k hk => ?_) ?_
     ·have hkg : k ≠ g := fun e => hk (by simp [bufB, e])
      unfold World.freeze
      split
      ·rfl
      ·simp only [Array.getElem?_modify]
       rw [if_neg (fun e => hkg e.symm)]
     ·unfold World.freeze; split <;> exact ⟨rfl, rfl, rfl, rfl⟩
end
end Go.HL
end
section
namespace Go.Proofs
open Go.Shelf
def Tryz.lays146_ren : Go.Shelf.Ren := ⟨fun | 146 => 72 | 221 => 106 | 268 => 143 | 138 => 144 | 143 => 145 | 195 => 191 | 197 => 151 | 218 => 192 | 219 => 190 | 260 => 197 | 217 => 115 | 225 => 217 | 224 => 218 | 267 => 219 | 266 => 154 | 314 => 237 | n => n, fun | 9 => 9 | 31 => 44 | 3 => 3 | 4 => 4 | 0 => 0 | 105 => 191 | 21 => 21 | 5 => 5 | 46 => 181 | 119 => 247 | 139 => 250 | 138 => 249 | 146 => 265 | 51 => 221 | n => n, fun | 1 => 0 | 3 => 4 | 4 => 5 | n => n⟩
theorem Tryz.lays146 : Go.Proofs.Lays.n146 Tryz.prog Tryz.lays146_ren := {
 mixed := by kernel_rfl
 f138 := Tryz.func144.trans (congrArg some (by kernel_rfl))
 f143 := Tryz.func145.trans (congrArg some (by kernel_rfl))
 f146 := Tryz.func72.trans (congrArg some (by kernel_rfl))
 f195 := Tryz.func191.trans (congrArg some (by kernel_rfl))
 f197 := Tryz.func151.trans (congrArg some (by kernel_rfl))
 f217 := Tryz.func115.trans (congrArg some (by kernel_rfl))
 f218 := Tryz.func192.trans (congrArg some (by kernel_rfl))
 f219 := Tryz.func190.trans (congrArg some (by kernel_rfl))
 f221 := Tryz.func106.trans (congrArg some (by kernel_rfl))
 f224 := Tryz.func218.trans (congrArg some (by kernel_rfl))
 f225 := Tryz.func217.trans (congrArg some (by kernel_rfl))
 f260 := Tryz.func197.trans (congrArg some (by kernel_rfl))
 f266 := Tryz.func154.trans (congrArg some (by kernel_rfl))
 f267 := Tryz.func219.trans (congrArg some (by kernel_rfl))
 f268 := Tryz.func143.trans (congrArg some (by kernel_rfl))
 f314 := Tryz.func237.trans (congrArg some (by kernel_rfl))
 t0 := Tryz.underlying0
 a0 := Tryz.isAgg0
 z0 := Tryz.sizeOf0
 v0 := Tryz.zeroValue0
 t3 := Tryz.underlying3
 a3 := Tryz.isAgg3
 z3 := Tryz.sizeOf3
 v3 := Tryz.zeroValue3
 t4 := Tryz.underlying4
 a4 := Tryz.isAgg4
 z4 := Tryz.sizeOf4
 v4 := Tryz.zeroValue4
 t5 := Tryz.underlying5
 a5 := Tryz.isAgg5
 z5 := Tryz.sizeOf5
 v5 := Tryz.zeroValue5
 t9 := Tryz.underlying9
 a9 := Tryz.isAgg9
 z9 := Tryz.sizeOf9
 v9 := Tryz.zeroValue9
 t21 := Tryz.underlying21
 a21 := Tryz.isAgg21
 z21 := Tryz.sizeOf21
 v21 := Tryz.zeroValue21
 t31 := Tryz.underlying44
 a31 := Tryz.isAgg44
 z31 := Tryz.sizeOf44
 v31 := Tryz.zeroValue44
 t46 := Tryz.underlying181
 a46 := Tryz.isAgg181
 z46 := Tryz.sizeOf181
 v46 := Tryz.zeroValue181
 t51 := Tryz.underlying221
 a51 := Tryz.isAgg221
 z51 := Tryz.sizeOf221
 v51 := Tryz.zeroValue221
 t105 := Tryz.underlying191
 a105 := Tryz.isAgg191
 z105 := Tryz.sizeOf191
 v105 := Tryz.zeroValue191
 t119 := Tryz.underlying247
 a119 := Tryz.isAgg247
 z119 := Tryz.sizeOf247
 t138 := Tryz.underlying249
 a138 := Tryz.isAgg249
 z138 := Tryz.sizeOf249
 v138 := Tryz.zeroValue249
 t139 := Tryz.underlying250
 a139 := Tryz.isAgg250
 z139 := Tryz.sizeOf250
 v139 := Tryz.zeroValue250
 t146 := Tryz.underlying265
 a146 := Tryz.isAgg265
 z146 := Tryz.sizeOf265
 v146 := Tryz.zeroValue265
 g1 := by kernel_rfl
 g3 := by kernel_rfl
 g4 := by kernel_rfl }
def Tryz.lays104_ren : Go.Shelf.Ren := ⟨fun | 104 => 118 | 211 => 155 | 207 => 200 | n => n, fun | 9 => 9 | 4 => 4 | 24 => 155 | 3 => 3 | n => n, fun | n => n⟩
theorem Tryz.lays104 : Go.Proofs.Lays.n104 Tryz.prog Tryz.lays104_ren := {
 mixed := by kernel_rfl
 f104 := Tryz.func118.trans (congrArg some (by kernel_rfl))
 f207 := Tryz.func200.trans (congrArg some (by kernel_rfl))
 f211 := Tryz.func155.trans (congrArg some (by kernel_rfl))
 t3 := Tryz.underlying3
 a3 := Tryz.isAgg3
 z3 := Tryz.sizeOf3
 v3 := Tryz.zeroValue3
 t4 := Tryz.underlying4
 a4 := Tryz.isAgg4
 z4 := Tryz.sizeOf4
 v4 := Tryz.zeroValue4
 t9 := Tryz.underlying9
 a9 := Tryz.isAgg9
 z9 := Tryz.sizeOf9
 v9 := Tryz.zeroValue9
 t24 := Tryz.underlying155
 a24 := Tryz.isAgg155
 z24 := Tryz.sizeOf155
 v24 := Tryz.zeroValue155 }
end Go.Proofs
end
section
namespace Go.Proofs
open Go.Shelf
def Tryz.lays240_ren : Go.Shelf.Ren := ⟨fun | 240 => 79 | 276 => 117 | n => n, fun | 0 => 0 | 4 => 4 | 9 => 9 | 20 => 20 | 70 => 67 | 72 => 70 | 164 => 153 | 37 => 68 | n => n, fun n => n⟩
theorem Tryz.lays240 : Go.Proofs.Lays.n240 Tryz.prog Tryz.lays240_ren := {
 mixed := by kernel_rfl
 f240 := Tryz.func79.trans (congrArg some (by kernel_rfl))
 f276 := Tryz.func117.trans (congrArg some (by kernel_rfl))
 t0 := Tryz.underlying0
 a0 := Tryz.isAgg0
 z0 := Tryz.sizeOf0
 v0 := Tryz.zeroValue0
 t4 := Tryz.underlying4
 a4 := Tryz.isAgg4
 z4 := Tryz.sizeOf4
 v4 := Tryz.zeroValue4
 t9 := Tryz.underlying9
 a9 := Tryz.isAgg9
 z9 := Tryz.sizeOf9
 v9 := Tryz.zeroValue9
 t20 := Tryz.underlying20
 a20 := Tryz.isAgg20
 z20 := Tryz.sizeOf20
 v20 := Tryz.zeroValue20
 t70 := Tryz.underlying67
 a70 := Tryz.isAgg67
 z70 := Tryz.sizeOf67
 v70 := Tryz.zeroValue67
 t72 := Tryz.underlying70
 a72 := Tryz.isAgg70
 z72 := Tryz.sizeOf70
 v72 := Tryz.zeroValue70
 t164 := Tryz.underlying153
 a164 := Tryz.isAgg153
 z164 := Tryz.sizeOf153
 v164 := Tryz.zeroValue153
}
end Go.Proofs
end
section
namespace Go.HL
theorem decFrom_app : ∀ (l m : List UInt8) (acc : Nat), Lib.decFrom acc (l ++ m) = (Lib.decFrom acc l).bind fun a => Lib.decFrom a m
 | [], m, acc => rfl
 | b :: l, m, acc => by
   simp only [List.cons_append, Lib.decFrom]
   cases Lib.digitVal b with
   | none => rfl
   | some d => exact decFrom_app l m _
theorem digit_ok : ∀ d, d < 10 → Lib.digitVal (UInt8.ofNat (48 + d)) = some d ∧ dig (UInt8.ofNat (48 + d)) = true ∧ dig10.contains (UInt8.ofNat (48 + d)) = true := by decide
theorem digits_read : ∀ u : Nat, Lib.decFrom 0 (Lib.decDigits u) = some u := fun u => by
 induction u using Nat.strongRecOn with
 | ind u ih =>
   rw [Lib.decDigits]
   by_cases h : u < 10
   ·rw [dif_pos h]
    simp only [Lib.decFrom, (digit_ok u h).1]; simp
   ·rw [dif_neg h, decFrom_app, ih (u / 10) (by omega)]
    simp only [Option.bind_some, Lib.decFrom, (digit_ok (u % 10) (by omega)).1]
    congr 1; omega
theorem digits_mem : ∀ (u : Nat) (c : UInt8), c ∈ Lib.decDigits u → ∃ d, d < 10 ∧ c = UInt8.ofNat (48 + d) := fun u => by
 induction u using Nat.strongRecOn with
 | ind u ih =>
   intro c hc
   rw [Lib.decDigits] at hc
   by_cases h : u < 10
   ·rw [dif_pos h] at hc
    exact ⟨u, h, by simpa using hc⟩
   ·rw [dif_neg h] at hc
    rcases List.mem_append.1 hc with hc | hc
    ·exact ih (u / 10) (by omega) c hc
    ·exact ⟨u % 10, by omega, by simpa using hc⟩
theorem digits_ne (u : Nat) : Lib.decDigits u ≠ [] := by
 rw [Lib.decDigits]; split <;> simp
theorem digits_cons (u : Nat) : ∃ d r, d < 10 ∧ Lib.decDigits u = UInt8.ofNat (48 + d) :: r := by
 cases h : Lib.decDigits u with
 | nil => exact absurd h (digits_ne u)
 | cons c r =>
   obtain ⟨d, hd, e⟩ := digits_mem u c (by rw [h]; exact List.mem_cons_self)
   exact ⟨d, r, hd, by rw [e]⟩
theorem digit_head : ∀ d, d < 10 → (UInt8.ofNat (48 + d) == 45) = false ∧ (UInt8.ofNat (48 + d) == 43) = false ∧ UInt8.ofNat (48 + d) ≠ 45 := by decide
theorem atoi_nat (u : Nat) : Lib.atoi (Lib.decDigits u) = some (u : Int) := by
 obtain ⟨d, r, hd, e⟩ := digits_cons u
 have h := digits_read u
 rw [e] at h ⊢
 simp only [Lib.atoi, (digit_head d hd).1, (digit_head d hd).2.1, Lib.decNat, h]; simp
theorem atoi_itoa (n : Int) : Lib.atoi (Lib.itoa n) = some n := by
 rcases Int.lt_or_le n 0 with h | h
 ·obtain ⟨u, rfl⟩ : ∃ u : Nat, n = -(u : Int) := ⟨n.natAbs, by omega⟩
  rw [Lib.itoa_neg u (by omega)]
  have h2 := digits_read u
  have h3 : (Lib.decDigits u).isEmpty = false := by simpa using digits_ne u
  simp [Lib.atoi, Lib.decNat, h2, h3]
 ·obtain ⟨u, rfl⟩ : ∃ u : Nat, n = (u : Int) := ⟨n.toNat, by omega⟩
  rw [Lib.itoa_nonneg]; exact atoi_nat u
theorem numV_itoa (n : Int) : numV (Lib.itoa n) = n := by unfold numV; rw [atoi_itoa]; rfl
theorem nDigits_le : ∀ (k u : Nat), u < 10 ^ (k + 1) → Lib.nDigits u ≤ k + 1
 | 0, u, h => by rw [Lib.nDigits_small (by simpa using h)]; omega
 | k + 1, u, h => by
   by_cases h1 : u < 10
   ·rw [Lib.nDigits_small h1]; omega
   ·rw [Lib.nDigits_big h1]
    have := nDigits_le k (u / 10) (by rw [Nat.pow_succ] at h; omega)
    omega
theorem dropW_all {p : UInt8 → Bool} : ∀ {s : Str}, (∀ c ∈ s, p c = true) → s.dropWhile p = []
 | [], _ => rfl
 | c :: s, h => by
   rw [List.dropWhile_cons, if_pos (h c List.mem_cons_self)]
   exact dropW_all fun x hx => h x (List.mem_cons_of_mem _ hx)
theorem cut_digits (u : Nat) : cutMinus (Lib.decDigits u) = Lib.decDigits u := by
 obtain ⟨d, r, hd, e⟩ := digits_cons u
 rw [e]
 unfold cutMinus
 split
 ·rename_i heq
  exact absurd (List.cons.inj heq).1 (digit_head d hd).2.2
 ·rfl
theorem dropW_nil {p : UInt8 → Bool} : ∀ {s : Str}, s.dropWhile p = [] → ∀ c ∈ s, p c = true
 | [], _, c, hc => by cases hc
 | x :: s, h, c, hc => by
   rw [List.dropWhile_cons] at h
   split at h
   ·rcases List.mem_cons.1 hc with rfl | hc
    ·assumption
    ·exact dropW_nil h c hc
   ·cases h
theorem dropW_sub {p : UInt8 → Bool} : ∀ {s : Str} (c : UInt8), c ∈ s → p c = true ∨ c ∈ s.dropWhile p
 | x :: s, c, hc => by
   rw [List.dropWhile_cons]
   split
   ·rename_i hx
    rcases List.mem_cons.1 hc with rfl | hc
    ·exact .inl hx
    ·exact dropW_sub c hc
   ·exact .inr hc
theorem trim10_nil {s : Str} (h : trim10 s = []) : ∀ c ∈ s, dig10.contains c = true := fun c hc => by
 unfold trim10 at h
 have h1 := dropW_nil h
 rcases dropW_sub (p := (dig10.contains ·)) (s := s.reverse) c (List.mem_reverse.2 hc) with h2 | h2
 ·exact h2
 ·exact h1 c (by unfold rtrim; exact List.mem_reverse.2 h2)
theorem dig10_val : ∀ c : UInt8, dig10.contains c = true → ∃ d, Lib.digitVal c = some d := fun c h => by
 have : c.toNat < 256 := c.toNat_lt
 simp only [dig10, List.contains_cons, List.contains_nil, Bool.or_false, Bool.or_eq_true, beq_iff_eq] at h
 rcases h with rfl | rfl | rfl | rfl | rfl | rfl | rfl | rfl | rfl | rfl <;> exact ⟨_, rfl⟩
theorem decFrom_some : ∀ (l : List UInt8) (acc : Nat), (∀ c ∈ l, dig10.contains c = true) → ∃ n, Lib.decFrom acc l = some n
 | [], acc, _ => ⟨acc, rfl⟩
 | c :: l, acc, h => by
   obtain ⟨d, hd⟩ := dig10_val c (h c List.mem_cons_self)
   obtain ⟨n, hn⟩ := decFrom_some l (acc * 10 + d) fun x hx => h x (List.mem_cons_of_mem _ hx)
   exact ⟨n, by simp only [Lib.decFrom, hd, hn]⟩
end Go.HL
end
section
namespace Go.HL
end Go.HL
end
section
namespace Go.HL
end Go.HL
end
section
namespace Go.HL
end Go.HL
end
section
namespace Go.Proofs.YtbfikmihcpfgaaaGreatDoor
open Go.HL
set_option maxRecDepth 100000
set_option linter.unusedVariables false
set_option linter.unusedSimpArgs false
/-- what every writing method of a builder calls first -/
theorem c_strings_Builder_copyCheck [Tracks] {b : Nat} {h v : Value} {s : Str} : Con Tryz.prog 79 [.raw (.pointer (some ⟨b, 0, none⟩))] [.bld b 70 5 h v s] (fun x M' => x = .tup [] ∧ M' = [.bld b 70 5 h v s]) :=
 con_copyCheck (ρ := Tryz.lays240_ren) (el := 5) Tryz.lays240 ⟨by kernel_rfl, by kernel_rfl⟩

theorem maxLenIs [Tracks] : Tryz.prog.globalNamed "internal/bytealg.MaxLen" = some (Tryz.lays146_ren.g 1) := by kernel_rfl

theorem c_strings_Split [Tracks] {s : Str} {c : UInt8} (hs : s.length < 4294967281) : ConP Tryz.prog 72 [.str s, .str [c]] (.slice 1 ((spl c s).map .str)) :=
 conp_split Tryz.lays146 (by kernel_rfl) maxLenIs hs

theorem c_strings_CutSuffix [Tracks] {s p : Str} (hs : s.length ≤ 4294967281) : ConP Tryz.prog 118 [.str s, .str p] (.tup [.str (Lib.trimSuffix s p), .bool (Lib.hasSuffix s p)]) := conp_cutSuffix Tryz.lays104 hs

/-- (*strings.Builder).WriteString -/
theorem c_strings_Builder_WriteString [Tracks] {b : Nat} {v : Value} {s : Str} {t : Str}  (hl : s.length + t.length ≤ 1000000000) : Con Tryz.prog 36 [pAt b, .str t] [.bld b 70 5 v v s] (fun x M' => ∃ v', x = .tup [.int .i64 (t.length : Int), .raw .nilIface] ∧ M' = [.bld b 70 5 v' v' (s ++ t)]) := by
 refine Con.of_body Tryz.func36 rfl Tryz.ntmps36 rfl rfl ?_
 refine hw_reg ?_
 refine dp rfl (pop_assign rfl) ?_
 refine dp rfl (pop_assign rfl) ?_
 refine dn ?_
 refine hw_reg ?_
 refine dp rfl (pop_move rfl) ?_
 refine de rfl (eop_callx (i := 0) ca79 rfl (WeakL.refl _) rfl c_strings_Builder_copyCheck ?_)
 rintro _ _ ⟨rfl, rfl⟩
 refine dn ?_
 refine hw_reg ?_
 refine dp rfl (pop_move rfl) ?_
 refine dp rfl (pop_move rfl) ?_
 refine dp rfl ((by first | exact pop_nilCheck rfl | exact pop_nilCheck_raw rfl)) ?_
 refine dp rfl (pop_fieldAddr_raw ty70 rfl ty68 (by decide) rfl) ?_
 refine de rfl (eop_loadB (i := 0) ty68 rfl rfl ?_)
 refine dp rfl (pop_move rfl) ?_
 refine de rfl (eop_appendB (i := 0) ty68 ty9 ty5 rfl rfl rfl rfl rfl hl fun v14 => ?_)
 refine dp rfl ((by first | exact pop_nilCheck rfl | exact pop_nilCheck_raw rfl)) ?_
 refine dp rfl (pop_fieldAddr_raw ty70 rfl ty68 (by decide) rfl) ?_
 refine de0 (eop_storeB (i := 0) ty68 rfl rfl rfl ?_)
 refine dn ?_
 refine hw_reg ?_
 refine dp rfl (pop_move rfl) ?_
 refine dp rfl (pop_lens ty9 rfl) ?_
 refine dp rfl (pop_assign rfl) ?_
 refine dp rfl (pop_assign rfl) ?_
 refine dn ?_
 refine hw_ret ?_
 exact ret_q rfl ⟨v14, rfl, rfl⟩

/-- (*strings.Builder).Len -/
theorem c_strings_Builder_Len [Tracks] {b : Nat} {v : Value} {s : Str}   : Con Tryz.prog 37 [pAt b] [.bld b 70 5 v v s] (fun x M' => x = .int .i64 (s.length : Int) ∧ M' = [.bld b 70 5 v v s]) := by
 refine Con.of_body Tryz.func37 rfl Tryz.ntmps37 rfl rfl ?_
 refine hw_reg ?_
 refine dp rfl (pop_assign rfl) ?_
 refine dn ?_
 refine hw_reg ?_
 refine dp rfl (pop_move rfl) ?_
 refine dp rfl ((by first | exact pop_nilCheck rfl | exact pop_nilCheck_raw rfl)) ?_
 refine dp rfl (pop_fieldAddr_raw ty70 rfl ty68 (by decide) rfl) ?_
 refine de rfl (eop_loadB (i := 0) ty68 rfl rfl ?_)
 refine de rfl (eop_lenB (i := 0) ty68 rfl rfl ?_)
 refine dp rfl (pop_assign rfl) ?_
 refine dn ?_
 refine hw_ret ?_
 exact ret_q rfl ⟨rfl, rfl⟩

/-- (*strings.Builder).String -/
theorem c_strings_Builder_String [Tracks] {b : Nat} {v : Value} {s : Str}   : Con Tryz.prog 38 [pAt b] [.bld b 70 5 v v s] (fun x M' => x = .str s ∧ M' = []) := by
 refine Con.of_body Tryz.func38 rfl Tryz.ntmps38 rfl rfl ?_
 refine hw_reg ?_
 refine dp rfl (pop_assign rfl) ?_
 refine dn ?_
 refine hw_bldc (i := 0) rfl fun hbv => ?_
 refine hw_draw (fun M => ∃ i : Nat, (M[i]? = some (.bld b 70 5 v v s)) ∨ ∃ p, M[i]? = some (.cells b [p, .raw v])) [3, 8] mixed ?_
 refine ahp 0 rfl rfl (by kernel_rfl) (by kernel_rfl) (pop_move rfl) ?_
 refine ahp 1 rfl rfl (by kernel_rfl) (by kernel_rfl) ((by first | exact pop_nilCheck rfl | exact pop_nilCheck_raw rfl)) ?_
 refine ahp 2 rfl rfl (by kernel_rfl) (by kernel_rfl) (pop_fieldAddr_raw ty70 rfl ty68 (by decide) rfl) ?_
 refine ahl 3 rfl rfl (by kernel_rfl) (by kernel_rfl) (by simp) ⟨0, .inl rfl⟩ (fun M hM => by obtain ⟨i, hi | ⟨p, hi⟩⟩ := hM; exact eop_loadB (i := i) ty68 rfl hi ⟨rfl, rfl⟩; exact eop_load (i := i) ty68 rfl hi (.inl ⟨rfl, rfl⟩) ⟨rfl, rfl⟩) ?_
 refine ahp 4 rfl rfl (by kernel_rfl) (by kernel_rfl) (pop_dataV hbv rfl) ?_
 refine ahp 5 rfl rfl (by kernel_rfl) (by kernel_rfl) (pop_move rfl) ?_
 refine ahp 6 rfl rfl (by kernel_rfl) (by kernel_rfl) ((by first | exact pop_nilCheck rfl | exact pop_nilCheck_raw rfl)) ?_
 refine ahp 7 rfl rfl (by kernel_rfl) (by kernel_rfl) (pop_fieldAddr_raw ty70 rfl ty68 (by decide) rfl) ?_
 refine ahl 8 rfl rfl (by kernel_rfl) (by kernel_rfl) (by simp) ⟨0, .inl rfl⟩ (fun M hM => by obtain ⟨i, hi | ⟨p, hi⟩⟩ := hM; exact eop_loadB (i := i) ty68 rfl hi ⟨rfl, rfl⟩; exact eop_load (i := i) ty68 rfl hi (.inl ⟨rfl, rfl⟩) ⟨rfl, rfl⟩) ?_
 refine ahp 9 rfl rfl (by kernel_rfl) (by kernel_rfl) (pop_lenV ty68 hbv rfl) ?_
 refine ahe 10 rfl (by kernel_rfl) ?_
 refine hop_e rfl (eop_strH (i := 0) (by kernel_rfl) (by kernel_rfl) rfl rfl rfl ?_)
 refine ⟨fun _ => .inl ⟨0, .inr ⟨_, rfl⟩⟩, ?_⟩
 refine ahp 11 rfl rfl (by kernel_rfl) (by kernel_rfl) (pop_assign rfl) ?_
 refine ahz (by kernel_rfl) ?_
 refine hw_ret ?_
 refine ret_g Ghost.drop rfl ⟨rfl, rfl⟩
end Go.Proofs.YtbfikmihcpfgaaaGreatDoor
end
section
namespace Go.HL
theorem numB_1g {s : Str} {m : Int} (h : (cutMinus s = [] ∨ m < ((cutMinus s).length : Int)) ∨ ((((cutMinus s).head?).getD 0).toNat : Int) = 48 ∧ ((1 : Int) < ((cutMinus s).length : Int) ∨ (cutMinus s).length < s.length)) : numB s m = false := by
 have : numC s m = true := decide_eq_true h
 simp [numB, this]
theorem numC_2g {s : Str} {m : Int} (h : (¬ cutMinus s = [] ∧ ((cutMinus s).length : Int) ≤ m) ∧ (((((cutMinus s).head?).getD 0).toNat : Int) = 48 → ((cutMinus s).length : Int) ≤ 1 ∧ s.length ≤ (cutMinus s).length)) : numC s m = false := by
 refine decide_eq_false ?_
 rintro ((a | a) | ⟨a, b⟩)
 ·exact h.1.1 a
 ·omega
 ·have := h.2 a; omega
set_option maxRecDepth 100000 in
theorem dig_dig10 : ∀ c : UInt8, dig c = dig10.contains c := fun c => by
 have : ∀ n, n < 256 → dig (UInt8.ofNat n) = dig10.contains (UInt8.ofNat n) := by decide
 have h := this c.toNat c.toNat_lt
 simpa using h
theorem digitVal_dig : ∀ c : UInt8, dig c = true → ∃ d, d < 10 ∧ Lib.digitVal c = some d ∧ c = UInt8.ofNat (48 + d) := fun c h => by
 simp only [dig, Bool.and_eq_true, decide_eq_true_eq] at h
 refine ⟨c.toNat - 48, by omega, by unfold Lib.digitVal; rw [if_pos h], ?_⟩
 rw [show 48 + (c.toNat - 48) = c.toNat by omega]; simp
theorem decDigits_big {u : Nat} (h : 10 ≤ u) : Lib.decDigits u = Lib.decDigits (u / 10) ++ [UInt8.ofNat (48 + u % 10)] := by
 rw [Lib.decDigits, dif_neg (by omega)]
theorem decDigits_small {u : Nat} (h : u < 10) : Lib.decDigits u = [UInt8.ofNat (48 + u)] := by
 rw [Lib.decDigits, dif_pos h]
/-- Digits without a nought ahead are the numeral of what they spell. -/
theorem canon_aux : ∀ (n : Nat) (t : Str), t.length = n + 1 → (∀ c ∈ t, dig c = true) → (t.length = 1 ∨ (t.head?).getD 0 ≠ 48) → ∃ v, Lib.decFrom 0 t = some v ∧ Lib.decDigits v = t ∧ ((t.head?).getD 0 ≠ 48 → 1 ≤ v)
 | 0, t, hl, hd, _ => by
   match t, hl with
   | [c], _ =>
     obtain ⟨d, hd1, hd2, hd3⟩ := digitVal_dig c (hd c (by simp))
     refine ⟨d, by simp [Lib.decFrom, hd2], by rw [decDigits_small hd1, hd3], fun h => ?_⟩
     rcases Nat.eq_zero_or_pos d with h0 | h0
     ·subst h0; exact absurd (by simp [hd3]) h
     ·exact h0
 | n + 1, t, hl, hd, hc => by
   obtain ⟨t', c, rfl⟩ : ∃ t' c, t = t' ++ [c] := by
    rcases List.eq_nil_or_concat t with h | ⟨t', c, h⟩
    ·subst h; simp at hl
    ·exact ⟨t', c, by simpa using h⟩
   simp only [List.length_append, List.length_cons, List.length_nil] at hl hc
   have hne : t' ≠ [] := by rintro rfl; simp at hl
   have hhd : ((t' ++ [c]).head?).getD 0 = (t'.head?).getD 0 := by
    cases t' with
    | nil => exact absurd rfl hne
    | cons a r => rfl
   rw [hhd] at hc ⊢
   have hc' : (t'.head?).getD 0 ≠ 48 := by
    rcases hc with h | h
    ·omega
    ·exact h
   obtain ⟨v, h1, h2, h3⟩ := canon_aux n t' (by omega) (fun x hx => hd x (List.mem_append_left _ hx)) (.inr hc')
   have hv := h3 hc'
   obtain ⟨d, hd1, hd2, hd3⟩ := digitVal_dig c (hd c (by simp))
   refine ⟨v * 10 + d, ?_, ?_, fun _ => by omega⟩
   ·rw [decFrom_app, h1]; simp [Lib.decFrom, hd2]
   ·rw [decDigits_big (by omega), show (v * 10 + d) / 10 = v by omega, show (v * 10 + d) % 10 = d by omega, h2, ← hd3]
theorem canon {t : Str} (h0 : t ≠ []) (hd : ∀ c ∈ t, dig c = true) (hc : t.length = 1 ∨ (t.head?).getD 0 ≠ 48) : ∃ v, Lib.decFrom 0 t = some v ∧ Lib.decDigits v = t ∧ ((t.head?).getD 0 ≠ 48 → 1 ≤ v) := by
 obtain ⟨n, hn⟩ : ∃ n, t.length = n + 1 := ⟨t.length - 1, by have := List.length_pos_iff.2 h0; omega⟩
 exact canon_aux n t hn hd hc
theorem head48 : ∀ u : Nat, ((Lib.decDigits u).head?).getD 0 = 48 → u = 0 := fun u => by
 induction u using Nat.strongRecOn with
 | ind u ih =>
   intro h
   by_cases hu : u < 10
   ·rw [decDigits_small hu] at h
    have : ∀ d, d < 10 → (UInt8.ofNat (48 + d)) = 48 → d = 0 := by decide
    exact this u hu (by simpa using h)
   ·rw [decDigits_big (by omega)] at h
    have h2 : ((Lib.decDigits (u / 10)).head?).getD 0 = 48 := by
     cases hq : Lib.decDigits (u / 10) with
     | nil => exact absurd hq (digits_ne _)
     | cons a r => rw [hq] at h; simpa using h
    have := ih (u / 10) (by omega) h2
    omega
theorem head_nat (t : Str) : (((t.head?).getD 0).toNat : Int) = 48 ↔ (t.head?).getD 0 = 48 := by
 constructor
 ·intro h
  have h' : ((t.head?).getD 0).toNat = 48 := by omega
  exact UInt8.toNat_inj.1 (h'.trans rfl)
 ·intro h; rw [h]; rfl
theorem cutMinus_cases (s : Str) : (∃ r, s = 45 :: r ∧ cutMinus s = r) ∨ ((∀ r, s ≠ 45 :: r) ∧ cutMinus s = s) := by
 cases s with
 | nil => exact .inr ⟨fun r h => (by cases h), rfl⟩
 | cons b r =>
   by_cases hb : b = 45
   ·subst hb; exact .inl ⟨r, rfl, rfl⟩
   ·refine .inr ⟨fun r' h => hb (List.cons.inj h).1, ?_⟩
    unfold cutMinus; split
    ·rename_i heq; exact absurd (List.cons.inj heq).1 hb
    ·rfl
theorem dig_not : dig 45 = false ∧ dig 43 = false := by decide
theorem atoi_pos {s : Str} {v : Nat} (h0 : s ≠ []) (hd : ∀ c ∈ s, dig c = true) (hv : Lib.decFrom 0 s = some v) : Lib.atoi s = some (v : Int) := by
 cases s with
 | nil => exact absurd rfl h0
 | cons b r =>
   have hb := hd b List.mem_cons_self
   have e1 : (b == 45) = false := by rw [beq_eq_false_iff_ne]; rintro rfl; rw [dig_not.1] at hb; cases hb
   have e2 : (b == 43) = false := by rw [beq_eq_false_iff_ne]; rintro rfl; rw [dig_not.2] at hb; cases hb
   simp [Lib.atoi, e1, e2, Lib.decNat, hv]
theorem atoi_minus {r : Str} {v : Nat} (h0 : r ≠ []) (hv : Lib.decFrom 0 r = some v) : Lib.atoi (45 :: r) = some (-(v : Int)) := by
 have : r.isEmpty = false := by cases r with
  | nil => exact absurd rfl h0
  | cons _ _ => rfl
 simp [Lib.atoi, Lib.decNat, hv, this]
/-- What is taken for a number strictly is its own numeral. -/
theorem numB_canon {s : Str} {m : Int} (h : numB s m = true) : (cutMinus s ≠ [] ∧ ((cutMinus s).length : Int) ≤ m ∧ ∀ c ∈ cutMinus s, dig c = true) ∧ (Lib.atoi s).isSome = true ∧ Lib.itoa (numV s) = s := by
 unfold numB at h
 rw [Bool.and_eq_true, Bool.not_eq_true'] at h
 obtain ⟨h1, h2⟩ := h
 have hd : ∀ c ∈ cutMinus s, dig c = true := List.all_eq_true.1 h2
 have h3 := of_decide_eq_false h1
 simp only [not_or, not_and] at h3
 obtain ⟨⟨h4, h5⟩, h6⟩ := h3
 rw [head_nat] at h6
 have hc : (cutMinus s).length = 1 ∨ ((cutMinus s).head?).getD 0 ≠ 48 := by
  by_cases e : ((cutMinus s).head?).getD 0 = 48
  ·have := h6 e
   have hp := List.length_pos_iff.2 h4
   left; omega
  ·exact .inr e
 obtain ⟨v, v1, v2, v3⟩ := canon h4 hd hc
 refine ⟨⟨h4, by omega, hd⟩, ?_⟩
 rcases cutMinus_cases s with ⟨r, rfl, hr⟩ | ⟨_, hr⟩
 ·rw [hr] at h4 h6 v1 v2 v3
  have ha := atoi_minus h4 v1
  have hne : (r.head?).getD 0 ≠ 48 := fun e => by have := h6 e; simp at this
  refine ⟨by rw [ha]; rfl, ?_⟩
  unfold numV
  rw [ha]
  show Lib.itoa (-(v : Int)) = _
  rw [Lib.itoa_neg v (v3 hne), v2]
 ·rw [hr] at h4 hd v1 v2
  have ha := atoi_pos h4 hd v1
  refine ⟨by rw [ha]; rfl, ?_⟩
  unfold numV
  rw [ha]
  show Lib.itoa (v : Int) = _
  rw [Lib.itoa_nonneg, v2]
theorem intC_f {s : Str} {m : Int} (h1 : cutMinus s ≠ []) (h2 : ((cutMinus s).length : Int) ≤ m) (h3 : ∀ c ∈ cutMinus s, dig c = true) : intC s m = false := by
 unfold intC
 have hp := List.length_pos_iff.2 h1
 rw [Bool.or_eq_false_iff]
 constructor
 ·simp [out]; omega
 ·have h : ∀ c ∈ cutMinus s, dig10.contains c = true := fun c hc => by rw [← dig_dig10]; exact h3 c hc
  unfold trim10 rtrim
  rw [dropW_all (s := (cutMinus s).reverse) fun c hc => h c (List.mem_reverse.1 hc)]
  rfl
theorem intC_of {s : Str} {m : Int} (h : intC s m = false) : cutMinus s ≠ [] ∧ ((cutMinus s).length : Int) ≤ m ∧ ∀ c ∈ cutMinus s, dig c = true := by
 unfold intC at h
 rw [Bool.or_eq_false_iff] at h
 obtain ⟨h1, h2⟩ := h
 have h1 := out_f h1
 have h3 := trim10_nil (by simpa using h2)
 refine ⟨fun e => by rw [e] at h1; simp at h1, h1.2, fun c hc => by rw [dig_dig10]; exact h3 c hc⟩
/-- Both ways to read a number say the same. -/
theorem num_int (s : Str) (m : Int) : numB s m = intB s m ∧ (numB s m = true → intR s m = numV s ∧ numR s m = numV s) := by
 cases hn : numB s m with
 | true =>
   obtain ⟨⟨a1, a2, a3⟩, _, a4⟩ := numB_canon hn
   have hc := intC_f (m := m) a1 a2 a3
   exact ⟨by simp [intB, hc, a4], fun _ => ⟨by simp [intR, hc], by simp [numR, hn]⟩⟩
 | false =>
   refine ⟨?_, fun h => by cases h⟩
   cases hc : intC s m with
   | true => simp [intB, hc]
   | false =>
     obtain ⟨a1, a2, a3⟩ := intC_of hc
     have hall : (cutMinus s).all dig = true := List.all_eq_true.2 a3
     have hC : numC s m = true := by
      unfold numB at hn
      rw [hall, Bool.and_true, Bool.not_eq_false'] at hn
      exact hn
     have h48 := of_decide_eq_true hC
     rw [head_nat] at h48
     have h48' : ((cutMinus s).head?).getD 0 = 48 ∧ ((1 : Int) < ((cutMinus s).length : Int) ∨ (cutMinus s).length < s.length) := by
      rcases h48 with (h | h) | h
      ·exact absurd h a1
      ·omega
      ·exact h
     have : Lib.itoa (numV s) ≠ s := by
      intro e
      rcases Int.lt_or_le (numV s) 0 with hneg | hpos
      ·obtain ⟨u, hu⟩ : ∃ u : Nat, numV s = -(u : Int) := ⟨(numV s).natAbs, by omega⟩
       rw [hu, Lib.itoa_neg u (by omega)] at e
       have hcut : cutMinus s = Lib.decDigits u := by rw [← e]; rfl
       rw [hcut] at h48'
       have := head48 u h48'.1
       omega
      ·obtain ⟨u, hu⟩ : ∃ u : Nat, numV s = (u : Int) := ⟨(numV s).toNat, by omega⟩
       rw [hu, Lib.itoa_nonneg] at e
       have hcut : cutMinus s = Lib.decDigits u := by rw [← e]; exact cut_digits u
       rw [hcut, ← e] at h48'
       have := head48 u h48'.1
       subst this
       have hl : (Lib.decDigits 0).length = 1 := by rw [decDigits_small (by omega)]; rfl
       omega
     simp [intB, this]
/-- What is taken for a number is read, and is not great. -/
theorem num_read {s : Str} {m : Int} (hm : m ≤ 17) (h : intC s m = false) : (Lib.atoi s).isSome = true ∧ s.length ≤ 18 ∧ -1000000000000000000 < numV s ∧ numV s < 1000000000000000000 := by
 obtain ⟨a1, a2, a3⟩ := intC_of h
 have a4 : ∀ c ∈ cutMinus s, dig10.contains c = true := fun c hc => by rw [← dig_dig10]; exact a3 c hc
 obtain ⟨n, hn⟩ := decFrom_some (cutMinus s) 0 a4
 have hl : s.length ≤ 18 := by
  have : s.length ≤ (cutMinus s).length + 1 := by
   unfold cutMinus; split <;> simp
  omega
 have hs : ∃ z, Lib.atoi s = some z := by
  rcases cutMinus_cases s with ⟨r, rfl, hr⟩ | ⟨_, hr⟩
  ·rw [hr] at a1 hn; exact ⟨_, atoi_minus a1 hn⟩
  ·rw [hr] at a1 a3 hn; exact ⟨_, atoi_pos a1 a3 hn⟩
 obtain ⟨z, hz⟩ := hs
 refine ⟨by rw [hz]; rfl, hl, ?_⟩
 have := Lib.atoi_bound hz hl
 unfold numV; rw [hz]; exact this
theorem numB_intC {s : Str} {m : Int} (h : numB s m = true) : intC s m = false := by
 obtain ⟨⟨a1, a2, a3⟩, _, _⟩ := numB_canon h
 exact intC_f a1 a2 a3
end Go.HL
end
section
namespace Go.HL
def wordsB (line : Str) (many : Int) : Bool := decide (((spl 32 line).length : Int) = many) && (spl 32 line).all (fun w => !w.isEmpty)
def wordsL (line : Str) (many : Int) : List Str := if wordsB line many then spl 32 line else []
theorem wordsB_1 {line : Str} {many : Int} (h : ((spl 32 line).length : Int) ≠ many) : wordsB line many = false := by simp [wordsB, h]
theorem wordsB_2 {line : Str} {many : Int} (h : (spl 32 line).all (fun w => !w.isEmpty) = false) : wordsB line many = false := by simp [wordsB, h]
theorem wordsB_3 {line : Str} {many : Int} (h0 : ((spl 32 line).length : Int) = many) (h : (spl 32 line).all (fun w => !w.isEmpty) = true) : wordsB line many = true := by simp [wordsB, h0, h]
theorem all_nilW {x : Str} {r : List Str} (h : x = []) : (x :: r).all (fun w => !w.isEmpty) = false := by subst h; rfl
def lnsL (text : Str) : List Str := if text = [] then [] else spl 10 (Lib.trimSuffix text [10])
def lnsE (text : Str) : Bool := if text = [] then true else Lib.hasSuffix text [10]
/-- The lines that a line feed ends. -/
def lns (text : Str) : List Str := (spl 10 text).dropLast
def goL (ok : Str → Bool) : Nat → List Str → Int × Bool
 | _, [] => (0, true)
 | k, [s] => if s = [] then (0, true) else ((k : Int), false)
 | k, s :: t :: r => if ok s then goL ok (k + 1) (t :: r) else ((k : Int), false)
def eachP (ok : Str → Bool) (ends : Bool) (n : Nat) : Nat → List Str → Int × Bool
 | _, [] => (0, true)
 | k, s :: r => if (!ends && decide ((k : Int) = (n : Int) - 1)) || !(ok s) then ((k : Int), false) else eachP ok ends n (k + 1) r
theorem eachP_cons (ok : Str → Bool) (ends : Bool) (n k : Nat) (s : Str) (r : List Str) : eachP ok ends n k (s :: r) = if (!ends && decide ((k : Int) = (n : Int) - 1)) || !(ok s) then ((k : Int), false) else eachP ok ends n (k + 1) r := rfl
theorem hasSuffix_iff {t : Str} : Lib.hasSuffix t [10] = true ↔ ∃ body, t = body ++ [10] := by
 unfold Lib.hasSuffix
 rw [List.isSuffixOf_iff_suffix]
 constructor
 ·rintro ⟨b, h⟩; exact ⟨b, h.symm⟩
 ·rintro ⟨b, h⟩; exact ⟨b, h.symm⟩
theorem trimSuffix_app (body : Str) : Lib.trimSuffix (body ++ [10]) [10] = body := by
 have : Lib.hasSuffix (body ++ [10]) [10] = true := hasSuffix_iff.2 ⟨_, rfl⟩
 unfold Lib.trimSuffix
 rw [if_pos this]
 simp
theorem trimSuffix_no {t : Str} (h : Lib.hasSuffix t [10] = false) : Lib.trimSuffix t [10] = t := by
 unfold Lib.trimSuffix
 rw [if_neg (by simp [h])]
theorem spl_snoc (c : UInt8) : ∀ b : Str, spl c (b ++ [c]) = spl c b ++ [[]]
 | [] => by simp [spl]
 | x :: b => by
   by_cases h : x = c
   ·subst h; rw [List.cons_append, spl_eq, spl_eq, spl_snoc x b]; rfl
   ·obtain ⟨y, r, hy⟩ := spl_cons (c := c) b
    have h2 := spl_snoc c b
    rw [hy] at h2
    rw [List.cons_append, spl_of_ne h hy, spl_of_ne h (x := y) (r := r ++ [[]]) (by rw [h2]; rfl)]
    rfl
theorem spl_last (c : UInt8) : ∀ b : Str, (∀ t, b ≠ t ++ [c]) → b ≠ [] → (spl c b).getLast (spl_ne c b) ≠ []
 | [], _, h => absurd rfl h
 | x :: b, h, _ => by
   by_cases hb : b = []
   ·subst hb
    have : x ≠ c := fun e => h [] (by simp [e])
    have h2 : spl c [x] = [[x]] := spl_of_ne this rfl
    simp [h2]
   ·have ih := spl_last c b (fun t e => h (x :: t) (by rw [e]; rfl)) hb
    by_cases hx : x = c
    ·subst hx
     have h2 := spl_eq x b
     simp only [h2]
     rw [List.getLast_cons (spl_ne x b)]; exact ih
    ·obtain ⟨y, r, hy⟩ := spl_cons (c := c) b
     have h2 := spl_of_ne hx hy
     simp only [h2]
     cases r with
     | nil => simp
     | cons z r =>
       simp only [hy] at ih
       rw [List.getLast_cons (by simp)] at ih ⊢
       exact ih
theorem lnsL_ends {text : Str} (h0 : text ≠ []) (h : lnsE text = true) : lnsE text = Lib.hasSuffix text [10] ∧ spl 10 text = lnsL text ++ [[]] ∧ lns text = lnsL text := by
 have e : lnsE text = Lib.hasSuffix text [10] := by unfold lnsE; rw [if_neg h0]
 obtain ⟨body, rfl⟩ := hasSuffix_iff.1 (e ▸ h)
 have h1 : lnsL (body ++ [10]) = spl 10 body := by unfold lnsL; rw [if_neg h0, trimSuffix_app]
 have h2 := spl_snoc 10 body
 refine ⟨e, by rw [h2, h1], ?_⟩
 unfold lns; rw [h2, h1]; simp
theorem lnsL_open {text : Str} (h : lnsE text = false) : text ≠ [] ∧ lnsL text = spl 10 text ∧ (lnsL text).getLast? ≠ some [] := by
 have h0 : text ≠ [] := by rintro rfl; simp [lnsE] at h
 have e : Lib.hasSuffix text [10] = false := by unfold lnsE at h; rw [if_neg h0] at h; exact h
 have h1 : lnsL text = spl 10 text := by unfold lnsL; rw [if_neg h0, trimSuffix_no e]
 refine ⟨h0, h1, ?_⟩
 rw [h1, List.getLast?_eq_some_getLast (spl_ne 10 text)]
 have := spl_last 10 text (fun t et => by rw [hasSuffix_iff.2 ⟨t, et⟩] at e; cases e) h0
 intro hh; exact this (Option.some.inj hh)
theorem eachP_ends (ok : Str → Bool) (n : Nat) : ∀ (l : List Str) (k : Nat), eachP ok true n k l = goL ok k (l ++ [[]])
 | [], k => by simp [eachP, goL]
 | s :: r, k => by
   have ih := eachP_ends ok n r (k + 1)
   obtain ⟨t, q, hq⟩ : ∃ t q, r ++ [[]] = t :: q := by
    cases r with
    | nil => exact ⟨[], [], rfl⟩
    | cons a b => exact ⟨a, b ++ [[]], rfl⟩
   rw [List.cons_append, hq]
   rw [hq] at ih
   simp only [eachP, goL, Bool.not_true, Bool.false_and, Bool.false_or, ih]
   cases ok s <;> simp
theorem eachP_open (ok : Str → Bool) (n : Nat) : ∀ (l : List Str) (k : Nat), l ≠ [] → n = k + l.length → l.getLast? ≠ some [] → eachP ok false n k l = goL ok k l
 | [], k, h, _, _ => absurd rfl h
 | [s], k, _, hn, hl => by
   have : s ≠ [] := fun e => hl (by simp [e])
   simp only [List.length_cons, List.length_nil] at hn
   have h2 : decide ((k : Int) = (n : Int) - 1) = true := decide_eq_true (by omega)
   simp [eachP, goL, this, h2]
 | s :: t :: r, k, _, hn, hl => by
   simp only [List.length_cons] at hn
   have ih := eachP_open ok n (t :: r) (k + 1) (by simp) (by simp only [List.length_cons]; omega) (by simpa using hl)
   have h2 : decide ((k : Int) = (n : Int) - 1) = false := decide_eq_false (by omega)
   rw [eachP, goL, h2, ih]
   cases ok s <;> simp
theorem eachP_goL (ok : Str → Bool) (text : Str) : eachP ok (lnsE text) (lnsL text).length 0 (lnsL text) = goL ok 0 (spl 10 text) := by
 by_cases h0 : text = []
 ·subst h0; simp [lnsL, eachP, goL, spl]
 ·cases he : lnsE text with
  | true =>
    obtain ⟨_, h1, _⟩ := lnsL_ends h0 he
    rw [h1]; exact eachP_ends ok _ _ _
  | false =>
    obtain ⟨_, h1, h2⟩ := lnsL_open he
    rw [eachP_open ok _ _ _ (by rw [h1]; exact spl_ne 10 text) (by omega) h2, h1]
/-- All lines were taken: the text ends with a line feed. -/
theorem eachP_true {ok : Str → Bool} {text : Str} (h : (goL ok 0 (spl 10 text)).2 = true) : lns text = lnsL text := by
 by_cases h0 : text = []
 ·subst h0; rfl
 ·cases he : lnsE text with
  | true => exact (lnsL_ends h0 he).2.2
  | false =>
    exfalso
    rw [← eachP_goL] at h
    obtain ⟨_, h1, h2⟩ := lnsL_open he
    rw [he] at h
    have key : ∀ (l : List Str) (k : Nat), l ≠ [] → (lnsL text).length = k + l.length → (eachP ok false (lnsL text).length k l).2 = false := by
     intro l
     induction l with
     | nil => intro k h; exact absurd rfl h
     | cons s r ih =>
       intro k _ hn
       simp only [List.length_cons] at hn
       simp only [eachP]
       by_cases hr : r = []
       ·subst hr
        simp only [List.length_nil] at hn
        have : decide ((k : Int) = ((lnsL text).length : Int) - 1) = true := decide_eq_true (by omega)
        rw [this]; rfl
       ·split
        ·rfl
        ·exact ih (k + 1) hr (by omega)
    rw [key _ 0 (by rw [h1]; exact spl_ne 10 text) (by omega)] at h
    cases h
theorem trimSuffix_len (text : Str) : (Lib.trimSuffix text [10]).length ≤ text.length := by unfold Lib.trimSuffix; split <;> simp
theorem lnsL_many (text : Str) : (lnsL text).length ≤ text.length := by
 by_cases h0 : text = []
 ·subst h0; simp [lnsL]
 ·cases he : lnsE text with
  | true =>
    obtain ⟨e, h1, _⟩ := lnsL_ends h0 he
    obtain ⟨body, hb⟩ := hasSuffix_iff.1 (e ▸ he)
    have h2 := spl_len 10 text
    rw [h1] at h2
    have h3 := List.count_le_length (a := (10 : UInt8)) (l := text)
    simp at h2; omega
  | false =>
    obtain ⟨_, h1, _⟩ := lnsL_open he
    have e : Lib.hasSuffix text [10] = false := by unfold lnsE at he; rw [if_neg h0] at he; exact he
    rw [h1, spl_len]
    have h4 : text.count 10 ≤ text.length := List.count_le_length
    rcases Nat.lt_or_ge (text.count 10) text.length with h | h
    ·omega
    ·exfalso
     have hall : ∀ c ∈ text, c = 10 := fun c hc => (List.count_eq_length.1 (by omega : text.count 10 = text.length) c hc).symm
     rcases List.eq_nil_or_concat text with h5 | ⟨t', c, h5⟩
     ·exact h0 h5
     ·have : c = 10 := hall c (by rw [h5]; simp)
      subst this
      have h6 : text = t' ++ [10] := by rw [h5]; simp
      rw [hasSuffix_iff.2 ⟨t', h6⟩] at e; cases e
theorem lnsL_len {text : Str} : ∀ x ∈ lnsL text, x.length ≤ text.length := fun x hx => by
 unfold lnsL at hx
 split at hx
 ·cases hx
 ·exact Nat.le_trans (spl_mem_len 10 _ x hx) (trimSuffix_len text)
/-- All is taken where each line is, and the last one is ended. -/
theorem goL_all {ok : Str → Bool} : ∀ (l : List Str) (k : Nat), (∀ s ∈ l, ok s = true) → goL ok k (l ++ [[]]) = (0, true)
 | [], k, _ => by simp [goL]
 | s :: r, k, h => by
   have ih := goL_all r (k + 1) fun x hx => h x (by simp [hx])
   obtain ⟨t, q, hq⟩ : ∃ t q, r ++ [[]] = t :: q := by
    cases r with
    | nil => exact ⟨[], [], rfl⟩
    | cons a b => exact ⟨a, b ++ [[]], rfl⟩
   rw [List.cons_append, hq]
   rw [hq] at ih
   simp only [goL, h s (by simp), if_true, ih]
theorem goL_of {ok : Str → Bool} : ∀ (l : List Str) (k : Nat), l ≠ [] → (goL ok k l).2 = true → (goL ok k l).1 = 0 ∧ (∀ s ∈ l.dropLast, ok s = true) ∧ l.getLast? = some []
 | [], k, h, _ => absurd rfl h
 | [s], k, _, h => by
   simp only [goL] at h ⊢
   split at h
   ·rename_i hs; subst hs; simp
   ·cases h
 | s :: t :: r, k, _, h => by
   simp only [goL] at h ⊢
   split at h
   ·rename_i hs
    rw [if_pos hs]
    obtain ⟨h1, h2, h3⟩ := goL_of (t :: r) (k + 1) (by simp) h
    refine ⟨h1, fun x hx => ?_, by simpa using h3⟩
    rw [List.dropLast_cons_cons] at hx
    rcases List.mem_cons.1 hx with rfl | hx
    ·exact hs
    ·exact h2 x hx
   ·cases h
end Go.HL
end
section
namespace Go.HL
end Go.HL
end
section
namespace Go.HL
theorem ret_gw [Tracks] {rs : List ResultVar} {e e' : Env} {M M' : List MObj} {h h' : HVal} {Q : HVal → List MObj → Prop} (hg : Ghost e M e' M') (hr : resH e' rs = some h) (hw : Weak h h') (hh : Q h' M') : RetQ rs Q .ret e M :=
 ⟨e', M', hg, h, h', hr, hw, hh⟩
theorem weakW [Tracks] {line : Str} {many : Int} (h : wordsB line many = false) : Weak (.tup [.raw (.slice none 0 0), .bool false]) (.tup [eSs (wordsL line many), .bool (wordsB line many)]) := by
 rw [wordsL, h]; exact weak_tup2 (weak_nil 1) (Weak.refl _)
theorem eqW {line : Str} {many : Int} (h : wordsB line many = true) : HVal.tup [eSs (spl 32 line), .bool true] = .tup [eSs (wordsL line many), .bool (wordsB line many)] := by
 rw [wordsL, h]; rfl
theorem weakLn [Tracks] {text : Str} (h : text = []) : Weak (.tup [.raw (.slice none 0 0), .bool true]) (.tup [eSs (lnsL text), .bool (lnsE text)]) := by
 subst h; exact weak_tup2 (weak_nil 1) (Weak.refl _)
theorem eqLn {text : Str} (h : text ≠ []) : HVal.tup [eSs (spl 10 (Lib.trimSuffix text [10])), .bool (Lib.hasSuffix text [10])] = .tup [eSs (lnsL text), .bool (lnsE text)] := by
 rw [lnsL, lnsE, if_neg h, if_neg h]
end Go.HL
end
section
namespace Go.Proofs.YtbfikmihcpfgaaaGreatDoor
open Go.HL
set_option maxRecDepth 100000
set_option linter.unusedVariables false
set_option linter.unusedSimpArgs false
theorem VL_two [Tracks] {I : Imm} {c d : HVal} {vs : List Value} (h : VL I [c, d] vs) : ∃ u v, vs = [u, v] ∧ V I c u ∧ V I d v := by
 have h1 := h.1
 rcases vs with _ | ⟨u, _ | ⟨v, _ | ⟨w, r⟩⟩⟩
 ·simp at h1
 ·simp at h1
 ·exact ⟨u, v, rfl, h.head, h.tail.head⟩
 ·simp at h1
theorem trimMinus [Tracks] (s : Str) : Lib.trimPrefix s [45] = cutMinus s := by
 unfold Lib.trimPrefix Lib.hasPrefix
 cases s with
 | nil => rfl
 | cons c r =>
   by_cases h : c = 45
   ·subst h; simp [cutMinus]
   ·have h' : ¬ (45 : UInt8) = c := fun e => h e.symm
    simp only [List.isPrefixOf, beq_iff_eq, h', Bool.and_eq_true, false_and, if_false]
    unfold cutMinus
    split
    ·rename_i heq; simp at heq; exact absurd heq.1 h
    ·rfl
/-- strings.TrimPrefix of a minus -/
theorem c_strings_TrimPrefix [Tracks] {s : Str} : ConP Tryz.prog 81 [.str s, .str [45]] (.str (cutMinus s)) :=
 conp_of_calls fun I w args ha => by
  obtain ⟨u, v, rfl, hu, hv⟩ := VL_two ha
  obtain rfl := hu.str_inv
  obtain rfl := hv.str_inv
  refine ⟨_, .str _, ?_⟩
  have := Any.strings_TrimPrefix Tryz.lays101 ⟨s.toArray⟩ ⟨[45].toArray⟩ w
  rw [show (⟨s.toArray⟩ : ByteArray).data.toList = s by simp, show (⟨[45].toArray⟩ : ByteArray).data.toList = [45] by simp, trimMinus] at this
  exact this
/-- strconv.Atoi of a short numeral -/
theorem c_strconv_Atoi [Tracks] {s : Str} (hl : s.length ≤ 18) (h : (Lib.atoi s).isSome = true) : ConP Tryz.prog 82 [.str s] (.tup [.int .i64 (numV s), .raw .nilIface]) :=
 conp_atoi fun w => Any.strconv_Atoi Tryz.lays172 ⟨s.toArray⟩ (numV s) (by simpa [ByteArray.size] using hl) (by
  obtain ⟨n, hn⟩ := Option.isSome_iff_exists.1 h
  simp [numV, hn]) w

/-- benchwarmer/base.Words -/
theorem c_base_Words [Tracks] {line : Str} {many : Int} (hl : line.length ≤ 1000000) : ConP Tryz.prog 41 [.str line, .int .i64 many] (.tup [eSs (wordsL line many), .bool (wordsB line many)]) := by
 have hsl := spl_len 32 line
 have hsc := List.count_le_length (a := (32 : UInt8)) (l := line)
 refine Con.of_body Tryz.func41 rfl Tryz.ntmps41 rfl rfl ?_
 refine hw_reg ?_
 refine dp rfl (pop_assign rfl) ?_
 refine dp rfl (pop_assign rfl) ?_
 refine dn ?_
 refine hw_reg ?_
 refine dp rfl (pop_move rfl) ?_
 refine dp rfl (pop_call ca72 rfl (WeakL.refl _) (c_strings_Split (c := 32) (by omega))) ?_
 refine dp rfl (pop_assign rfl) ?_
 refine dn ?_
 refine hw_seq ?_
 refine hw_reg ?_
 refine dp rfl (pop_move rfl) ?_
 refine dp rfl (pop_lenm ty44 rfl) ?_
 refine dp rfl (pop_move rfl) ?_
 refine dp rfl (pop_neq rfl rfl) ?_
 refine dn ?_
 refine hw_cond rfl (fun h1 => ?_) (fun h2 => ?_)
 ·try simp at h1
  refine hw_reg ?_
  refine dp rfl (pop_assign rfl) ?_
  refine dp rfl (pop_assign rfl) ?_
  refine dn ?_
  refine hw_ret ?_
  first
  | exact ret_w rfl (weakW (wordsB_1 h1))
  | exact ret_w rfl (weakW (wordsB_2 (hg.trans (all_nilW h5))))
  | exact ret_p rfl (eqW (wordsB_3 h2 hg))
 ·try simp at h2
  refine hw_skip ?_
  refine seqQ_n ?_
  refine hw_seq ?_
  refine hw_reg ?_
  refine dp rfl (pop_move rfl) ?_
  refine dp rfl (pop_lenm ty44 rfl) ?_
  refine dp rfl (pop_move rfl) ?_
  refine dn ?_
  refine hw_block ?_
  refine hw_loopw [4, 5, 8, 17, 18, 19, 20, 21, 22, 23] (fun (k : Nat) => [(17, .int .i64 k)]) (fun (k : Nat) => []) (fun (k : Nat) => k ≤ (spl 32 line).length ∧ ((spl 32 line).all (fun w => !w.isEmpty) = ((spl 32 line).drop k).all (fun w => !w.isEmpty))) (fun (k : Nat) => (spl 32 line).length - k) (0) ?_ ?_ ?_ ?_
  ·exact ⟨Nat.zero_le _, rfl⟩
  ·exact ⟨rfl, trivial⟩
  ·exact List.Perm.refl _
  ·intro k hinv
   obtain ⟨hk, hg⟩ := hinv
   refine hw_reg ?_
   refine dp rfl (pop_lss rfl rfl) ?_
   refine dn ?_
   refine hw_seq ?_
   refine hw_cond rfl (fun h3 => ?_) (fun h4 => ?_)
   ·try simp at h3
    obtain ⟨x, hx⟩ : ∃ x, (spl 32 line)[k]? = some x := ⟨_, List.getElem?_eq_getElem h3⟩
    have hdx := drop_cons hx
    rw [hdx] at hg
    refine hw_skip ?_
    refine seqQ_n ?_
    refine hw_seq ?_
    refine hw_block ?_
    refine hw_reg ?_
    refine dp rfl (pop_idx ty44 ty9 rfl rfl rfl (by first | assumption | simp_all)) ?_
    refine dp rfl (pop_load ty9 rfl rfl rfl) ?_
    refine dp rfl (pop_assign rfl) ?_
    refine dn ?_
    refine hw_reg ?_
    refine dp rfl (pop_move rfl) ?_
    refine dp rfl (pop_eqls rfl rfl) ?_
    refine dn ?_
    refine hw_cond rfl (fun h5 => ?_) (fun h6 => ?_)
    ·try simp at h5
     refine hw_reg ?_
     refine dp rfl (pop_assign rfl) ?_
     refine dp rfl (pop_assign rfl) ?_
     refine dn ?_
     refine hw_ret ?_
     first
     | exact ret_w rfl (weakW (wordsB_1 h1))
     | exact ret_w rfl (weakW (wordsB_2 (hg.trans (all_nilW h5))))
     | exact ret_p rfl (eqW (wordsB_3 h2 hg))
    ·try simp at h6
     refine hw_skip ?_
     refine blockQ_n ?_
     refine seqQ_n ?_
     refine hw_reg1 ?_
     refine dp rfl (pop_add64 rfl rfl (by omega) (by omega)) ?_
     refine dp rfl (pop_move rfl) ?_
     refine dn ?_
     refine ⟨k + 1, ?_, ?_, ⟨rfl, trivial⟩, (by repeat (first | exact keeps_refl | refine keeps_upd rfl ?_ | refine keeps_loop rfl rfl ?_)), List.Perm.refl _⟩
     ·refine ⟨by omega, ?_⟩
      rw [hg]; simp_all
     ·dsimp only; omega
   ·try simp at h4
    have hnk : (spl 32 line).length ≤ k := by omega
    obtain rfl : k = (spl 32 line).length := by omega
    rw [drop_all (Nat.le_refl _)] at hg
    refine hw_exit ?_
    refine seqQ_x ?_
    refine loopQ_x ?_
    refine blockQ_eq ?_
    refine seqQ_n ?_
    refine hw_reg ?_
    refine dp rfl (pop_move rfl) ?_
    refine dp rfl (pop_assign rfl) ?_
    refine dp rfl (pop_assign rfl) ?_
    refine dn ?_
    refine hw_ret ?_
    first
    | exact ret_w rfl (weakW (wordsB_1 h1))
    | exact ret_w rfl (weakW (wordsB_2 (hg.trans (all_nilW h5))))
    | exact ret_p rfl (eqW (wordsB_3 h2 hg))

/-- benchwarmer/base.Lines -/
theorem c_base_Lines [Tracks] {text : Str} (ht : text.length ≤ 1000000) : ConP Tryz.prog 80 [.str text] (.tup [eSs (lnsL text), .bool (lnsE text)]) := by
 have htl : (Lib.trimSuffix text [10]).length ≤ text.length := by unfold Lib.trimSuffix; split <;> simp
 refine Con.of_body Tryz.func80 rfl Tryz.ntmps80 rfl rfl ?_
 refine hw_reg ?_
 refine dp rfl (pop_assign rfl) ?_
 refine dp rfl (pop_assign rfl) ?_
 refine dn ?_
 refine hw_seq ?_
 refine hw_reg ?_
 refine dp rfl (pop_move rfl) ?_
 refine dp rfl (pop_eqls rfl rfl) ?_
 refine dn ?_
 refine hw_cond rfl (fun h1 => ?_) (fun h2 => ?_)
 ·try simp at h1
  refine hw_reg ?_
  refine dp rfl (pop_assign rfl) ?_
  refine dp rfl (pop_assign rfl) ?_
  refine dn ?_
  refine hw_ret ?_
  first
  | exact ret_w rfl (weakLn h1)
  | exact ret_p rfl (eqLn h2)
 ·try simp at h2
  refine hw_skip ?_
  refine seqQ_n ?_
  refine hw_reg ?_
  refine dp rfl (pop_move rfl) ?_
  refine dp rfl (pop_call ca118 rfl (WeakL.refl _) (c_strings_CutSuffix (p := [10]) (by omega))) ?_
  refine dp rfl (pop_move rfl) ?_
  refine dp rfl (pop_extract rfl rfl) ?_
  refine dp rfl (pop_extract rfl rfl) ?_
  refine dp rfl (pop_assign rfl) ?_
  refine dp rfl (pop_assign rfl) ?_
  refine dn ?_
  refine hw_reg ?_
  refine dp rfl (pop_move rfl) ?_
  refine dp rfl (pop_call ca72 rfl (WeakL.refl _) (c_strings_Split (c := 10) (by omega))) ?_
  refine dp rfl (pop_move rfl) ?_
  refine dp rfl (pop_assign rfl) ?_
  refine dp rfl (pop_assign rfl) ?_
  refine dn ?_
  refine hw_ret ?_
  first
  | exact ret_w rfl (weakLn h1)
  | exact ret_p rfl (eqLn h2)

/-- benchwarmer/base.Number -/
theorem c_base_Number_g [Tracks] {s : Str} {m : Int} (hs : s.length ≤ 1000000) (hm : m ≤ 17) : ConP Tryz.prog 42 [.str s, .int .i64 m] (.tup [.int .i64 (numR s m), .bool (numB s m)]) := by
 have hcl := cutMinus_len s
 refine Con.of_body Tryz.func42 rfl Tryz.ntmps42 rfl rfl ?_
 refine hw_reg ?_
 refine dp rfl (pop_assign rfl) ?_
 refine dp rfl (pop_assign rfl) ?_
 refine dn ?_
 refine hw_reg ?_
 refine dp rfl (pop_move rfl) ?_
 refine dp rfl (pop_call ca81 rfl (WeakL.refl _) c_strings_TrimPrefix) ?_
 refine dp rfl (pop_assign rfl) ?_
 refine dn ?_
 refine hw_seq ?_
 refine hw_reg ?_
 refine dp rfl (pop_move rfl) ?_
 refine dp rfl (pop_eqls rfl rfl) ?_
 refine dp rfl (pop_move rfl) ?_
 refine dg rfl rfl (fun hc => ⟨_, OpenTo.refl _, pop_move rfl⟩) ?_
 refine dg rfl rfl (fun hc => ⟨_, OpenTo.upd (t := 15) rfl (by first | exact hc | simp_all) (OpenTo.refl _), pop_lens ty9 rfl⟩) ?_
 refine dg rfl rfl (fun hc => ⟨_, OpenTo.refl _, pop_move rfl⟩) ?_
 refine dg rfl rfl (fun hc => ⟨_, OpenTo.upd (t := 17) rfl (by first | exact hc | simp_all) (OpenTo.upd (t := 16) rfl (by first | exact hc | simp_all) (OpenTo.refl _)), pop_gtr rfl rfl⟩) ?_
 refine dp rfl (pop_picko rfl (.inl rfl) (.inr ⟨_, rfl, fun h => by simp_all⟩)) ?_
 refine dp rfl (pop_move rfl) ?_
 refine dg rfl rfl (fun hc => ⟨_, OpenTo.refl _, pop_move rfl⟩) ?_
 refine dg rfl rfl (fun hc => ⟨_, OpenTo.upd (t := 21) rfl (by first | exact hc | simp_all) (OpenTo.refl _), pop_indexs (j := 0) (b := (cutMinus s).headD 0) ty9 rfl rfl rfl (hd0 (by simp_all))⟩) ?_
 refine dg rfl rfl (fun hc => ⟨_, OpenTo.upd (t := 22) rfl (by first | exact hc | simp_all) (OpenTo.refl _), pop_eql rfl rfl⟩) ?_
 refine dg rfl rfl (fun hc => ⟨_, OpenTo.upd (t := 23) rfl (by first | exact hc | simp_all) (OpenTo.refl _), pop_move rfl⟩) ?_
 refine dg rfl rfl (fun hc => ⟨_, OpenTo.refl _, pop_move rfl⟩) ?_
 refine dg rfl rfl (fun hc => ⟨_, OpenTo.upd (t := 25) rfl (by first | exact hc | simp_all) (OpenTo.refl _), pop_lens ty9 rfl⟩) ?_
 refine dg rfl rfl (fun hc => ⟨_, OpenTo.upd (t := 26) rfl (by first | exact hc | simp_all) (OpenTo.refl _), pop_gtr rfl rfl⟩) ?_
 refine dg rfl rfl (fun hc => ⟨_, OpenTo.upd (t := 27) rfl (by first | exact hc | simp_all) (OpenTo.refl _), pop_move rfl⟩) ?_
 refine dg rfl rfl (fun hc => ⟨_, OpenTo.refl _, pop_move rfl⟩) ?_
 refine dg rfl rfl (fun hc => ⟨_, OpenTo.upd (t := 29) rfl (by first | exact hc | simp_all) (OpenTo.refl _), pop_lens ty9 rfl⟩) ?_
 refine dg rfl rfl (fun hc => ⟨_, OpenTo.refl _, pop_move rfl⟩) ?_
 refine dg rfl rfl (fun hc => ⟨_, OpenTo.upd (t := 31) rfl (by first | exact hc | simp_all) (OpenTo.refl _), pop_lens ty9 rfl⟩) ?_
 refine dg rfl rfl (fun hc => ⟨_, OpenTo.upd (t := 32) rfl (by first | exact hc | simp_all) (OpenTo.upd (t := 30) rfl (by first | exact hc | simp_all) (OpenTo.refl _)), pop_gtr rfl rfl⟩) ?_
 refine dg rfl rfl (fun hc => ⟨_, OpenTo.upd (t := 28) rfl (by first | exact hc | simp_all) (OpenTo.refl _), pop_picko rfl (.inl rfl) (.inr ⟨_, rfl, fun h => by simp_all⟩)⟩) ?_
 refine dg rfl rfl (fun hc => ⟨_, OpenTo.upd (t := 24) rfl (by first | exact hc | simp_all) (OpenTo.refl _), pop_picko rfl (.inr ⟨_, rfl, fun h => by simp_all⟩) (.inl rfl)⟩) ?_
 refine dp rfl (pop_picko rfl (.inl rfl) (.inr ⟨_, rfl, fun h => by simp_all⟩)) ?_
 refine dn ?_
 refine hw_cond rfl (fun h1 => ?_) (fun h2 => ?_)
 ·try simp at h1
  refine hw_reg ?_
  refine dp rfl (pop_assign rfl) ?_
  refine dp rfl (pop_assign rfl) ?_
  refine dn ?_
  refine hw_ret ?_
  refine ret_p rfl ?_
  show HVal.tup _ = _
  first | (rw [numR, numB_1g h1]; rfl) | (rw [numR, show numB s m = false by rw [numB, hg, List.all_cons, dig_f h5]; simp]; rfl) | (rw [numR, hnb]; rfl)
 ·try simp at h2
  refine hw_skip ?_
  refine seqQ_n ?_
  refine hw_seq ?_
  refine hw_reg ?_
  refine dp rfl (pop_move rfl) ?_
  refine dp rfl (pop_lens ty9 rfl) ?_
  refine dp rfl (pop_move rfl) ?_
  refine dn ?_
  refine hw_block ?_
  refine hw_loopw [4, 5, 7, 39, 40, 41, 42, 43, 44, 45, 46, 47, 48, 49, 50, 51, 52] (fun (k : Nat) => [(39, .int .i64 k)]) (fun (k : Nat) => []) (fun (k : Nat) => k ≤ (cutMinus s).length ∧ (cutMinus s).all dig = ((cutMinus s).drop k).all dig) (fun (k : Nat) => (cutMinus s).length - k) (0) ?_ ?_ ?_ ?_
  ·exact ⟨Nat.zero_le _, rfl⟩
  ·exact ⟨rfl, trivial⟩
  ·exact List.Perm.refl _
  ·intro k hinv
   obtain ⟨hk, hg⟩ := hinv
   refine hw_reg ?_
   refine dp rfl (pop_lss rfl rfl) ?_
   refine dn ?_
   refine hw_seq ?_
   refine hw_cond rfl (fun h3 => ?_) (fun h4 => ?_)
   ·try simp at h3
    obtain ⟨x, hx⟩ : ∃ x, (cutMinus s)[k]? = some x := ⟨_, List.getElem?_eq_getElem h3⟩
    have hd := drop_cons hx
    rw [hd] at hg
    refine hw_skip ?_
    refine seqQ_n ?_
    refine hw_seq ?_
    refine hw_block ?_
    refine hw_reg ?_
    refine dp rfl (pop_move rfl) ?_
    refine dp rfl (pop_assign rfl) ?_
    refine dn ?_
    refine hw_reg ?_
    refine dp rfl (pop_move rfl) ?_
    refine dp rfl (pop_move rfl) ?_
    refine dp rfl (pop_indexs ty9 rfl rfl rfl (by first | assumption | simp_all)) ?_
    refine dp rfl (pop_lss rfl rfl) ?_
    refine dp rfl (pop_move rfl) ?_
    refine dg rfl rfl (fun hc => ⟨_, OpenTo.refl _, pop_move rfl⟩) ?_
    refine dg rfl rfl (fun hc => ⟨_, OpenTo.refl _, pop_move rfl⟩) ?_
    refine dg rfl rfl (fun hc => ⟨_, OpenTo.upd (t := 48) rfl (by first | exact hc | simp_all) (OpenTo.upd (t := 47) rfl (by first | exact hc | simp_all) (OpenTo.refl _)), pop_indexs ty9 rfl rfl rfl (by first | assumption | simp_all)⟩) ?_
    refine dg rfl rfl (fun hc => ⟨_, OpenTo.upd (t := 49) rfl (by first | exact hc | simp_all) (OpenTo.refl _), pop_gtr rfl rfl⟩) ?_
    refine dp rfl (pop_picko rfl (.inl rfl) (.inr ⟨_, rfl, fun h => by simp_all⟩)) ?_
    refine dn ?_
    refine hw_cond rfl (fun h5 => ?_) (fun h6 => ?_)
    ·try simp at h5
     refine hw_reg ?_
     refine dp rfl (pop_assign rfl) ?_
     refine dp rfl (pop_assign rfl) ?_
     refine dn ?_
     refine hw_ret ?_
     refine ret_p rfl ?_
     show HVal.tup _ = _
     first | (rw [numR, numB_1g h1]; rfl) | (rw [numR, show numB s m = false by rw [numB, hg, List.all_cons, dig_f h5]; simp]; rfl) | (rw [numR, hnb]; rfl)
    ·try simp at h6
     refine hw_skip ?_
     refine blockQ_n ?_
     refine seqQ_n ?_
     refine hw_reg1 ?_
     refine dp rfl (pop_add64 rfl rfl (by omega) (by omega)) ?_
     refine dp rfl (pop_move rfl) ?_
     refine dn ?_
     refine ⟨k + 1, ?_, ?_, ⟨rfl, trivial⟩, (by repeat (first | exact keeps_refl | refine keeps_upd rfl ?_ | refine keeps_loop rfl rfl ?_)), List.Perm.refl _⟩
     ·refine ⟨by omega, ?_⟩
      rw [hg, List.all_cons, dig_t h6]; rfl
     ·dsimp only; omega
   ·try simp at h4
    rw [drop_all (by omega)] at hg
    refine hw_exit ?_
    refine seqQ_x ?_
    refine loopQ_x ?_
    refine blockQ_eq ?_
    refine seqQ_n ?_
    refine hw_reg ?_
    refine dp rfl (pop_move rfl) ?_
    have hnb : numB s m = true := by simp [numB, numC_2g h2, hg]
    obtain ⟨hvat, hv18, _, _⟩ := num_read hm (numB_intC hnb)
    refine dp rfl (pop_call ca82 rfl (WeakL.refl _) (c_strconv_Atoi hv18 hvat)) ?_
    refine dp rfl (pop_move rfl) ?_
    refine dp rfl (pop_extract rfl rfl) ?_
    refine dp rfl (pop_extract rfl rfl) ?_
    refine dp rfl (pop_assign rfl) ?_
    refine dp rfl (pop_assign rfl) ?_
    refine dn ?_
    refine hw_draw (fun _ => True) [] mixed ?_
    refine ahp 0 rfl rfl (by kernel_rfl) (by kernel_rfl) (pop_move rfl) ?_
    refine ahp 1 rfl rfl (by kernel_rfl) (by kernel_rfl) (pop_move rfl) ?_
    refine ahp 2 rfl rfl (by kernel_rfl) (by kernel_rfl) (pop_eqnilI Tryz.underlying72 rfl) ?_
    refine ahp 3 rfl rfl (by kernel_rfl) (by kernel_rfl) (pop_assign rfl) ?_
    refine ahp 4 rfl rfl (by kernel_rfl) (by kernel_rfl) (pop_assign rfl) ?_
    refine ahz (by kernel_rfl) ?_
    refine hw_ret ?_
    refine ret_p rfl ?_
    show HVal.tup _ = _
    first | (rw [numR, numB_1g h1]; rfl) | (rw [numR, show numB s m = false by rw [numB, hg, List.all_cons, dig_f h5]; simp]; rfl) | (rw [numR, hnb]; rfl)

end Go.Proofs.YtbfikmihcpfgaaaGreatDoor
end
section
namespace Go.HL
section
variable {κ : Type}
end
end Go.HL
end
section
namespace Go.HL
section
variable {P : Program} {e : Env} {dst : Option Tmp} {ty : TypeId} {pos : String} {af : Array Edge} {g : Option (Nat × Bool)} {M : List MObj} {K : HVal → List MObj → Prop}
end
end Go.HL
end
section
namespace Go.HL
section
variable {P : Program} {e : Env} {dst : Option Tmp} {ty : TypeId} {pos : String} {af : Array Edge} {g : Option (Nat × Bool)}
end
section
variable {P : Program} {n : Nat} {e e' : Env} {M M' : List MObj} {Q Q' : Exit → Env → List MObj → Prop} {c c' : Code}
end
end Go.HL
end
section
namespace Go.Proofs.YtbfikmihcpfgaaaGreatDoor
open Go.HL
set_option maxRecDepth 100000
set_option linter.unusedVariables false
set_option linter.unusedSimpArgs false
/-- benchwarmer/base.Each -/
theorem c_base_Each [Tracks] {σ : Type} {S : σ → List MObj} {Inv : List Str → σ → Prop} {ok : Str → Bool} {fid : FuncId} {caps : List HVal} {st0 : σ} {text : Str}  (hca : Callable Tryz.prog fid) (hp : ∀ (done : List Str) (s : Str) (st : σ), done.length ≤ 1000000 → s.length ≤ 1000000 → Inv done st → Con Tryz.prog fid ([.str s] ++ caps) (S st) fun x M' => ∃ st', x = .bool (ok s) ∧ M' = S st' ∧ (ok s = true → Inv (done ++ [s]) st')) (h0 : Inv [] st0) (ht : text.length ≤ 1000000) : Con Tryz.prog 39 [.str text, .fn (.func fid) [] caps] (S st0) (fun x M' => ∃ st', x = .tup [.int .i64 (goL ok 0 (spl 10 text)).1, .bool (goL ok 0 (spl 10 text)).2] ∧ M' = S st' ∧ ((goL ok 0 (spl 10 text)).2 = true → Inv (lns text) st')) := by
 have hll := lnsL_many text
 refine Con.of_body Tryz.func39 rfl Tryz.ntmps39 rfl rfl ?_
 refine hw_reg ?_
 refine dp rfl (pop_assign rfl) ?_
 refine dp rfl (pop_assign rfl) ?_
 refine dn ?_
 refine hw_reg ?_
 refine dp rfl (pop_move rfl) ?_
 refine dp rfl (pop_call ca80 rfl (WeakL.refl _) (c_base_Lines (by first | assumption | omega | (simp; omega) | simp_all))) ?_
 refine dp rfl (pop_move rfl) ?_
 refine dp rfl (pop_extract rfl rfl) ?_
 refine dp rfl (pop_extract rfl rfl) ?_
 refine dp rfl (pop_assign rfl) ?_
 refine dp rfl (pop_assign rfl) ?_
 refine dn ?_
 refine hw_seq ?_
 refine hw_reg ?_
 refine dp rfl (pop_move rfl) ?_
 refine dp rfl (pop_lenm ty44 rfl) ?_
 refine dp rfl (pop_move rfl) ?_
 refine dn ?_
 refine hw_block ?_
 refine hw_loopw2 [4, 5, 8, 9, 17, 18, 19, 20, 21, 22, 23, 24, 25, 26, 27, 28, 29, 30, 31, 32, 33, 34, 35, 36, 37, 38] (fun (k : Nat) (st : σ) => [(17, .int .i64 k)]) (fun (k : Nat) (st : σ) => (S st)) (fun (k : Nat) (st : σ) => k ≤ (lnsL text).length ∧ (Inv ((lnsL text).take k) st ∧ goL ok 0 (spl 10 text) = eachP ok (lnsE text) (lnsL text).length k ((lnsL text).drop k))) (fun (k : Nat) (st : σ) => (lnsL text).length - k) (0) (st0) ?_ ?_ ?_ ?_
 ·exact ⟨Nat.zero_le _, h0, (eachP_goL ok text).symm⟩
 ·exact ⟨rfl, trivial⟩
 ·exact perm_eq rfl
 ·intro k st hinv
  obtain ⟨hk, ⟨hq, hg⟩⟩ := hinv
  refine hw_reg ?_
  refine dp rfl (pop_lss rfl rfl) ?_
  refine dn ?_
  refine hw_seq ?_
  refine hw_cond rfl (fun h1 => ?_) (fun h2 => ?_)
  ·try simp at h1
   obtain ⟨x, hx⟩ : ∃ x, (lnsL text)[k]? = some x := ⟨_, List.getElem?_eq_getElem h1⟩
   have hdx := drop_cons hx
   rw [hdx, eachP_cons] at hg
   refine hw_skip ?_
   refine seqQ_n ?_
   refine hw_seq ?_
   refine hw_block ?_
   refine hw_reg ?_
   refine dp rfl (pop_move rfl) ?_
   refine dp rfl (pop_idx ty44 ty9 rfl rfl rfl (by first | assumption | simp_all)) ?_
   refine dp rfl (pop_load ty9 rfl rfl rfl) ?_
   refine dp rfl (pop_assign rfl) ?_
   refine dp rfl (pop_assign rfl) ?_
   refine dn ?_
   refine hw_reg ?_
   refine dp rfl (pop_move rfl) ?_
   refine dp rfl (pop_not rfl) ?_
   refine dp rfl (pop_move rfl) ?_
   refine dg rfl rfl (fun hc => ⟨_, OpenTo.refl _, pop_move rfl⟩) ?_
   refine dg rfl rfl (fun hc => ⟨_, OpenTo.refl _, pop_move rfl⟩) ?_
   refine dg rfl rfl (fun hc => ⟨_, OpenTo.upd (t := 26) rfl (by first | exact hc | simp_all) (OpenTo.refl _), pop_lenm ty44 rfl⟩) ?_
   refine dg rfl rfl (fun hc => by have hq := hc; (try simp at hq); exact ⟨_, OpenTo.upd (t := 27) rfl (by first | exact hc | simp_all) (OpenTo.refl _), pop_sub64 rfl rfl (by omega) (by omega)⟩) ?_
   refine dg rfl rfl (fun hc => ⟨_, OpenTo.upd (t := 28) rfl (by first | exact hc | simp_all) (OpenTo.upd (t := 25) rfl (by first | exact hc | simp_all) (OpenTo.refl _)), pop_eql rfl rfl⟩) ?_
   refine dp rfl (pop_picko rfl (.inr ⟨_, rfl, fun h => by simp_all⟩) (.inl rfl)) ?_
   refine dp rfl (pop_move rfl) ?_
   refine dg rfl rfl (fun hc => ⟨_, OpenTo.refl _, pop_move rfl⟩) ?_
   refine dg rfl rfl (fun hc => ⟨_, OpenTo.refl _, pop_move rfl⟩) ?_
   refine dgx (fun xq M' => ∃ st', xq = .bool (ok x) ∧ M' = S st' ∧ ((!(lnsE text) && decide ((k : Int) = ((lnsL text).length : Int) - 1)) = false → ok x = true → Inv ((lnsL text).take k ++ [x]) st')) rfl rfl (fun hc => ⟨_, st, rfl, rfl, fun h => (by simp_all)⟩) (fun hc => ⟨_, OpenTo.upd (t := 33) rfl (by first | exact hc | simp_all) (OpenTo.upd (t := 32) rfl (by first | exact hc | simp_all) (OpenTo.refl _)), EOp.mono (fun _ _ ⟨st', h1, h2, h3⟩ => ⟨st', h1, h2, fun _ => h3⟩) (eop_callv hca rfl rfl (WeakL.refl _) (hp ((lnsL text).take k) x st (by rw [List.length_take]; omega) (Nat.le_trans (lnsL_len x (List.mem_of_getElem? hx)) ht) hq))⟩) ?_
   rintro _ _ ⟨st2, rfl, rfl, hst2⟩
   refine dg rfl rfl (fun hc => ⟨_, OpenTo.upd (t := 34) rfl (by first | exact hc | simp_all) (OpenTo.refl _), pop_not rfl⟩) ?_
   refine dp rfl (pop_picko rfl (.inl rfl) (.inr ⟨_, rfl, fun h => by simp_all⟩)) ?_
   refine dn ?_
   refine hw_cond rfl (fun h3 => ?_) (fun h4 => ?_)
   ·try simp at h3
    refine hw_reg ?_
    refine dp rfl (pop_move rfl) ?_
    refine dp rfl (pop_assign rfl) ?_
    refine dp rfl (pop_assign rfl) ?_
    refine dn ?_
    refine hw_ret ?_
    first
    | (have hgf : goL ok 0 (spl 10 text) = ((k : Int), false) := hg.trans (if_pos (by simp; simpa using h3))
       exact ret_q rfl ⟨st2, by rw [hgf]; rfl, rfl, fun h => by rw [hgf] at h; cases h⟩)
    | (refine ret_q rfl ⟨st, ?_, rfl, fun h => ?_⟩
       ·rw [hg]; rfl
       ·rw [eachP_true h]; exact hq)
   ·try simp at h4
    refine hw_skip ?_
    refine blockQ_n ?_
    refine seqQ_n ?_
    refine hw_reg1 ?_
    refine dp rfl (pop_add64 rfl rfl (by omega) (by omega)) ?_
    refine dp rfl (pop_move rfl) ?_
    refine dn ?_
    exact ⟨k + 1, st2, ⟨by omega, (by simp_all [take_snoc' hx]), (by simp_all)⟩, by dsimp only; omega, ⟨rfl, trivial⟩, (by repeat (first | exact keeps_refl | refine keeps_upd rfl ?_ | refine keeps_loop rfl rfl ?_)), perm_eq rfl⟩
  ·try simp at h2
   have hnk : (lnsL text).length ≤ k := by omega
   obtain rfl : k = (lnsL text).length := by omega
   rw [drop_all (Nat.le_refl _)] at hg
   rw [List.take_length] at hq
   refine hw_exit ?_
   refine seqQ_x ?_
   refine loopQ2_x ?_
   refine blockQ_eq ?_
   refine seqQ_n ?_
   refine hw_reg ?_
   refine dp rfl (pop_assign rfl) ?_
   refine dp rfl (pop_assign rfl) ?_
   refine dn ?_
   refine hw_ret ?_
   first
   | (have hgf : goL ok 0 (spl 10 text) = ((k : Int), false) := hg.trans (if_pos (by simp; simpa using h3))
      exact ret_q rfl ⟨st2, by rw [hgf]; rfl, rfl, fun h => by rw [hgf] at h; cases h⟩)
   | (refine ret_q rfl ⟨st, ?_, rfl, fun h => ?_⟩
      ·rw [hg]; rfl
      ·rw [eachP_true h]; exact hq)

end Go.Proofs.YtbfikmihcpfgaaaGreatDoor
end
section
namespace Go.HL
def pickF (p : Pick) : Int := if out p.No 0 600 then 1 else if !(key p.Team) || !(key p.Player) then 5 else if !(moment p.At) then 1 else 0
def autoS : Str := [97, 117, 116, 111]
def pickW (p : Pick) : List Str := [Lib.itoa p.No, p.Team, p.Player, Lib.itoa p.At] ++ (if p.Auto then [autoS] else [])
theorem pickF_z {p : Pick} (h : pickF p = 0) : (0 ≤ p.No ∧ p.No ≤ 600) ∧ key p.Team = true ∧ key p.Player = true ∧ (0 ≤ p.At ∧ p.At ≤ 345686399999) := by
 unfold pickF at h
 split at h
 ·cases h
 ·rename_i h1
  split at h
  ·cases h
  ·rename_i h2
   split at h
   ·cases h
   ·rename_i h3
    have a1 := out_f (by simpa using h1 : out p.No 0 600 = false)
    have a3 := out_f (by simpa [moment] using h3 : out p.At 0 345686399999 = false)
    simp at h2
    exact ⟨a1, h2.1, h2.2, a3⟩
theorem keyS_len {s : Str} (h : key s = true) : s.length ≤ 40 := by
 unfold key keyHd at h
 simp only [Bool.and_eq_true, decide_eq_true_eq] at h
 exact h.1.1.1.2
theorem key_ch {s : Str} (h : key s = true) : ∀ c ∈ s, keyCh c = true := by
 unfold key at h
 rw [Bool.and_eq_true] at h
 exact List.all_eq_true.1 h.2
theorem spl_getD_len {line : Str} (j : Nat) : ((spl 32 line).getD j []).length ≤ line.length := by
 rw [List.getD_eq_getElem?_getD]
 cases h : (spl 32 line)[j]? with
 | none => simp
 | some x => exact spl_mem_len 32 line x (List.mem_of_getElem? h)
theorem contains_nil (l : List Str) : l.contains [] = !(l.all fun w => !w.isEmpty) := by
 induction l with
 | nil => rfl
 | cons x r ih =>
   rw [List.contains_cons, ih, List.all_cons]
   cases x <;> simp
end Go.HL
end
section
namespace Go.HL
variable {P : Program}
end Go.HL
end
section
namespace Go.Proofs.YtbfikmihcpfgaaaGreatDoor
open Go.HL
set_option maxRecDepth 100000
set_option linter.unusedVariables false
set_option linter.unusedSimpArgs false
end Go.Proofs.YtbfikmihcpfgaaaGreatDoor
end
section
namespace Go.HL
variable {P : Program}
/-- What a rune reads as. -/
def runeS (m : Int) : List UInt8 := (Utf8.encode m).data.toList
theorem runeS_len (m : Int) : (runeS m).length ≤ 4 := by
 show (Utf8.encode m).data.toList.length ≤ 4
 rw [Array.length_toList]; exact encode_size_le m
theorem pop_runeS [Tracks] {e : Env} {dst : Option Tmp} {ty : TypeId} {pos : String} {af : Array Edge} {g : Option (Nat × Bool)} {x : Operand} {t d' : TypeId} {k : IntKind} {m : Int} {s1 s2 b1 b2 : Nat} {z1 z2 : Value} {ds : TD} (hs : Fits P t ds s1 b1 z1) (hf : Fits P d' .str s2 b2 z2) (hx : evalO e x = some (.int k m)) :
 POp P e ⟨dst, .convert t d' x, ty, pos, af, g⟩ (.str (runeS m)) :=
 POp.of_val fun I a w ho => ⟨.string (Utf8.encode m), by
  have h1 := (ho.one (x := x) (by simp [Op.operands]) hx).int_inv
  obtain ⟨u, hu, _⟩ := hs.underlying
  simp only [execOp, h1, convert, Sem.run_bind, run_underlying hu, run_underlying hf.strD, Result.andThen_ok, Sem.run_pure, Conv.intToString], by
  have : Value.string (Utf8.encode m) = .string ⟨(runeS m).toArray⟩ := by simp [runeS]
  rw [this]; exact .str _⟩
end Go.HL
end
section
namespace Go.Proofs.YtbfikmihcpfgaaaGreatDoor
open Go.HL
set_option maxRecDepth 100000
set_option linter.unusedVariables false
set_option linter.unusedSimpArgs false
/-- (*benchwarmer/benchmake.Stream).Changed -/
theorem c_benchmake_Stream_Changed [Tracks] {b : Nat} {l : List Int} {a : Nat} {t w : Str} (ha : a ≤ 900000) (ht : t.length ≤ 1000000) (hw : w.length ≤ 1000000) : Con Tryz.prog 43 [pAt b, .str t, .str w] [St b l a] (fun x M' => ∃ (y : Str) (a' : Nat), x = .str y ∧ y.length ≤ t.length + w.length + 4 ∧ a' ≤ a + 3 ∧ M' = [St b l a']) := by
 refine Con.of_body Tryz.func43 rfl Tryz.ntmps43 rfl rfl ?_
 refine hw_reg ?_
 refine dp rfl (pop_assign rfl) ?_
 refine dn ?_
 refine hw_seq ?_
 refine hw_reg ?_
 refine dp rfl (pop_move rfl) ?_
 refine dp rfl (pop_eqls rfl rfl) ?_
 refine dp rfl (pop_move rfl) ?_
 refine dg rfl rfl (fun hc => ⟨_, OpenTo.refl _, pop_move rfl⟩) ?_
 refine dg rfl rfl (fun hc => ⟨_, OpenTo.upd (t := 12) rfl (by first | exact hc | simp_all) (OpenTo.refl _), pop_eqls rfl rfl⟩) ?_
 refine dp rfl (pop_picko rfl (.inl rfl) (.inr ⟨_, rfl, fun h => by simp_all⟩)) ?_
 refine dn ?_
 refine hw_cond rfl (fun h1 => ?_) (fun h2 => ?_)
 ·try simp at h1
  refine hw_reg ?_
  refine dp rfl (pop_move rfl) ?_
  refine dp rfl (pop_assign rfl) ?_
  refine dn ?_
  refine hw_ret ?_
  first
  | exact ret_q rfl ⟨_, a, rfl, by omega, by omega, rfl⟩
  | (refine ret_q rfl ⟨_, a + 1 + 1 + 1, rfl, ?_, by omega, rfl⟩
     simp only [List.length_append, List.length_drop, List.length_take]
     (try simp only [List.getD_eq_getElem?_getD])
     omega)
 ·try simp at h2
  refine hw_skip ?_
  refine seqQ_n ?_
  refine hw_reg ?_
  refine dp rfl (pop_move rfl) ?_
  refine dp rfl (pop_move rfl) ?_
  refine dp rfl (pop_lens ty9 rfl) ?_
  first
  | refine de rfl (eop_callx (i := 0) ca31 rfl (WeakL.refl _) rfl (c_benchmake_Stream_Next (by first | assumption | omega | (simp; omega) | simp_all) (by first | assumption | omega | (simp; omega) | simp_all)) ?_)
  | refine de rfl (eop_callx (i := 1) ca31 rfl (WeakL.refl _) rfl (c_benchmake_Stream_Next (by first | assumption | omega | (simp; omega) | simp_all) (by first | assumption | omega | (simp; omega) | simp_all)) ?_)
  | refine de rfl (eop_callx (i := 2) ca31 rfl (WeakL.refl _) rfl (c_benchmake_Stream_Next (by first | assumption | omega | (simp; omega) | simp_all) (by first | assumption | omega | (simp; omega) | simp_all)) ?_)
  | refine de rfl (eop_callx (i := 3) ca31 rfl (WeakL.refl _) rfl (c_benchmake_Stream_Next (by first | assumption | omega | (simp; omega) | simp_all) (by first | assumption | omega | (simp; omega) | simp_all)) ?_)
  rintro _ _ ⟨y19, rfl, hy19, rfl⟩
  refine dp rfl (pop_assign rfl) ?_
  refine dn ?_
  have hlt : y19 < t.length := by have := List.length_pos_iff.2 h2.1; omega
  have hwp := List.length_pos_iff.2 h2.2
  refine hw_reg ?_
  refine dp rfl (pop_move rfl) ?_
  refine dp rfl (pop_move rfl) ?_
  refine dp rfl (pop_move rfl) ?_
  refine dp rfl (pop_lens ty9 rfl) ?_
  first
  | refine de rfl (eop_callx (i := 0) ca31 rfl (WeakL.refl _) rfl (c_benchmake_Stream_Next (by first | assumption | omega | (simp; omega) | simp_all) (by first | assumption | omega | (simp; omega) | simp_all)) ?_)
  | refine de rfl (eop_callx (i := 1) ca31 rfl (WeakL.refl _) rfl (c_benchmake_Stream_Next (by first | assumption | omega | (simp; omega) | simp_all) (by first | assumption | omega | (simp; omega) | simp_all)) ?_)
  | refine de rfl (eop_callx (i := 2) ca31 rfl (WeakL.refl _) rfl (c_benchmake_Stream_Next (by first | assumption | omega | (simp; omega) | simp_all) (by first | assumption | omega | (simp; omega) | simp_all)) ?_)
  | refine de rfl (eop_callx (i := 3) ca31 rfl (WeakL.refl _) rfl (c_benchmake_Stream_Next (by first | assumption | omega | (simp; omega) | simp_all) (by first | assumption | omega | (simp; omega) | simp_all)) ?_)
  rintro _ _ ⟨y24, rfl, hy24, rfl⟩
  refine dp rfl (pop_indexs (j := y24) (b := w.getD y24 0) ty9 rfl rfl rfl (getD_some (by omega))) ?_
  refine dp rfl (pop_assign rfl) ?_
  refine dn ?_
  refine hw_seq ?_
  have hru : (runeS (IntKind.i32.wrap (((w[y24]?.getD 0).toNat : Nat) : Int))).length ≤ 4 := runeS_len _
  refine hw_reg ?_
  refine dp rfl (pop_move rfl) ?_
  first
  | refine de rfl (eop_callx (i := 0) ca31 rfl (WeakL.refl _) rfl (c_benchmake_Stream_Next (by first | assumption | omega | (simp; omega) | simp_all) (by first | assumption | omega | (simp; omega) | simp_all)) ?_)
  | refine de rfl (eop_callx (i := 1) ca31 rfl (WeakL.refl _) rfl (c_benchmake_Stream_Next (by first | assumption | omega | (simp; omega) | simp_all) (by first | assumption | omega | (simp; omega) | simp_all)) ?_)
  | refine de rfl (eop_callx (i := 2) ca31 rfl (WeakL.refl _) rfl (c_benchmake_Stream_Next (by first | assumption | omega | (simp; omega) | simp_all) (by first | assumption | omega | (simp; omega) | simp_all)) ?_)
  | refine de rfl (eop_callx (i := 3) ca31 rfl (WeakL.refl _) rfl (c_benchmake_Stream_Next (by first | assumption | omega | (simp; omega) | simp_all) (by first | assumption | omega | (simp; omega) | simp_all)) ?_)
  rintro _ _ ⟨y27, rfl, hy27, rfl⟩
  refine dn ?_
  refine hw_block ?_
  refine hw_reg ?_
  refine dp rfl (pop_eql rfl rfl) ?_
  refine dp rfl (pop_assign rfl) ?_
  refine dn ?_
  refine hw_cond rfl (fun h3 => ?_) (fun h4 => ?_)
  ·try simp at h3
   refine hw_draw (fun _ => True) [] mixed ?_
   refine ahp 0 rfl rfl (by kernel_rfl) (by kernel_rfl) (pop_move rfl) ?_
   refine ahp 1 rfl rfl (by kernel_rfl) (by kernel_rfl) (pop_move rfl) ?_
   refine ahp 2 rfl rfl (by kernel_rfl) (by kernel_rfl) (pop_slices ty9 rfl rfl ⟨_, _, rfl, rfl⟩ (by omega) (by omega)) ?_
   refine ahp 3 rfl rfl (by kernel_rfl) (by kernel_rfl) (pop_move rfl) ?_
   refine ahp 4 rfl rfl (by kernel_rfl) (by kernel_rfl) (pop_conv ty5 ty21 rfl) ?_
   refine ahp 5 rfl rfl (by kernel_rfl) (by kernel_rfl) (pop_runeS ty21 ty9 rfl) ?_
   refine ahp 6 rfl rfl (by kernel_rfl) (by kernel_rfl) (pop_adds rfl rfl (by first | assumption | (simp; omega))) ?_
   refine ahp 7 rfl rfl (by kernel_rfl) (by kernel_rfl) (pop_move rfl) ?_
   refine ahp 8 rfl rfl (by kernel_rfl) (by kernel_rfl) (pop_move rfl) ?_
   refine ahp 9 rfl rfl (by kernel_rfl) (by kernel_rfl) (pop_add64 rfl rfl (by omega) (by omega)) ?_
   refine ahp 10 rfl rfl (by kernel_rfl) (by kernel_rfl) (pop_slices (l := y19 + 1) (h := t.length) ty9 rfl ⟨_, _, rfl, by omega⟩ rfl (by omega) (by omega)) ?_
   refine ahp 11 rfl rfl (by kernel_rfl) (by kernel_rfl) (pop_adds rfl rfl (by first | assumption | (simp; omega))) ?_
   refine ahp 12 rfl rfl (by kernel_rfl) (by kernel_rfl) (pop_assign rfl) ?_
   refine ahz (by kernel_rfl) ?_
   refine hw_ret ?_
   first
   | exact ret_q rfl ⟨_, a, rfl, by omega, by omega, rfl⟩
   | (refine ret_q rfl ⟨_, a + 1 + 1 + 1, rfl, ?_, by omega, rfl⟩
      simp only [List.length_append, List.length_drop, List.length_take]
      (try simp only [List.getD_eq_getElem?_getD])
      omega)
  ·try simp at h4
   refine hw_reg ?_
   refine dp rfl (pop_eql rfl rfl) ?_
   refine dp rfl (pop_assign rfl) ?_
   refine dn ?_
   refine hw_cond rfl (fun h5 => ?_) (fun h6 => ?_)
   ·try simp at h5
    refine hw_draw (fun _ => True) [] mixed ?_
    refine ahp 0 rfl rfl (by kernel_rfl) (by kernel_rfl) (pop_move rfl) ?_
    refine ahp 1 rfl rfl (by kernel_rfl) (by kernel_rfl) (pop_move rfl) ?_
    refine ahp 2 rfl rfl (by kernel_rfl) (by kernel_rfl) (pop_slices ty9 rfl rfl ⟨_, _, rfl, rfl⟩ (by omega) (by omega)) ?_
    refine ahp 3 rfl rfl (by kernel_rfl) (by kernel_rfl) (pop_move rfl) ?_
    refine ahp 4 rfl rfl (by kernel_rfl) (by kernel_rfl) (pop_conv ty5 ty21 rfl) ?_
    refine ahp 5 rfl rfl (by kernel_rfl) (by kernel_rfl) (pop_runeS ty21 ty9 rfl) ?_
    refine ahp 6 rfl rfl (by kernel_rfl) (by kernel_rfl) (pop_adds rfl rfl (by first | assumption | (simp; omega))) ?_
    refine ahp 7 rfl rfl (by kernel_rfl) (by kernel_rfl) (pop_move rfl) ?_
    refine ahp 8 rfl rfl (by kernel_rfl) (by kernel_rfl) (pop_move rfl) ?_
    refine ahp 9 rfl rfl (by kernel_rfl) (by kernel_rfl) (pop_slices ty9 rfl ⟨_, _, rfl, rfl⟩ rfl (by omega) (by omega)) ?_
    refine ahp 10 rfl rfl (by kernel_rfl) (by kernel_rfl) (pop_adds rfl rfl (by first | assumption | (simp; omega))) ?_
    refine ahp 11 rfl rfl (by kernel_rfl) (by kernel_rfl) (pop_assign rfl) ?_
    refine ahz (by kernel_rfl) ?_
    refine hw_ret ?_
    first
    | exact ret_q rfl ⟨_, a, rfl, by omega, by omega, rfl⟩
    | (refine ret_q rfl ⟨_, a + 1 + 1 + 1, rfl, ?_, by omega, rfl⟩
       simp only [List.length_append, List.length_drop, List.length_take]
       (try simp only [List.getD_eq_getElem?_getD])
       omega)
   ·try simp at h6
    refine hw_skip ?_
    refine blockQ_n ?_
    refine seqQ_n ?_
    refine hw_draw (fun _ => True) [] mixed ?_
    refine ahp 0 rfl rfl (by kernel_rfl) (by kernel_rfl) (pop_move rfl) ?_
    refine ahp 1 rfl rfl (by kernel_rfl) (by kernel_rfl) (pop_move rfl) ?_
    refine ahp 2 rfl rfl (by kernel_rfl) (by kernel_rfl) (pop_slices ty9 rfl rfl ⟨_, _, rfl, rfl⟩ (by omega) (by omega)) ?_
    refine ahp 3 rfl rfl (by kernel_rfl) (by kernel_rfl) (pop_move rfl) ?_
    refine ahp 4 rfl rfl (by kernel_rfl) (by kernel_rfl) (pop_move rfl) ?_
    refine ahp 5 rfl rfl (by kernel_rfl) (by kernel_rfl) (pop_add64 rfl rfl (by omega) (by omega)) ?_
    refine ahp 6 rfl rfl (by kernel_rfl) (by kernel_rfl) (pop_slices (l := y19 + 1) (h := t.length) ty9 rfl ⟨_, _, rfl, by omega⟩ rfl (by omega) (by omega)) ?_
    refine ahp 7 rfl rfl (by kernel_rfl) (by kernel_rfl) (pop_adds rfl rfl (by first | assumption | (simp; omega))) ?_
    refine ahp 8 rfl rfl (by kernel_rfl) (by kernel_rfl) (pop_assign rfl) ?_
    refine ahz (by kernel_rfl) ?_
    refine hw_ret ?_
    first
    | exact ret_q rfl ⟨_, a, rfl, by omega, by omega, rfl⟩
    | (refine ret_q rfl ⟨_, a + 1 + 1 + 1, rfl, ?_, by omega, rfl⟩
       simp only [List.length_append, List.length_drop, List.length_take]
       (try simp only [List.getD_eq_getElem?_getD])
       omega)
end Go.Proofs.YtbfikmihcpfgaaaGreatDoor
end
section
namespace Go.HL
theorem digits_dig (u : Nat) : ∀ c ∈ Lib.decDigits u, dig c = true := fun c hc => by
 obtain ⟨d, hd, rfl⟩ := digits_mem u c hc
 exact (digit_ok d hd).2.1
theorem itoa_plain {n : Int} (h0 : 0 ≤ n) : (∀ c ∈ Lib.itoa n, dig c = true) ∧ Lib.itoa n ≠ [] ∧ cutMinus (Lib.itoa n) = Lib.itoa n := by
 obtain ⟨u, rfl⟩ : ∃ u : Nat, n = (u : Int) := ⟨n.toNat, by omega⟩
 rw [Lib.itoa_nonneg]
 exact ⟨digits_dig u, digits_ne u, cut_digits u⟩
theorem dig_no {c : UInt8} (h : dig c = true) : c ≠ 32 ∧ c ≠ 10 := by
 constructor <;> · rintro rfl; simp [dig] at h
theorem keyCh_no {c : UInt8} (h : keyCh c = true) : c ≠ 32 ∧ c ≠ 10 := by
 constructor <;> · rintro rfl; simp [keyCh] at h
theorem key_not_nil {s : Str} (h : key s = true) : s ≠ [] := by
 rintro rfl; simp [key, keyHd] at h
theorem pickW_no {p : Pick} (h : pickF p = 0) : ∀ w ∈ pickW p, w ≠ [] ∧ (32 : UInt8) ∉ w ∧ (10 : UInt8) ∉ w := by
 obtain ⟨h1, h2, h3, h4⟩ := pickF_z h
 obtain ⟨a1, a2, _⟩ := itoa_plain h1.1
 obtain ⟨b1, b2, _⟩ := itoa_plain h4.1
 have fd : ∀ s : Str, (∀ c ∈ s, dig c = true) → (32 : UInt8) ∉ s ∧ (10 : UInt8) ∉ s := fun s hs => ⟨fun hm => (dig_no (hs _ hm)).1 rfl, fun hm => (dig_no (hs _ hm)).2 rfl⟩
 have fk : ∀ s : Str, key s = true → (32 : UInt8) ∉ s ∧ (10 : UInt8) ∉ s := fun s hs => ⟨fun hm => (keyCh_no (key_ch hs _ hm)).1 rfl, fun hm => (keyCh_no (key_ch hs _ hm)).2 rfl⟩
 intro w hw
 unfold pickW at hw
 rcases List.mem_append.1 hw with hw | hw
 ·simp only [List.mem_cons, List.not_mem_nil, or_false] at hw
  rcases hw with rfl | rfl | rfl | rfl
  ·exact ⟨a2, fd _ a1⟩
  ·exact ⟨key_not_nil h2, fk _ h2⟩
  ·exact ⟨key_not_nil h3, fk _ h3⟩
  ·exact ⟨b2, fd _ b1⟩
 ·cases hA : p.Auto with
  | false => rw [hA] at hw; simp at hw
  | true => rw [hA] at hw; simp at hw; subst hw; decide
theorem jn_no {c d : UInt8} (hcd : d ≠ c) : ∀ {l : List Str}, (∀ x ∈ l, d ∉ x) → d ∉ jn c l
 | [], _ => by simp [jn]
 | [x], h => h x (by simp)
 | x :: y :: r, h => by
   rw [jn_cons (by simp)]
   simp only [List.mem_append, List.mem_cons, not_or]
   exact ⟨h x (by simp), hcd, jn_no hcd fun z hz => h z (by simp [hz])⟩
theorem jn_lines : ∀ (l : List Str), jn 10 (l ++ [[]]) = (l.map (· ++ [10])).flatten
 | [] => rfl
 | x :: r => by
   rw [List.cons_append, jn_cons (by simp), jn_lines r]; simp
end Go.HL
end
section
namespace Go.HL
theorem itoa_cases (n : Int) : (∃ u : Nat, n = (u : Int) ∧ Lib.itoa n = Lib.decDigits u ∧ cutMinus (Lib.itoa n) = Lib.decDigits u) ∨ (∃ u : Nat, 1 ≤ u ∧ n = -(u : Int) ∧ Lib.itoa n = 45 :: Lib.decDigits u ∧ cutMinus (Lib.itoa n) = Lib.decDigits u) := by
 rcases Int.lt_or_le n 0 with h | h
 ·obtain ⟨u, rfl⟩ : ∃ u : Nat, n = -(u : Int) := ⟨n.natAbs, by omega⟩
  have e := Lib.itoa_neg u (by omega)
  exact .inr ⟨u, by omega, rfl, e, by rw [e]; rfl⟩
 ·obtain ⟨u, rfl⟩ : ∃ u : Nat, n = (u : Int) := ⟨n.toNat, by omega⟩
  have e := Lib.itoa_nonneg u
  exact .inl ⟨u, rfl, e, by rw [e]; exact cut_digits u⟩
theorem cut_itoa (n : Int) : cutMinus (Lib.itoa n) = Lib.decDigits n.natAbs := by
 rcases itoa_cases n with ⟨u, rfl, _, h⟩ | ⟨u, _, rfl, _, h⟩
 ·rw [h]; congr 1
 ·rw [h]; congr 1; omega
theorem itoa_len (n : Int) : (Lib.itoa n).length ≤ (Lib.decDigits n.natAbs).length + 1 := by
 have h := cut_itoa n
 rcases cutMinus_cases (Lib.itoa n) with ⟨r, e1, e2⟩ | ⟨_, e2⟩
 ·rw [e2] at h; rw [e1, h]; simp
 ·rw [e2] at h; rw [h]; omega
theorem itoa_no (n : Int) : Lib.itoa n ≠ [] ∧ (32 : UInt8) ∉ Lib.itoa n ∧ (10 : UInt8) ∉ Lib.itoa n := by
 have fd : ∀ u, (32 : UInt8) ∉ Lib.decDigits u ∧ (10 : UInt8) ∉ Lib.decDigits u := fun u => ⟨fun hm => (dig_no (digits_dig u _ hm)).1 rfl, fun hm => (dig_no (digits_dig u _ hm)).2 rfl⟩
 rcases itoa_cases n with ⟨u, _, e, _⟩ | ⟨u, _, _, e, _⟩
 ·rw [e]; exact ⟨digits_ne u, fd u⟩
 ·rw [e]
  refine ⟨by simp, ?_, ?_⟩ <;> simp only [List.mem_cons, not_or]
  ·exact ⟨by decide, (fd u).1⟩
  ·exact ⟨by decide, (fd u).2⟩
/-- A number of so many digits is read as it was written. -/
theorem num_itoaG {n : Int} {k : Nat} {m : Int} (h : n.natAbs < 10 ^ (k + 1)) (hm : ((k + 1 : Nat) : Int) ≤ m) : numB (Lib.itoa n) m = true ∧ numR (Lib.itoa n) m = n := by
 have hc := cut_itoa n
 have hl : (Lib.decDigits n.natAbs).length ≤ k + 1 := by rw [Lib.decDigits_length]; exact nDigits_le k _ h
 have hi : intC (Lib.itoa n) m = false := intC_f (by rw [hc]; exact digits_ne _) (by rw [hc]; omega) (by rw [hc]; exact digits_dig _)
 have hb : numB (Lib.itoa n) m = true := by
  rw [(num_int _ _).1]; unfold intB; rw [hi, numV_itoa]; simp
 exact ⟨hb, by unfold numR; rw [if_pos hb, numV_itoa]⟩
end Go.HL
end
section
namespace Go.HL
def assetLn (x : Asset) : Str := x.Player ++ [32] ++ x.Position ++ [32] ++ Lib.itoa x.Value ++ [10]
def assetT (l : List Asset) : Str := (l.map assetLn).flatten
theorem assetT_snoc (l : List Asset) (x : Asset) : assetT (l ++ [x]) = assetT l ++ assetLn x := by simp [assetT]
def assetW (x : Asset) : List Str := [x.Player, x.Position, Lib.itoa x.Value]
theorem assetLn_eq (x : Asset) : assetLn x = jn 32 (assetW x) ++ [10] := by simp [assetLn, assetW, jn]
theorem assetF_z {x : Asset} (h : assetFault x = 0) : key x.Player = true ∧ key x.Position = true ∧ (-1000000 ≤ x.Value ∧ x.Value ≤ 1000000) := by
 unfold assetFault at h
 split at h
 ·cases h
 ·rename_i h1
  split at h
  ·cases h
  ·rename_i h2
   have a := out_f (by simpa using h2 : out x.Value (-1000000) 1000000 = false)
   simp at h1
   exact ⟨h1.1, h1.2, a⟩
theorem assets_z {l : List Asset} (h : checkAssets l = 0) : l.length ≤ 300 ∧ ∀ x ∈ l, assetFault x = 0 := by
 refine ⟨?_, (checkAssets_ok h).2⟩
 unfold checkAssets at h
 split at h
 ·cases h
 ·omega
theorem assetLn_len {x : Asset} (h : assetFault x = 0) : (assetLn x).length ≤ 120 := by
 obtain ⟨h1, h2, h3⟩ := assetF_z h
 have a1 := keyS_len h1
 have a2 := keyS_len h2
 have a3 := itoa_len x.Value
 have a4 : (Lib.decDigits x.Value.natAbs).length ≤ 7 := by rw [Lib.decDigits_length]; exact nDigits_le 6 _ (by omega)
 unfold assetLn
 simp only [List.length_append, List.length_cons, List.length_nil]
 omega
theorem assetT_len {l : List Asset} : (∀ x ∈ l, assetFault x = 0) → (assetT l).length ≤ 120 * l.length := by
 induction l with
 | nil => intro _; simp [assetT]
 | cons p r ih =>
   intro h
   have h1 := assetLn_len (h p (by simp))
   have h2 := ih fun q hq => h q (by simp [hq])
   simp only [assetT, List.map_cons, List.flatten_cons, List.length_append, List.length_cons] at h2 ⊢
   omega
def textA (l : List Asset) : Str := if checkAssets l = 0 then assetT l else []
/-- A line as an asset, and whether it is one. -/
def raB (line : Str) : Bool := wordsB line 3 && numB ((spl 32 line).getD 2 []) 7
def raP (line : Str) : Asset := ⟨(spl 32 line).getD 0 [], (spl 32 line).getD 1 [], numR ((spl 32 line).getD 2 []) 7⟩
def arB (text : Str) : Bool := (goL raB 0 (spl 10 text)).2
def arL (text : Str) : List Asset := (lns text).map raP
def arE (text : Str) : Int := if (200000 : Int) < (text.length : Int) then 2 else if arB text then checkAssets (arL text) else 9
def arI (text : Str) : Int := if (200000 : Int) < (text.length : Int) then 0 else if arB text then 0 else (goL raB 0 (spl 10 text)).1
def arP (text : Str) : List Asset := if arE text = 0 then arL text else []
theorem assetW_no {x : Asset} (h : assetFault x = 0) : ∀ w ∈ assetW x, w ≠ [] ∧ (32 : UInt8) ∉ w ∧ (10 : UInt8) ∉ w := by
 obtain ⟨h1, h2, h3⟩ := assetF_z h
 have fk : ∀ s : Str, key s = true → (32 : UInt8) ∉ s ∧ (10 : UInt8) ∉ s := fun s hs => ⟨fun hm => (keyCh_no (key_ch hs _ hm)).1 rfl, fun hm => (keyCh_no (key_ch hs _ hm)).2 rfl⟩
 intro w hw
 simp only [assetW, List.mem_cons, List.not_mem_nil, or_false] at hw
 rcases hw with rfl | rfl | rfl
 ·exact ⟨key_not_nil h1, fk _ h1⟩
 ·exact ⟨key_not_nil h2, fk _ h2⟩
 ·exact itoa_no _
theorem ra_ln {x : Asset} (h : assetFault x = 0) : raB (jn 32 (assetW x)) = true ∧ raP (jn 32 (assetW x)) = x := by
 obtain ⟨h1, h2, h3⟩ := assetF_z h
 have hno := assetW_no h
 have hs : spl 32 (jn 32 (assetW x)) = assetW x := spl_jn (by simp [assetW]) fun y hy => (hno y hy).2.1
 have hall : (assetW x).all (fun w => !w.isEmpty) = true := List.all_eq_true.2 fun w hw => by
  have := (hno w hw).1
  cases w with
  | nil => exact absurd rfl this
  | cons _ _ => rfl
 obtain ⟨n1, n2⟩ := num_itoaG (n := x.Value) (k := 6) (m := 7) (by omega) (by omega)
 obtain ⟨Player, Position, Value⟩ := x
 simp only at n1 n2
 unfold raB raP wordsB
 rw [hs, hall]
 simp [assetW, n1, n2]
theorem spl_assets : ∀ {l : List Asset}, (∀ x ∈ l, assetFault x = 0) → spl 10 (assetT l) = l.map (fun x => jn 32 (assetW x)) ++ [[]]
 | [], _ => rfl
 | p :: r, h => by
   have ih := spl_assets (l := r) fun q hq => h q (by simp [hq])
   have h1 : (10 : UInt8) ∉ jn 32 (assetW p) := jn_no (by decide) fun x hx => (assetW_no (h p (by simp)) x hx).2.2
   have e : assetT (p :: r) = jn 32 (assetW p) ++ 10 :: assetT r := by simp [assetT, assetLn_eq]
   rw [e, spl_app _ h1, ih]; rfl
/-- What is written is read as it was. -/
theorem assets_back {l : List Asset} (h : checkAssets l = 0) : arE (assetT l) = 0 ∧ arP (assetT l) = l ∧ (assetT l).length ≤ 36000 := by
 obtain ⟨h1, h3⟩ := assets_z h
 have hl := assetT_len h3
 have hs := spl_assets h3
 have hg : goL raB 0 (spl 10 (assetT l)) = (0, true) := by
  rw [hs]
  refine goL_all _ 0 fun s hs => ?_
  obtain ⟨p, hp, rfl⟩ := List.mem_map.1 hs
  exact (ra_ln (h3 p hp)).1
 have hL : arL (assetT l) = l := by
  unfold arL lns
  rw [hs, List.dropLast_concat, List.map_map]
  conv => rhs; rw [← List.map_id l]
  exact List.map_congr_left fun p hp => (ra_ln (h3 p hp)).2
 have hE : arE (assetT l) = 0 := by
  unfold arE arB
  rw [if_neg (by omega), hg, if_pos rfl, hL, h]
 exact ⟨hE, by unfold arP; rw [if_pos hE, hL], by omega⟩
theorem asset_line {line : Str} (h : raB line = true) : jn 32 (assetW (raP line)) = line := by
 unfold raB at h
 rw [Bool.and_eq_true] at h
 obtain ⟨hw, n1⟩ := h
 unfold wordsB at hw
 rw [Bool.and_eq_true, decide_eq_true_eq] at hw
 have e1 : Lib.itoa (numR ((spl 32 line).getD 2 []) 7) = (spl 32 line).getD 2 [] := by
  rw [((num_int _ _).2 n1).2]; exact (numB_canon n1).2.2
 have hW : assetW (raP line) = spl 32 line := by
  simp only [assetW, raP, e1]
  match hs : spl 32 line, hw.1 with
  | [w0, w1, w2], _ => simp
  | [], ho => simp at ho
  | [_], ho => simp at ho
  | [_, _], ho => simp at ho
  | _ :: _ :: _ :: _ :: r, ho => simp at ho; omega
 rw [hW, jn_spl]
/-- What is read is written so. -/
theorem assets_again {text : Str} (h : arE text = 0) : arP text = arL text ∧ checkAssets (arL text) = 0 ∧ assetT (arL text) = text ∧ (arL text).length ≤ 300 := by
 have hp : arP text = arL text := by unfold arP; rw [if_pos h]
 unfold arE at h
 split at h
 ·cases h
 ·split at h
  ·rename_i hb
   refine ⟨hp, h, ?_, (assets_z h).1⟩
   obtain ⟨_, h2, h3⟩ := goL_of (spl 10 text) 0 (spl_ne 10 text) hb
   have hs : spl 10 text = lns text ++ [[]] := by
    unfold lns
    obtain ⟨r, hr⟩ := List.getLast?_eq_some_iff.1 h3
    rw [hr, List.dropLast_concat]
   have h4 : jn 10 (spl 10 text) = text := jn_spl 10 text
   rw [hs, jn_lines] at h4
   unfold assetT arL
   rw [List.map_map]
   conv => rhs; rw [← h4]
   congr 1
   exact List.map_congr_left fun x hx => by
    show assetLn (raP x) = x ++ [10]
    rw [assetLn_eq, asset_line (h2 x hx)]
  ·cases h
end Go.HL
end
section
namespace Go.HL
theorem lns_len (text : Str) : (lns text).length ≤ text.length := by
 unfold lns; rw [List.length_dropLast, spl_len]; simp only [Nat.add_sub_cancel]; exact List.count_le_length
end Go.HL
end
section
namespace Go.HL
def SAs (bo : Nat) (q : Value × List Asset) : List MObj := [.cells bo [.raw q.1], .arr q.1 3 (q.2.map eAsset)]
theorem weakAs [Tracks] {text : Str} {i e : Int} (h1 : arE text = e) (he : e ≠ 0) (h2 : arI text = i) : Weak (.tup [.raw (.slice none 0 0), .int .i64 i, .int .i64 e]) (.tup [eAssets (arP text), .int .i64 (arI text), .int .i64 (arE text)]) := by
 have : arP text = [] := by unfold arP; rw [if_neg (by rw [h1]; exact he)]
 rw [this, h1, h2]; exact weak_tup3 (weak_nil 3) (Weak.refl _) (Weak.refl _)
theorem eqAs {text : Str} (h1 : arE text = 0) (h2 : arI text = 0) : HVal.tup [eAssets (arL text), .int .i64 0, .int .i64 0] = .tup [eAssets (arP text), .int .i64 (arI text), .int .i64 (arE text)] := by
 have : arP text = arL text := by unfold arP; rw [if_pos h1]
 rw [this, h1, h2]
theorem ar_1 {text : Str} (h : (200000 : Int) < (text.length : Int)) : arE text = 2 ∧ arI text = 0 := by
 unfold arE arI; rw [if_pos h, if_pos h]; exact ⟨rfl, rfl⟩
theorem ar_2 {text : Str} (h : (text.length : Int) ≤ 200000) (h2 : (goL raB 0 (spl 10 text)).2 = false) : arE text = 9 ∧ arI text = (goL raB 0 (spl 10 text)).1 := by
 have h' : ¬ (200000 : Int) < (text.length : Int) := by omega
 unfold arE arI arB; simp only [h', if_false, h2]; exact ⟨rfl, rfl⟩
theorem ar_3 {text : Str} (h : (text.length : Int) ≤ 200000) (h2 : (goL raB 0 (spl 10 text)).2 = true) : arE text = checkAssets (arL text) ∧ arI text = 0 := by
 have h' : ¬ (200000 : Int) < (text.length : Int) := by omega
 unfold arE arI arB; simp only [h', if_false, h2]; exact ⟨rfl, rfl⟩
theorem arL_len (text : Str) : (arL text).length ≤ text.length := by
 unfold arL; rw [List.length_map]; exact lns_len text
end Go.HL
end
section
namespace Go.HL
theorem ra_w {line : Str} (h : wordsB line 3 = true) : wordsL line 3 = spl 32 line ∧ (spl 32 line).length = 3 ∧ raB line = numB ((spl 32 line).getD 2 []) 7 := by
 refine ⟨by unfold wordsL; rw [if_pos h], ?_, by unfold raB; rw [h]; rfl⟩
 unfold wordsB at h
 rw [Bool.and_eq_true, decide_eq_true_eq] at h
 omega
theorem ra_f {line : Str} (h : wordsB line 3 = false) : raB line = false := by unfold raB; rw [h]; rfl
theorem eqAs_refl : ∀ l : List Asset, eqSts eAsset l l = true
 | [] => rfl
 | a :: r => by simp [eqSts, eqSt, eqAs_refl r, hcells, eqHL, eqH]
end Go.HL
end
section
namespace Go.Proofs.YtbfikmihcpfgaaaGreatDoor
open Go.HL
set_option maxRecDepth 100000
set_option linter.unusedVariables false
set_option linter.unusedSimpArgs false
/-- math/bits.Len64 -/
theorem c_bits_Len64_s [Tracks] {x : Nat} (hx : x < 16) : Con Tryz.prog 180 [.int .u64 (x : Int)] [] (fun y M' => ∃ n : Int, y = .int .i64 n ∧ M' = []) := by
 refine Con.of_body Tryz.func180 rfl Tryz.ntmps180 rfl rfl ?_
 refine hw_reg ?_
 refine dp rfl (pop_assign rfl) ?_
 refine dn ?_
 refine hw_seq ?_
 refine hw_reg ?_
 refine dp rfl (pop_move rfl) ?_
 refine dp rfl (pop_geq rfl rfl) ?_
 refine dn ?_
 refine hw_cond rfl (fun h1 => ?_) (fun h1 => ?_)
 ·exfalso
  try simp at h1
  omega
 ·try simp at h1
  refine hw_skip ?_
  refine seqQ_n ?_
  refine hw_seq ?_
  refine hw_reg ?_
  refine dp rfl (pop_move rfl) ?_
  refine dp rfl (pop_geq rfl rfl) ?_
  refine dn ?_
  refine hw_cond rfl (fun h2 => ?_) (fun h2 => ?_)
  ·exfalso
   try simp at h2
   omega
  ·try simp at h2
   refine hw_skip ?_
   refine seqQ_n ?_
   refine hw_seq ?_
   refine hw_reg ?_
   refine dp rfl (pop_move rfl) ?_
   refine dp rfl (pop_geq rfl rfl) ?_
   refine dn ?_
   refine hw_cond rfl (fun h3 => ?_) (fun h3 => ?_)
   ·exfalso
    try simp at h3
    omega
   ·try simp at h3
    refine hw_skip ?_
    refine seqQ_n ?_
    refine hw_reg ?_
    refine dp rfl (pop_move rfl) ?_
    refine dp rfl (pop_move rfl) ?_
    refine dp rfl (pop_conv ty185 ty5 rfl) ?_
    refine dp rfl (pop_indexs (j := x) ty9 rfl rfl (wrap8 hx) (List.getElem?_eq_getElem (Nat.lt_of_lt_of_le hx (Nat.le_of_ble_eq_true (by kernel_rfl))))) ?_
    refine dp rfl (pop_conv ty5 ty3 rfl) ?_
    refine dp rfl (pop_add rfl rfl) ?_
    refine dp rfl (pop_assign rfl) ?_
    refine dn ?_
    refine hw_ret ?_
    exact ret_q rfl ⟨_, rfl, rfl⟩

/-- math/bits.Len -/
theorem c_bits_Len_s [Tracks] {x : Nat} (hx : x < 16) : Con Tryz.prog 138 [.int .u64 (x : Int)] [] (fun y M' => ∃ n : Int, y = .int .i64 n ∧ M' = []) := by
 refine Con.of_body Tryz.func138 rfl Tryz.ntmps138 rfl rfl ?_
 refine hw_reg ?_
 refine dp rfl (pop_assign rfl) ?_
 refine dn ?_
 refine hw_seq ?_
 refine hw_cond_f rfl ?_
 refine hw_skip ?_
 refine seqQ_n ?_
 refine hw_reg ?_
 refine dp rfl (pop_move rfl) ?_
 refine de rfl (eop_callf (M1 := []) (R := []) ca180 rfl (WeakL.refl _) (List.Perm.refl _) (c_bits_Len64_s hx) ?_)
 rintro _ _ ⟨n7, rfl, rfl⟩
 refine dp rfl (pop_assign rfl) ?_
 refine dn ?_
 refine hw_ret ?_
 exact ret_q rfl ⟨_, rfl, rfl⟩

set_option maxHeartbeats 1000000 in
/-- slices.insertionSortCmpFunc[benchwarmer/api.Asset] -/
theorem c_slices_insertionSortCmpFunc_api_Asset [Tracks] {l : List Asset} {v : Value} {fid : FuncId} {caps : List HVal} {c : Asset → Asset → Int} {n : Int} (hca : Callable Tryz.prog fid) (hp : ∀ x y, ConP Tryz.prog fid ([eAsset x, eAsset y] ++ caps) (.int .i64 (c x y))) (hn : n = l.length) (hl : l.length ≤ 1000000) : Con Tryz.prog 181 [.raw v, .int .i64 0, .int .i64 n, .fn (.func fid) [] caps] [.arr v 3 (l.map eAsset)] (fun x M' => x = .tup [] ∧ M' = [.arr v 3 ((isort c l).map eAsset)]) := by
 subst hn
 refine Con.of_body Tryz.func181 rfl Tryz.ntmps181 rfl rfl ?_
 refine hw_reg ?_
 refine dp rfl (pop_move rfl) ?_
 refine dp rfl (pop_add64 rfl rfl (by omega) (by omega)) ?_
 refine dp rfl (pop_assign rfl) ?_
 refine dn ?_
 refine hw_block ?_
 refine hw_loopw [8, 9, 12, 13, 14, 15, 16, 17, 18, 19, 20, 21, 22, 23, 24, 25, 26, 27, 28, 29, 30, 31, 32, 33, 34, 35, 36, 37, 38, 39, 40, 41, 42, 43, 44, 45, 46, 47, 48, 49, 50, 51, 52] (fun (k : Nat) => [(8, .int .i64 (k : Int))]) (fun (k : Nat) => [.arr v 3 ((isort c (l.take k) ++ l.drop k).map eAsset)]) (fun (k : Nat) => 1 ≤ k) (fun (k : Nat) => l.length - k) (1) ?_ ?_ ?_ ?_
 ·exact Nat.le_refl _
 ·exact ⟨rfl, trivial⟩
 ·exact perm_eq (by rw [isort_take1])
 ·intro k hk
  refine hw_seq ?_
  refine hw_reg ?_
  refine dp rfl (pop_move rfl) ?_
  refine dp rfl (pop_move rfl) ?_
  refine dp rfl (pop_lss rfl rfl) ?_
  refine dn ?_
  refine hw_cond rfl (fun h1 => ?_) (fun h2 => ?_)
  ·try simp at h1
   obtain ⟨x, hx⟩ : ∃ x, l[k]? = some x := ⟨_, List.getElem?_eq_getElem (by omega)⟩
   refine hw_arrc (i := 0) rfl (fun h0 he => ?_) (fun b off cap hv hcap => ?_)
   ·exfalso; have := congrArg List.length he; simp [isort_len] at this; omega
   rw [show ((isort c (l.take k) ++ l.drop k).map eAsset).length = l.length by simp [isort_len]; omega] at hv
   subst hv
   refine hw_skip ?_
   refine seqQ_n ?_
   refine hw_seq ?_
   refine hw_block ?_
   refine hw_reg ?_
   refine dp rfl (pop_move rfl) ?_
   refine dp rfl (pop_assign rfl) ?_
   refine dn ?_
   refine hw_block ?_
   refine hw_loopw2 [9, 18, 19, 20, 21, 22, 23, 24, 25, 26, 27, 28, 29, 30, 31, 32, 33, 34, 35, 36, 37, 38, 39, 40, 41, 42, 43, 44, 45, 46, 47, 48, 49, 50, 51, 52] (fun (A : List Asset) (B : List Asset) => [(9, .int .i64 (A.length : Int))]) (fun (A : List Asset) (B : List Asset) => [.arr (.slice (some ⟨b, off, none⟩) l.length cap) 3 ((A ++ x :: (B ++ l.drop (k + 1))).map eAsset)]) (fun (A : List Asset) (B : List Asset) => A.length + B.length = k ∧ insB c x (isort c (l.take k)) = insB c x A ++ B) (fun (A : List Asset) (B : List Asset) => A.length) (isort c (l.take k)) ([]) ?_ ?_ ?_ ?_
   ·exact ⟨by simp [isort_len]; omega, by simp⟩
   ·exact ⟨some_int (by simp [isort_len]; omega), trivial⟩
   ·exact perm_eq (by rw [drop_cons hx]; rfl)
   ·intro A B hinv
    obtain ⟨hA, hB⟩ := hinv
    have hlA : A.length < l.length := by omega
    have hll : ((A ++ x :: (B ++ l.drop (k + 1)))).length = l.length := by simp; omega
    refine hw_seq ?_
    refine hw_draw (fun M => M = [.arr (.slice (some ⟨b, off, none⟩) l.length cap) 3 ((A ++ x :: (B ++ l.drop (k + 1))).map eAsset)]) [8, 13] mixed ?_
    refine ahp 0 rfl rfl (by kernel_rfl) (by kernel_rfl) (pop_move rfl) ?_
    refine ahp 1 rfl rfl (by kernel_rfl) (by kernel_rfl) (pop_move rfl) ?_
    refine ahp 2 rfl rfl (by kernel_rfl) (by kernel_rfl) (pop_gtr rfl rfl) ?_
    refine ahp 3 rfl rfl (by kernel_rfl) (by kernel_rfl) (pop_move rfl) ?_
    refine ahg 4 rfl rfl (by kernel_rfl) (by kernel_rfl) rfl (fun hc => ⟨_, OpenTo.refl _, pop_move rfl⟩) ?_
    refine ahg 5 rfl rfl (by kernel_rfl) (by kernel_rfl) rfl (fun hc => ⟨_, OpenTo.refl _, pop_move rfl⟩) ?_
    refine ahg 6 rfl rfl (by kernel_rfl) (by kernel_rfl) rfl (fun hc => ⟨_, OpenTo.refl _, pop_move rfl⟩) ?_
    refine ahg 7 rfl rfl (by kernel_rfl) (by kernel_rfl) rfl (fun hc => by
     have hq : 0 < A.length := by simpa using hc
     exact ⟨_, OpenTo.upd (t := 24) rfl (hc) (OpenTo.upd (t := 23) rfl (hc) (OpenTo.refl _)), pop_idxraw (j := A.length) ty26 ty36 rfl rfl (by rfl) (by omega)⟩) ?_
    refine ahgl 8 rfl rfl (by kernel_rfl) (by kernel_rfl) (by simp) rfl rfl (fun hc => ⟨_, OpenTo.upd (t := 25) rfl (hc) (OpenTo.refl _), fun M hM => by
     subst hM; exact eop_load_elw (i := 0) (j := A.length) ty36 rfl rfl rfl get_mid rfl rfl rfl ⟨rfl, rfl⟩
     ⟩) ?_
    refine ahg 9 rfl rfl (by kernel_rfl) (by kernel_rfl) rfl (fun hc => ⟨_, OpenTo.refl _, pop_move rfl⟩) ?_
    refine ahg 10 rfl rfl (by kernel_rfl) (by kernel_rfl) rfl (fun hc => ⟨_, OpenTo.refl _, pop_move rfl⟩) ?_
    refine ahg 11 rfl rfl (by kernel_rfl) (by kernel_rfl) rfl (fun hc => by
     have hq : 0 < A.length := by simpa using hc
     exact ⟨_, OpenTo.upd (t := 28) rfl (hc) (OpenTo.refl _), pop_sub64 rfl rfl (by omega) (by omega)⟩) ?_
    refine ahg 12 rfl rfl (by kernel_rfl) (by kernel_rfl) rfl (fun hc => by
     have hq : 0 < A.length := by simpa using hc
     exact ⟨_, OpenTo.upd (t := 29) rfl (hc) (OpenTo.upd (t := 27) rfl (hc) (OpenTo.refl _)), pop_idxraw (j := A.length - 1) ty26 ty36 rfl rfl (by omega) (by omega)⟩) ?_
    refine ahgl 13 rfl rfl (by kernel_rfl) (by kernel_rfl) (by simp) rfl rfl (fun hc => ⟨_, OpenTo.upd (t := 30) rfl (hc) (OpenTo.refl _), fun M hM => by
     have hq : 0 < A.length := by simpa using hc
     subst hM; exact eop_load_elw (i := 0) (j := A.length - 1) ty36 rfl rfl rfl (get_before hq) rfl rfl rfl ⟨rfl, rfl⟩
     ⟩) ?_
    refine ahg 14 rfl rfl (by kernel_rfl) (by kernel_rfl) rfl (fun hc => ⟨_, OpenTo.upd (t := 31) rfl (hc) (OpenTo.upd (t := 26) rfl (hc) (OpenTo.upd (t := 22) rfl (hc) (OpenTo.refl _))), pop_callv hca rfl rfl (WeakL.refl _) (hp _ _)⟩) ?_
    refine ahg 15 rfl rfl (by kernel_rfl) (by kernel_rfl) rfl (fun hc => ⟨_, OpenTo.upd (t := 32) rfl (hc) (OpenTo.refl _), pop_lss rfl rfl⟩) ?_
    refine ahp 16 rfl rfl (by kernel_rfl) (by kernel_rfl) (pop_picko rfl (.inr ⟨_, rfl, fun h => by simp_all⟩) (.inl rfl)) ?_
    refine ahz (by kernel_rfl) ?_
    refine hw_cond rfl (fun h3 => ?_) (fun h4 => ?_)
    ·try simp at h3
     obtain ⟨hA0, hcx⟩ := h3
     obtain ⟨A1, y, rfl⟩ := snoc_of hA0
     rw [getD_snoc] at hcx
     refine hw_skip ?_
     refine seqQ_n ?_
     refine hw_seq ?_
     refine hw_block ?_
     refine hw_draw1 (fun M => M = [.arr (.slice (some ⟨b, off, none⟩) l.length cap) 3 (((A1 ++ [y]) ++ x :: (B ++ l.drop (k + 1))).map eAsset)]) [9, 13] mixed ?_
     refine ahp 0 rfl rfl (by kernel_rfl) (by kernel_rfl) (pop_move rfl) ?_
     refine ahp 1 rfl rfl (by kernel_rfl) (by kernel_rfl) (pop_move rfl) ?_
     refine ahp 2 rfl rfl (by kernel_rfl) (by kernel_rfl) (pop_move rfl) ?_
     refine ahp 3 rfl rfl (by kernel_rfl) (by kernel_rfl) (pop_move rfl) ?_
     refine ahp 4 rfl rfl (by kernel_rfl) (by kernel_rfl) (pop_sub64 rfl rfl (by omega) (by omega)) ?_
     refine ahp 5 rfl rfl (by kernel_rfl) (by kernel_rfl) (pop_move rfl) ?_
     refine ahp 6 rfl rfl (by kernel_rfl) (by kernel_rfl) (pop_move rfl) ?_
     refine ahp 7 rfl rfl (by kernel_rfl) (by kernel_rfl) (pop_sub64 rfl rfl (by omega) (by omega)) ?_
     refine ahp 8 rfl rfl (by kernel_rfl) (by kernel_rfl) (pop_idxraw (j := (A1 ++ [y]).length - 1) ty26 ty36 rfl rfl (by omega) (by omega)) ?_
     refine ahl 9 rfl rfl (by kernel_rfl) (by kernel_rfl) (by simp) rfl (fun M hM => by subst hM; exact eop_load_elw (i := 0) (j := (A1 ++ [y]).length - 1) ty36 rfl rfl rfl ((get_before hA0).trans (by rw [getD_snoc])) rfl rfl rfl ⟨rfl, rfl⟩) ?_
     refine ahp 10 rfl rfl (by kernel_rfl) (by kernel_rfl) (pop_move rfl) ?_
     refine ahp 11 rfl rfl (by kernel_rfl) (by kernel_rfl) (pop_move rfl) ?_
     refine ahp 12 rfl rfl (by kernel_rfl) (by kernel_rfl) (pop_idxraw (j := (A1 ++ [y]).length) ty26 ty36 rfl rfl rfl (by omega)) ?_
     refine ahl 13 rfl rfl (by kernel_rfl) (by kernel_rfl) (by simp) rfl (fun M hM => by subst hM; exact eop_load_elw (i := 0) (j := (A1 ++ [y]).length) ty36 rfl rfl rfl get_mid rfl rfl rfl ⟨rfl, rfl⟩) ?_
     refine ahp 14 rfl rfl (by kernel_rfl) (by kernel_rfl) (pop_idxraw (j := (A1 ++ [y]).length) ty26 ty36 rfl rfl rfl (by omega)) ?_
     refine ahe 15 rfl (by kernel_rfl) ?_
     refine hop_e0 (eop_store_elw (i := 0) (j := (A1 ++ [y]).length) (y := x) (y' := y) ty36 rfl rfl rfl rfl get_mid rfl rfl rfl ?_)
     refine ⟨fun _ => .inr (by simp [Before, Region.binds]), ?_⟩
     refine ahp 16 rfl rfl (by kernel_rfl) (by kernel_rfl) (pop_idxraw (j := (A1 ++ [y]).length - 1) ty26 ty36 rfl rfl (by omega) (by omega)) ?_
     refine ahe 17 rfl (by kernel_rfl) ?_
     refine hop_e0 (eop_store_elw (i := 0) (j := (A1 ++ [y]).length - 1) (y := y) (y' := x) ty36 rfl rfl rfl rfl (by rw [List.getElem?_set_ne (by simp)]; exact (get_before hA0).trans (by rw [getD_snoc])) rfl rfl rfl ?_)
     refine ⟨fun _ => .inr (by simp [Before, Region.binds]), ?_⟩
     refine ahz (by kernel_rfl) ?_
     refine blockQ_n ?_
     refine seqQ_n ?_
     refine hw_reg1 ?_
     refine dp rfl (pop_move rfl) ?_
     refine dp rfl (pop_sub64 rfl rfl (by omega) (by omega)) ?_
     refine dp rfl (pop_assign rfl) ?_
     refine dn ?_
     exact ⟨A1, y :: B, ⟨by simp at hA ⊢; omega, ins_step hB hcx⟩, by dsimp only; simp, ⟨some_int (by simp), trivial⟩, (by repeat (first | exact keeps_refl | refine keeps_upd rfl ?_ | refine keeps_loop rfl rfl ?_)), perm_eq (by rw [swap_mid]; rfl)⟩
    ·try simp at h4
     have hins := ins_exit (l := l) (k := k) hx hB (by intro h0; have := h4 h0; omega)
     refine hw_exit ?_
     refine seqQ_x ?_
     refine loopQ2_x ?_
     refine blockQ_eq ?_
     refine blockQ_n ?_
     refine seqQ_n ?_
     refine hw_reg1 ?_
     refine dp rfl (pop_move rfl) ?_
     refine dp rfl (pop_add64 rfl rfl (by omega) (by omega)) ?_
     refine dp rfl (pop_assign rfl) ?_
     refine dn ?_
     refine ⟨k + 1, ?_, ?_, ⟨rfl, trivial⟩, (by repeat (first | exact keeps_refl | refine keeps_upd rfl ?_ | refine keeps_loop rfl rfl ?_)), perm_eq (by rw [hins])⟩
     ·omega
     ·dsimp only; omega
  ·try simp at h2
   have hend : isort c (l.take k) ++ l.drop k = isort c l := by rw [List.take_of_length_le (by omega), drop_all (by omega)]; simp
   refine hw_exit ?_
   refine seqQ_x ?_
   refine loopQ_x ?_
   refine blockQ_eq ?_
   exact ⟨_, _, Ghost.sub (Sub.refl _), _, _, rfl, Weak.refl _, rfl, by rw [hend]⟩

/-- slices.pdqsortCmpFunc[benchwarmer/api.Asset] -/
theorem c_slices_pdqsortCmpFunc_api_Asset [Tracks] {l : List Asset} {v : Value} {fid : FuncId} {caps : List HVal} {c : Asset → Asset → Int} {lim : Int} (hca : Callable Tryz.prog fid) (hp : ∀ x y, ConP Tryz.prog fid ([eAsset x, eAsset y] ++ caps) (.int .i64 (c x y))) (hl : l.length ≤ 12) : Con Tryz.prog 139 [.raw v, .int .i64 0, .int .i64 (l.length : Int), .int .i64 lim, .fn (.func fid) [] caps] [.arr v 3 (l.map eAsset)] (fun x M' => x = .tup [] ∧ M' = [.arr v 3 ((isort c l).map eAsset)]) := by
 refine Con.of_body Tryz.func139 rfl Tryz.ntmps139 rfl rfl ?_
 refine hw_reg ?_
 refine dp rfl (pop_assign rfl) ?_
 refine dn ?_
 refine hw_reg ?_
 refine dp rfl (pop_assign rfl) ?_
 refine dn ?_
 refine hw_block ?_
 refine hw_loopw (1 :: 2 :: 3 :: 10 :: 11 :: 12 :: 13 :: 14 :: 15 :: 16 :: 17 :: 18 :: 19 :: 20 :: 21 :: 22 :: 23 :: 24 :: 25 :: 26 :: 27 :: 28 :: 29 :: 30 :: 31 :: 32 :: 33 :: 34 :: 35 :: 36 :: 37 :: 38 :: 39 :: 40 :: 41 :: 42 :: 43 :: 44 :: 45 :: 46 :: 47 :: 48 :: 49 :: 50 :: 51 :: 52 :: 53 :: 54 :: 55 :: 56 :: 57 :: 58 :: 59 :: 60 :: 61 :: 62 :: 63 :: 64 :: 65 :: 66 :: 67 :: 68 :: 69 :: 70 :: 71 :: 72 :: 73 :: 74 :: 75 :: 76 :: 77 :: 78 :: 79 :: 80 :: 81 :: 82 :: 83 :: 84 :: 85 :: 86 :: 87 :: 88 :: 89 :: 90 :: 91 :: 92 :: 93 :: 94 :: 95 :: 96 :: 97 :: 98 :: 99 :: 100 :: 101 :: 102 :: 103 :: 104 :: 105 :: 106 :: 107 :: 108 :: 109 :: 110 :: 111 :: 112 :: 113 :: 114 :: 115 :: 116 :: 117 :: 118 :: 119 :: 120 :: 121 :: 122 :: 123 :: 124 :: 125 :: 126 :: 127 :: 128 :: 129 :: 130 :: 131 :: 132 :: 133 :: 134 :: 135 :: 136 :: 137 :: 138 :: 139 :: 140 :: 141 :: 142 :: 143 :: 144 :: 145 :: 146 :: 147 :: []) (fun (u : Unit) => [(1, .int .i64 0), (2, .int .i64 (l.length : Int))]) (fun (u : Unit) => [.arr v 3 (l.map eAsset)]) (fun (u : Unit) => True) (fun (u : Unit) => 0) (()) ?_ ?_ ?_ ?_
 ·trivial
 ·exact ⟨rfl, rfl, trivial⟩
 ·exact List.Perm.refl _
 ·intro u hu
  refine hw_block ?_
  refine hw_reg ?_
  refine dp rfl (pop_move rfl) ?_
  refine dp rfl (pop_move rfl) ?_
  refine dp rfl (pop_sub64 rfl rfl (by omega) (by omega)) ?_
  refine dp rfl (pop_assign rfl) ?_
  refine dn ?_
  refine hw_seq ?_
  refine hw_reg ?_
  refine dp rfl (pop_move rfl) ?_
  refine dp rfl (pop_leq rfl rfl) ?_
  refine dn ?_
  refine hw_cond rfl (fun h1 => ?_) (fun h1 => ?_)
  ·try simp at h1
   refine hw_reg ?_
   refine dp rfl (pop_move rfl) ?_
   refine dp rfl (pop_move rfl) ?_
   refine dp rfl (pop_move rfl) ?_
   refine dp rfl (pop_move rfl) ?_
   refine de rfl (eop_callx (i := 0) ca181 rfl (WeakL.refl _) rfl (c_slices_insertionSortCmpFunc_api_Asset (l := l) hca hp (by omega) (by omega)) ?_)
   rintro _ _ ⟨rfl, rfl⟩
   refine dn ?_
   refine hw_ret ?_
   exact ret_q rfl ⟨rfl, rfl⟩
  ·exfalso
   try simp at h1
   omega

/-- slices.SortFunc[[]benchwarmer/api.Asset,benchwarmer/api.Asset] -/
theorem c_slices_SortFunc_api_Asset_api_Asset [Tracks] {l : List Asset} {v : Value} {fid : FuncId} {caps : List HVal} {c : Asset → Asset → Int} (hca : Callable Tryz.prog fid) (hp : ∀ x y, ConP Tryz.prog fid ([eAsset x, eAsset y] ++ caps) (.int .i64 (c x y))) (hl : l.length ≤ 12) : Con Tryz.prog 100 [.raw v, .fn (.func fid) [] caps] [.arr v 3 (l.map eAsset)] (fun x M' => x = .tup [] ∧ M' = [.arr v 3 ((isort c l).map eAsset)]) := by
 refine Con.of_body Tryz.func100 rfl Tryz.ntmps100 rfl rfl ?_
 refine hw_reg ?_
 refine dp rfl (pop_move rfl) ?_
 refine de rfl (eop_lenm (i := 0) ty26 rfl rfl ?_)
 refine dp rfl (pop_assign rfl) ?_
 refine dn ?_
 refine hw_reg1 ?_
 refine dp rfl (pop_move rfl) ?_
 refine dp rfl (pop_move rfl) ?_
 refine dp rfl (pop_move rfl) ?_
 refine dp rfl (pop_eq (pop_conv ty3 ty181 rfl) (congrArg _ (wrapu64 (by omega)))) ?_
 refine de rfl (eop_callf (M1 := []) (R := [_]) ca138 rfl (WeakL.refl _) (List.Perm.refl _) (c_bits_Len_s (x := l.length) (by omega)) ?_)
 rintro _ _ ⟨n11, rfl, rfl⟩
 refine dp rfl (pop_move rfl) ?_
 refine de rfl (eop_callx (i := 0) ca139 rfl (WeakL.refl _) rfl (c_slices_pdqsortCmpFunc_api_Asset hca hp hl) ?_)
 rintro _ _ ⟨rfl, rfl⟩
 refine dn ?_
 exact ⟨_, _, Ghost.sub (Sub.refl _), _, _, rfl, Weak.refl _, rfl, rfl⟩

end Go.Proofs.YtbfikmihcpfgaaaGreatDoor
end
section
namespace Go.Proofs.YtbfikmihcpfgaaaGreatDoor
open Go.HL
set_option maxRecDepth 100000
set_option linter.unusedVariables false
set_option linter.unusedSimpArgs false

end Go.Proofs.YtbfikmihcpfgaaaGreatDoor
end
section
namespace Go.Proofs.YtbfikmihcpfgaaaGreatDoor
open Go.HL
set_option maxRecDepth 100000
set_option linter.unusedVariables false
set_option linter.unusedSimpArgs false
/-- benchwarmer/value.assetFault -/
theorem c_value_assetFault [Tracks] {x : Asset}  : ConP Tryz.prog 78 [eAsset x] (.int .i64 (assetFault x)) := by
 refine Con.of_body Tryz.func78 rfl Tryz.ntmps78 rfl rfl ?_
 refine hw_reg ?_
 refine dp rfl (pop_box rfl rfl) ?_
 refine dp rfl (pop_assign rfl) ?_
 refine dn ?_
 refine hw_seq ?_
 refine hw_block ?_
 refine hw_reg ?_
 refine dp rfl (pop_fieldAddr ty36 rfl ty9 (by decide) rfl) ?_
 refine dp rfl (pop_load ty9 rfl rfl rfl) ?_
 refine dp rfl (pop_call ca116 rfl (WeakL.refl _) c_base_Key) ?_
 refine dp rfl (pop_not rfl) ?_
 refine dp rfl (pop_move rfl) ?_
 refine dg rfl rfl (fun hc => ⟨_, OpenTo.refl _, pop_fieldAddr ty36 rfl ty9 (by decide) rfl⟩) ?_
 refine dg rfl rfl (fun hc => ⟨_, OpenTo.upd (t := 9) rfl (hc) (OpenTo.refl _), pop_load ty9 rfl rfl rfl⟩) ?_
 refine dg rfl rfl (fun hc => ⟨_, OpenTo.upd (t := 10) rfl (hc) (OpenTo.refl _), pop_call ca116 rfl (WeakL.refl _) c_base_Key⟩) ?_
 refine dg rfl rfl (fun hc => ⟨_, OpenTo.upd (t := 11) rfl (hc) (OpenTo.refl _), pop_not rfl⟩) ?_
 refine dp rfl (pop_picko rfl (.inl rfl) (.inr ⟨_, rfl, fun h => by simp_all⟩)) ?_
 refine dp rfl (pop_assign rfl) ?_
 refine dn ?_
 refine hw_cond rfl (fun h1 => ?_) (fun h2 => ?_)
 ·try simp at h1
  refine hw_reg ?_
  refine dp rfl (pop_assign rfl) ?_
  refine dn ?_
  refine hw_ret ?_
  refine ret_p rfl ?_
  show HVal.int .i64 _ = _
  simp_all [assetFault]
 ·try simp at h2
  refine hw_reg ?_
  refine dp rfl (pop_fieldAddr ty36 rfl ty3 (by decide) rfl) ?_
  refine dp rfl (pop_load ty3 rfl rfl rfl) ?_
  refine dp rfl (pop_call ca53 rfl (WeakL.refl _) c_base_Out) ?_
  refine dp rfl (pop_assign rfl) ?_
  refine dn ?_
  refine hw_cond rfl (fun h3 => ?_) (fun h4 => ?_)
  ·try simp at h3
   refine hw_reg ?_
   refine dp rfl (pop_assign rfl) ?_
   refine dn ?_
   refine hw_ret ?_
   refine ret_p rfl ?_
   show HVal.int .i64 _ = _
   simp_all [assetFault]
  ·try simp at h4
   refine hw_skip ?_
   refine blockQ_n ?_
   refine seqQ_n ?_
   refine hw_reg ?_
   refine dp rfl (pop_assign rfl) ?_
   refine dn ?_
   refine hw_ret ?_
   refine ret_p rfl ?_
   show HVal.int .i64 _ = _
   simp_all [assetFault]

/-- benchwarmer/value.CheckAssets -/
theorem c_value_CheckAssets [Tracks] {l : List Asset} (hl : l.length ≤ 1000000) : ConP Tryz.prog 35 [eAssets l] (.int .i64 (checkAssets l)) := by
 refine Con.of_body Tryz.func35 rfl Tryz.ntmps35 rfl rfl ?_
 refine hw_reg ?_
 refine dp rfl (pop_assign rfl) ?_
 refine dn ?_
 refine hw_seq ?_
 refine hw_reg ?_
 refine dp rfl (pop_move rfl) ?_
 refine dp rfl (pop_lenm ty26 rfl) ?_
 refine dp rfl (pop_gtr rfl rfl) ?_
 refine dn ?_
 refine hw_cond rfl (fun h1 => ?_) (fun h2 => ?_)
 ·try simp at h1
  refine hw_reg ?_
  refine dp rfl (pop_assign rfl) ?_
  refine dn ?_
  refine hw_ret ?_
  refine ret_p rfl ?_
  show HVal.int .i64 _ = _
  (rw [checkAssets, if_pos (by omega)]; done)
 ·try simp at h2
  refine hw_skip ?_
  refine seqQ_n ?_
  refine hw_seq ?_
  refine hw_reg ?_
  refine dp rfl (pop_move rfl) ?_
  refine dp rfl (pop_lenm ty26 rfl) ?_
  refine dp rfl (pop_move rfl) ?_
  refine dn ?_
  refine hw_block ?_
  refine hw_loopw [2, 3, 4, 5, 11, 12, 13, 14, 15, 16, 17, 18, 19, 20, 21, 22, 23, 24, 25, 26, 27, 28, 29, 30, 31, 32, 33, 34] (fun (k : Nat) => [(11, .int .i64 k)]) (fun (k : Nat) => []) (fun (k : Nat) => k ≤ l.length ∧ (checkAssets l = assetsGo l k (l.drop k))) (fun (k : Nat) => l.length - k) (0) ?_ ?_ ?_ ?_
  ·refine ⟨Nat.zero_le _, ?_⟩
   rw [checkAssets, if_neg (by omega)]; rfl
  ·exact ⟨rfl, trivial⟩
  ·exact List.Perm.refl _
  ·intro k hinv
   obtain ⟨hk, hg⟩ := hinv
   refine hw_reg ?_
   refine dp rfl (pop_lss rfl rfl) ?_
   refine dn ?_
   refine hw_seq ?_
   refine hw_cond rfl (fun h3 => ?_) (fun h4 => ?_)
   ·try simp at h3
    obtain ⟨x, hx⟩ : ∃ x, l[k]? = some x := ⟨_, List.getElem?_eq_getElem h3⟩
    have hdx := drop_cons hx
    rw [hdx] at hg
    refine hw_skip ?_
    refine seqQ_n ?_
    refine hw_seq ?_
    refine hw_block ?_
    refine hw_reg ?_
    refine dp rfl (pop_move rfl) ?_
    refine dp rfl (pop_idx ty26 ty36 rfl rfl rfl (by assumption)) ?_
    refine dp rfl (pop_loadw ty36 rfl rfl rfl rfl) ?_
    refine de rfl (eop_alloc ty36 rfl fun b4 => ?_)
    refine dp rfl (pop_assign rfl) ?_
    refine de0 (eop_storew ty36 rfl rfl rfl rfl rfl ?_)
    refine dn ?_
    refine hw_ghost (Ghost.fc0 4 rfl) ?_
    refine hw_seq ?_
    refine hw_reg ?_
    refine dp rfl (pop_loadw ty36 rfl rfl rfl rfl) ?_
    refine dp rfl (pop_call ca78 rfl (WeakL.refl _) c_value_assetFault) ?_
    refine dp rfl (pop_assign rfl) ?_
    refine dn ?_
    refine hw_reg ?_
    refine dp rfl (pop_move rfl) ?_
    refine dp rfl (pop_neq rfl rfl) ?_
    refine dn ?_
    refine hw_cond rfl (fun h5 => ?_) (fun h6 => ?_)
    ·try simp at h5
     refine hw_reg ?_
     refine dp rfl (pop_move rfl) ?_
     refine dp rfl (pop_assign rfl) ?_
     refine dn ?_
     refine hw_ret ?_
     refine ret_p rfl ?_
     show HVal.int .i64 _ = _
     (rw [hg]; simp_all [assetsGo, leS]; done)
    ·try simp at h6
     refine hw_skip ?_
     refine seqQ_n ?_
     refine hw_draw (fun _ => True) [] mixed ?_
     refine ahp 0 rfl rfl (by kernel_rfl) (by kernel_rfl) (pop_move rfl) ?_
     refine ahp 1 rfl rfl (by kernel_rfl) (by kernel_rfl) (pop_gtr rfl rfl) ?_
     refine ahp 2 rfl rfl (by kernel_rfl) (by kernel_rfl) (pop_move rfl) ?_
     refine ahg 3 rfl rfl (by kernel_rfl) (by kernel_rfl) rfl (fun hc => ⟨_, OpenTo.refl _, pop_fieldAddr ty36 rfl ty9 (by decide) rfl⟩) ?_
     refine ahg 4 rfl rfl (by kernel_rfl) (by kernel_rfl) rfl (fun hc => ⟨_, OpenTo.upd (t := 24) rfl (hc) (OpenTo.refl _), pop_load ty9 rfl rfl rfl⟩) ?_
     refine ahg 5 rfl rfl (by kernel_rfl) (by kernel_rfl) rfl (fun hc => ⟨_, OpenTo.refl _, pop_move rfl⟩) ?_
     refine ahg 6 rfl rfl (by kernel_rfl) (by kernel_rfl) rfl (fun hc => ⟨_, OpenTo.refl _, pop_move rfl⟩) ?_
     refine ahg 7 rfl rfl (by kernel_rfl) (by kernel_rfl) rfl (fun hc => by have hq := hc; (try simp at hq); exact ⟨_, OpenTo.upd (t := 27) rfl (hc) (OpenTo.refl _), pop_sub64 rfl rfl (by omega) (by omega)⟩) ?_
     refine ahg 8 rfl rfl (by kernel_rfl) (by kernel_rfl) rfl (fun hc => by have hq := hc; (try simp at hq); exact ⟨_, OpenTo.upd (t := 28) rfl (hc) (OpenTo.upd (t := 26) rfl (hc) (OpenTo.refl _)), pop_idx (j := k - 1) (a := l.getD (k - 1) asset0) ty26 ty36 rfl rfl (by omega) (getD_some (by omega))⟩) ?_
     refine ahg 9 rfl rfl (by kernel_rfl) (by kernel_rfl) rfl (fun hc => ⟨_, OpenTo.upd (t := 29) rfl (hc) (OpenTo.refl _), pop_fieldAddr ty36 rfl ty9 (by decide) rfl⟩) ?_
     refine ahg 10 rfl rfl (by kernel_rfl) (by kernel_rfl) rfl (fun hc => ⟨_, OpenTo.upd (t := 30) rfl (hc) (OpenTo.refl _), pop_load ty9 rfl rfl rfl⟩) ?_
     refine ahg 11 rfl rfl (by kernel_rfl) (by kernel_rfl) rfl (fun hc => ⟨_, OpenTo.upd (t := 31) rfl (hc) (OpenTo.upd (t := 25) rfl (hc) (OpenTo.refl _)), pop_leqs rfl rfl⟩) ?_
     refine ahp 12 rfl rfl (by kernel_rfl) (by kernel_rfl) (pop_picko rfl (.inr ⟨_, rfl, fun h => by simp_all⟩) (.inl rfl)) ?_
     refine ahz (by kernel_rfl) ?_
     refine hw_cond rfl (fun h7 => ?_) (fun h8 => ?_)
     ·try simp at h7
      refine hw_reg ?_
      refine dp rfl (pop_assign rfl) ?_
      refine dn ?_
      refine hw_ret ?_
      refine ret_p rfl ?_
      show HVal.int .i64 _ = _
      (rw [hg]; simp_all [assetsGo, leS]; done)
     ·try simp at h8
      refine hw_skip ?_
      refine blockQ_n ?_
      refine seqQ_n ?_
      refine hw_reg1 ?_
      refine dp rfl (pop_add64 rfl rfl (by omega) (by omega)) ?_
      refine dp rfl (pop_move rfl) ?_
      refine dn ?_
      refine ⟨k + 1, ?_, ?_, ⟨rfl, trivial⟩, (by repeat (first | exact keeps_refl | refine keeps_upd rfl ?_ | refine keeps_loop rfl rfl ?_)), List.Perm.refl _⟩
      ·refine ⟨by omega, ?_⟩
       rw [hg]; simp_all [assetsGo, leS]
      ·dsimp only; omega
   ·try simp at h4
    have hnk : l.length ≤ k := by omega
    obtain rfl : k = l.length := by omega
    rw [drop_all (Nat.le_refl _)] at hg
    refine hw_exit ?_
    refine seqQ_x ?_
    refine loopQ_x ?_
    refine blockQ_eq ?_
    refine seqQ_n ?_
    refine hw_reg ?_
    refine dp rfl (pop_assign rfl) ?_
    refine dn ?_
    refine hw_ret ?_
    refine ret_p rfl ?_
    show HVal.int .i64 _ = _
    (rw [hg]; simp_all [assetsGo, leS]; done)

/-- benchwarmer/value.CheckPlaces -/
theorem c_value_CheckPlaces [Tracks] {l : List HL.Place} (hl : l.length ≤ 1000000) : ConP Tryz.prog 90 [ePlaces l] (.int .i64 (checkPlaces l)) := by
 refine Con.of_body Tryz.func90 rfl Tryz.ntmps90 rfl rfl ?_
 refine hw_reg ?_
 refine dp rfl (pop_assign rfl) ?_
 refine dn ?_
 refine hw_seq ?_
 refine hw_reg ?_
 refine dp rfl (pop_move rfl) ?_
 refine dp rfl (pop_lenm ty40 rfl) ?_
 refine dp rfl (pop_gtr rfl rfl) ?_
 refine dn ?_
 refine hw_cond rfl (fun h1 => ?_) (fun h2 => ?_)
 ·try simp at h1
  refine hw_reg ?_
  refine dp rfl (pop_assign rfl) ?_
  refine dn ?_
  refine hw_ret ?_
  refine ret_p rfl ?_
  show HVal.int .i64 _ = _
  (rw [checkPlaces, if_pos (by omega)]; done)
 ·try simp at h2
  refine hw_skip ?_
  refine seqQ_n ?_
  refine hw_seq ?_
  refine hw_reg ?_
  refine dp rfl (pop_move rfl) ?_
  refine dp rfl (pop_lenm ty40 rfl) ?_
  refine dp rfl (pop_move rfl) ?_
  refine dn ?_
  refine hw_block ?_
  refine hw_loopw [2, 3, 4, 10, 11, 12, 13, 14, 15, 16, 17, 18, 19, 20, 21, 22, 23, 24, 25, 26, 27, 28, 29, 30, 31, 32, 33, 34, 35, 36, 37, 38] (fun (k : Nat) => [(10, .int .i64 k)]) (fun (k : Nat) => []) (fun (k : Nat) => k ≤ l.length ∧ (checkPlaces l = placesGo l k (l.drop k))) (fun (k : Nat) => l.length - k) (0) ?_ ?_ ?_ ?_
  ·refine ⟨Nat.zero_le _, ?_⟩
   rw [checkPlaces, if_neg (by omega)]; rfl
  ·exact ⟨rfl, trivial⟩
  ·exact List.Perm.refl _
  ·intro k hinv
   obtain ⟨hk, hg⟩ := hinv
   refine hw_reg ?_
   refine dp rfl (pop_lss rfl rfl) ?_
   refine dn ?_
   refine hw_seq ?_
   refine hw_cond rfl (fun h3 => ?_) (fun h4 => ?_)
   ·try simp at h3
    obtain ⟨x, hx⟩ : ∃ x, l[k]? = some x := ⟨_, List.getElem?_eq_getElem h3⟩
    have hdx := drop_cons hx
    rw [hdx] at hg
    refine hw_skip ?_
    refine seqQ_n ?_
    refine hw_seq ?_
    refine hw_block ?_
    refine hw_reg ?_
    refine dp rfl (pop_move rfl) ?_
    refine dp rfl (pop_idx ty40 ty95 rfl rfl rfl (by assumption)) ?_
    refine dp rfl (pop_loadw ty95 rfl rfl rfl rfl) ?_
    refine de rfl (eop_alloc ty95 rfl fun b4 => ?_)
    refine dp rfl (pop_assign rfl) ?_
    refine de0 (eop_storew ty95 rfl rfl rfl rfl rfl ?_)
    refine dn ?_
    refine hw_ghost (Ghost.fc0 4 rfl) ?_
    refine hw_block ?_
    refine hw_reg ?_
    refine dp rfl (pop_fieldAddr ty95 rfl ty9 (by decide) rfl) ?_
    refine dp rfl (pop_load ty9 rfl rfl rfl) ?_
    refine dp rfl (pop_call ca116 rfl (WeakL.refl _) c_base_Key) ?_
    refine dp rfl (pop_not rfl) ?_
    refine dp rfl (pop_assign rfl) ?_
    refine dn ?_
    refine hw_cond rfl (fun h5 => ?_) (fun h6 => ?_)
    ·try simp at h5
     refine hw_reg ?_
     refine dp rfl (pop_assign rfl) ?_
     refine dn ?_
     refine hw_ret ?_
     refine ret_p rfl ?_
     show HVal.int .i64 _ = _
     (rw [hg]; simp_all [placesGo, leS]; done)
    ·try simp at h6
     refine hw_reg ?_
     refine dp rfl (pop_fieldAddr ty95 rfl ty3 (by decide) rfl) ?_
     refine dp rfl (pop_load ty3 rfl rfl rfl) ?_
     refine dp rfl (pop_call ca53 rfl (WeakL.refl _) c_base_Out) ?_
     refine dp rfl (pop_assign rfl) ?_
     refine dn ?_
     refine hw_cond rfl (fun h7 => ?_) (fun h8 => ?_)
     ·try simp at h7
      refine hw_reg ?_
      refine dp rfl (pop_assign rfl) ?_
      refine dn ?_
      refine hw_ret ?_
      refine ret_p rfl ?_
      show HVal.int .i64 _ = _
      (rw [hg]; simp_all [placesGo, leS]; done)
     ·try simp at h8
      refine hw_draw (fun _ => True) [] mixed ?_
      refine ahp 0 rfl rfl (by kernel_rfl) (by kernel_rfl) (pop_move rfl) ?_
      refine ahp 1 rfl rfl (by kernel_rfl) (by kernel_rfl) (pop_gtr rfl rfl) ?_
      refine ahp 2 rfl rfl (by kernel_rfl) (by kernel_rfl) (pop_move rfl) ?_
      refine ahg 3 rfl rfl (by kernel_rfl) (by kernel_rfl) rfl (fun hc => ⟨_, OpenTo.refl _, pop_fieldAddr ty95 rfl ty9 (by decide) rfl⟩) ?_
      refine ahg 4 rfl rfl (by kernel_rfl) (by kernel_rfl) rfl (fun hc => ⟨_, OpenTo.upd (t := 28) rfl (hc) (OpenTo.refl _), pop_load ty9 rfl rfl rfl⟩) ?_
      refine ahg 5 rfl rfl (by kernel_rfl) (by kernel_rfl) rfl (fun hc => ⟨_, OpenTo.refl _, pop_move rfl⟩) ?_
      refine ahg 6 rfl rfl (by kernel_rfl) (by kernel_rfl) rfl (fun hc => ⟨_, OpenTo.refl _, pop_move rfl⟩) ?_
      refine ahg 7 rfl rfl (by kernel_rfl) (by kernel_rfl) rfl (fun hc => by have hq := hc; (try simp at hq); exact ⟨_, OpenTo.upd (t := 31) rfl (hc) (OpenTo.refl _), pop_sub64 rfl rfl (by omega) (by omega)⟩) ?_
      refine ahg 8 rfl rfl (by kernel_rfl) (by kernel_rfl) rfl (fun hc => by have hq := hc; (try simp at hq); exact ⟨_, OpenTo.upd (t := 32) rfl (hc) (OpenTo.upd (t := 30) rfl (hc) (OpenTo.refl _)), pop_idx (j := k - 1) (a := l.getD (k - 1) place0) ty40 ty95 rfl rfl (by omega) (getD_some (by omega))⟩) ?_
      refine ahg 9 rfl rfl (by kernel_rfl) (by kernel_rfl) rfl (fun hc => ⟨_, OpenTo.upd (t := 33) rfl (hc) (OpenTo.refl _), pop_fieldAddr ty95 rfl ty9 (by decide) rfl⟩) ?_
      refine ahg 10 rfl rfl (by kernel_rfl) (by kernel_rfl) rfl (fun hc => ⟨_, OpenTo.upd (t := 34) rfl (hc) (OpenTo.refl _), pop_load ty9 rfl rfl rfl⟩) ?_
      refine ahg 11 rfl rfl (by kernel_rfl) (by kernel_rfl) rfl (fun hc => ⟨_, OpenTo.upd (t := 35) rfl (hc) (OpenTo.upd (t := 29) rfl (hc) (OpenTo.refl _)), pop_leqs rfl rfl⟩) ?_
      refine ahp 12 rfl rfl (by kernel_rfl) (by kernel_rfl) (pop_picko rfl (.inr ⟨_, rfl, fun h => by simp_all⟩) (.inl rfl)) ?_
      refine ahp 13 rfl rfl (by kernel_rfl) (by kernel_rfl) (pop_assign rfl) ?_
      refine ahz (by kernel_rfl) ?_
      refine hw_cond rfl (fun h9 => ?_) (fun h10 => ?_)
      ·try simp at h9
       refine hw_reg ?_
       refine dp rfl (pop_assign rfl) ?_
       refine dn ?_
       refine hw_ret ?_
       refine ret_p rfl ?_
       show HVal.int .i64 _ = _
       (rw [hg]; simp_all [placesGo, leS]; done)
      ·try simp at h10
       refine hw_skip ?_
       refine blockQ_n ?_
       refine blockQ_n ?_
       refine seqQ_n ?_
       refine hw_reg1 ?_
       refine dp rfl (pop_add64 rfl rfl (by omega) (by omega)) ?_
       refine dp rfl (pop_move rfl) ?_
       refine dn ?_
       refine ⟨k + 1, ?_, ?_, ⟨rfl, trivial⟩, (by repeat (first | exact keeps_refl | refine keeps_upd rfl ?_ | refine keeps_loop rfl rfl ?_)), List.Perm.refl _⟩
       ·refine ⟨by omega, ?_⟩
        rw [hg]; simp_all [placesGo, leS]
       ·dsimp only; omega
   ·try simp at h4
    have hnk : l.length ≤ k := by omega
    obtain rfl : k = l.length := by omega
    rw [drop_all (Nat.le_refl _)] at hg
    refine hw_exit ?_
    refine seqQ_x ?_
    refine loopQ_x ?_
    refine blockQ_eq ?_
    refine seqQ_n ?_
    refine hw_reg ?_
    refine dp rfl (pop_assign rfl) ?_
    refine dn ?_
    refine hw_ret ?_
    refine ret_p rfl ?_
    show HVal.int .i64 _ = _
    (rw [hg]; simp_all [placesGo, leS]; done)

/-- benchwarmer/value.byValue -/
theorem c_value_byValue [Tracks] {x y : Asset}  : ConP Tryz.prog 168 [eAsset x, eAsset y] (.int .i64 (byValue x y)) := by
 refine Con.of_body Tryz.func168 rfl Tryz.ntmps168 rfl rfl ?_
 refine hw_reg ?_
 refine dp rfl (pop_box rfl rfl) ?_
 refine dp rfl (pop_box rfl rfl) ?_
 refine dp rfl (pop_assign rfl) ?_
 refine dn ?_
 refine hw_draw (fun _ => True) [] mixed ?_
 refine ahp 0 rfl rfl (by kernel_rfl) (by kernel_rfl) (pop_fieldAddr ty36 rfl ty3 (by decide) rfl) ?_
 refine ahp 1 rfl rfl (by kernel_rfl) (by kernel_rfl) (pop_load ty3 rfl rfl rfl) ?_
 refine ahp 2 rfl rfl (by kernel_rfl) (by kernel_rfl) (pop_fieldAddr ty36 rfl ty3 (by decide) rfl) ?_
 refine ahp 3 rfl rfl (by kernel_rfl) (by kernel_rfl) (pop_load ty3 rfl rfl rfl) ?_
 refine ahp 4 rfl rfl (by kernel_rfl) (by kernel_rfl) (pop_call ca68 rfl (WeakL.refl _) c_cmp_Compare_int) ?_
 refine ahp 5 rfl rfl (by kernel_rfl) (by kernel_rfl) (pop_fieldAddr ty36 rfl ty9 (by decide) rfl) ?_
 refine ahp 6 rfl rfl (by kernel_rfl) (by kernel_rfl) (pop_load ty9 rfl rfl rfl) ?_
 refine ahp 7 rfl rfl (by kernel_rfl) (by kernel_rfl) (pop_fieldAddr ty36 rfl ty9 (by decide) rfl) ?_
 refine ahp 8 rfl rfl (by kernel_rfl) (by kernel_rfl) (pop_load ty9 rfl rfl rfl) ?_
 refine ahp 9 rfl rfl (by kernel_rfl) (by kernel_rfl) (pop_call ca102 rfl (WeakL.refl _) c_strings_Compare) ?_
 refine ahp 10 rfl rfl (by kernel_rfl) (by kernel_rfl) (pop_buildSlice (hs := [_, _]) ty22 ty3 rfl rfl (by decide) (by decide) rfl) ?_
 refine ahp 11 rfl rfl (by kernel_rfl) (by kernel_rfl) (pop_call ca67 rfl (WeakL.refl _) (c_cmp_Or_int (l := [_, _]) (by simp))) ?_
 refine ahp 12 rfl rfl (by kernel_rfl) (by kernel_rfl) (pop_assign rfl) ?_
 refine ahz (by kernel_rfl) ?_
 refine hw_ret ?_
 refine ret_p rfl ?_
 rfl

/-- benchwarmer/value.of -/
theorem c_value_of [Tracks] {l : List Asset} {pos : Str} (hl : l.length ≤ 12) : ConP Tryz.prog 132 [eAssets l, .str pos] (eAssets (ofP l pos)) := by
 refine Con.of_body Tryz.func132 rfl Tryz.ntmps132 rfl rfl ?_
 refine hw_reg ?_
 refine dp rfl (pop_assign rfl) ?_
 refine dn ?_
 refine hw_reg ?_
 refine dp rfl (pop_assign rfl) ?_
 refine dn ?_
 refine hw_ghost (Ghost.arr_nil 3) ?_
 refine hw_seq ?_
 refine hw_reg ?_
 refine dp rfl (pop_move rfl) ?_
 refine dp rfl (pop_lenm ty26 rfl) ?_
 refine dp rfl (pop_move rfl) ?_
 refine dn ?_
 refine hw_block ?_
 refine hw_loopw2 [5, 7, 10, 11, 12, 13, 14, 15, 16, 17, 18, 19, 20, 21, 22] (fun (k : Nat) (u : Value) => [(10, .int .i64 k), (5, .raw u)]) (fun (k : Nat) (u : Value) => [.arr u 3 ((atPos (l.take k) pos).map eAsset)]) (fun (k : Nat) (u : Value) => k ≤ l.length ∧ (True)) (fun (k : Nat) (u : Value) => l.length - k) (0) (.slice none 0 0) ?_ ?_ ?_ ?_
 ·exact ⟨Nat.zero_le _, by simp_all⟩
 ·exact ⟨rfl, rfl, trivial⟩
 ·exact perm_eq (by simp [atPos])
 ·intro k u hinv
  obtain ⟨hk, -⟩ := hinv
  refine hw_reg ?_
  refine dp rfl (pop_lss rfl rfl) ?_
  refine dn ?_
  refine hw_seq ?_
  refine hw_cond rfl (fun h1 => ?_) (fun h2 => ?_)
  ·try simp at h1
   obtain ⟨x, hx⟩ : ∃ x, l[k]? = some x := ⟨_, List.getElem?_eq_getElem h1⟩
   have hdx := drop_cons hx
   refine hw_skip ?_
   refine seqQ_n ?_
   refine hw_seq ?_
   refine hw_block ?_
   refine hw_reg ?_
   refine dp rfl (pop_idx ty26 ty36 rfl rfl rfl (by assumption)) ?_
   refine dp rfl (pop_loadw ty36 rfl rfl rfl rfl) ?_
   refine de rfl (eop_alloc ty36 rfl fun b7 => ?_)
   refine de0 (eop_storew ty36 rfl rfl rfl rfl rfl ?_)
   refine dn ?_
   refine hw_ghost (Ghost.fc0 7 rfl) ?_
   refine hw_reg ?_
   refine dp rfl (pop_fieldAddr ty36 rfl ty9 (by decide) rfl) ?_
   refine dp rfl (pop_load ty9 rfl rfl rfl) ?_
   refine dp rfl (pop_move rfl) ?_
   refine dp rfl (pop_eqls rfl rfl) ?_
   refine dn ?_
   refine hw_cond rfl (fun h3 => ?_) (fun h4 => ?_)
   ·try simp at h3
    refine hw_reg1 ?_
    refine dp rfl (pop_move rfl) ?_
    refine dp rfl (pop_loadw ty36 rfl rfl rfl rfl) ?_
    refine dp rfl (pop_buildSlice (hs := [_]) ty26 ty36 rfl rfl (by decide) (by decide) rfl) ?_
    have hal : (atPos (l.take k) pos).length ≤ 12 := Nat.le_trans (atPos_le _ _) (by simp; omega)
    refine de rfl (eop_append (i := 0) ty26 ty36 rfl rfl rfl rfl rfl (by simp [flat, hcells]) (by simp; omega) fun v21 => ?_)
    refine dp rfl (pop_assign rfl) ?_
    refine dn ?_
    refine blockQ_n ?_
    refine seqQ_n ?_
    refine hw_reg1 ?_
    refine dp rfl (pop_add64 rfl rfl (by omega) (by omega)) ?_
    refine dp rfl (pop_move rfl) ?_
    refine dn ?_
    exact ⟨k + 1, _, ⟨by omega, trivial⟩, by dsimp only; omega, ⟨rfl, rfl, trivial⟩, (by repeat (first | exact keeps_refl | refine keeps_upd rfl ?_ | refine keeps_loop rfl rfl ?_)), perm_eq (by dsimp only; rw [atPos_snoc hx, if_pos (by simp_all)]; simp)⟩
   ·try simp at h4
    refine hw_skip ?_
    refine blockQ_n ?_
    refine seqQ_n ?_
    refine hw_reg1 ?_
    refine dp rfl (pop_add64 rfl rfl (by omega) (by omega)) ?_
    refine dp rfl (pop_move rfl) ?_
    refine dn ?_
    exact ⟨k + 1, _, ⟨by omega, trivial⟩, by dsimp only; omega, ⟨rfl, rfl, trivial⟩, (by repeat (first | exact keeps_refl | refine keeps_upd rfl ?_ | refine keeps_loop rfl rfl ?_)), perm_eq (by dsimp only; rw [atPos_snoc hx, if_neg (by simp_all)]; simp)⟩
  ·try simp at h2
   have hnk : l.length ≤ k := by omega
   obtain rfl : k = l.length := by omega
   rw [List.take_length]
   refine hw_exit ?_
   refine seqQ_x ?_
   refine loopQ2_x ?_
   refine blockQ_eq ?_
   refine seqQ_n ?_
   have hal := atPos_le l pos
   refine hw_reg ?_
   refine dp rfl (pop_move rfl) ?_
   refine de rfl (eop_callx (i := 0) ca100 rfl (WeakL.refl _) rfl (c_slices_SortFunc_api_Asset_api_Asset (l := atPos l pos) (c := byValue) (caps := []) ca168 (fun x y => c_value_byValue) (by omega)) ?_)
   rintro _ _ ⟨rfl, rfl⟩
   refine dn ?_
   refine hw_reg ?_
   refine dp rfl (pop_move rfl) ?_
   refine dp rfl (pop_assign rfl) ?_
   refine dn ?_
   refine hw_ret ?_
   exact ret_fa (M := []) 4 rfl rfl rfl

set_option maxHeartbeats 1000000 in
/-- benchwarmer/value.fielded -/
theorem c_value_fielded [Tracks] {l : List Asset} {p : List HL.Place} (hl : l.length ≤ 12) (hp : p.length ≤ 10) (hm : ∀ x ∈ p, 0 ≤ x.Many) (hv : ∀ x ∈ l, -1000000 ≤ x.Value ∧ x.Value ≤ 1000000) : ConP Tryz.prog 91 [eAssets l, ePlaces p] (.tup [.int .i64 (sumV (fieldedL (ofP l) p)), eSs (namesV (fieldedL (ofP l) p))]) := by
 have hon : ∀ s, (ofP l s).length ≤ 12 := fun s => Nat.le_trans (ofP_len l s) hl
 refine Con.of_body Tryz.func91 rfl Tryz.ntmps91 rfl rfl ?_
 refine hw_reg ?_
 refine dp rfl (pop_assign rfl) ?_
 refine dp rfl (pop_assign rfl) ?_
 refine dn ?_
 refine hw_reg ?_
 refine dp rfl (pop_assign rfl) ?_
 refine dn ?_
 refine hw_reg ?_
 refine dp rfl (pop_assign rfl) ?_
 refine dn ?_
 refine hw_ghost (Ghost.arr_nil 1) ?_
 refine hw_seq ?_
 refine hw_reg ?_
 refine dp rfl (pop_move rfl) ?_
 refine dp rfl (pop_lenm ty40 rfl) ?_
 refine dp rfl (pop_move rfl) ?_
 refine dn ?_
 refine hw_block ?_
 refine hw_loopw2 [6, 7, 9, 10, 12, 15, 16, 17, 18, 19, 20, 21, 22, 23, 24, 25, 26, 27, 28, 29, 30, 31, 32, 33, 34, 35, 36, 37, 38, 39, 40, 41, 42, 43, 44, 45, 46, 47, 48] (fun (i : Nat) (u : Value) => [(15, .int .i64 i), (6, .int .i64 (sumV (fieldedL (ofP l) (p.take i)))), (7, .raw u)]) (fun (i : Nat) (u : Value) => [.arr u 1 (((fieldedL (ofP l) (p.take i)).map (·.Player)).map .str)]) (fun (i : Nat) (u : Value) => i ≤ p.length ∧ (True)) (fun (i : Nat) (u : Value) => p.length - i) (0) (.slice none 0 0) ?_ ?_ ?_ ?_
 ·exact ⟨Nat.zero_le _, by simp_all⟩
 ·exact ⟨rfl, some_int (by simp [fieldedL, sumV]), rfl, trivial⟩
 ·exact perm_eq (by simp [fieldedL])
 ·intro i u hinv
  obtain ⟨hi, -⟩ := hinv
  refine hw_reg ?_
  refine dp rfl (pop_lss rfl rfl) ?_
  refine dn ?_
  refine hw_seq ?_
  refine hw_cond rfl (fun h1 => ?_) (fun h2 => ?_)
  ·try simp at h1
   obtain ⟨x, hx⟩ : ∃ x, p[i]? = some x := ⟨_, List.getElem?_eq_getElem h1⟩
   have hdx := drop_cons hx
   refine hw_skip ?_
   refine seqQ_n ?_
   refine hw_seq ?_
   refine hw_block ?_
   refine hw_reg ?_
   refine dp rfl (pop_idx ty40 ty95 rfl rfl rfl (by assumption)) ?_
   refine dp rfl (pop_loadw ty95 rfl rfl rfl rfl) ?_
   refine de rfl (eop_alloc ty95 rfl fun b9 => ?_)
   refine de0 (eop_storew ty95 rfl rfl rfl rfl rfl ?_)
   refine dn ?_
   refine hw_ghost (Ghost.fc0 9 rfl) ?_
   refine hw_reg ?_
   refine dp rfl (pop_move rfl) ?_
   refine dp rfl (pop_fieldAddr ty95 rfl ty9 (by decide) rfl) ?_
   refine dp rfl (pop_load ty9 rfl rfl rfl) ?_
   refine dp rfl (pop_call ca132 rfl (WeakL.refl _) (c_value_of (by assumption))) ?_
   refine dp rfl (pop_assign rfl) ?_
   refine dn ?_
   have hx0 := hm x (List.mem_of_getElem? hx)
   have hon1 := hon x.Position
   obtain ⟨N, hN⟩ : ∃ N : Nat, (if ((ofP l x.Position).length : Int) < x.Many then ((ofP l x.Position).length : Int) else x.Many) = (N : Int) := ⟨_, (Int.toNat_of_nonneg (by split <;> omega)).symm⟩
   have hNle : N ≤ (ofP l x.Position).length := by split at hN <;> omega
   refine hw_reg ?_
   refine dp rfl (pop_move rfl) ?_
   refine dp rfl (pop_fieldAddr ty95 rfl ty3 (by decide) rfl) ?_
   refine dp rfl (pop_load ty3 rfl rfl rfl) ?_
   refine dp rfl (pop_move rfl) ?_
   refine dp rfl (pop_lenm ty26 rfl) ?_
   refine dp rfl (pop_eq (pop_min rfl rfl) (congrArg _ hN)) ?_
   refine dp rfl (pop_slicem (h := N) ty26 ty36 rfl rfl ⟨_, _, rfl, rfl⟩ (by omega) hNle) ?_
   refine dp rfl (pop_lenm ty26 rfl) ?_
   refine dp rfl (pop_move rfl) ?_
   refine dn ?_
   have hCl : ((List.drop 0 (List.take N (ofP l x.Position)))).length ≤ 12 := by simp; omega
   have hCm : ∀ y ∈ (List.drop 0 (List.take N (ofP l x.Position))), y ∈ l := fun y hy => by
    have := List.mem_of_mem_take (List.mem_of_mem_drop hy)
    unfold ofP atPos at this
    exact (List.mem_filter.1 ((isort_mem _).1 this)).1
   generalize hCd : List.drop 0 (List.take N (ofP l x.Position)) = C at *
   refine hw_block ?_
   refine hw_loopw2 [6, 7, 12, 31, 32, 33, 34, 35, 36, 37, 38, 39, 40, 41, 42, 43, 44, 45, 46, 47] (fun (k : Nat) (w : Value) => [(31, .int .i64 k), (6, .int .i64 (sumV ((fieldedL (ofP l) (p.take i)) ++ ((C.take k).filter (fun y => decide (0 < y.Value)))))), (7, .raw w)]) (fun (k : Nat) (w : Value) => [.arr w 1 ((((fieldedL (ofP l) (p.take i)) ++ ((C.take k).filter (fun y => decide (0 < y.Value)))).map (·.Player)).map .str)]) (fun (k : Nat) (w : Value) => k ≤ C.length ∧ (True)) (fun (k : Nat) (w : Value) => C.length - k) (0) (u) ?_ ?_ ?_ ?_
   ·exact ⟨Nat.zero_le _, by simp_all⟩
   ·exact ⟨rfl, some_int (by simp), rfl, trivial⟩
   ·exact perm_eq (by simp)
   ·intro k w hinv
    obtain ⟨hk, -⟩ := hinv
    refine hw_reg ?_
    refine dp rfl (pop_lss rfl rfl) ?_
    refine dn ?_
    refine hw_seq ?_
    refine hw_cond rfl (fun h3 => ?_) (fun h4 => ?_)
    ·try simp at h3
     obtain ⟨y, hy⟩ : ∃ y, C[k]? = some y := ⟨_, List.getElem?_eq_getElem h3⟩
     have hdy := drop_cons hy
     refine hw_skip ?_
     refine seqQ_n ?_
     refine hw_seq ?_
     refine hw_block ?_
     refine hw_reg ?_
     refine dp rfl (pop_idx ty26 ty36 rfl rfl rfl (by assumption)) ?_
     refine dp rfl (pop_loadw ty36 rfl rfl rfl rfl) ?_
     refine de rfl (eop_alloc ty36 rfl fun b12 => ?_)
     refine de0 (eop_storew ty36 rfl rfl rfl rfl rfl ?_)
     refine dn ?_
     refine hw_ghost (Ghost.fc0 12 rfl) ?_
     refine hw_reg ?_
     refine dp rfl (pop_fieldAddr ty36 rfl ty3 (by decide) rfl) ?_
     refine dp rfl (pop_load ty3 rfl rfl rfl) ?_
     refine dp rfl (pop_gtr rfl rfl) ?_
     refine dn ?_
     refine hw_cond rfl (fun h5 => ?_) (fun h6 => ?_)
     ·try simp at h5
      refine hw_reg ?_
      refine dp rfl (pop_move rfl) ?_
      refine dp rfl (pop_fieldAddr ty36 rfl ty3 (by decide) rfl) ?_
      refine dp rfl (pop_load ty3 rfl rfl rfl) ?_
      have hb1 := field_bd (f := ofP l) (p := p) (i := i) (fun s m y => mem_chosen) hon hp hv
      have hb2 := pos_bd (k := k) hCm hCl hv
      have hb3 := hv y (hCm y (List.mem_of_getElem? hy))
      have hb4 := sumV_app (fieldedL (ofP l) (p.take i)) ((C.take k).filter (fun y => decide (0 < y.Value)))
      refine dp rfl (pop_add64 rfl rfl (by omega) (by omega)) ?_
      refine dp rfl (pop_assign rfl) ?_
      refine dn ?_
      refine hw_reg1 ?_
      refine dp rfl (pop_move rfl) ?_
      refine dp rfl (pop_fieldAddr ty36 rfl ty9 (by decide) rfl) ?_
      refine dp rfl (pop_load ty9 rfl rfl rfl) ?_
      refine dp rfl (pop_buildSlice (hs := [_]) ty44 ty9 rfl rfl (by decide) (by decide) rfl) ?_
      refine de rfl (eop_append (i := 0) ty44 ty9 rfl rfl rfl rfl rfl (by simp [flat, hcells]) (by simp only [List.length_map, List.length_append, List.length_cons, List.length_nil]; omega) fun v46 => ?_)
      refine dp rfl (pop_assign rfl) ?_
      refine dn ?_
      refine blockQ_n ?_
      refine seqQ_n ?_
      refine hw_reg1 ?_
      refine dp rfl (pop_add64 rfl rfl (by omega) (by omega)) ?_
      refine dp rfl (pop_move rfl) ?_
      refine dn ?_
      exact ⟨k + 1, _, ⟨by omega, trivial⟩, by dsimp only; omega, ⟨rfl, some_int (by rw [pos_snoc hy, if_pos (by simp_all), ← List.append_assoc, sumV_app _ [y]]; simp [sumV]), rfl, trivial⟩, (by repeat (first | exact keeps_refl | refine keeps_upd rfl ?_ | refine keeps_loop rfl rfl ?_)), perm_eq (by dsimp only; rw [pos_snoc hy, if_pos (by simp_all)]; simp)⟩
     ·try simp at h6
      refine hw_skip ?_
      refine blockQ_n ?_
      refine seqQ_n ?_
      refine hw_reg1 ?_
      refine dp rfl (pop_add64 rfl rfl (by omega) (by omega)) ?_
      refine dp rfl (pop_move rfl) ?_
      refine dn ?_
      exact ⟨k + 1, _, ⟨by omega, trivial⟩, by dsimp only; omega, ⟨rfl, some_int (by rw [pos_snoc hy, if_neg (by omega)]; simp), rfl, trivial⟩, (by repeat (first | exact keeps_refl | refine keeps_upd rfl ?_ | refine keeps_loop rfl rfl ?_)), perm_eq (by dsimp only; rw [pos_snoc hy, if_neg (by omega)]; simp)⟩
    ·try simp at h4
     have hnk : C.length ≤ k := by omega
     obtain rfl : k = C.length := by omega
     refine hw_exit ?_
     refine seqQ_x ?_
     refine loopQ2_x ?_
     refine blockQ_eq ?_
     refine blockQ_n ?_
     refine seqQ_n ?_
     refine hw_reg1 ?_
     refine dp rfl (pop_add64 rfl rfl (by omega) (by omega)) ?_
     refine dp rfl (pop_move rfl) ?_
     refine dn ?_
     exact ⟨i + 1, _, ⟨by omega, trivial⟩, by dsimp only; omega, ⟨rfl, some_int (by rw [fieldedL_snoc _ hx, chosen_eq hN, hCd, List.take_length]), rfl, trivial⟩, (by repeat (first | exact keeps_refl | refine keeps_upd rfl ?_ | refine keeps_loop rfl rfl ?_)), perm_eq (by dsimp only; rw [fieldedL_snoc _ hx, chosen_eq hN, hCd, List.take_length])⟩
  ·try simp at h2
   have hni : p.length ≤ i := by omega
   obtain rfl : i = p.length := by omega
   refine hw_exit ?_
   refine seqQ_x ?_
   refine loopQ2_x ?_
   refine blockQ_eq ?_
   refine seqQ_n ?_
   rw [List.take_length]
   refine hw_reg ?_
   refine dp rfl (pop_move rfl) ?_
   refine de rfl (eop_callx (i := 0) ca98 rfl (WeakL.refl _) rfl (c_slices_Sort (l := (fieldedL (ofP l) p).map (·.Player)) (by have hb1 := field_bd (f := ofP l) (p := p) (i := p.length) (fun s m y => mem_chosen) hon hp hv; rw [List.take_length] at hb1; simp; omega)) ?_)
   rintro _ _ ⟨rfl, rfl⟩
   refine dn ?_
   refine hw_reg ?_
   refine dp rfl (pop_move rfl) ?_
   refine dp rfl (pop_move rfl) ?_
   refine dp rfl (pop_assign rfl) ?_
   refine dp rfl (pop_assign rfl) ?_
   refine dn ?_
   refine hw_ret ?_
   exact ret_fa (M := []) 5 rfl rfl rfl
end Go.Proofs.YtbfikmihcpfgaaaGreatDoor
end
section
namespace Go.Proofs.YtbfikmihcpfgaaaGreatDoor
open Go.HL
set_option maxRecDepth 100000
set_option linter.unusedVariables false
set_option linter.unusedSimpArgs false
/-- benchwarmer/value.Fielded -/
theorem c_value_Fielded [Tracks] {l : List Asset} {p : List HL.Place} (hl : l.length ≤ 11) (hp : p.length ≤ 1000000) : ConP Tryz.prog 46 [eAssets l, ePlaces p] (.tup [.int .i64 (if okAP l p != 0 then 0 else sumF l p), eSs (if okAP l p != 0 then [] else namesV (fieldedL (ofP l) p)), .int .i64 (okAP l p)]) := by
 refine Con.of_body Tryz.func46 rfl Tryz.ntmps46 rfl rfl ?_
 refine hw_reg ?_
 refine dp rfl (pop_assign rfl) ?_
 refine dp rfl (pop_assign rfl) ?_
 refine dp rfl (pop_assign rfl) ?_
 refine dn ?_
 refine hw_seq ?_
 refine hw_reg ?_
 refine dp rfl (pop_move rfl) ?_
 refine dp rfl (pop_call ca35 rfl (WeakL.refl _) (c_value_CheckAssets (by omega))) ?_
 refine dp rfl (pop_move rfl) ?_
 refine dp rfl (pop_call ca90 rfl (WeakL.refl _) (c_value_CheckPlaces (by assumption))) ?_
 refine dp rfl (pop_buildSlice (hs := [_, _]) ty100 ty28 rfl rfl (by decide) (by decide) rfl) ?_
 refine dp rfl (pop_call ca49 rfl (WeakL.refl _) (c_base_First (l := [_, _]) (by simp))) ?_
 refine dp rfl (pop_assign rfl) ?_
 refine dn ?_
 refine hw_reg ?_
 refine dp rfl (pop_move rfl) ?_
 refine dp rfl (pop_neq rfl rfl) ?_
 refine dn ?_
 refine hw_cond rfl (fun h1 => ?_) (fun h2 => ?_)
 ·try simp at h1
  refine hw_reg ?_
  refine dp rfl (pop_move rfl) ?_
  refine dp rfl (pop_assign rfl) ?_
  refine dp rfl (pop_assign rfl) ?_
  refine dp rfl (pop_assign rfl) ?_
  refine dn ?_
  refine hw_ret ?_
  (refine ret_w rfl (weak_tup3 ?_ ?_ (Weak.refl _))
   ·rw [if_pos (by simpa [okAP] using h1)]; exact Weak.refl _
   ·rw [if_pos (by simpa [okAP] using h1)]; exact weak_nil 1)
 ·try simp at h2
  refine hw_skip ?_
  refine seqQ_n ?_
  obtain ⟨hca0, hcp0⟩ := okAP_ok (l := l) (p := p) (by simpa [okAP] using h2)
  obtain ⟨hsr, haf⟩ := checkAssets_ok hca0
  obtain ⟨hmm, hp10⟩ := checkPlaces_ok hcp0
  have hvv : ∀ x ∈ l, -1000000 ≤ x.Value ∧ x.Value ≤ 1000000 := fun x hx => (assetFault_ok (haf x hx)).2.2
  refine hw_reg ?_
  refine dp rfl (pop_move rfl) ?_
  refine dp rfl (pop_move rfl) ?_
  refine dp rfl (pop_call ca91 rfl (WeakL.refl _) (c_value_fielded (by omega) (by assumption) (by simp_all) (by assumption))) ?_
  refine dp rfl (pop_move rfl) ?_
  refine dp rfl (pop_extract rfl rfl) ?_
  refine dp rfl (pop_extract rfl rfl) ?_
  refine dp rfl (pop_assign rfl) ?_
  refine dp rfl (pop_assign rfl) ?_
  refine dn ?_
  refine hw_reg ?_
  refine dp rfl (pop_move rfl) ?_
  refine dp rfl (pop_move rfl) ?_
  refine dp rfl (pop_assign rfl) ?_
  refine dp rfl (pop_assign rfl) ?_
  refine dp rfl (pop_assign rfl) ?_
  refine dn ?_
  refine hw_ret ?_
  (refine ret_p rfl ?_
   have h0 : okAP l p = 0 := by simpa [okAP] using h2
   simp [h0, sumF, ofVal, ofVal1])

/-- benchwarmer/benchref1.AssetsFault -/
theorem c_benchref1_AssetsFault [Tracks] {l : List Asset} (hl : l.length ≤ 1000000) (hs : ∀ x ∈ l, Sh x.Player ∧ Sh x.Position) : ConP Tryz.prog 6 [eAssets l] (.int .i64 (checkAssets l)) := by
 refine Con.of_body Tryz.func6 rfl Tryz.ntmps6 rfl rfl ?_
 refine hw_reg ?_
 refine dp rfl (pop_assign rfl) ?_
 refine dn ?_
 refine hw_seq ?_
 refine hw_reg ?_
 refine dp rfl (pop_move rfl) ?_
 refine dp rfl (pop_lenm ty26 rfl) ?_
 refine dp rfl (pop_gtr rfl rfl) ?_
 refine dn ?_
 refine hw_cond rfl (fun h1 => ?_) (fun h2 => ?_)
 ·try simp at h1
  refine hw_reg ?_
  refine dp rfl (pop_assign rfl) ?_
  refine dn ?_
  refine hw_ret ?_
  refine ret_p rfl ?_
  show HVal.int .i64 _ = _
  (rw [checkAssets, if_pos (by omega)]; done)
 ·try simp at h2
  refine hw_skip ?_
  refine seqQ_n ?_
  refine hw_seq ?_
  refine hw_reg ?_
  refine dp rfl (pop_move rfl) ?_
  refine dp rfl (pop_lenm ty26 rfl) ?_
  refine dp rfl (pop_move rfl) ?_
  refine dn ?_
  refine hw_block ?_
  refine hw_loopw [2, 3, 4, 10, 11, 12, 13, 14, 15, 16, 17, 18, 19, 20, 21, 22, 23, 24, 25, 26, 27, 28, 29, 30, 31, 32, 33, 34, 35, 36, 37, 38, 39, 40, 41, 42, 43, 44, 45] (fun (k : Nat) => [(10, .int .i64 k)]) (fun (k : Nat) => []) (fun (k : Nat) => k ≤ l.length ∧ (checkAssets l = assetsGo l k (l.drop k))) (fun (k : Nat) => l.length - k) (0) ?_ ?_ ?_ ?_
  ·refine ⟨Nat.zero_le _, ?_⟩
   rw [checkAssets, if_neg (by omega)]; rfl
  ·exact ⟨rfl, trivial⟩
  ·exact List.Perm.refl _
  ·intro k hinv
   obtain ⟨hk, hg⟩ := hinv
   refine hw_reg ?_
   refine dp rfl (pop_lss rfl rfl) ?_
   refine dn ?_
   refine hw_seq ?_
   refine hw_cond rfl (fun h3 => ?_) (fun h4 => ?_)
   ·try simp at h3
    obtain ⟨x, hx⟩ : ∃ x, l[k]? = some x := ⟨_, List.getElem?_eq_getElem h3⟩
    have hdx := drop_cons hx
    rw [hdx] at hg
    refine hw_skip ?_
    refine seqQ_n ?_
    refine hw_seq ?_
    refine hw_block ?_
    refine hw_reg ?_
    refine dp rfl (pop_move rfl) ?_
    refine dp rfl (pop_idx ty26 ty36 rfl rfl rfl (by assumption)) ?_
    refine dp rfl (pop_loadw ty36 rfl rfl rfl rfl) ?_
    refine de rfl (eop_alloc ty36 rfl fun b4 => ?_)
    refine dp rfl (pop_assign rfl) ?_
    refine de0 (eop_storew ty36 rfl rfl rfl rfl rfl ?_)
    refine dn ?_
    refine hw_ghost (Ghost.fc0 4 rfl) ?_
    refine hw_block ?_
    refine hw_reg ?_
    refine dp rfl (pop_fieldAddr ty36 rfl ty9 (by decide) rfl) ?_
    refine dp rfl (pop_load ty9 rfl rfl rfl) ?_
    refine dp rfl (pop_call ca33 rfl (WeakL.refl _) (c_benchref1_Key ((hs x (List.mem_of_getElem? hx)).1))) ?_
    refine dp rfl (pop_not rfl) ?_
    refine dp rfl (pop_move rfl) ?_
    refine dg rfl rfl (fun hc => ⟨_, OpenTo.refl _, pop_fieldAddr ty36 rfl ty9 (by decide) rfl⟩) ?_
    refine dg rfl rfl (fun hc => ⟨_, OpenTo.upd (t := 21) rfl (hc) (OpenTo.refl _), pop_load ty9 rfl rfl rfl⟩) ?_
    refine dg rfl rfl (fun hc => ⟨_, OpenTo.upd (t := 22) rfl (hc) (OpenTo.refl _), pop_call ca33 rfl (WeakL.refl _) (c_benchref1_Key ((hs x (List.mem_of_getElem? hx)).2))⟩) ?_
    refine dg rfl rfl (fun hc => ⟨_, OpenTo.upd (t := 23) rfl (hc) (OpenTo.refl _), pop_not rfl⟩) ?_
    refine dp rfl (pop_picko rfl (.inl rfl) (.inr ⟨_, rfl, fun h => by simp_all⟩)) ?_
    refine dp rfl (pop_assign rfl) ?_
    refine dn ?_
    refine hw_cond rfl (fun h5 => ?_) (fun h6 => ?_)
    ·try simp at h5
     refine hw_reg ?_
     refine dp rfl (pop_assign rfl) ?_
     refine dn ?_
     refine hw_ret ?_
     refine ret_p rfl ?_
     show HVal.int .i64 _ = _
     (rw [hg]; simp_all [assetsGo, leS, assetFault]; done)
    ·try simp at h6
     refine hw_reg ?_
     refine dp rfl (pop_fieldAddr ty36 rfl ty3 (by decide) rfl) ?_
     refine dp rfl (pop_load ty3 rfl rfl rfl) ?_
     refine dp rfl (pop_call ca34 rfl (WeakL.refl _) c_benchref1_in) ?_
     refine dp rfl (pop_not rfl) ?_
     refine dp rfl (pop_assign rfl) ?_
     refine dn ?_
     refine hw_cond rfl (fun h7 => ?_) (fun h8 => ?_)
     ·try simp at h7
      refine hw_reg ?_
      refine dp rfl (pop_assign rfl) ?_
      refine dn ?_
      refine hw_ret ?_
      refine ret_p rfl ?_
      show HVal.int .i64 _ = _
      (rw [hg]; simp_all [assetsGo, leS, assetFault]; done)
     ·try simp at h8
      refine hw_draw (fun _ => True) [] mixed ?_
      refine ahp 0 rfl rfl (by kernel_rfl) (by kernel_rfl) (pop_move rfl) ?_
      refine ahp 1 rfl rfl (by kernel_rfl) (by kernel_rfl) (pop_gtr rfl rfl) ?_
      refine ahp 2 rfl rfl (by kernel_rfl) (by kernel_rfl) (pop_move rfl) ?_
      refine ahg 3 rfl rfl (by kernel_rfl) (by kernel_rfl) rfl (fun hc => ⟨_, OpenTo.refl _, pop_fieldAddr ty36 rfl ty9 (by decide) rfl⟩) ?_
      refine ahg 4 rfl rfl (by kernel_rfl) (by kernel_rfl) rfl (fun hc => ⟨_, OpenTo.upd (t := 35) rfl (hc) (OpenTo.refl _), pop_load ty9 rfl rfl rfl⟩) ?_
      refine ahg 5 rfl rfl (by kernel_rfl) (by kernel_rfl) rfl (fun hc => ⟨_, OpenTo.refl _, pop_move rfl⟩) ?_
      refine ahg 6 rfl rfl (by kernel_rfl) (by kernel_rfl) rfl (fun hc => ⟨_, OpenTo.refl _, pop_move rfl⟩) ?_
      refine ahg 7 rfl rfl (by kernel_rfl) (by kernel_rfl) rfl (fun hc => by have hq := hc; (try simp at hq); exact ⟨_, OpenTo.upd (t := 38) rfl (hc) (OpenTo.refl _), pop_sub64 rfl rfl (by omega) (by omega)⟩) ?_
      refine ahg 8 rfl rfl (by kernel_rfl) (by kernel_rfl) rfl (fun hc => by have hq := hc; (try simp at hq); exact ⟨_, OpenTo.upd (t := 39) rfl (hc) (OpenTo.upd (t := 37) rfl (hc) (OpenTo.refl _)), pop_idx (j := k - 1) (a := l.getD (k - 1) asset0) ty26 ty36 rfl rfl (by omega) (getD_some (by omega))⟩) ?_
      refine ahg 9 rfl rfl (by kernel_rfl) (by kernel_rfl) rfl (fun hc => ⟨_, OpenTo.upd (t := 40) rfl (hc) (OpenTo.refl _), pop_fieldAddr ty36 rfl ty9 (by decide) rfl⟩) ?_
      refine ahg 10 rfl rfl (by kernel_rfl) (by kernel_rfl) rfl (fun hc => ⟨_, OpenTo.upd (t := 41) rfl (hc) (OpenTo.refl _), pop_load ty9 rfl rfl rfl⟩) ?_
      refine ahg 11 rfl rfl (by kernel_rfl) (by kernel_rfl) rfl (fun hc => ⟨_, OpenTo.upd (t := 42) rfl (hc) (OpenTo.upd (t := 36) rfl (hc) (OpenTo.refl _)), pop_leqs rfl rfl⟩) ?_
      refine ahp 12 rfl rfl (by kernel_rfl) (by kernel_rfl) (pop_picko rfl (.inr ⟨_, rfl, fun h => by simp_all⟩) (.inl rfl)) ?_
      refine ahp 13 rfl rfl (by kernel_rfl) (by kernel_rfl) (pop_assign rfl) ?_
      refine ahz (by kernel_rfl) ?_
      refine hw_cond rfl (fun h9 => ?_) (fun h10 => ?_)
      ·try simp at h9
       refine hw_reg ?_
       refine dp rfl (pop_assign rfl) ?_
       refine dn ?_
       refine hw_ret ?_
       refine ret_p rfl ?_
       show HVal.int .i64 _ = _
       (rw [hg]; simp_all [assetsGo, leS, assetFault]; done)
      ·try simp at h10
       refine hw_skip ?_
       refine blockQ_n ?_
       refine blockQ_n ?_
       refine seqQ_n ?_
       refine hw_reg1 ?_
       refine dp rfl (pop_add64 rfl rfl (by omega) (by omega)) ?_
       refine dp rfl (pop_move rfl) ?_
       refine dn ?_
       refine ⟨k + 1, ?_, ?_, ⟨rfl, trivial⟩, (by repeat (first | exact keeps_refl | refine keeps_upd rfl ?_ | refine keeps_loop rfl rfl ?_)), List.Perm.refl _⟩
       ·refine ⟨by omega, ?_⟩
        rw [hg]; simp_all [assetsGo, leS, assetFault]
       ·dsimp only; omega
   ·try simp at h4
    have hnk : l.length ≤ k := by omega
    obtain rfl : k = l.length := by omega
    rw [drop_all (Nat.le_refl _)] at hg
    refine hw_exit ?_
    refine seqQ_x ?_
    refine loopQ_x ?_
    refine blockQ_eq ?_
    refine seqQ_n ?_
    refine hw_reg ?_
    refine dp rfl (pop_assign rfl) ?_
    refine dn ?_
    refine hw_ret ?_
    refine ret_p rfl ?_
    show HVal.int .i64 _ = _
    (rw [hg]; simp_all [assetsGo, leS, assetFault]; done)

end Go.Proofs.YtbfikmihcpfgaaaGreatDoor
end
section
namespace Go.Proofs.YtbfikmihcpfgaaaGreatDoor
open Go.HL
set_option maxRecDepth 100000
set_option linter.unusedVariables false
set_option linter.unusedSimpArgs false
set_option maxHeartbeats 2000000 in
/-- (*benchwarmer/benchmake.Stream).AssetList -/
theorem c_benchmake_Stream_AssetList [Tracks] {b : Nat} {l : List Int} {a : Nat} {fs : Str} (ha : a ≤ 800000) (hfs : fs.length ≤ 100) : Con Tryz.prog 5 [pAt b, .str fs] [St b l a] (fun x M' => ∃ k a', x = eAssets k ∧ GoodAs k ∧ a' ≤ a + 40 ∧ M' = [St b l a']) := by
 refine Con.of_body Tryz.func5 rfl Tryz.ntmps5 rfl rfl ?_
 refine hw_reg ?_
 refine dp rfl (pop_assign rfl) ?_
 refine dn ?_
 refine hw_reg ?_
 refine dp rfl (pop_assign rfl) ?_
 refine dn ?_
 refine hw_seq ?_
 refine hw_reg ?_
 refine dp rfl (pop_move rfl) ?_
 first
 | refine de rfl (eop_callx (i := 0) ca29 rfl (WeakL.refl _) rfl (c_benchmake_Stream_Range (by first | assumption | omega | (simp; omega) | simp_all) (by first | assumption | omega | (simp; omega) | simp_all) (by first | assumption | omega | (simp; omega) | simp_all) (by first | assumption | omega | (simp; omega) | simp_all)) ?_)
 | refine de rfl (eop_callx (i := 1) ca29 rfl (WeakL.refl _) rfl (c_benchmake_Stream_Range (by first | assumption | omega | (simp; omega) | simp_all) (by first | assumption | omega | (simp; omega) | simp_all) (by first | assumption | omega | (simp; omega) | simp_all) (by first | assumption | omega | (simp; omega) | simp_all)) ?_)
 | refine de rfl (eop_callx (i := 2) ca29 rfl (WeakL.refl _) rfl (c_benchmake_Stream_Range (by first | assumption | omega | (simp; omega) | simp_all) (by first | assumption | omega | (simp; omega) | simp_all) (by first | assumption | omega | (simp; omega) | simp_all) (by first | assumption | omega | (simp; omega) | simp_all)) ?_)
 | refine de rfl (eop_callx (i := 3) ca29 rfl (WeakL.refl _) rfl (c_benchmake_Stream_Range (by first | assumption | omega | (simp; omega) | simp_all) (by first | assumption | omega | (simp; omega) | simp_all) (by first | assumption | omega | (simp; omega) | simp_all) (by first | assumption | omega | (simp; omega) | simp_all)) ?_)
 rintro _ _ ⟨y9, rfl, hy9, rfl⟩
 refine dp rfl (pop_move rfl) ?_
 refine dn ?_
 refine hw_ghost (Ghost.perm (M' := [St b l (a + 1)]) (List.Perm.refl _)) ?_
 refine hw_ghost (Ghost.arr_nil 3) ?_
 refine hw_block ?_
 refine hw_loopw2 [5, 6, 10, 11, 12, 13, 14, 15, 16, 17, 18, 19, 20, 21, 22, 23, 24, 25, 26, 27] (fun (k : Nat) (q : GL Asset) => [(10, .int .i64 (k : Int)), (5, .raw q.u)]) (fun (k : Nat) (q : GL Asset) => [St b l q.a, .arr q.u 3 (q.out.map eAsset)]) (fun (k : Nat) (q : GL Asset) => k ≤ 7 ∧ GLok GoodA k (a + 1 + 2 * k) q) (fun (k : Nat) (q : GL Asset) => 7 - k) (0) (⟨.slice none 0 0, [], a + 1⟩) ?_ ?_ ?_ ?_
 ·exact ⟨by omega, ⟨by simp, by simp, by dsimp only; omega⟩⟩
 ·exact ⟨rfl, rfl, trivial⟩
 ·repeat (first | exact List.Perm.nil | refine permTo 0 rfl ?_ | refine permTo 1 rfl ?_ | refine permTo 2 rfl ?_ | refine permTo 3 rfl ?_ | (refine permToE 0 rfl ?hq ?_; (case hq => simp [setL, hcells]; done)) | (refine permToE 1 rfl ?hq ?_; (case hq => simp [setL, hcells]; done)) | (refine permToE 2 rfl ?hq ?_; (case hq => simp [setL, hcells]; done)) | (refine permToE 3 rfl ?hq ?_; (case hq => simp [setL, hcells]; done)) | fail)
 ·intro k q hinv
  obtain ⟨hk, hq⟩ := hinv
  obtain ⟨u, out, a2⟩ := q
  obtain ⟨g1, g2, g3⟩ := id hq
  dsimp only at g1 g2 g3
  refine hw_reg ?_
  refine dp rfl (pop_lss rfl rfl) ?_
  refine dn ?_
  refine hw_seq ?_
  refine hw_cond rfl (fun h1 => ?_) (fun h2 => ?_)
  ·try simp at h1
   have hk7 : k < 7 := by omega
   refine hw_skip ?_
   refine seqQ_n ?_
   refine hw_seq ?_
   refine hw_block ?_
   refine hw_reg ?_
   refine dp rfl (pop_move rfl) ?_
   refine dp rfl (pop_assign rfl) ?_
   refine dn ?_
   refine hw_reg1 ?_
   refine dp rfl (pop_move rfl) ?_
   refine dp rfl (pop_move rfl) ?_
   refine dp rfl (pop_move rfl) ?_
   refine dp rfl (pop_call ca30 rfl (WeakL.refl _) (c_strconv_Itoa (i := k) (by omega))) ?_
   have hdl := dec_len (i := k) (by omega)
   refine dp rfl (pop_adds rfl rfl (by omega)) ?_
   refine dp rfl (pop_move rfl) ?_
   refine dp rfl (pop_buildSlice (hs := [_, _, _, _]) ty44 ty9 rfl rfl (by decide) (by decide) rfl) ?_
   first
   | refine de rfl (eop_callx (i := 0) ca15 rfl (WeakL.refl _) rfl (c_benchmake_Stream_Some (L := [_, _, _, _]) (by first | assumption | omega | (simp; omega) | simp_all) (by first | assumption | omega | (simp; omega) | simp_all) (by first | assumption | omega | (simp; omega) | simp_all)) ?_)
   | refine de rfl (eop_callx (i := 1) ca15 rfl (WeakL.refl _) rfl (c_benchmake_Stream_Some (L := [_, _, _, _]) (by first | assumption | omega | (simp; omega) | simp_all) (by first | assumption | omega | (simp; omega) | simp_all) (by first | assumption | omega | (simp; omega) | simp_all)) ?_)
   | refine de rfl (eop_callx (i := 2) ca15 rfl (WeakL.refl _) rfl (c_benchmake_Stream_Some (L := [_, _, _, _]) (by first | assumption | omega | (simp; omega) | simp_all) (by first | assumption | omega | (simp; omega) | simp_all) (by first | assumption | omega | (simp; omega) | simp_all)) ?_)
   | refine de rfl (eop_callx (i := 3) ca15 rfl (WeakL.refl _) rfl (c_benchmake_Stream_Some (L := [_, _, _, _]) (by first | assumption | omega | (simp; omega) | simp_all) (by first | assumption | omega | (simp; omega) | simp_all) (by first | assumption | omega | (simp; omega) | simp_all)) ?_)
   rintro _ _ ⟨y20, rfl, hy20, rfl⟩
   refine dp rfl (pop_move rfl) ?_
   refine dp rfl (pop_buildSlice (hs := [_, _, _, _, _, _, _, _]) ty22 ty3 rfl rfl (by decide) (by decide) rfl) ?_
   first
   | refine de rfl (eop_callx (i := 0) ca13 rfl (WeakL.refl _) rfl (c_benchmake_Stream_Pick (L := [_, _, _, _, _, _, _, _]) (by first | assumption | omega | (simp; omega) | simp_all) (by first | assumption | omega | (simp; omega) | simp_all) (by first | assumption | omega | (simp; omega) | simp_all)) ?_)
   | refine de rfl (eop_callx (i := 1) ca13 rfl (WeakL.refl _) rfl (c_benchmake_Stream_Pick (L := [_, _, _, _, _, _, _, _]) (by first | assumption | omega | (simp; omega) | simp_all) (by first | assumption | omega | (simp; omega) | simp_all) (by first | assumption | omega | (simp; omega) | simp_all)) ?_)
   | refine de rfl (eop_callx (i := 2) ca13 rfl (WeakL.refl _) rfl (c_benchmake_Stream_Pick (L := [_, _, _, _, _, _, _, _]) (by first | assumption | omega | (simp; omega) | simp_all) (by first | assumption | omega | (simp; omega) | simp_all) (by first | assumption | omega | (simp; omega) | simp_all)) ?_)
   | refine de rfl (eop_callx (i := 3) ca13 rfl (WeakL.refl _) rfl (c_benchmake_Stream_Pick (L := [_, _, _, _, _, _, _, _]) (by first | assumption | omega | (simp; omega) | simp_all) (by first | assumption | omega | (simp; omega) | simp_all) (by first | assumption | omega | (simp; omega) | simp_all)) ?_)
   rintro _ _ ⟨y23, rfl, hy23, rfl⟩
   refine dp rfl (pop_build (cs := [_, _, _]) ty36 pl36 rfl) ?_
   refine dp rfl (pop_buildSlice (hs := [_]) ty26 ty36 rfl rfl (by decide) (by decide) rfl) ?_
   first
   | refine de rfl (eop_append (i := 0) ty26 ty36 rfl rfl rfl rfl rfl (by simp [flat, hcells]) (by first | omega | (simp; omega)) fun v26 => ?_)
   | refine de rfl (eop_append (i := 1) ty26 ty36 rfl rfl rfl rfl rfl (by simp [flat, hcells]) (by first | omega | (simp; omega)) fun v26 => ?_)
   | refine de rfl (eop_append (i := 2) ty26 ty36 rfl rfl rfl rfl rfl (by simp [flat, hcells]) (by first | omega | (simp; omega)) fun v26 => ?_)
   | refine de rfl (eop_append (i := 3) ty26 ty36 rfl rfl rfl rfl rfl (by simp [flat, hcells]) (by first | omega | (simp; omega)) fun v26 => ?_)
   refine dp rfl (pop_assign rfl) ?_
   refine dn ?_
   refine blockQ_n ?_
   refine seqQ_n ?_
   refine hw_reg1 ?_
   refine dp rfl (pop_add64 rfl rfl (by omega) (by omega)) ?_
   refine dp rfl (pop_move rfl) ?_
   refine dn ?_
   exact ⟨k + 1, ⟨v26, out ++ [⟨fs ++ Lib.decDigits k, y20, y23⟩], a2 + 2⟩, ⟨by omega, hq.add ⟨by unfold Sh; simp; omega, by unfold Sh; simp at hy20; rcases hy20 with rfl | rfl | rfl <;> simp⟩ (by omega)⟩, by dsimp only; omega, ⟨rfl, rfl, trivial⟩, (by repeat (first | exact keeps_refl | refine keeps_upd rfl ?_ | refine keeps_loop rfl rfl ?_)), by repeat (first | exact List.Perm.nil | refine permTo 0 rfl ?_ | refine permTo 1 rfl ?_ | refine permTo 2 rfl ?_ | refine permTo 3 rfl ?_ | (refine permToE 0 rfl ?hq ?_; (case hq => simp [setL, hcells]; done)) | (refine permToE 1 rfl ?hq ?_; (case hq => simp [setL, hcells]; done)) | (refine permToE 2 rfl ?hq ?_; (case hq => simp [setL, hcells]; done)) | (refine permToE 3 rfl ?hq ?_; (case hq => simp [setL, hcells]; done)) | fail)⟩
  ·try simp at h2
   refine hw_exit ?_
   refine seqQ_x ?_
   refine loopQ2_x ?_
   refine blockQ_eq ?_
   refine seqQ_n ?_
   refine hw_join [7, 28, 29, 30, 31, 32, 33, 34, 35, 36, 37, 38, 39, 40, 41, 42, 43, 44, 45, 46, 47, 48, 49, 50, 51, 52, 53, 54, 55, 56, 57, 58, 59, 60, 61, 62, 63, 64, 65, 66, 67] (fun (q : List Asset × Nat) => []) (fun (q : List Asset × Nat) => [St b l q.2, .arr u 3 (q.1.map eAsset)]) (fun (q : List Asset × Nat) => q.1.length ≤ 7 ∧ (∀ x ∈ q.1, Sh x.Player ∧ Sh x.Position) ∧ q.2 ≤ a + 40) ?_ ?_
   ·skip
    refine hw_reg ?_
    refine dp rfl (pop_move rfl) ?_
    first
    | refine de rfl (eop_lenm (i := 0) ty26 rfl rfl ?_)
    | refine de rfl (eop_lenm (i := 1) ty26 rfl rfl ?_)
    | refine de rfl (eop_lenm (i := 2) ty26 rfl rfl ?_)
    | refine de rfl (eop_lenm (i := 3) ty26 rfl rfl ?_)
    refine dp rfl (pop_gtr rfl rfl) ?_
    refine dp rfl (pop_move rfl) ?_
    refine dg rfl rfl (fun hc => ⟨_, OpenTo.refl _, pop_move rfl⟩) ?_
    refine dgx (fun x M' => ∃ (y : Bool) (a3 : Nat), x = .bool y ∧ a3 ≤ a2 + 1 ∧ M' = [St b l a3, .arr u 3 (out.map eAsset)]) rfl rfl (fun hc => ⟨_, false, a2, rfl, by omega, rfl⟩) (fun hc => ⟨_, OpenTo.upd (t := 32) rfl (by first | exact hc | simp_all) (OpenTo.refl _), eop_callx (i := 0) ca14 rfl (WeakL.refl _) rfl (c_benchmake_Stream_Flip (a := a2) (by omega) (by omega)) (fun h M' hh => by
     obtain ⟨y, h1, h2⟩ := hh
     exact ⟨y, a2 + 1, h1, by omega, by rw [h2]; rfl⟩)⟩) ?_
    rintro _ _ ⟨y, a3, rfl, ha3, rfl⟩
    refine dp rfl (pop_picko rfl (.inr ⟨_, rfl, fun h => by simp_all⟩) (.inl rfl)) ?_
    refine dn ?_
    refine hw_cond rfl (fun h3 => ?_) (fun h4 => ?_)
    ·try simp at h3
     have ho0 : 0 < out.length := by simp_all
     refine hw_arrc (i := 1) rfl (fun h0 he => ?_) (fun ob off cap hv hcap => ?_)
     ·exfalso; have := congrArg List.length he; simp at this; subst this; simp at ho0
     subst hv
     refine hw_reg ?_
     refine dp rfl (pop_move rfl) ?_
     refine dp rfl (pop_move rfl) ?_
     refine dp rfl (pop_move rfl) ?_
     first
     | refine de rfl (eop_lenm (i := 0) ty26 rfl rfl ?_)
     | refine de rfl (eop_lenm (i := 1) ty26 rfl rfl ?_)
     | refine de rfl (eop_lenm (i := 2) ty26 rfl rfl ?_)
     | refine de rfl (eop_lenm (i := 3) ty26 rfl rfl ?_)
     first
     | refine de rfl (eop_callx (i := 0) ca31 rfl (WeakL.refl _) rfl (c_benchmake_Stream_Next (by first | assumption | omega | (simp; omega) | simp_all) (by first | assumption | omega | (simp; omega) | simp_all)) ?_)
     | refine de rfl (eop_callx (i := 1) ca31 rfl (WeakL.refl _) rfl (c_benchmake_Stream_Next (by first | assumption | omega | (simp; omega) | simp_all) (by first | assumption | omega | (simp; omega) | simp_all)) ?_)
     | refine de rfl (eop_callx (i := 2) ca31 rfl (WeakL.refl _) rfl (c_benchmake_Stream_Next (by first | assumption | omega | (simp; omega) | simp_all) (by first | assumption | omega | (simp; omega) | simp_all)) ?_)
     | refine de rfl (eop_callx (i := 3) ca31 rfl (WeakL.refl _) rfl (c_benchmake_Stream_Next (by first | assumption | omega | (simp; omega) | simp_all) (by first | assumption | omega | (simp; omega) | simp_all)) ?_)
     rintro _ _ ⟨y39, rfl, hy39, rfl⟩
     refine dp rfl (pop_idxraw (j := y39) ty26 ty36 rfl rfl rfl (by simp; omega)) ?_
     refine dp rfl (pop_assign rfl) ?_
     refine dn ?_
     obtain ⟨x, hx⟩ : ∃ x, out[y39]? = some x := ⟨_, List.getElem?_eq_getElem (by omega)⟩
     refine hw_draw1 (fun M => ∃ i : Nat, M[i]? = some (.arr (.slice (some ⟨ob, off, none⟩) (out.map eAsset).length cap) 3 (out.map eAsset))) [7, 16] mixed ?_
     refine ahp 0 rfl rfl (by kernel_rfl) (by kernel_rfl) (pop_move rfl) ?_
     refine ahp 1 rfl rfl (by kernel_rfl) (by kernel_rfl) (pop_move rfl) ?_
     refine ahp 2 rfl rfl (by kernel_rfl) (by kernel_rfl) (pop_move rfl) ?_
     refine ahp 3 rfl rfl (by kernel_rfl) (by kernel_rfl) (pop_move rfl) ?_
     refine ahp 4 rfl rfl (by kernel_rfl) (by kernel_rfl) (pop_move rfl) ?_
     refine ahp 5 rfl rfl (by kernel_rfl) (by kernel_rfl) ((by first | exact pop_nilCheck rfl | exact pop_nilCheck_raw rfl)) ?_
     refine ahp 6 rfl rfl (by kernel_rfl) (by kernel_rfl) ((by first | exact pop_fieldAddr ty36 rfl ty9 (by decide) rfl | exact pop_fieldAddr_raw ty36 rfl ty9 (by decide) rfl)) ?_
     refine ahl 7 rfl rfl (by kernel_rfl) (by kernel_rfl) (by simp) ⟨1, rfl⟩ (fun M hM => by obtain ⟨i, hi⟩ := hM; exact eop_load_el (i := i) (j := y39) 0 ty9 rfl (by omega) hi hx rfl rfl ⟨rfl, rfl⟩) ?_
     refine ahp 8 rfl rfl (by kernel_rfl) (by kernel_rfl) (pop_move rfl) ?_
     refine ahp 9 rfl rfl (by kernel_rfl) (by kernel_rfl) (pop_adds rfl rfl (by simp; omega)) ?_
     refine ahp 10 rfl rfl (by kernel_rfl) (by kernel_rfl) (pop_buildSlice (hs := [_, _, _]) ty44 ty9 rfl rfl (by decide) (by decide) rfl) ?_
     refine ahp 12 rfl rfl (by kernel_rfl) (by kernel_rfl) (pop_move rfl) ?_
     refine ahp 13 rfl rfl (by kernel_rfl) (by kernel_rfl) (pop_move rfl) ?_
     refine ahp 14 rfl rfl (by kernel_rfl) (by kernel_rfl) ((by first | exact pop_nilCheck rfl | exact pop_nilCheck_raw rfl)) ?_
     refine ahp 15 rfl rfl (by kernel_rfl) (by kernel_rfl) ((by first | exact pop_fieldAddr ty36 rfl ty9 (by decide) rfl | exact pop_fieldAddr_raw ty36 rfl ty9 (by decide) rfl)) ?_
     refine ahl 16 rfl rfl (by kernel_rfl) (by kernel_rfl) (by simp) ⟨1, rfl⟩ (fun M hM => by obtain ⟨i, hi⟩ := hM; exact eop_load_el (i := i) (j := y39) 1 ty9 rfl (by omega) hi hx rfl rfl ⟨rfl, rfl⟩) ?_
     refine ahp 17 rfl rfl (by kernel_rfl) (by kernel_rfl) (pop_buildSlice (hs := [_, _]) ty44 ty9 rfl rfl (by decide) (by decide) rfl) ?_
     refine ahp 19 rfl rfl (by kernel_rfl) (by kernel_rfl) (pop_move rfl) ?_
     refine ahe 11 rfl (by kernel_rfl) ?_
     first
     | refine hop_e rfl (eop_callx (i := 0) ca15 rfl (WeakL.refl _) rfl (c_benchmake_Stream_Some (L := [_, _, _]) (by first | assumption | omega | (simp; omega) | simp_all) (by first | assumption | omega | (simp; omega) | simp_all) (by first | assumption | omega | (simp; omega) | simp_all)) ?_)
     | refine hop_e rfl (eop_callx (i := 1) ca15 rfl (WeakL.refl _) rfl (c_benchmake_Stream_Some (L := [_, _, _]) (by first | assumption | omega | (simp; omega) | simp_all) (by first | assumption | omega | (simp; omega) | simp_all) (by first | assumption | omega | (simp; omega) | simp_all)) ?_)
     | refine hop_e rfl (eop_callx (i := 2) ca15 rfl (WeakL.refl _) rfl (c_benchmake_Stream_Some (L := [_, _, _]) (by first | assumption | omega | (simp; omega) | simp_all) (by first | assumption | omega | (simp; omega) | simp_all) (by first | assumption | omega | (simp; omega) | simp_all)) ?_)
     | refine hop_e rfl (eop_callx (i := 3) ca15 rfl (WeakL.refl _) rfl (c_benchmake_Stream_Some (L := [_, _, _]) (by first | assumption | omega | (simp; omega) | simp_all) (by first | assumption | omega | (simp; omega) | simp_all) (by first | assumption | omega | (simp; omega) | simp_all)) ?_)
     rintro _ _ ⟨y52, rfl, hy52, rfl⟩
     refine ⟨fun _ => by first | exact .inl ⟨0, rfl⟩ | exact .inl ⟨1, rfl⟩ | exact .inl ⟨2, rfl⟩ | exact .inr (by simp [Before, Region.binds]), ?_⟩
     refine ahe 18 rfl (by kernel_rfl) ?_
     first
     | refine hop_e rfl (eop_callx (i := 0) ca15 rfl (WeakL.refl _) rfl (c_benchmake_Stream_Some (L := [_, _]) (by first | assumption | omega | (simp; omega) | simp_all) (by first | assumption | omega | (simp; omega) | simp_all) (by first | assumption | omega | (simp; omega) | simp_all)) ?_)
     | refine hop_e rfl (eop_callx (i := 1) ca15 rfl (WeakL.refl _) rfl (c_benchmake_Stream_Some (L := [_, _]) (by first | assumption | omega | (simp; omega) | simp_all) (by first | assumption | omega | (simp; omega) | simp_all) (by first | assumption | omega | (simp; omega) | simp_all)) ?_)
     | refine hop_e rfl (eop_callx (i := 2) ca15 rfl (WeakL.refl _) rfl (c_benchmake_Stream_Some (L := [_, _]) (by first | assumption | omega | (simp; omega) | simp_all) (by first | assumption | omega | (simp; omega) | simp_all) (by first | assumption | omega | (simp; omega) | simp_all)) ?_)
     | refine hop_e rfl (eop_callx (i := 3) ca15 rfl (WeakL.refl _) rfl (c_benchmake_Stream_Some (L := [_, _]) (by first | assumption | omega | (simp; omega) | simp_all) (by first | assumption | omega | (simp; omega) | simp_all) (by first | assumption | omega | (simp; omega) | simp_all)) ?_)
     rintro _ _ ⟨y59, rfl, hy59, rfl⟩
     refine ⟨fun _ => by first | exact .inl ⟨0, rfl⟩ | exact .inl ⟨1, rfl⟩ | exact .inl ⟨2, rfl⟩ | exact .inr (by simp [Before, Region.binds]), ?_⟩
     refine ahe 20 rfl (by kernel_rfl) ?_
     first
     | refine hop_e rfl (eop_callx (i := 0) ca32 rfl (WeakL.refl _) rfl (c_benchmake_Stream_Odd (by first | assumption | omega | (simp; omega) | simp_all) (by first | assumption | omega | (simp; omega) | simp_all) (by first | assumption | omega | (simp; omega) | simp_all) (by first | assumption | omega | (simp; omega) | simp_all)) ?_)
     | refine hop_e rfl (eop_callx (i := 1) ca32 rfl (WeakL.refl _) rfl (c_benchmake_Stream_Odd (by first | assumption | omega | (simp; omega) | simp_all) (by first | assumption | omega | (simp; omega) | simp_all) (by first | assumption | omega | (simp; omega) | simp_all) (by first | assumption | omega | (simp; omega) | simp_all)) ?_)
     | refine hop_e rfl (eop_callx (i := 2) ca32 rfl (WeakL.refl _) rfl (c_benchmake_Stream_Odd (by first | assumption | omega | (simp; omega) | simp_all) (by first | assumption | omega | (simp; omega) | simp_all) (by first | assumption | omega | (simp; omega) | simp_all) (by first | assumption | omega | (simp; omega) | simp_all)) ?_)
     | refine hop_e rfl (eop_callx (i := 3) ca32 rfl (WeakL.refl _) rfl (c_benchmake_Stream_Odd (by first | assumption | omega | (simp; omega) | simp_all) (by first | assumption | omega | (simp; omega) | simp_all) (by first | assumption | omega | (simp; omega) | simp_all) (by first | assumption | omega | (simp; omega) | simp_all)) ?_)
     rintro _ _ ⟨y61, rfl, rfl⟩
     refine ⟨fun _ => by first | exact .inl ⟨0, rfl⟩ | exact .inl ⟨1, rfl⟩ | exact .inl ⟨2, rfl⟩ | exact .inr (by simp [Before, Region.binds]), ?_⟩
     refine ahp 21 rfl rfl (by kernel_rfl) (by kernel_rfl) ((by first | exact pop_nilCheck rfl | exact pop_nilCheck_raw rfl)) ?_
     refine ahp 22 rfl rfl (by kernel_rfl) (by kernel_rfl) ((by first | exact pop_fieldAddr ty36 rfl ty9 (by decide) rfl | exact pop_fieldAddr_raw ty36 rfl ty9 (by decide) rfl)) ?_
     refine ahe 23 rfl (by kernel_rfl) ?_
     refine hop_e0 (eop_store_arr (i := 1) (j := y39) (f := 0) (y := eAsset x) (y' := eAsset ⟨y52, x.Position, x.Value⟩) ty9 rfl (by omega) rfl rfl (map_get hx) rfl rfl (by simp [hcells]) rfl ?_)
     refine ⟨fun _ => .inr (by simp [Before, Region.binds]), ?_⟩
     refine ahp 24 rfl rfl (by kernel_rfl) (by kernel_rfl) ((by first | exact pop_nilCheck rfl | exact pop_nilCheck_raw rfl)) ?_
     refine ahp 25 rfl rfl (by kernel_rfl) (by kernel_rfl) ((by first | exact pop_fieldAddr ty36 rfl ty9 (by decide) rfl | exact pop_fieldAddr_raw ty36 rfl ty9 (by decide) rfl)) ?_
     refine ahe 26 rfl (by kernel_rfl) ?_
     refine hop_e0 (eop_store_arr (i := 1) (j := y39) (f := 1) (y := eAsset ⟨y52, x.Position, x.Value⟩) (y' := eAsset ⟨y52, y59, x.Value⟩) ty9 rfl (by omega) rfl rfl (set_self (map_get hx)) rfl rfl (by simp [hcells]) rfl ?_)
     refine ⟨fun _ => .inr (by simp [Before, Region.binds]), ?_⟩
     refine ahp 27 rfl rfl (by kernel_rfl) (by kernel_rfl) ((by first | exact pop_nilCheck rfl | exact pop_nilCheck_raw rfl)) ?_
     refine ahp 28 rfl rfl (by kernel_rfl) (by kernel_rfl) ((by first | exact pop_fieldAddr ty36 rfl ty3 (by decide) rfl | exact pop_fieldAddr_raw ty36 rfl ty3 (by decide) rfl)) ?_
     refine ahe 29 rfl (by kernel_rfl) ?_
     refine hop_e0 (eop_store_arr (i := 1) (j := y39) (f := 2) (y := eAsset ⟨y52, y59, x.Value⟩) (y' := eAsset ⟨y52, y59, y61⟩) ty3 rfl (by omega) rfl rfl (set_self (set_self (map_get hx))) rfl rfl (by simp [hcells]) rfl ?_)
     refine ⟨fun _ => .inr (by simp [Before, Region.binds]), ?_⟩
     refine ahz (by kernel_rfl) ?_
     exact ⟨(out.set y39 ⟨y52, y59, y61⟩, a3 + 5), ⟨by simp; omega, all_set (P := GoodA) g2 ⟨by simp at hy52; rcases hy52 with rfl | rfl | rfl; exact (g2 x (List.mem_of_getElem? hx)).1; exact nil_sh; (unfold Sh; simp; omega), by simp at hy59; rcases hy59 with rfl | rfl; exact (g2 x (List.mem_of_getElem? hx)).2; exact nil_sh⟩, by dsimp only; omega⟩, trivial, (by repeat (first | exact keeps_refl | refine keeps_upd rfl ?_ | refine keeps_loop rfl rfl ?_)), by repeat (first | exact List.Perm.nil | refine permTo 0 rfl ?_ | refine permTo 1 rfl ?_ | refine permTo 2 rfl ?_ | refine permTo 3 rfl ?_ | (refine permToE 0 rfl ?hq ?_; (case hq => simp [setL, hcells]; done)) | (refine permToE 1 rfl ?hq ?_; (case hq => simp [setL, hcells]; done)) | (refine permToE 2 rfl ?hq ?_; (case hq => simp [setL, hcells]; done)) | (refine permToE 3 rfl ?hq ?_; (case hq => simp [setL, hcells]; done)) | fail)⟩
    ·try simp at h4
     refine hw_skip ?_
     exact ⟨(out, a3), ⟨by dsimp only; omega, g2, by dsimp only; omega⟩, trivial, (by repeat (first | exact keeps_refl | refine keeps_upd rfl ?_ | refine keeps_loop rfl rfl ?_)), by repeat (first | exact List.Perm.nil | refine permTo 0 rfl ?_ | refine permTo 1 rfl ?_ | refine permTo 2 rfl ?_ | refine permTo 3 rfl ?_ | (refine permToE 0 rfl ?hq ?_; (case hq => simp [setL, hcells]; done)) | (refine permToE 1 rfl ?hq ?_; (case hq => simp [setL, hcells]; done)) | (refine permToE 2 rfl ?hq ?_; (case hq => simp [setL, hcells]; done)) | (refine permToE 3 rfl ?hq ?_; (case hq => simp [setL, hcells]; done)) | fail)⟩
   ·intro q hq3
    obtain ⟨k1, a4⟩ := q
    dsimp only at hq3
    obtain ⟨q1, q2, q3⟩ := hq3
    refine hw_reg ?_
    refine dp rfl (pop_move rfl) ?_
    refine dp rfl (pop_assign rfl) ?_
    refine dn ?_
    refine hw_ret ?_
    refine ret_g (Ghost.fa 4 (i := 1) rfl rfl) rfl ⟨k1, a4, rfl, ⟨by omega, q2⟩, by omega, rfl⟩

end Go.Proofs.YtbfikmihcpfgaaaGreatDoor
end
