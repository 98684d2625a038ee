/- Ways that meet again after objects were frozen; more bridges from the shelf; over any program; no conditions. -/
import Derived.Test.YtfeimpgcpjoilaaGreatDoorHl13
namespace Go.HL
open Go.Sort Go.Proofs
section
variable {P : Program} {n : Nat} {e : Env} {M : List MObj} {Q : Exit → Env → List MObj → Prop} {c c' : Code}
def JoinG {ι : Type} (e : Env) (ks : List Nat) (W : ι → List (Nat × HVal)) (MM : ι → List MObj) (Iv : ι → Prop) (Q : Exit → Env → List MObj → Prop) : Exit → Env → List MObj → Prop
  | .normal, e', M => ∃ e2 M2, Ghost e' M e2 M2 ∧ ∃ j, Iv j ∧ HoldsW e2 (W j) ∧ Keeps ks e e2 ∧ M2.Perm (MM j)
  | x, e', M => Q x e' M
theorem hw_joing {ι : Type} (ks : List Nat) (W : ι → List (Nat × HVal)) (MM : ι → List MObj) (Iv : ι → Prop) (h1 : HWp P n c e M (JoinG e ks W MM Iv Q))
    (h2 : ∀ i, Iv i → HWp P n c' (loopE e ks (W i)) (MM i) Q) : HWp P n (.seq c c') e M Q := by
  refine hw_seq (hw_mono h1 ?_)
  intro x e1 M1 hq
  cases x with
  | normal =>
    obtain ⟨e2, M2, hg, j, a1, a2, a3, a4⟩ := hq
    exact hw_ghost (hg.trans ((Ghost.sub (Sub.loopE a2 a3)).trans (Ghost.perm a4))) (h2 j a1)
  | _ => exact hq
theorem joinG_x {ι : Type} {e0 : Env} {ks : List Nat} {W : ι → List (Nat × HVal)} {MM : ι → List MObj} {Iv : ι → Prop} {id : Nat} (h : Q (.exit id) e M) : JoinG e0 ks W MM Iv Q (.exit id) e M := h
theorem joinG_n {ι : Type} {e0 e2 : Env} {M2 : List MObj} {ks : List Nat} {W : ι → List (Nat × HVal)} {MM : ι → List MObj} {Iv : ι → Prop} (hg : Ghost e M e2 M2) (h : JoinG e0 ks W MM Iv Q .normal e2 M2) : JoinG e0 ks W MM Iv Q .normal e M := by
  obtain ⟨e3, M3, g, r⟩ := h
  exact ⟨e3, M3, hg.trans g, r⟩
theorem joinG_z {ι : Type} {e0 : Env} {ks : List Nat} {W : ι → List (Nat × HVal)} {MM : ι → List MObj} {Iv : ι → Prop} (j : ι) (h : Iv j) (hW : HoldsW e (W j)) (hk : Keeps ks e0 e) (hM : M.Perm (MM j)) : JoinG e0 ks W MM Iv Q .normal e M :=
  ⟨e, M, Ghost.sub (Sub.refl _), j, h, hW, hk, hM⟩
end
/-- Another view of the state within a region. -/
theorem dghost {P : Program} {ops : Array Oper} {n : Nat} {K : Env → List MObj → Prop} {rest : List Oper} {e : Env} {M M' : List MObj} (hm : M = M') (k : Der P ops n K rest e M') : Der P ops n K rest e M := hm ▸ k
/-- The header of an owned slice, with its capacity. -/
theorem hw_arrc {P : Program} {n : Nat} {e : Env} {M : List MObj} {c : Code} {Q : Exit → Env → List MObj → Prop} {i : Nat} {v : Value} {sz : Nat} {es : List HVal} (hm : M[i]? = some (.arr v sz es))
    (h0 : v = .slice none 0 0 → es = [] → HWp P n c e M Q) (h1 : ∀ b off cap, v = .slice (some ⟨b, off, none⟩) es.length cap → es.length ≤ cap → HWp P n c e M Q) : HWp P n c e M Q := fun I F a w a1 a2 a3 a4 => by
  rcases a4.obj _ (List.mem_append_left _ (List.mem_of_getElem? hm)) with ⟨g1, g2⟩ | ⟨b, off, cap, rc, el, fr, g1, _, _, _, g5, _⟩
  · exact h0 g1 g2 I F a w a1 a2 a3 a4
  · exact h1 b off cap g1 g5.1 I F a w a1 a2 a3 a4
theorem permTo {α : Type} {l r : List α} {x : α} (i : Nat) (h : l[i]? = some x) (hr : (l.eraseIdx i).Perm r) : l.Perm (x :: r) := (perm_erase h).trans (hr.cons x)
theorem permToE {α : Type} {l r : List α} {x y : α} (i : Nat) (h : l[i]? = some y) (hy : y = x) (hr : (l.eraseIdx i).Perm r) : l.Perm (x :: r) := hy ▸ permTo i h hr
/-- A function that cuts a slice of strings and hands it back; the long slice stays with its owner. -/
theorem con_rowk {P : Program} {f : FuncId} {l zs : List (List UInt8)} {b off cap : Nat} (hz : zs.length ≤ l.length)
    (h1 : ∀ (w : World), Holds encStr w b off l.toArray → b < w.heap.size → l.length ≤ cap → Calls P f #[.slice (some ⟨b, off, none⟩) l.length cap] w fun e w' => e = .returned (.slice (some ⟨b, off, none⟩) zs.length cap) ∧ ∃ n, w' = putRow encStr (Sort.ahead w n) b off (zs ++ List.replicate (l.length - zs.length) []).toArray) :
    Con P f [.raw (.slice (some ⟨b, off, none⟩) l.length cap)] [.arr (.slice (some ⟨b, off, none⟩) l.length cap) 1 (l.map .str)] fun x M' =>
      x = .raw (.slice (some ⟨b, off, none⟩) zs.length cap) ∧ M' = [.arr (.slice (some ⟨b, off, none⟩) l.length cap) 1 ((zs ++ List.replicate (l.length - zs.length) []).map .str)] := by
  intro I F w args ha hs
  obtain ⟨u, rfl, hu⟩ := ha.one
  obtain rfl := hu.raw_inv
  obtain ⟨g1, g2, g3, g4⟩ := holds_row hs
  refine (h1 w g1 g2 g3).mono ?_
  rintro _ w' ⟨rfl, n, rfl⟩
  refine ⟨_, .raw (.slice (some ⟨b, off, none⟩) zs.length cap), _, I, rfl, .refl I, ⟨rfl, rfl⟩, .raw _ rfl, ?_⟩
  have hlen : (zs ++ List.replicate (l.length - zs.length) []).length = l.length := by simp; omega
  have := sat_row (zs := zs ++ List.replicate (l.length - zs.length) []) (n' := l.length) (k := n) (os := #[]) hs hlen (Nat.le_refl _)
  rw [List.take_of_length_le (by omega), grow_empty] at this
  exact this
theorem VL.three {I : Imm} {h1 h2 h3 : HVal} {args : List Value} (hv : VL I [h1, h2, h3] args) : ∃ v1 v2 v3, args = [v1, v2, v3] ∧ V I h1 v1 ∧ V I h2 v2 ∧ V I h3 v3 := by
  obtain ⟨a, b⟩ := hv
  match args, a with
  | [v1, v2, v3], _ => exact ⟨v1, v2, v3, rfl, b 0 _ _ rfl rfl, b 1 _ _ rfl rfl, b 2 _ _ rfl rfl⟩
/-- The same with two numbers, of a slice that is not empty. -/
theorem con_rowd {P : Program} {f : FuncId} {l zs : List (List UInt8)} {v : Value} {i j : Int} (h0 : 0 < l.length) (hz : zs.length ≤ l.length)
    (h1 : ∀ (b off cap : Nat) (w : World), Holds encStr w b off l.toArray → l.length ≤ cap → cap ≤ 9223372036854775807 → Calls P f #[.slice (some ⟨b, off, none⟩) l.length cap, .int .i64 i, .int .i64 j] w fun e w' => e = .returned (.slice (some ⟨b, off, none⟩) zs.length cap) ∧ ∃ n, w' = putRow encStr (Sort.ahead w n) b off (zs ++ List.replicate (l.length - zs.length) []).toArray) :
    Con P f [.raw v, .int .i64 i, .int .i64 j] [.arr v 1 (l.map .str)] fun x M' => ∃ u, x = .raw u ∧ M' = [.arr u 1 (zs.map .str)] := by
  intro I F w args ha hs
  obtain ⟨u, v2, v3, rfl, hu, hu2, hu3⟩ := ha.three
  obtain rfl := hu.raw_inv
  obtain rfl := hu2.int_inv
  obtain rfl := hu3.int_inv
  rcases hs.obj (.arr u 1 (l.map .str)) (by simp) with ⟨rfl, hn⟩ | ⟨b, off, cap, rc, el, fr, rfl, _⟩
  · have hl : l = [] := by simpa using hn
    subst hl; simp at h0
  · rw [List.length_map] at hs ⊢
    obtain ⟨g1, g2, g3, g4⟩ := holds_row hs
    obtain ⟨_, _, _, _, _, _, _, g5, _⟩ := arr_some hs
    refine (h1 b off cap w g1 g3 g5.2).mono ?_
    rintro _ w' ⟨rfl, n, rfl⟩
    refine ⟨_, .raw (.slice (some ⟨b, off, none⟩) zs.length cap), _, I, rfl, .refl I, ⟨_, rfl, rfl⟩, .raw _ rfl, ?_⟩
    have := sat_row (zs := zs ++ List.replicate (l.length - zs.length) []) (n' := zs.length) (k := n) (os := #[]) hs (by simp; omega) hz
    rw [List.take_left' rfl, grow_empty] at this
    exact this
theorem conp_of_calls {P : Program} {f : FuncId} {hargs : List HVal} {h : HVal} (hc : ∀ (I : Imm) (w : World) (args : List Value), VL I hargs args → ∃ v, V I h v ∧ Calls P f args.toArray w fun e w' => e = .returned v ∧ w' = w) : ConP P f hargs h := by
  intro I F w args ha hs
  obtain ⟨v, hv, hcalls⟩ := hc I w args ha
  refine hcalls.mono ?_
  rintro _ w' ⟨rfl, rfl⟩
  exact ⟨v, h, [], I, rfl, .refl I, ⟨rfl, rfl⟩, hv, hs⟩
end Go.HL
