/- Part 3 of the proof: a program logic, contracts of functions and plain facts; no conditions. -/
import Derived.Test.YtoomadfbldcioaaGreatDoorPPicksMade2
import Derived.Carry
import Derived.Laws.MakeOwn
import Derived.Lib.LaidTab
import Derived.OpenShut
import Derived.Shelf.Strconv.Atoi
import Derived.Shelf.Strconv.Itoa3
import Derived.Shelf.Strings.Prefix
import GoSem.ClaimJoined
set_option linter.unusedVariables false
set_option linter.unusedSimpArgs false
section
namespace Go.HL
variable {P : Program}
open Go.Sort Go.Proofs
section
variable {P : Program} {n : Nat} {e : Env} {M : List MObj} {Q : Exit → Env → List MObj → Prop} {c c' : Code}
def JoinG {ι : Type} (e : Env) (ks : List Nat) (W : ι → List (Nat × HVal)) (MM : ι → List MObj) (Iv : ι → Prop) (Q : Exit → Env → List MObj → Prop) : Exit → Env → List MObj → Prop
  | .normal, e', M => ∃ e2 M2, Ghost e' M e2 M2 ∧ ∃ j, Iv j ∧ HoldsW e2 (W j) ∧ Keeps ks e e2 ∧ M2.Perm (MM j)
  | x, e', M => Q x e' M
theorem hw_joing {ι : Type} (ks : List Nat) (W : ι → List (Nat × HVal)) (MM : ι → List MObj) (Iv : ι → Prop) (h1 : HWp P n c e M (JoinG e ks W MM Iv Q))
    (h2 : ∀ i, Iv i → HWp P n c' (loopE e ks (W i)) (MM i) Q) : HWp P n (.seq c c') e M Q := by
  refine hw_seq (hw_mono h1 ?_)
  intro x e1 M1 hq
  cases x with
  | normal =>
    obtain ⟨e2, M2, hg, j, a1, a2, a3, a4⟩ := hq
    exact hw_ghost (hg.trans ((Ghost.sub (Sub.loopE a2 a3)).trans (Ghost.perm a4))) (h2 j a1)
  | _ => exact hq
theorem joinG_n {ι : Type} {e0 e2 : Env} {M2 : List MObj} {ks : List Nat} {W : ι → List (Nat × HVal)} {MM : ι → List MObj} {Iv : ι → Prop} (hg : Ghost e M e2 M2) (h : JoinG e0 ks W MM Iv Q .normal e2 M2) : JoinG e0 ks W MM Iv Q .normal e M := by
  obtain ⟨e3, M3, g, r⟩ := h
  exact ⟨e3, M3, hg.trans g, r⟩
theorem joinG_z {ι : Type} {e0 : Env} {ks : List Nat} {W : ι → List (Nat × HVal)} {MM : ι → List MObj} {Iv : ι → Prop} (j : ι) (h : Iv j) (hW : HoldsW e (W j)) (hk : Keeps ks e0 e) (hM : M.Perm (MM j)) : JoinG e0 ks W MM Iv Q .normal e M :=
  ⟨e, M, Ghost.sub (Sub.refl _), j, h, hW, hk, hM⟩
end
/-- Another view of the state within a region. -/
theorem dghost {P : Program} {ops : Array Oper} {n : Nat} {K : Env → List MObj → Prop} {rest : List Oper} {e : Env} {M M' : List MObj} (hm : M = M') (k : Der P ops n K rest e M') : Der P ops n K rest e M := hm ▸ k
/-- The header of an owned slice, with its capacity. -/
theorem hw_arrc {P : Program} {n : Nat} {e : Env} {M : List MObj} {c : Code} {Q : Exit → Env → List MObj → Prop} {i : Nat} {v : Value} {sz : Nat} {es : List HVal} (hm : M[i]? = some (.arr v sz es))
    (h0 : v = .slice none 0 0 → es = [] → HWp P n c e M Q) (h1 : ∀ b off cap, v = .slice (some ⟨b, off, none⟩) es.length cap → es.length ≤ cap → HWp P n c e M Q) : HWp P n c e M Q := fun I F a w a1 a2 a3 a4 => by
  rcases a4.obj _ (List.mem_append_left _ (List.mem_of_getElem? hm)) with ⟨g1, g2⟩ | ⟨b, off, cap, rc, el, fr, g1, _, _, _, g5, _⟩
  · exact h0 g1 g2 I F a w a1 a2 a3 a4
  · exact h1 b off cap g1 g5.1 I F a w a1 a2 a3 a4
theorem permTo {α : Type} {l r : List α} {x : α} (i : Nat) (h : l[i]? = some x) (hr : (l.eraseIdx i).Perm r) : l.Perm (x :: r) := (perm_erase h).trans (hr.cons x)
theorem permToE {α : Type} {l r : List α} {x y : α} (i : Nat) (h : l[i]? = some y) (hy : y = x) (hr : (l.eraseIdx i).Perm r) : l.Perm (x :: r) := hy ▸ permTo i h hr
/-- A function that cuts a slice of strings and hands it back; the long slice stays with its owner. -/
theorem con_rowk {P : Program} {f : FuncId} {l zs : List (List UInt8)} {b off cap : Nat} (hz : zs.length ≤ l.length)
    (h1 : ∀ (w : World), Holds encStr w b off l.toArray → b < w.heap.size → l.length ≤ cap → Calls P f #[.slice (some ⟨b, off, none⟩) l.length cap] w fun e w' => e = .returned (.slice (some ⟨b, off, none⟩) zs.length cap) ∧ ∃ n, w' = putRow encStr (Sort.ahead w n) b off (zs ++ List.replicate (l.length - zs.length) []).toArray) :
    Con P f [.raw (.slice (some ⟨b, off, none⟩) l.length cap)] [.arr (.slice (some ⟨b, off, none⟩) l.length cap) 1 (l.map .str)] fun x M' =>
      x = .raw (.slice (some ⟨b, off, none⟩) zs.length cap) ∧ M' = [.arr (.slice (some ⟨b, off, none⟩) l.length cap) 1 ((zs ++ List.replicate (l.length - zs.length) []).map .str)] := by
  intro I F w args ha hs
  obtain ⟨u, rfl, hu⟩ := ha.one
  obtain rfl := hu.raw_inv
  obtain ⟨g1, g2, g3, g4⟩ := holds_row hs
  refine (h1 w g1 g2 g3).mono ?_
  rintro _ w' ⟨rfl, n, rfl⟩
  refine ⟨_, .raw (.slice (some ⟨b, off, none⟩) zs.length cap), _, I, rfl, .refl I, ⟨rfl, rfl⟩, .raw _ rfl, ?_⟩
  have hlen : (zs ++ List.replicate (l.length - zs.length) []).length = l.length := by simp; omega
  have := sat_row (zs := zs ++ List.replicate (l.length - zs.length) []) (n' := l.length) (k := n) (os := #[]) hs hlen (Nat.le_refl _)
  rw [List.take_of_length_le (by omega), grow_empty] at this
  exact this
theorem VL.three {I : Imm} {h1 h2 h3 : HVal} {args : List Value} (hv : VL I [h1, h2, h3] args) : ∃ v1 v2 v3, args = [v1, v2, v3] ∧ V I h1 v1 ∧ V I h2 v2 ∧ V I h3 v3 := by
  obtain ⟨a, b⟩ := hv
  match args, a with
  | [v1, v2, v3], _ => exact ⟨v1, v2, v3, rfl, b 0 _ _ rfl rfl, b 1 _ _ rfl rfl, b 2 _ _ rfl rfl⟩
/-- The same with two numbers, of a slice that is not empty. -/
theorem con_rowd {P : Program} {f : FuncId} {l zs : List (List UInt8)} {v : Value} {i j : Int} (h0 : 0 < l.length) (hz : zs.length ≤ l.length)
    (h1 : ∀ (b off cap : Nat) (w : World), Holds encStr w b off l.toArray → l.length ≤ cap → cap ≤ 9223372036854775807 → Calls P f #[.slice (some ⟨b, off, none⟩) l.length cap, .int .i64 i, .int .i64 j] w fun e w' => e = .returned (.slice (some ⟨b, off, none⟩) zs.length cap) ∧ ∃ n, w' = putRow encStr (Sort.ahead w n) b off (zs ++ List.replicate (l.length - zs.length) []).toArray) :
    Con P f [.raw v, .int .i64 i, .int .i64 j] [.arr v 1 (l.map .str)] fun x M' => ∃ u, x = .raw u ∧ M' = [.arr u 1 (zs.map .str)] := by
  intro I F w args ha hs
  obtain ⟨u, v2, v3, rfl, hu, hu2, hu3⟩ := ha.three
  obtain rfl := hu.raw_inv
  obtain rfl := hu2.int_inv
  obtain rfl := hu3.int_inv
  rcases hs.obj (.arr u 1 (l.map .str)) (by simp) with ⟨rfl, hn⟩ | ⟨b, off, cap, rc, el, fr, rfl, _⟩
  · have hl : l = [] := by simpa using hn
    subst hl; simp at h0
  · rw [List.length_map] at hs ⊢
    obtain ⟨g1, g2, g3, g4⟩ := holds_row hs
    obtain ⟨_, _, _, _, _, _, _, g5, _⟩ := arr_some hs
    refine (h1 b off cap w g1 g3 g5.2).mono ?_
    rintro _ w' ⟨rfl, n, rfl⟩
    refine ⟨_, .raw (.slice (some ⟨b, off, none⟩) zs.length cap), _, I, rfl, .refl I, ⟨_, rfl, rfl⟩, .raw _ rfl, ?_⟩
    have := sat_row (zs := zs ++ List.replicate (l.length - zs.length) []) (n' := zs.length) (k := n) (os := #[]) hs (by simp; omega) hz
    rw [List.take_left' rfl, grow_empty] at this
    exact this
theorem conp_of_calls {P : Program} {f : FuncId} {hargs : List HVal} {h : HVal} (hc : ∀ (I : Imm) (w : World) (args : List Value), VL I hargs args → ∃ v, V I h v ∧ Calls P f args.toArray w fun e w' => e = .returned v ∧ w' = w) : ConP P f hargs h := by
  intro I F w args ha hs
  obtain ⟨v, hv, hcalls⟩ := hc I w args ha
  refine hcalls.mono ?_
  rintro _ w' ⟨rfl, rfl⟩
  exact ⟨v, h, [], I, rfl, .refl I, ⟨rfl, rfl⟩, hv, hs⟩
end Go.HL
end
section
namespace Go.HL
abbrev nilS : HVal := .raw (.slice none 0 0)
abbrev RoomC (b : Nat) (t : HVal) (R W : Int) (p : HVal) (C S : Int) : MObj := .cells b [t, .int .i64 R, .int .i64 W, p, .int .i64 C, .int .i64 S]
structure GoodRoom (r : Room) : Prop where
  t0 : 0 < r.Teams.length
  t4 : r.Teams.length ≤ 4
  p20 : r.Players.length ≤ 20
  p1 : 1 ≤ r.Players.length
  ts : ∀ s ∈ r.Teams, s.length ≤ 1000000
  ps : ∀ s ∈ r.Players, s.length ≤ 1000000
def team3 : List Str := [[116, 99], [116, 97], [116, 98]]
theorem team3_len : ∀ s ∈ team3, s.length ≤ 100 := by decide
theorem dec_len {i : Nat} (h : i < 100) : (Lib.decDigits i).length ≤ 10 := by
  have : (List.range 100).all (fun i => decide ((Lib.decDigits i).length ≤ 10)) = true := by kernel_rfl
  have := List.all_eq_true.1 this i (List.mem_range.2 h)
  simpa using this
theorem good_room {T Pl : List Str} {R W C S : Int} {k : Nat} (hT : 1 ≤ T.length ∧ T.length ≤ 3) (hP : Pl.length = k) (hk : 1 ≤ k ∧ k ≤ 19) (h1 : ∀ s ∈ T, s.length ≤ 100) (h2 : ∀ s ∈ Pl, s.length ≤ 100) : GoodRoom ⟨T, R, W, Pl, C, S⟩ :=
  ⟨by dsimp only; omega, by dsimp only; omega, by dsimp only; omega, by dsimp only; omega, fun s hs => by have := h1 s hs; omega, fun s hs => by have := h2 s hs; omega⟩
theorem good_roomT {T Pl : List Str} {R W C S : Int} {k : Nat} {y : Str} (hT : 1 ≤ T.length ∧ T.length ≤ 3) (hP : Pl.length = k) (hk : 1 ≤ k ∧ k ≤ 19) (h1 : ∀ s ∈ T, s.length ≤ 100) (h2 : ∀ s ∈ Pl, s.length ≤ 100) (hy : y.length ≤ 100) : GoodRoom ⟨T ++ [y], R, W, Pl, C, S⟩ :=
  ⟨by simp, by simp; omega, by dsimp only; omega, by dsimp only; omega, fun s hs => by
    rcases List.mem_append.1 hs with h | h
    · have := h1 s h; omega
    · simp at h; subst h; omega, fun s hs => by have := h2 s hs; omega⟩
theorem good_roomP {T Pl : List Str} {R W C S : Int} {k : Nat} {y : Str} (hT : 1 ≤ T.length ∧ T.length ≤ 3) (hP : Pl.length = k) (hk : k ≤ 19) (h1 : ∀ s ∈ T, s.length ≤ 100) (h2 : ∀ s ∈ Pl, s.length ≤ 100) (hy : y.length ≤ 100) : GoodRoom ⟨T, R, W, Pl ++ [y], C, S⟩ :=
  ⟨by dsimp only; omega, by dsimp only; omega, by simp; omega, by simp, fun s hs => by have := h1 s hs; omega, fun s hs => by
    rcases List.mem_append.1 hs with h | h
    · have := h2 s h; omega
    · simp at h; subst h; omega⟩
end Go.HL
end
section
namespace Go.Proofs.YtoomadfbldcioaaGreatDoor
open Go.HL
set_option maxRecDepth 100000
set_option linter.unusedVariables false
set_option linter.unusedSimpArgs false
/-- strconv.Itoa of a small number -/
theorem c_strconv_Itoa {i : Nat} (hi : i < 100) : ConP Tryz.prog 40 [.int .i64 (i : Int)] (.str (Lib.decDigits i)) :=
  conp_of_calls fun I w args ha => by
    obtain ⟨u, rfl, hu⟩ := ha.one
    obtain rfl := hu.int_inv
    exact ⟨_, .str _, Any.strconv_Itoa_small Tryz.lays171 i hi w⟩

set_option maxHeartbeats 2000000 in
/-- (*benchwarmer/benchmake.Stream).RoomOf -/
theorem c_benchmake_Stream_RoomOf {b : Nat} {l : List Int} {a : Nat}  (ha : a ≤ 800000) : Con Tryz.prog 5 [pAt b] [St b l a] (fun x M' => ∃ r a', x = eRoom r ∧ GoodRoom r ∧ a' ≤ a + 20 ∧ M' = [St b l a']) := by
  refine Con.of_bodyc Tryz.func5 rfl Tryz.ntmps5 rfl rfl ?_
  refine hw_reg ?_
  refine de rfl (eop_alloc ty28 rfl fun b2 => ?_)
  refine dn ?_
  refine hw_join [3, 5, 6, 7, 8, 9, 10, 11, 12, 13, 14, 15, 16, 17, 18, 19] (fun (q : Nat × List Str × Int × Int × Int × Int) => [(3, pAt q.1)]) (fun (q : Nat × List Str × Int × Int × Int × Int) => [RoomC q.1 (eSs q.2.1) q.2.2.1 q.2.2.2.1 nilS q.2.2.2.2.1 q.2.2.2.2.2, RoomC b2 nilS 0 0 nilS 0 0, St b l (a + 5)]) (fun (q : Nat × List Str × Int × Int × Int × Int) => (1 ≤ q.2.1.length ∧ q.2.1.length ≤ 3) ∧ (1 ≤ q.2.2.1 ∧ q.2.2.1 ≤ 4) ∧ ∀ s ∈ q.2.1, s.length ≤ 100) ?_ ?_
  · skip
    refine hw_draw1 (fun _ => True) [] mixed ?_
    refine ahp 0 rfl rfl (by kernel_rfl) (by kernel_rfl) (pop_buildSlice (hs := [_, _, _]) ty26 ty9 rfl rfl (by decide) (by decide) rfl) ?_
    refine ahp 1 rfl rfl (by kernel_rfl) (by kernel_rfl) (pop_move rfl) ?_
    refine ahp 4 rfl rfl (by kernel_rfl) (by kernel_rfl) (pop_move rfl) ?_
    refine ahp 6 rfl rfl (by kernel_rfl) (by kernel_rfl) (pop_move rfl) ?_
    refine ahp 8 rfl rfl (by kernel_rfl) (by kernel_rfl) (pop_move rfl) ?_
    refine ahp 9 rfl rfl (by kernel_rfl) (by kernel_rfl) (pop_buildSlice (hs := [_, _]) ty22 ty3 rfl rfl (by decide) (by decide) rfl) ?_
    refine ahp 11 rfl rfl (by kernel_rfl) (by kernel_rfl) (pop_move rfl) ?_
    refine ahp 12 rfl rfl (by kernel_rfl) (by kernel_rfl) (pop_buildSlice (hs := [_, _, _]) ty22 ty3 rfl rfl (by decide) (by decide) rfl) ?_
    refine ahe2 2 15 rfl rfl (by kernel_rfl) ?_ ?_
    · skip
      first
      | refine hop_e rfl (eop_callx (i := 0) ca39 rfl (WeakL.refl _) rfl (c_benchmake_Stream_Range (by first | assumption | omega | (simp; omega) | simp_all) (by first | assumption | omega | (simp; omega) | simp_all) (by first | assumption | omega | (simp; omega) | simp_all) (by first | assumption | omega | (simp; omega) | simp_all)) ?_)
      | refine hop_e rfl (eop_callx (i := 1) ca39 rfl (WeakL.refl _) rfl (c_benchmake_Stream_Range (by first | assumption | omega | (simp; omega) | simp_all) (by first | assumption | omega | (simp; omega) | simp_all) (by first | assumption | omega | (simp; omega) | simp_all) (by first | assumption | omega | (simp; omega) | simp_all)) ?_)
      | refine hop_e rfl (eop_callx (i := 2) ca39 rfl (WeakL.refl _) rfl (c_benchmake_Stream_Range (by first | assumption | omega | (simp; omega) | simp_all) (by first | assumption | omega | (simp; omega) | simp_all) (by first | assumption | omega | (simp; omega) | simp_all) (by first | assumption | omega | (simp; omega) | simp_all)) ?_)
      | refine hop_e rfl (eop_callx (i := 3) ca39 rfl (WeakL.refl _) rfl (c_benchmake_Stream_Range (by first | assumption | omega | (simp; omega) | simp_all) (by first | assumption | omega | (simp; omega) | simp_all) (by first | assumption | omega | (simp; omega) | simp_all) (by first | assumption | omega | (simp; omega) | simp_all)) ?_)
      rintro _ _ ⟨y7, rfl, hy7, rfl⟩
      refine ⟨fun _ => .inl trivial, ?_⟩
      refine ahp 3 rfl rfl (by kernel_rfl) (by kernel_rfl) (pop_slicem (es := team3) (f := HVal.str) (h := y7.toNat) ty26 ty9 rfl rfl ⟨_, _, rfl, by omega⟩ (by omega) (by simp [team3]; omega)) ?_
      refine ahe2 5 15 rfl rfl (by kernel_rfl) ?_ ?_
      · skip
        first
        | refine hop_e rfl (eop_callx (i := 0) ca39 rfl (WeakL.refl _) rfl (c_benchmake_Stream_Range (by first | assumption | omega | (simp; omega) | simp_all) (by first | assumption | omega | (simp; omega) | simp_all) (by first | assumption | omega | (simp; omega) | simp_all) (by first | assumption | omega | (simp; omega) | simp_all)) ?_)
        | refine hop_e rfl (eop_callx (i := 1) ca39 rfl (WeakL.refl _) rfl (c_benchmake_Stream_Range (by first | assumption | omega | (simp; omega) | simp_all) (by first | assumption | omega | (simp; omega) | simp_all) (by first | assumption | omega | (simp; omega) | simp_all) (by first | assumption | omega | (simp; omega) | simp_all)) ?_)
        | refine hop_e rfl (eop_callx (i := 2) ca39 rfl (WeakL.refl _) rfl (c_benchmake_Stream_Range (by first | assumption | omega | (simp; omega) | simp_all) (by first | assumption | omega | (simp; omega) | simp_all) (by first | assumption | omega | (simp; omega) | simp_all) (by first | assumption | omega | (simp; omega) | simp_all)) ?_)
        | refine hop_e rfl (eop_callx (i := 3) ca39 rfl (WeakL.refl _) rfl (c_benchmake_Stream_Range (by first | assumption | omega | (simp; omega) | simp_all) (by first | assumption | omega | (simp; omega) | simp_all) (by first | assumption | omega | (simp; omega) | simp_all) (by first | assumption | omega | (simp; omega) | simp_all)) ?_)
        rintro _ _ ⟨y10, rfl, hy10, rfl⟩
        refine ⟨fun _ => .inl trivial, ?_⟩
        refine ahe2 7 15 rfl rfl (by kernel_rfl) ?_ ?_
        · skip
          first
          | refine hop_e rfl (eop_callx (i := 0) ca39 rfl (WeakL.refl _) rfl (c_benchmake_Stream_Range (by first | assumption | omega | (simp; omega) | simp_all) (by first | assumption | omega | (simp; omega) | simp_all) (by first | assumption | omega | (simp; omega) | simp_all) (by first | assumption | omega | (simp; omega) | simp_all)) ?_)
          | refine hop_e rfl (eop_callx (i := 1) ca39 rfl (WeakL.refl _) rfl (c_benchmake_Stream_Range (by first | assumption | omega | (simp; omega) | simp_all) (by first | assumption | omega | (simp; omega) | simp_all) (by first | assumption | omega | (simp; omega) | simp_all) (by first | assumption | omega | (simp; omega) | simp_all)) ?_)
          | refine hop_e rfl (eop_callx (i := 2) ca39 rfl (WeakL.refl _) rfl (c_benchmake_Stream_Range (by first | assumption | omega | (simp; omega) | simp_all) (by first | assumption | omega | (simp; omega) | simp_all) (by first | assumption | omega | (simp; omega) | simp_all) (by first | assumption | omega | (simp; omega) | simp_all)) ?_)
          | refine hop_e rfl (eop_callx (i := 3) ca39 rfl (WeakL.refl _) rfl (c_benchmake_Stream_Range (by first | assumption | omega | (simp; omega) | simp_all) (by first | assumption | omega | (simp; omega) | simp_all) (by first | assumption | omega | (simp; omega) | simp_all) (by first | assumption | omega | (simp; omega) | simp_all)) ?_)
          rintro _ _ ⟨y12, rfl, hy12, rfl⟩
          refine ⟨fun _ => .inl trivial, ?_⟩
          refine ahe2 10 15 rfl rfl (by kernel_rfl) ?_ ?_
          · skip
            first
            | refine hop_e rfl (eop_callx (i := 0) ca10 rfl (WeakL.refl _) rfl (c_benchmake_Stream_Pick (L := [_, _]) (by first | assumption | omega | (simp; omega) | simp_all) (by first | assumption | omega | (simp; omega) | simp_all) (by first | assumption | omega | (simp; omega) | simp_all)) ?_)
            | refine hop_e rfl (eop_callx (i := 1) ca10 rfl (WeakL.refl _) rfl (c_benchmake_Stream_Pick (L := [_, _]) (by first | assumption | omega | (simp; omega) | simp_all) (by first | assumption | omega | (simp; omega) | simp_all) (by first | assumption | omega | (simp; omega) | simp_all)) ?_)
            | refine hop_e rfl (eop_callx (i := 2) ca10 rfl (WeakL.refl _) rfl (c_benchmake_Stream_Pick (L := [_, _]) (by first | assumption | omega | (simp; omega) | simp_all) (by first | assumption | omega | (simp; omega) | simp_all) (by first | assumption | omega | (simp; omega) | simp_all)) ?_)
            | refine hop_e rfl (eop_callx (i := 3) ca10 rfl (WeakL.refl _) rfl (c_benchmake_Stream_Pick (L := [_, _]) (by first | assumption | omega | (simp; omega) | simp_all) (by first | assumption | omega | (simp; omega) | simp_all) (by first | assumption | omega | (simp; omega) | simp_all)) ?_)
            rintro _ _ ⟨y15, rfl, hy15, rfl⟩
            refine ⟨fun _ => .inl trivial, ?_⟩
            refine ahe2 13 15 rfl rfl (by kernel_rfl) ?_ ?_
            · skip
              first
              | refine hop_e rfl (eop_callx (i := 0) ca10 rfl (WeakL.refl _) rfl (c_benchmake_Stream_Pick (L := [_, _, _]) (by first | assumption | omega | (simp; omega) | simp_all) (by first | assumption | omega | (simp; omega) | simp_all) (by first | assumption | omega | (simp; omega) | simp_all)) ?_)
              | refine hop_e rfl (eop_callx (i := 1) ca10 rfl (WeakL.refl _) rfl (c_benchmake_Stream_Pick (L := [_, _, _]) (by first | assumption | omega | (simp; omega) | simp_all) (by first | assumption | omega | (simp; omega) | simp_all) (by first | assumption | omega | (simp; omega) | simp_all)) ?_)
              | refine hop_e rfl (eop_callx (i := 2) ca10 rfl (WeakL.refl _) rfl (c_benchmake_Stream_Pick (L := [_, _, _]) (by first | assumption | omega | (simp; omega) | simp_all) (by first | assumption | omega | (simp; omega) | simp_all) (by first | assumption | omega | (simp; omega) | simp_all)) ?_)
              | refine hop_e rfl (eop_callx (i := 3) ca10 rfl (WeakL.refl _) rfl (c_benchmake_Stream_Pick (L := [_, _, _]) (by first | assumption | omega | (simp; omega) | simp_all) (by first | assumption | omega | (simp; omega) | simp_all) (by first | assumption | omega | (simp; omega) | simp_all)) ?_)
              rintro _ _ ⟨y18, rfl, hy18, rfl⟩
              refine ⟨fun _ => .inl trivial, ?_⟩
              refine ahp 14 rfl rfl (by kernel_rfl) (by kernel_rfl) (pop_build (cs := [_, _, _, _, _, _]) ty28 pl28 rfl) ?_
              refine ahe 15 rfl (by kernel_rfl) ?_
              refine hop_e rfl (eop_alloc ty28 rfl fun b3 => ?_)
              refine ⟨fun _ => .inl trivial, ?_⟩
              refine ahe 16 rfl (by kernel_rfl) ?_
              first
              | refine hop_e0 (eop_store (i := 0) ty28 rfl rfl rfl rfl rfl (Nat.le_of_ble_eq_true rfl) ?_)
              | refine hop_e0 (eop_store (i := 1) ty28 rfl rfl rfl rfl rfl (Nat.le_of_ble_eq_true rfl) ?_)
              | refine hop_e0 (eop_store (i := 2) ty28 rfl rfl rfl rfl rfl (Nat.le_of_ble_eq_true rfl) ?_)
              | refine hop_e0 (eop_store (i := 3) ty28 rfl rfl rfl rfl rfl (Nat.le_of_ble_eq_true rfl) ?_)
              refine ⟨fun _ => .inl trivial, ?_⟩
              refine ahz (by kernel_rfl) ?_
              refine ⟨(b3, (team3.take y7.toNat).drop 0, y10, y12, y15, y18), ?_, ⟨rfl, trivial⟩, (by repeat (first | exact keeps_refl | refine keeps_upd rfl ?_ | refine keeps_loop rfl rfl ?_)), ?_⟩
              · refine ⟨by simp [team3]; omega, by dsimp only; omega, fun s hs => ?_⟩
                exact team3_len s (List.mem_of_mem_take hs)
              · repeat (first | exact List.Perm.nil | refine permTo 0 rfl ?_ | refine permTo 1 rfl ?_ | refine permTo 2 rfl ?_ | refine permTo 3 rfl ?_ | (refine permToE 0 rfl ?hq ?_; (case hq => simp [setL, hcells]; done)) | (refine permToE 1 rfl ?hq ?_; (case hq => simp [setL, hcells]; done)) | (refine permToE 2 rfl ?hq ?_; (case hq => simp [setL, hcells]; done)) | (refine permToE 3 rfl ?hq ?_; (case hq => simp [setL, hcells]; done)) | fail)
            · skip
              refine hop_e rfl (eop_alloc ty28 rfl fun b3 => ?_)
              refine ⟨fun _ => .inl trivial, ?_⟩
              refine ahe 13 rfl (by kernel_rfl) ?_
              first
              | refine hop_e rfl (eop_callx (i := 0) ca10 rfl (WeakL.refl _) rfl (c_benchmake_Stream_Pick (L := [_, _, _]) (by first | assumption | omega | (simp; omega) | simp_all) (by first | assumption | omega | (simp; omega) | simp_all) (by first | assumption | omega | (simp; omega) | simp_all)) ?_)
              | refine hop_e rfl (eop_callx (i := 1) ca10 rfl (WeakL.refl _) rfl (c_benchmake_Stream_Pick (L := [_, _, _]) (by first | assumption | omega | (simp; omega) | simp_all) (by first | assumption | omega | (simp; omega) | simp_all) (by first | assumption | omega | (simp; omega) | simp_all)) ?_)
              | refine hop_e rfl (eop_callx (i := 2) ca10 rfl (WeakL.refl _) rfl (c_benchmake_Stream_Pick (L := [_, _, _]) (by first | assumption | omega | (simp; omega) | simp_all) (by first | assumption | omega | (simp; omega) | simp_all) (by first | assumption | omega | (simp; omega) | simp_all)) ?_)
              | refine hop_e rfl (eop_callx (i := 3) ca10 rfl (WeakL.refl _) rfl (c_benchmake_Stream_Pick (L := [_, _, _]) (by first | assumption | omega | (simp; omega) | simp_all) (by first | assumption | omega | (simp; omega) | simp_all) (by first | assumption | omega | (simp; omega) | simp_all)) ?_)
              rintro _ _ ⟨y18, rfl, hy18, rfl⟩
              refine ⟨fun _ => .inl trivial, ?_⟩
              refine ahp 14 rfl rfl (by kernel_rfl) (by kernel_rfl) (pop_build (cs := [_, _, _, _, _, _]) ty28 pl28 rfl) ?_
              refine ahe 16 rfl (by kernel_rfl) ?_
              first
              | refine hop_e0 (eop_store (i := 0) ty28 rfl rfl rfl rfl rfl (Nat.le_of_ble_eq_true rfl) ?_)
              | refine hop_e0 (eop_store (i := 1) ty28 rfl rfl rfl rfl rfl (Nat.le_of_ble_eq_true rfl) ?_)
              | refine hop_e0 (eop_store (i := 2) ty28 rfl rfl rfl rfl rfl (Nat.le_of_ble_eq_true rfl) ?_)
              | refine hop_e0 (eop_store (i := 3) ty28 rfl rfl rfl rfl rfl (Nat.le_of_ble_eq_true rfl) ?_)
              refine ⟨fun _ => .inl trivial, ?_⟩
              refine ahz (by kernel_rfl) ?_
              refine ⟨(b3, (team3.take y7.toNat).drop 0, y10, y12, y15, y18), ?_, ⟨rfl, trivial⟩, (by repeat (first | exact keeps_refl | refine keeps_upd rfl ?_ | refine keeps_loop rfl rfl ?_)), ?_⟩
              · refine ⟨by simp [team3]; omega, by dsimp only; omega, fun s hs => ?_⟩
                exact team3_len s (List.mem_of_mem_take hs)
              · repeat (first | exact List.Perm.nil | refine permTo 0 rfl ?_ | refine permTo 1 rfl ?_ | refine permTo 2 rfl ?_ | refine permTo 3 rfl ?_ | (refine permToE 0 rfl ?hq ?_; (case hq => simp [setL, hcells]; done)) | (refine permToE 1 rfl ?hq ?_; (case hq => simp [setL, hcells]; done)) | (refine permToE 2 rfl ?hq ?_; (case hq => simp [setL, hcells]; done)) | (refine permToE 3 rfl ?hq ?_; (case hq => simp [setL, hcells]; done)) | fail)
          · skip
            refine hop_e rfl (eop_alloc ty28 rfl fun b3 => ?_)
            refine ⟨fun _ => .inl trivial, ?_⟩
            refine ahe 10 rfl (by kernel_rfl) ?_
            first
            | refine hop_e rfl (eop_callx (i := 0) ca10 rfl (WeakL.refl _) rfl (c_benchmake_Stream_Pick (L := [_, _]) (by first | assumption | omega | (simp; omega) | simp_all) (by first | assumption | omega | (simp; omega) | simp_all) (by first | assumption | omega | (simp; omega) | simp_all)) ?_)
            | refine hop_e rfl (eop_callx (i := 1) ca10 rfl (WeakL.refl _) rfl (c_benchmake_Stream_Pick (L := [_, _]) (by first | assumption | omega | (simp; omega) | simp_all) (by first | assumption | omega | (simp; omega) | simp_all) (by first | assumption | omega | (simp; omega) | simp_all)) ?_)
            | refine hop_e rfl (eop_callx (i := 2) ca10 rfl (WeakL.refl _) rfl (c_benchmake_Stream_Pick (L := [_, _]) (by first | assumption | omega | (simp; omega) | simp_all) (by first | assumption | omega | (simp; omega) | simp_all) (by first | assumption | omega | (simp; omega) | simp_all)) ?_)
            | refine hop_e rfl (eop_callx (i := 3) ca10 rfl (WeakL.refl _) rfl (c_benchmake_Stream_Pick (L := [_, _]) (by first | assumption | omega | (simp; omega) | simp_all) (by first | assumption | omega | (simp; omega) | simp_all) (by first | assumption | omega | (simp; omega) | simp_all)) ?_)
            rintro _ _ ⟨y15, rfl, hy15, rfl⟩
            refine ⟨fun _ => .inl trivial, ?_⟩
            refine ahe 13 rfl (by kernel_rfl) ?_
            first
            | refine hop_e rfl (eop_callx (i := 0) ca10 rfl (WeakL.refl _) rfl (c_benchmake_Stream_Pick (L := [_, _, _]) (by first | assumption | omega | (simp; omega) | simp_all) (by first | assumption | omega | (simp; omega) | simp_all) (by first | assumption | omega | (simp; omega) | simp_all)) ?_)
            | refine hop_e rfl (eop_callx (i := 1) ca10 rfl (WeakL.refl _) rfl (c_benchmake_Stream_Pick (L := [_, _, _]) (by first | assumption | omega | (simp; omega) | simp_all) (by first | assumption | omega | (simp; omega) | simp_all) (by first | assumption | omega | (simp; omega) | simp_all)) ?_)
            | refine hop_e rfl (eop_callx (i := 2) ca10 rfl (WeakL.refl _) rfl (c_benchmake_Stream_Pick (L := [_, _, _]) (by first | assumption | omega | (simp; omega) | simp_all) (by first | assumption | omega | (simp; omega) | simp_all) (by first | assumption | omega | (simp; omega) | simp_all)) ?_)
            | refine hop_e rfl (eop_callx (i := 3) ca10 rfl (WeakL.refl _) rfl (c_benchmake_Stream_Pick (L := [_, _, _]) (by first | assumption | omega | (simp; omega) | simp_all) (by first | assumption | omega | (simp; omega) | simp_all) (by first | assumption | omega | (simp; omega) | simp_all)) ?_)
            rintro _ _ ⟨y18, rfl, hy18, rfl⟩
            refine ⟨fun _ => .inl trivial, ?_⟩
            refine ahp 14 rfl rfl (by kernel_rfl) (by kernel_rfl) (pop_build (cs := [_, _, _, _, _, _]) ty28 pl28 rfl) ?_
            refine ahe 16 rfl (by kernel_rfl) ?_
            first
            | refine hop_e0 (eop_store (i := 0) ty28 rfl rfl rfl rfl rfl (Nat.le_of_ble_eq_true rfl) ?_)
            | refine hop_e0 (eop_store (i := 1) ty28 rfl rfl rfl rfl rfl (Nat.le_of_ble_eq_true rfl) ?_)
            | refine hop_e0 (eop_store (i := 2) ty28 rfl rfl rfl rfl rfl (Nat.le_of_ble_eq_true rfl) ?_)
            | refine hop_e0 (eop_store (i := 3) ty28 rfl rfl rfl rfl rfl (Nat.le_of_ble_eq_true rfl) ?_)
            refine ⟨fun _ => .inl trivial, ?_⟩
            refine ahz (by kernel_rfl) ?_
            refine ⟨(b3, (team3.take y7.toNat).drop 0, y10, y12, y15, y18), ?_, ⟨rfl, trivial⟩, (by repeat (first | exact keeps_refl | refine keeps_upd rfl ?_ | refine keeps_loop rfl rfl ?_)), ?_⟩
            · refine ⟨by simp [team3]; omega, by dsimp only; omega, fun s hs => ?_⟩
              exact team3_len s (List.mem_of_mem_take hs)
            · repeat (first | exact List.Perm.nil | refine permTo 0 rfl ?_ | refine permTo 1 rfl ?_ | refine permTo 2 rfl ?_ | refine permTo 3 rfl ?_ | (refine permToE 0 rfl ?hq ?_; (case hq => simp [setL, hcells]; done)) | (refine permToE 1 rfl ?hq ?_; (case hq => simp [setL, hcells]; done)) | (refine permToE 2 rfl ?hq ?_; (case hq => simp [setL, hcells]; done)) | (refine permToE 3 rfl ?hq ?_; (case hq => simp [setL, hcells]; done)) | fail)
        · skip
          refine hop_e rfl (eop_alloc ty28 rfl fun b3 => ?_)
          refine ⟨fun _ => .inl trivial, ?_⟩
          refine ahe 7 rfl (by kernel_rfl) ?_
          first
          | refine hop_e rfl (eop_callx (i := 0) ca39 rfl (WeakL.refl _) rfl (c_benchmake_Stream_Range (by first | assumption | omega | (simp; omega) | simp_all) (by first | assumption | omega | (simp; omega) | simp_all) (by first | assumption | omega | (simp; omega) | simp_all) (by first | assumption | omega | (simp; omega) | simp_all)) ?_)
          | refine hop_e rfl (eop_callx (i := 1) ca39 rfl (WeakL.refl _) rfl (c_benchmake_Stream_Range (by first | assumption | omega | (simp; omega) | simp_all) (by first | assumption | omega | (simp; omega) | simp_all) (by first | assumption | omega | (simp; omega) | simp_all) (by first | assumption | omega | (simp; omega) | simp_all)) ?_)
          | refine hop_e rfl (eop_callx (i := 2) ca39 rfl (WeakL.refl _) rfl (c_benchmake_Stream_Range (by first | assumption | omega | (simp; omega) | simp_all) (by first | assumption | omega | (simp; omega) | simp_all) (by first | assumption | omega | (simp; omega) | simp_all) (by first | assumption | omega | (simp; omega) | simp_all)) ?_)
          | refine hop_e rfl (eop_callx (i := 3) ca39 rfl (WeakL.refl _) rfl (c_benchmake_Stream_Range (by first | assumption | omega | (simp; omega) | simp_all) (by first | assumption | omega | (simp; omega) | simp_all) (by first | assumption | omega | (simp; omega) | simp_all) (by first | assumption | omega | (simp; omega) | simp_all)) ?_)
          rintro _ _ ⟨y12, rfl, hy12, rfl⟩
          refine ⟨fun _ => .inl trivial, ?_⟩
          refine ahe 10 rfl (by kernel_rfl) ?_
          first
          | refine hop_e rfl (eop_callx (i := 0) ca10 rfl (WeakL.refl _) rfl (c_benchmake_Stream_Pick (L := [_, _]) (by first | assumption | omega | (simp; omega) | simp_all) (by first | assumption | omega | (simp; omega) | simp_all) (by first | assumption | omega | (simp; omega) | simp_all)) ?_)
          | refine hop_e rfl (eop_callx (i := 1) ca10 rfl (WeakL.refl _) rfl (c_benchmake_Stream_Pick (L := [_, _]) (by first | assumption | omega | (simp; omega) | simp_all) (by first | assumption | omega | (simp; omega) | simp_all) (by first | assumption | omega | (simp; omega) | simp_all)) ?_)
          | refine hop_e rfl (eop_callx (i := 2) ca10 rfl (WeakL.refl _) rfl (c_benchmake_Stream_Pick (L := [_, _]) (by first | assumption | omega | (simp; omega) | simp_all) (by first | assumption | omega | (simp; omega) | simp_all) (by first | assumption | omega | (simp; omega) | simp_all)) ?_)
          | refine hop_e rfl (eop_callx (i := 3) ca10 rfl (WeakL.refl _) rfl (c_benchmake_Stream_Pick (L := [_, _]) (by first | assumption | omega | (simp; omega) | simp_all) (by first | assumption | omega | (simp; omega) | simp_all) (by first | assumption | omega | (simp; omega) | simp_all)) ?_)
          rintro _ _ ⟨y15, rfl, hy15, rfl⟩
          refine ⟨fun _ => .inl trivial, ?_⟩
          refine ahe 13 rfl (by kernel_rfl) ?_
          first
          | refine hop_e rfl (eop_callx (i := 0) ca10 rfl (WeakL.refl _) rfl (c_benchmake_Stream_Pick (L := [_, _, _]) (by first | assumption | omega | (simp; omega) | simp_all) (by first | assumption | omega | (simp; omega) | simp_all) (by first | assumption | omega | (simp; omega) | simp_all)) ?_)
          | refine hop_e rfl (eop_callx (i := 1) ca10 rfl (WeakL.refl _) rfl (c_benchmake_Stream_Pick (L := [_, _, _]) (by first | assumption | omega | (simp; omega) | simp_all) (by first | assumption | omega | (simp; omega) | simp_all) (by first | assumption | omega | (simp; omega) | simp_all)) ?_)
          | refine hop_e rfl (eop_callx (i := 2) ca10 rfl (WeakL.refl _) rfl (c_benchmake_Stream_Pick (L := [_, _, _]) (by first | assumption | omega | (simp; omega) | simp_all) (by first | assumption | omega | (simp; omega) | simp_all) (by first | assumption | omega | (simp; omega) | simp_all)) ?_)
          | refine hop_e rfl (eop_callx (i := 3) ca10 rfl (WeakL.refl _) rfl (c_benchmake_Stream_Pick (L := [_, _, _]) (by first | assumption | omega | (simp; omega) | simp_all) (by first | assumption | omega | (simp; omega) | simp_all) (by first | assumption | omega | (simp; omega) | simp_all)) ?_)
          rintro _ _ ⟨y18, rfl, hy18, rfl⟩
          refine ⟨fun _ => .inl trivial, ?_⟩
          refine ahp 14 rfl rfl (by kernel_rfl) (by kernel_rfl) (pop_build (cs := [_, _, _, _, _, _]) ty28 pl28 rfl) ?_
          refine ahe 16 rfl (by kernel_rfl) ?_
          first
          | refine hop_e0 (eop_store (i := 0) ty28 rfl rfl rfl rfl rfl (Nat.le_of_ble_eq_true rfl) ?_)
          | refine hop_e0 (eop_store (i := 1) ty28 rfl rfl rfl rfl rfl (Nat.le_of_ble_eq_true rfl) ?_)
          | refine hop_e0 (eop_store (i := 2) ty28 rfl rfl rfl rfl rfl (Nat.le_of_ble_eq_true rfl) ?_)
          | refine hop_e0 (eop_store (i := 3) ty28 rfl rfl rfl rfl rfl (Nat.le_of_ble_eq_true rfl) ?_)
          refine ⟨fun _ => .inl trivial, ?_⟩
          refine ahz (by kernel_rfl) ?_
          refine ⟨(b3, (team3.take y7.toNat).drop 0, y10, y12, y15, y18), ?_, ⟨rfl, trivial⟩, (by repeat (first | exact keeps_refl | refine keeps_upd rfl ?_ | refine keeps_loop rfl rfl ?_)), ?_⟩
          · refine ⟨by simp [team3]; omega, by dsimp only; omega, fun s hs => ?_⟩
            exact team3_len s (List.mem_of_mem_take hs)
          · repeat (first | exact List.Perm.nil | refine permTo 0 rfl ?_ | refine permTo 1 rfl ?_ | refine permTo 2 rfl ?_ | refine permTo 3 rfl ?_ | (refine permToE 0 rfl ?hq ?_; (case hq => simp [setL, hcells]; done)) | (refine permToE 1 rfl ?hq ?_; (case hq => simp [setL, hcells]; done)) | (refine permToE 2 rfl ?hq ?_; (case hq => simp [setL, hcells]; done)) | (refine permToE 3 rfl ?hq ?_; (case hq => simp [setL, hcells]; done)) | fail)
      · skip
        refine hop_e rfl (eop_alloc ty28 rfl fun b3 => ?_)
        refine ⟨fun _ => .inl trivial, ?_⟩
        refine ahe 5 rfl (by kernel_rfl) ?_
        first
        | refine hop_e rfl (eop_callx (i := 0) ca39 rfl (WeakL.refl _) rfl (c_benchmake_Stream_Range (by first | assumption | omega | (simp; omega) | simp_all) (by first | assumption | omega | (simp; omega) | simp_all) (by first | assumption | omega | (simp; omega) | simp_all) (by first | assumption | omega | (simp; omega) | simp_all)) ?_)
        | refine hop_e rfl (eop_callx (i := 1) ca39 rfl (WeakL.refl _) rfl (c_benchmake_Stream_Range (by first | assumption | omega | (simp; omega) | simp_all) (by first | assumption | omega | (simp; omega) | simp_all) (by first | assumption | omega | (simp; omega) | simp_all) (by first | assumption | omega | (simp; omega) | simp_all)) ?_)
        | refine hop_e rfl (eop_callx (i := 2) ca39 rfl (WeakL.refl _) rfl (c_benchmake_Stream_Range (by first | assumption | omega | (simp; omega) | simp_all) (by first | assumption | omega | (simp; omega) | simp_all) (by first | assumption | omega | (simp; omega) | simp_all) (by first | assumption | omega | (simp; omega) | simp_all)) ?_)
        | refine hop_e rfl (eop_callx (i := 3) ca39 rfl (WeakL.refl _) rfl (c_benchmake_Stream_Range (by first | assumption | omega | (simp; omega) | simp_all) (by first | assumption | omega | (simp; omega) | simp_all) (by first | assumption | omega | (simp; omega) | simp_all) (by first | assumption | omega | (simp; omega) | simp_all)) ?_)
        rintro _ _ ⟨y10, rfl, hy10, rfl⟩
        refine ⟨fun _ => .inl trivial, ?_⟩
        refine ahe 7 rfl (by kernel_rfl) ?_
        first
        | refine hop_e rfl (eop_callx (i := 0) ca39 rfl (WeakL.refl _) rfl (c_benchmake_Stream_Range (by first | assumption | omega | (simp; omega) | simp_all) (by first | assumption | omega | (simp; omega) | simp_all) (by first | assumption | omega | (simp; omega) | simp_all) (by first | assumption | omega | (simp; omega) | simp_all)) ?_)
        | refine hop_e rfl (eop_callx (i := 1) ca39 rfl (WeakL.refl _) rfl (c_benchmake_Stream_Range (by first | assumption | omega | (simp; omega) | simp_all) (by first | assumption | omega | (simp; omega) | simp_all) (by first | assumption | omega | (simp; omega) | simp_all) (by first | assumption | omega | (simp; omega) | simp_all)) ?_)
        | refine hop_e rfl (eop_callx (i := 2) ca39 rfl (WeakL.refl _) rfl (c_benchmake_Stream_Range (by first | assumption | omega | (simp; omega) | simp_all) (by first | assumption | omega | (simp; omega) | simp_all) (by first | assumption | omega | (simp; omega) | simp_all) (by first | assumption | omega | (simp; omega) | simp_all)) ?_)
        | refine hop_e rfl (eop_callx (i := 3) ca39 rfl (WeakL.refl _) rfl (c_benchmake_Stream_Range (by first | assumption | omega | (simp; omega) | simp_all) (by first | assumption | omega | (simp; omega) | simp_all) (by first | assumption | omega | (simp; omega) | simp_all) (by first | assumption | omega | (simp; omega) | simp_all)) ?_)
        rintro _ _ ⟨y12, rfl, hy12, rfl⟩
        refine ⟨fun _ => .inl trivial, ?_⟩
        refine ahe 10 rfl (by kernel_rfl) ?_
        first
        | refine hop_e rfl (eop_callx (i := 0) ca10 rfl (WeakL.refl _) rfl (c_benchmake_Stream_Pick (L := [_, _]) (by first | assumption | omega | (simp; omega) | simp_all) (by first | assumption | omega | (simp; omega) | simp_all) (by first | assumption | omega | (simp; omega) | simp_all)) ?_)
        | refine hop_e rfl (eop_callx (i := 1) ca10 rfl (WeakL.refl _) rfl (c_benchmake_Stream_Pick (L := [_, _]) (by first | assumption | omega | (simp; omega) | simp_all) (by first | assumption | omega | (simp; omega) | simp_all) (by first | assumption | omega | (simp; omega) | simp_all)) ?_)
        | refine hop_e rfl (eop_callx (i := 2) ca10 rfl (WeakL.refl _) rfl (c_benchmake_Stream_Pick (L := [_, _]) (by first | assumption | omega | (simp; omega) | simp_all) (by first | assumption | omega | (simp; omega) | simp_all) (by first | assumption | omega | (simp; omega) | simp_all)) ?_)
        | refine hop_e rfl (eop_callx (i := 3) ca10 rfl (WeakL.refl _) rfl (c_benchmake_Stream_Pick (L := [_, _]) (by first | assumption | omega | (simp; omega) | simp_all) (by first | assumption | omega | (simp; omega) | simp_all) (by first | assumption | omega | (simp; omega) | simp_all)) ?_)
        rintro _ _ ⟨y15, rfl, hy15, rfl⟩
        refine ⟨fun _ => .inl trivial, ?_⟩
        refine ahe 13 rfl (by kernel_rfl) ?_
        first
        | refine hop_e rfl (eop_callx (i := 0) ca10 rfl (WeakL.refl _) rfl (c_benchmake_Stream_Pick (L := [_, _, _]) (by first | assumption | omega | (simp; omega) | simp_all) (by first | assumption | omega | (simp; omega) | simp_all) (by first | assumption | omega | (simp; omega) | simp_all)) ?_)
        | refine hop_e rfl (eop_callx (i := 1) ca10 rfl (WeakL.refl _) rfl (c_benchmake_Stream_Pick (L := [_, _, _]) (by first | assumption | omega | (simp; omega) | simp_all) (by first | assumption | omega | (simp; omega) | simp_all) (by first | assumption | omega | (simp; omega) | simp_all)) ?_)
        | refine hop_e rfl (eop_callx (i := 2) ca10 rfl (WeakL.refl _) rfl (c_benchmake_Stream_Pick (L := [_, _, _]) (by first | assumption | omega | (simp; omega) | simp_all) (by first | assumption | omega | (simp; omega) | simp_all) (by first | assumption | omega | (simp; omega) | simp_all)) ?_)
        | refine hop_e rfl (eop_callx (i := 3) ca10 rfl (WeakL.refl _) rfl (c_benchmake_Stream_Pick (L := [_, _, _]) (by first | assumption | omega | (simp; omega) | simp_all) (by first | assumption | omega | (simp; omega) | simp_all) (by first | assumption | omega | (simp; omega) | simp_all)) ?_)
        rintro _ _ ⟨y18, rfl, hy18, rfl⟩
        refine ⟨fun _ => .inl trivial, ?_⟩
        refine ahp 14 rfl rfl (by kernel_rfl) (by kernel_rfl) (pop_build (cs := [_, _, _, _, _, _]) ty28 pl28 rfl) ?_
        refine ahe 16 rfl (by kernel_rfl) ?_
        first
        | refine hop_e0 (eop_store (i := 0) ty28 rfl rfl rfl rfl rfl (Nat.le_of_ble_eq_true rfl) ?_)
        | refine hop_e0 (eop_store (i := 1) ty28 rfl rfl rfl rfl rfl (Nat.le_of_ble_eq_true rfl) ?_)
        | refine hop_e0 (eop_store (i := 2) ty28 rfl rfl rfl rfl rfl (Nat.le_of_ble_eq_true rfl) ?_)
        | refine hop_e0 (eop_store (i := 3) ty28 rfl rfl rfl rfl rfl (Nat.le_of_ble_eq_true rfl) ?_)
        refine ⟨fun _ => .inl trivial, ?_⟩
        refine ahz (by kernel_rfl) ?_
        refine ⟨(b3, (team3.take y7.toNat).drop 0, y10, y12, y15, y18), ?_, ⟨rfl, trivial⟩, (by repeat (first | exact keeps_refl | refine keeps_upd rfl ?_ | refine keeps_loop rfl rfl ?_)), ?_⟩
        · refine ⟨by simp [team3]; omega, by dsimp only; omega, fun s hs => ?_⟩
          exact team3_len s (List.mem_of_mem_take hs)
        · repeat (first | exact List.Perm.nil | refine permTo 0 rfl ?_ | refine permTo 1 rfl ?_ | refine permTo 2 rfl ?_ | refine permTo 3 rfl ?_ | (refine permToE 0 rfl ?hq ?_; (case hq => simp [setL, hcells]; done)) | (refine permToE 1 rfl ?hq ?_; (case hq => simp [setL, hcells]; done)) | (refine permToE 2 rfl ?hq ?_; (case hq => simp [setL, hcells]; done)) | (refine permToE 3 rfl ?hq ?_; (case hq => simp [setL, hcells]; done)) | fail)
    · skip
      refine hop_e rfl (eop_alloc ty28 rfl fun b3 => ?_)
      refine ⟨fun _ => .inl trivial, ?_⟩
      refine ahe 2 rfl (by kernel_rfl) ?_
      first
      | refine hop_e rfl (eop_callx (i := 0) ca39 rfl (WeakL.refl _) rfl (c_benchmake_Stream_Range (by first | assumption | omega | (simp; omega) | simp_all) (by first | assumption | omega | (simp; omega) | simp_all) (by first | assumption | omega | (simp; omega) | simp_all) (by first | assumption | omega | (simp; omega) | simp_all)) ?_)
      | refine hop_e rfl (eop_callx (i := 1) ca39 rfl (WeakL.refl _) rfl (c_benchmake_Stream_Range (by first | assumption | omega | (simp; omega) | simp_all) (by first | assumption | omega | (simp; omega) | simp_all) (by first | assumption | omega | (simp; omega) | simp_all) (by first | assumption | omega | (simp; omega) | simp_all)) ?_)
      | refine hop_e rfl (eop_callx (i := 2) ca39 rfl (WeakL.refl _) rfl (c_benchmake_Stream_Range (by first | assumption | omega | (simp; omega) | simp_all) (by first | assumption | omega | (simp; omega) | simp_all) (by first | assumption | omega | (simp; omega) | simp_all) (by first | assumption | omega | (simp; omega) | simp_all)) ?_)
      | refine hop_e rfl (eop_callx (i := 3) ca39 rfl (WeakL.refl _) rfl (c_benchmake_Stream_Range (by first | assumption | omega | (simp; omega) | simp_all) (by first | assumption | omega | (simp; omega) | simp_all) (by first | assumption | omega | (simp; omega) | simp_all) (by first | assumption | omega | (simp; omega) | simp_all)) ?_)
      rintro _ _ ⟨y7, rfl, hy7, rfl⟩
      refine ⟨fun _ => .inl trivial, ?_⟩
      refine ahp 3 rfl rfl (by kernel_rfl) (by kernel_rfl) (pop_slicem (es := team3) (f := HVal.str) (h := y7.toNat) ty26 ty9 rfl rfl ⟨_, _, rfl, by omega⟩ (by omega) (by simp [team3]; omega)) ?_
      refine ahe 5 rfl (by kernel_rfl) ?_
      first
      | refine hop_e rfl (eop_callx (i := 0) ca39 rfl (WeakL.refl _) rfl (c_benchmake_Stream_Range (by first | assumption | omega | (simp; omega) | simp_all) (by first | assumption | omega | (simp; omega) | simp_all) (by first | assumption | omega | (simp; omega) | simp_all) (by first | assumption | omega | (simp; omega) | simp_all)) ?_)
      | refine hop_e rfl (eop_callx (i := 1) ca39 rfl (WeakL.refl _) rfl (c_benchmake_Stream_Range (by first | assumption | omega | (simp; omega) | simp_all) (by first | assumption | omega | (simp; omega) | simp_all) (by first | assumption | omega | (simp; omega) | simp_all) (by first | assumption | omega | (simp; omega) | simp_all)) ?_)
      | refine hop_e rfl (eop_callx (i := 2) ca39 rfl (WeakL.refl _) rfl (c_benchmake_Stream_Range (by first | assumption | omega | (simp; omega) | simp_all) (by first | assumption | omega | (simp; omega) | simp_all) (by first | assumption | omega | (simp; omega) | simp_all) (by first | assumption | omega | (simp; omega) | simp_all)) ?_)
      | refine hop_e rfl (eop_callx (i := 3) ca39 rfl (WeakL.refl _) rfl (c_benchmake_Stream_Range (by first | assumption | omega | (simp; omega) | simp_all) (by first | assumption | omega | (simp; omega) | simp_all) (by first | assumption | omega | (simp; omega) | simp_all) (by first | assumption | omega | (simp; omega) | simp_all)) ?_)
      rintro _ _ ⟨y10, rfl, hy10, rfl⟩
      refine ⟨fun _ => .inl trivial, ?_⟩
      refine ahe 7 rfl (by kernel_rfl) ?_
      first
      | refine hop_e rfl (eop_callx (i := 0) ca39 rfl (WeakL.refl _) rfl (c_benchmake_Stream_Range (by first | assumption | omega | (simp; omega) | simp_all) (by first | assumption | omega | (simp; omega) | simp_all) (by first | assumption | omega | (simp; omega) | simp_all) (by first | assumption | omega | (simp; omega) | simp_all)) ?_)
      | refine hop_e rfl (eop_callx (i := 1) ca39 rfl (WeakL.refl _) rfl (c_benchmake_Stream_Range (by first | assumption | omega | (simp; omega) | simp_all) (by first | assumption | omega | (simp; omega) | simp_all) (by first | assumption | omega | (simp; omega) | simp_all) (by first | assumption | omega | (simp; omega) | simp_all)) ?_)
      | refine hop_e rfl (eop_callx (i := 2) ca39 rfl (WeakL.refl _) rfl (c_benchmake_Stream_Range (by first | assumption | omega | (simp; omega) | simp_all) (by first | assumption | omega | (simp; omega) | simp_all) (by first | assumption | omega | (simp; omega) | simp_all) (by first | assumption | omega | (simp; omega) | simp_all)) ?_)
      | refine hop_e rfl (eop_callx (i := 3) ca39 rfl (WeakL.refl _) rfl (c_benchmake_Stream_Range (by first | assumption | omega | (simp; omega) | simp_all) (by first | assumption | omega | (simp; omega) | simp_all) (by first | assumption | omega | (simp; omega) | simp_all) (by first | assumption | omega | (simp; omega) | simp_all)) ?_)
      rintro _ _ ⟨y12, rfl, hy12, rfl⟩
      refine ⟨fun _ => .inl trivial, ?_⟩
      refine ahe 10 rfl (by kernel_rfl) ?_
      first
      | refine hop_e rfl (eop_callx (i := 0) ca10 rfl (WeakL.refl _) rfl (c_benchmake_Stream_Pick (L := [_, _]) (by first | assumption | omega | (simp; omega) | simp_all) (by first | assumption | omega | (simp; omega) | simp_all) (by first | assumption | omega | (simp; omega) | simp_all)) ?_)
      | refine hop_e rfl (eop_callx (i := 1) ca10 rfl (WeakL.refl _) rfl (c_benchmake_Stream_Pick (L := [_, _]) (by first | assumption | omega | (simp; omega) | simp_all) (by first | assumption | omega | (simp; omega) | simp_all) (by first | assumption | omega | (simp; omega) | simp_all)) ?_)
      | refine hop_e rfl (eop_callx (i := 2) ca10 rfl (WeakL.refl _) rfl (c_benchmake_Stream_Pick (L := [_, _]) (by first | assumption | omega | (simp; omega) | simp_all) (by first | assumption | omega | (simp; omega) | simp_all) (by first | assumption | omega | (simp; omega) | simp_all)) ?_)
      | refine hop_e rfl (eop_callx (i := 3) ca10 rfl (WeakL.refl _) rfl (c_benchmake_Stream_Pick (L := [_, _]) (by first | assumption | omega | (simp; omega) | simp_all) (by first | assumption | omega | (simp; omega) | simp_all) (by first | assumption | omega | (simp; omega) | simp_all)) ?_)
      rintro _ _ ⟨y15, rfl, hy15, rfl⟩
      refine ⟨fun _ => .inl trivial, ?_⟩
      refine ahe 13 rfl (by kernel_rfl) ?_
      first
      | refine hop_e rfl (eop_callx (i := 0) ca10 rfl (WeakL.refl _) rfl (c_benchmake_Stream_Pick (L := [_, _, _]) (by first | assumption | omega | (simp; omega) | simp_all) (by first | assumption | omega | (simp; omega) | simp_all) (by first | assumption | omega | (simp; omega) | simp_all)) ?_)
      | refine hop_e rfl (eop_callx (i := 1) ca10 rfl (WeakL.refl _) rfl (c_benchmake_Stream_Pick (L := [_, _, _]) (by first | assumption | omega | (simp; omega) | simp_all) (by first | assumption | omega | (simp; omega) | simp_all) (by first | assumption | omega | (simp; omega) | simp_all)) ?_)
      | refine hop_e rfl (eop_callx (i := 2) ca10 rfl (WeakL.refl _) rfl (c_benchmake_Stream_Pick (L := [_, _, _]) (by first | assumption | omega | (simp; omega) | simp_all) (by first | assumption | omega | (simp; omega) | simp_all) (by first | assumption | omega | (simp; omega) | simp_all)) ?_)
      | refine hop_e rfl (eop_callx (i := 3) ca10 rfl (WeakL.refl _) rfl (c_benchmake_Stream_Pick (L := [_, _, _]) (by first | assumption | omega | (simp; omega) | simp_all) (by first | assumption | omega | (simp; omega) | simp_all) (by first | assumption | omega | (simp; omega) | simp_all)) ?_)
      rintro _ _ ⟨y18, rfl, hy18, rfl⟩
      refine ⟨fun _ => .inl trivial, ?_⟩
      refine ahp 14 rfl rfl (by kernel_rfl) (by kernel_rfl) (pop_build (cs := [_, _, _, _, _, _]) ty28 pl28 rfl) ?_
      refine ahe 16 rfl (by kernel_rfl) ?_
      first
      | refine hop_e0 (eop_store (i := 0) ty28 rfl rfl rfl rfl rfl (Nat.le_of_ble_eq_true rfl) ?_)
      | refine hop_e0 (eop_store (i := 1) ty28 rfl rfl rfl rfl rfl (Nat.le_of_ble_eq_true rfl) ?_)
      | refine hop_e0 (eop_store (i := 2) ty28 rfl rfl rfl rfl rfl (Nat.le_of_ble_eq_true rfl) ?_)
      | refine hop_e0 (eop_store (i := 3) ty28 rfl rfl rfl rfl rfl (Nat.le_of_ble_eq_true rfl) ?_)
      refine ⟨fun _ => .inl trivial, ?_⟩
      refine ahz (by kernel_rfl) ?_
      refine ⟨(b3, (team3.take y7.toNat).drop 0, y10, y12, y15, y18), ?_, ⟨rfl, trivial⟩, (by repeat (first | exact keeps_refl | refine keeps_upd rfl ?_ | refine keeps_loop rfl rfl ?_)), ?_⟩
      · refine ⟨by simp [team3]; omega, by dsimp only; omega, fun s hs => ?_⟩
        exact team3_len s (List.mem_of_mem_take hs)
      · repeat (first | exact List.Perm.nil | refine permTo 0 rfl ?_ | refine permTo 1 rfl ?_ | refine permTo 2 rfl ?_ | refine permTo 3 rfl ?_ | (refine permToE 0 rfl ?hq ?_; (case hq => simp [setL, hcells]; done)) | (refine permToE 1 rfl ?hq ?_; (case hq => simp [setL, hcells]; done)) | (refine permToE 2 rfl ?hq ?_; (case hq => simp [setL, hcells]; done)) | (refine permToE 3 rfl ?hq ?_; (case hq => simp [setL, hcells]; done)) | fail)
  · intro q hq
    obtain ⟨b3, T, R, Wy, C, S⟩ := q
    dsimp only at hq
    obtain ⟨hT, hR, hTs⟩ := hq
    refine hw_seq ?_
    refine hw_draw (fun M => ∃ i : Nat, M[i]? = some (RoomC b3 (eSs (T)) R Wy nilS C S)) [1, 4] mixed ?_
    refine ahp 0 rfl rfl (by kernel_rfl) (by kernel_rfl) (pop_fieldAddr_raw ty28 rfl ty26 (by decide) rfl) ?_
    refine ahl 1 rfl rfl (by kernel_rfl) (by kernel_rfl) (by simp) (by first | exact ⟨0, rfl⟩ | exact ⟨1, rfl⟩ | exact ⟨2, rfl⟩) (fun M hM => by obtain ⟨i, hi⟩ := hM; exact eop_load (i := i) ty26 rfl hi (.inl ⟨rfl, rfl⟩) ⟨rfl, rfl⟩) ?_
    refine ahp 2 rfl rfl (by kernel_rfl) (by kernel_rfl) (pop_lenm ty26 rfl) ?_
    refine ahp 3 rfl rfl (by kernel_rfl) (by kernel_rfl) (pop_fieldAddr_raw ty28 rfl ty3 (by decide) rfl) ?_
    refine ahl 4 rfl rfl (by kernel_rfl) (by kernel_rfl) (by simp) (by first | exact ⟨0, rfl⟩ | exact ⟨1, rfl⟩ | exact ⟨2, rfl⟩) (fun M hM => by obtain ⟨i, hi⟩ := hM; exact eop_load (i := i) ty3 rfl hi (.inl ⟨rfl, rfl⟩) ⟨rfl, rfl⟩) ?_
    have hm1 : 0 < (T.length : Int) * R := Int.mul_pos (by omega) (by omega)
    have hm := mul_bd (a := (T.length : Int)) (b := R) (A := 3) (B := 4) (by omega) (by omega) (by omega) (by omega)
    refine ahp 5 rfl rfl (by kernel_rfl) (by kernel_rfl) (pop_mul64 rfl rfl (by omega) (by omega)) ?_
    refine ahp 6 rfl rfl (by kernel_rfl) (by kernel_rfl) (pop_move rfl) ?_
    refine ahp 7 rfl rfl (by kernel_rfl) (by kernel_rfl) (pop_buildSlice (hs := [_, _, _, _]) ty22 ty3 rfl rfl (by decide) (by decide) rfl) ?_
    refine ahp 10 rfl rfl (by kernel_rfl) (by kernel_rfl) (pop_move rfl) ?_
    refine ahe 8 rfl (by kernel_rfl) ?_
    first
    | refine hop_e rfl (eop_callx (i := 0) ca10 rfl (WeakL.refl _) rfl (c_benchmake_Stream_Pick (L := [_, _, _, _]) (by first | assumption | omega | (simp; omega) | simp_all) (by first | assumption | omega | (simp; omega) | simp_all) (by first | assumption | omega | (simp; omega) | simp_all)) ?_)
    | refine hop_e rfl (eop_callx (i := 1) ca10 rfl (WeakL.refl _) rfl (c_benchmake_Stream_Pick (L := [_, _, _, _]) (by first | assumption | omega | (simp; omega) | simp_all) (by first | assumption | omega | (simp; omega) | simp_all) (by first | assumption | omega | (simp; omega) | simp_all)) ?_)
    | refine hop_e rfl (eop_callx (i := 2) ca10 rfl (WeakL.refl _) rfl (c_benchmake_Stream_Pick (L := [_, _, _, _]) (by first | assumption | omega | (simp; omega) | simp_all) (by first | assumption | omega | (simp; omega) | simp_all) (by first | assumption | omega | (simp; omega) | simp_all)) ?_)
    | refine hop_e rfl (eop_callx (i := 3) ca10 rfl (WeakL.refl _) rfl (c_benchmake_Stream_Pick (L := [_, _, _, _]) (by first | assumption | omega | (simp; omega) | simp_all) (by first | assumption | omega | (simp; omega) | simp_all) (by first | assumption | omega | (simp; omega) | simp_all)) ?_)
    rintro _ _ ⟨y28, rfl, hy28, rfl⟩
    refine ⟨fun _ => by first | exact .inl ⟨0, rfl⟩ | exact .inl ⟨1, rfl⟩ | exact .inl ⟨2, rfl⟩ | exact .inr (by simp [Before, Region.binds]), ?_⟩
    have hy3 : 0 ≤ y28 ∧ y28 ≤ 3 := by simp at hy28; omega
    refine ahp 9 rfl rfl (by kernel_rfl) (by kernel_rfl) (pop_add64 rfl rfl (by omega) (by omega)) ?_
    refine ahz (by kernel_rfl) ?_
    refine hw_ghost (Ghost.arr_nil 1) ?_
    refine hw_block ?_
    refine hw_loopw3 [4, 30, 31, 32, 33, 34, 35, 36, 37, 38, 39, 40, 41, 42] (fun (k : Nat) (v : Value) (Pl : List Str) => [(30, .int .i64 k)]) (fun (k : Nat) (v : Value) (Pl : List Str) => [.arr v 1 (Pl.map .str), RoomC b3 (eSs (T)) R Wy (.raw v) C S, RoomC b2 nilS 0 0 nilS 0 0, St b l (a + 6)]) (fun (k : Nat) (v : Value) (Pl : List Str) => k ≤ 15 ∧ Pl.length = k ∧ ∀ s ∈ Pl, s.length ≤ 100) (fun (k : Nat) (v : Value) (Pl : List Str) => 15 - k) (0) (.slice none 0 0) ([]) ?_ ?_ ?_ ?_
    · exact ⟨by omega, rfl, by simp⟩
    · exact ⟨rfl, trivial⟩
    · repeat (first | exact List.Perm.nil | refine permTo 0 rfl ?_ | refine permTo 1 rfl ?_ | refine permTo 2 rfl ?_ | refine permTo 3 rfl ?_ | (refine permToE 0 rfl ?hq ?_; (case hq => simp [setL, hcells]; done)) | (refine permToE 1 rfl ?hq ?_; (case hq => simp [setL, hcells]; done)) | (refine permToE 2 rfl ?hq ?_; (case hq => simp [setL, hcells]; done)) | (refine permToE 3 rfl ?hq ?_; (case hq => simp [setL, hcells]; done)) | fail)
    · intro k v Pl hinv
      obtain ⟨hk, hPl, hPs⟩ := hinv
      refine hw_reg ?_
      refine dp rfl (pop_lss rfl rfl) ?_
      refine dn ?_
      refine hw_seq ?_
      refine hw_cond rfl (fun h1 => ?_) (fun h2 => ?_)
      · try simp at h1
        refine hw_skip ?_
        refine seqQ_n ?_
        refine hw_seq ?_
        refine hw_block ?_
        refine hw_reg ?_
        refine dp rfl (pop_move rfl) ?_
        refine dp rfl (pop_assign rfl) ?_
        refine dn ?_
        refine hw_draw1 (fun _ => True) [] mixed ?_
        refine ahp 0 rfl rfl (by kernel_rfl) (by kernel_rfl) (pop_fieldAddr_raw ty28 rfl ty26 (by decide) rfl) ?_
        refine ahp 2 rfl rfl (by kernel_rfl) (by kernel_rfl) (pop_move rfl) ?_
        refine ahp 3 rfl rfl (by kernel_rfl) (by kernel_rfl) (pop_add64 rfl rfl (by omega) (by omega)) ?_
        refine ahp 4 rfl rfl (by kernel_rfl) (by kernel_rfl) (pop_call ca40 rfl (WeakL.refl _) (c_strconv_Itoa (i := 10 + k) (by omega))) ?_
        have hdl := dec_len (i := 10 + k) (by omega)
        refine ahp 5 rfl rfl (by kernel_rfl) (by kernel_rfl) (pop_adds rfl rfl (by simp; omega)) ?_
        refine ahp 6 rfl rfl (by kernel_rfl) (by kernel_rfl) (pop_buildSlice (hs := [_]) ty26 ty9 rfl rfl (by decide) (by decide) rfl) ?_
        refine ahe 1 rfl (by kernel_rfl) ?_
        first
        | refine hop_e rfl (eop_load (i := 0) ty26 rfl rfl (.inl ⟨rfl, rfl⟩) ?_)
        | refine hop_e rfl (eop_load (i := 1) ty26 rfl rfl (.inl ⟨rfl, rfl⟩) ?_)
        | refine hop_e rfl (eop_load (i := 2) ty26 rfl rfl (.inl ⟨rfl, rfl⟩) ?_)
        | refine hop_e rfl (eop_load (i := 3) ty26 rfl rfl (.inl ⟨rfl, rfl⟩) ?_)
        refine ⟨fun _ => .inl trivial, ?_⟩
        refine ahe 7 rfl (by kernel_rfl) ?_
        first
        | refine hop_e rfl (eop_append (i := 0) ty26 ty9 rfl rfl rfl rfl rfl (by simp [flat, hcells]) (by first | omega | (simp; omega)) fun v40 => ?_)
        | refine hop_e rfl (eop_append (i := 1) ty26 ty9 rfl rfl rfl rfl rfl (by simp [flat, hcells]) (by first | omega | (simp; omega)) fun v40 => ?_)
        | refine hop_e rfl (eop_append (i := 2) ty26 ty9 rfl rfl rfl rfl rfl (by simp [flat, hcells]) (by first | omega | (simp; omega)) fun v40 => ?_)
        | refine hop_e rfl (eop_append (i := 3) ty26 ty9 rfl rfl rfl rfl rfl (by simp [flat, hcells]) (by first | omega | (simp; omega)) fun v40 => ?_)
        refine ⟨fun _ => .inl trivial, ?_⟩
        refine ahp 8 rfl rfl (by kernel_rfl) (by kernel_rfl) (pop_fieldAddr_raw ty28 rfl ty26 (by decide) rfl) ?_
        refine ahe 9 rfl (by kernel_rfl) ?_
        first
        | refine hop_e0 (eop_store (i := 0) ty26 rfl rfl rfl rfl rfl (Nat.le_of_ble_eq_true rfl) ?_)
        | refine hop_e0 (eop_store (i := 1) ty26 rfl rfl rfl rfl rfl (Nat.le_of_ble_eq_true rfl) ?_)
        | refine hop_e0 (eop_store (i := 2) ty26 rfl rfl rfl rfl rfl (Nat.le_of_ble_eq_true rfl) ?_)
        | refine hop_e0 (eop_store (i := 3) ty26 rfl rfl rfl rfl rfl (Nat.le_of_ble_eq_true rfl) ?_)
        refine ⟨fun _ => .inl trivial, ?_⟩
        refine ahz (by kernel_rfl) ?_
        refine blockQ_n ?_
        refine seqQ_n ?_
        refine hw_reg1 ?_
        refine dp rfl (pop_add64 rfl rfl (by omega) (by omega)) ?_
        refine dp rfl (pop_move rfl) ?_
        refine dn ?_
        refine ⟨k + 1, v40, Pl ++ [112 :: Lib.decDigits (10 + k)], ?_, ?_, ⟨rfl, trivial⟩, (by repeat (first | exact keeps_refl | refine keeps_upd rfl ?_ | refine keeps_loop rfl rfl ?_)), ?_⟩
        · refine ⟨by omega, by simp [hPl], fun s hs => ?_⟩
          rcases List.mem_append.1 hs with h | h
          · exact hPs s h
          · have := dec_len (i := 10 + k) (by omega)
            simp at h; subst h; simp; omega
        · dsimp only; omega
        · repeat (first | exact List.Perm.nil | refine permTo 0 rfl ?_ | refine permTo 1 rfl ?_ | refine permTo 2 rfl ?_ | refine permTo 3 rfl ?_ | (refine permToE 0 rfl ?hq ?_; (case hq => simp [setL, hcells]; done)) | (refine permToE 1 rfl ?hq ?_; (case hq => simp [setL, hcells]; done)) | (refine permToE 2 rfl ?hq ?_; (case hq => simp [setL, hcells]; done)) | (refine permToE 3 rfl ?hq ?_; (case hq => simp [setL, hcells]; done)) | fail)
      · try simp at h2
        refine hw_exit ?_
        refine seqQ_x ?_
        refine loopQ3_x ?_
        refine blockQ_eq ?_
        refine seqQ_n ?_
        refine hw_joing [43, 44, 45, 46, 47, 48, 49, 50, 51, 52, 53, 54, 55, 56, 57, 58, 59, 60, 61, 62, 63, 64, 65, 66, 67, 68, 69, 70, 71, 72, 73, 74, 75, 76, 77, 78, 79, 80, 81, 82] (fun (q : Room × Nat) => []) (fun (q : Room × Nat) => [.cells b3 (hcells (eRoom q.1)), RoomC b2 nilS 0 0 nilS 0 0, St b l q.2]) (fun (q : Room × Nat) => GoodRoom q.1 ∧ q.2 ≤ a + 20) ?_ ?_
        · skip
          refine hw_reg ?_
          refine dp rfl (pop_move rfl) ?_
          first
          | refine de rfl (eop_callx (i := 0) ca11 rfl (WeakL.refl _) rfl (c_benchmake_Stream_Flip (by first | assumption | omega | (simp; omega) | simp_all) (by first | assumption | omega | (simp; omega) | simp_all)) ?_)
          | refine de rfl (eop_callx (i := 1) ca11 rfl (WeakL.refl _) rfl (c_benchmake_Stream_Flip (by first | assumption | omega | (simp; omega) | simp_all) (by first | assumption | omega | (simp; omega) | simp_all)) ?_)
          | refine de rfl (eop_callx (i := 2) ca11 rfl (WeakL.refl _) rfl (c_benchmake_Stream_Flip (by first | assumption | omega | (simp; omega) | simp_all) (by first | assumption | omega | (simp; omega) | simp_all)) ?_)
          | refine de rfl (eop_callx (i := 3) ca11 rfl (WeakL.refl _) rfl (c_benchmake_Stream_Flip (by first | assumption | omega | (simp; omega) | simp_all) (by first | assumption | omega | (simp; omega) | simp_all)) ?_)
          rintro _ _ ⟨y44, rfl, rfl⟩
          refine dn ?_
          refine hw_cond rfl (fun h3 => ?_) (fun h4 => ?_)
          · try simp at h3
            refine hw_reg ?_
            refine dp rfl (pop_move rfl) ?_
            first
            | refine de rfl (eop_callx (i := 0) ca41 rfl (WeakL.refl _) rfl (c_benchmake_Stream_Next (by first | assumption | omega | (simp; omega) | simp_all) (by first | assumption | omega | (simp; omega) | simp_all)) ?_)
            | refine de rfl (eop_callx (i := 1) ca41 rfl (WeakL.refl _) rfl (c_benchmake_Stream_Next (by first | assumption | omega | (simp; omega) | simp_all) (by first | assumption | omega | (simp; omega) | simp_all)) ?_)
            | refine de rfl (eop_callx (i := 2) ca41 rfl (WeakL.refl _) rfl (c_benchmake_Stream_Next (by first | assumption | omega | (simp; omega) | simp_all) (by first | assumption | omega | (simp; omega) | simp_all)) ?_)
            | refine de rfl (eop_callx (i := 3) ca41 rfl (WeakL.refl _) rfl (c_benchmake_Stream_Next (by first | assumption | omega | (simp; omega) | simp_all) (by first | assumption | omega | (simp; omega) | simp_all)) ?_)
            rintro _ _ ⟨y46, rfl, hy46, rfl⟩
            refine dn ?_
            refine hw_block ?_
            refine hw_reg ?_
            refine dp rfl (pop_eql rfl rfl) ?_
            refine dp rfl (pop_assign rfl) ?_
            refine dn ?_
            refine hw_cond rfl (fun h5 => ?_) (fun h6 => ?_)
            · try simp at h5
              refine hw_reg1 ?_
              refine dp rfl (pop_fieldAddr_raw ty28 rfl ty26 (by decide) rfl) ?_
              first
              | refine de rfl (eop_load (i := 0) ty26 rfl rfl (.inl ⟨rfl, rfl⟩) ?_)
              | refine de rfl (eop_load (i := 1) ty26 rfl rfl (.inl ⟨rfl, rfl⟩) ?_)
              | refine de rfl (eop_load (i := 2) ty26 rfl rfl (.inl ⟨rfl, rfl⟩) ?_)
              | refine de rfl (eop_load (i := 3) ty26 rfl rfl (.inl ⟨rfl, rfl⟩) ?_)
              refine de rfl (eop_calla ca42 rfl (WeakL.refl _) (c_slices_Clone_string_string (by first | assumption | omega | (simp; omega) | simp_all)) fun v57 => ?_)
              refine dp rfl (pop_move rfl) ?_
              refine dp rfl (pop_buildSlice (hs := [_, _, _]) ty26 ty9 rfl rfl (by decide) (by decide) rfl) ?_
              first
              | refine de rfl (eop_callx (i := 0) ca43 rfl (WeakL.refl _) rfl (c_benchmake_Stream_Some (L := [_, _, _]) (by first | assumption | omega | (simp; omega) | simp_all) (by first | assumption | omega | (simp; omega) | simp_all) (by first | assumption | omega | (simp; omega) | simp_all)) ?_)
              | refine de rfl (eop_callx (i := 1) ca43 rfl (WeakL.refl _) rfl (c_benchmake_Stream_Some (L := [_, _, _]) (by first | assumption | omega | (simp; omega) | simp_all) (by first | assumption | omega | (simp; omega) | simp_all) (by first | assumption | omega | (simp; omega) | simp_all)) ?_)
              | refine de rfl (eop_callx (i := 2) ca43 rfl (WeakL.refl _) rfl (c_benchmake_Stream_Some (L := [_, _, _]) (by first | assumption | omega | (simp; omega) | simp_all) (by first | assumption | omega | (simp; omega) | simp_all) (by first | assumption | omega | (simp; omega) | simp_all)) ?_)
              | refine de rfl (eop_callx (i := 3) ca43 rfl (WeakL.refl _) rfl (c_benchmake_Stream_Some (L := [_, _, _]) (by first | assumption | omega | (simp; omega) | simp_all) (by first | assumption | omega | (simp; omega) | simp_all) (by first | assumption | omega | (simp; omega) | simp_all)) ?_)
              rintro _ _ ⟨y60, rfl, hy60, rfl⟩
              refine dp rfl (pop_buildSlice (hs := [_]) ty26 ty9 rfl rfl (by decide) (by decide) rfl) ?_
              first
              | refine de rfl (eop_append (i := 0) ty26 ty9 rfl rfl rfl rfl rfl (by simp [flat, hcells]) (by first | omega | (simp; omega)) fun v62 => ?_)
              | refine de rfl (eop_append (i := 1) ty26 ty9 rfl rfl rfl rfl rfl (by simp [flat, hcells]) (by first | omega | (simp; omega)) fun v62 => ?_)
              | refine de rfl (eop_append (i := 2) ty26 ty9 rfl rfl rfl rfl rfl (by simp [flat, hcells]) (by first | omega | (simp; omega)) fun v62 => ?_)
              | refine de rfl (eop_append (i := 3) ty26 ty9 rfl rfl rfl rfl rfl (by simp [flat, hcells]) (by first | omega | (simp; omega)) fun v62 => ?_)
              refine dp rfl (pop_fieldAddr_raw ty28 rfl ty26 (by decide) rfl) ?_
              first
              | refine de0 (eop_store (i := 0) ty26 rfl rfl rfl rfl rfl (Nat.le_of_ble_eq_true rfl) ?_)
              | refine de0 (eop_store (i := 1) ty26 rfl rfl rfl rfl rfl (Nat.le_of_ble_eq_true rfl) ?_)
              | refine de0 (eop_store (i := 2) ty26 rfl rfl rfl rfl rfl (Nat.le_of_ble_eq_true rfl) ?_)
              | refine de0 (eop_store (i := 3) ty26 rfl rfl rfl rfl rfl (Nat.le_of_ble_eq_true rfl) ?_)
              refine dn ?_
              refine blockQ_n ?_
              (first | refine joinG_n (Ghost.fcell (i := 0) (k := 0) (j := 3) rfl rfl rfl) ?_ | refine joinG_n (Ghost.fcell (i := 0) (k := 1) (j := 3) rfl rfl rfl) ?_ | refine joinG_n (Ghost.fcell (i := 0) (k := 2) (j := 3) rfl rfl rfl) ?_ | refine joinG_n (Ghost.fcell (i := 0) (k := 3) (j := 3) rfl rfl rfl) ?_ | refine joinG_n (Ghost.fcell (i := 1) (k := 0) (j := 3) rfl rfl rfl) ?_ | refine joinG_n (Ghost.fcell (i := 1) (k := 1) (j := 3) rfl rfl rfl) ?_ | refine joinG_n (Ghost.fcell (i := 1) (k := 2) (j := 3) rfl rfl rfl) ?_ | refine joinG_n (Ghost.fcell (i := 1) (k := 3) (j := 3) rfl rfl rfl) ?_ | refine joinG_n (Ghost.fcell (i := 2) (k := 0) (j := 3) rfl rfl rfl) ?_ | refine joinG_n (Ghost.fcell (i := 2) (k := 1) (j := 3) rfl rfl rfl) ?_ | refine joinG_n (Ghost.fcell (i := 2) (k := 2) (j := 3) rfl rfl rfl) ?_ | refine joinG_n (Ghost.fcell (i := 2) (k := 3) (j := 3) rfl rfl rfl) ?_ | refine joinG_n (Ghost.fcell (i := 3) (k := 0) (j := 3) rfl rfl rfl) ?_ | refine joinG_n (Ghost.fcell (i := 3) (k := 1) (j := 3) rfl rfl rfl) ?_ | refine joinG_n (Ghost.fcell (i := 3) (k := 2) (j := 3) rfl rfl rfl) ?_ | refine joinG_n (Ghost.fcell (i := 3) (k := 3) (j := 3) rfl rfl rfl) ?_)
              (first | refine joinG_n (Ghost.fcell (i := 0) (k := 0) (j := 0) rfl rfl rfl) ?_ | refine joinG_n (Ghost.fcell (i := 0) (k := 1) (j := 0) rfl rfl rfl) ?_ | refine joinG_n (Ghost.fcell (i := 0) (k := 2) (j := 0) rfl rfl rfl) ?_ | refine joinG_n (Ghost.fcell (i := 0) (k := 3) (j := 0) rfl rfl rfl) ?_ | refine joinG_n (Ghost.fcell (i := 1) (k := 0) (j := 0) rfl rfl rfl) ?_ | refine joinG_n (Ghost.fcell (i := 1) (k := 1) (j := 0) rfl rfl rfl) ?_ | refine joinG_n (Ghost.fcell (i := 1) (k := 2) (j := 0) rfl rfl rfl) ?_ | refine joinG_n (Ghost.fcell (i := 1) (k := 3) (j := 0) rfl rfl rfl) ?_ | refine joinG_n (Ghost.fcell (i := 2) (k := 0) (j := 0) rfl rfl rfl) ?_ | refine joinG_n (Ghost.fcell (i := 2) (k := 1) (j := 0) rfl rfl rfl) ?_ | refine joinG_n (Ghost.fcell (i := 2) (k := 2) (j := 0) rfl rfl rfl) ?_ | refine joinG_n (Ghost.fcell (i := 2) (k := 3) (j := 0) rfl rfl rfl) ?_ | refine joinG_n (Ghost.fcell (i := 3) (k := 0) (j := 0) rfl rfl rfl) ?_ | refine joinG_n (Ghost.fcell (i := 3) (k := 1) (j := 0) rfl rfl rfl) ?_ | refine joinG_n (Ghost.fcell (i := 3) (k := 2) (j := 0) rfl rfl rfl) ?_ | refine joinG_n (Ghost.fcell (i := 3) (k := 3) (j := 0) rfl rfl rfl) ?_)
              refine joinG_z (⟨T ++ [y60], R, Wy, Pl, C, S⟩, a + 9) ⟨?_, by dsimp only; omega⟩ trivial (by repeat (first | exact keeps_refl | refine keeps_upd rfl ?_ | refine keeps_loop rfl rfl ?_)) ?_
              · exact good_roomT hT hPl (by omega) hTs hPs (by simp at hy60; rcases hy60 with rfl | rfl | rfl <;> simp)
              · repeat (first | exact List.Perm.nil | refine permTo 0 rfl ?_ | refine permTo 1 rfl ?_ | refine permTo 2 rfl ?_ | refine permTo 3 rfl ?_ | (refine permToE 0 rfl ?hq ?_; (case hq => simp [setL, hcells]; done)) | (refine permToE 1 rfl ?hq ?_; (case hq => simp [setL, hcells]; done)) | (refine permToE 2 rfl ?hq ?_; (case hq => simp [setL, hcells]; done)) | (refine permToE 3 rfl ?hq ?_; (case hq => simp [setL, hcells]; done)) | fail)
            · try simp at h6
              refine hw_reg ?_
              refine dp rfl (pop_eql rfl rfl) ?_
              refine dp rfl (pop_assign rfl) ?_
              refine dn ?_
              refine hw_cond rfl (fun h7 => ?_) (fun h8 => ?_)
              · try simp at h7
                refine hw_reg1 ?_
                refine dp rfl (pop_move rfl) ?_
                first
                | refine de rfl (eop_callx (i := 0) ca44 rfl (WeakL.refl _) rfl (c_benchmake_Stream_Odd (by first | assumption | omega | (simp; omega) | simp_all) (by first | assumption | omega | (simp; omega) | simp_all) (by first | assumption | omega | (simp; omega) | simp_all) (by first | assumption | omega | (simp; omega) | simp_all)) ?_)
                | refine de rfl (eop_callx (i := 1) ca44 rfl (WeakL.refl _) rfl (c_benchmake_Stream_Odd (by first | assumption | omega | (simp; omega) | simp_all) (by first | assumption | omega | (simp; omega) | simp_all) (by first | assumption | omega | (simp; omega) | simp_all) (by first | assumption | omega | (simp; omega) | simp_all)) ?_)
                | refine de rfl (eop_callx (i := 2) ca44 rfl (WeakL.refl _) rfl (c_benchmake_Stream_Odd (by first | assumption | omega | (simp; omega) | simp_all) (by first | assumption | omega | (simp; omega) | simp_all) (by first | assumption | omega | (simp; omega) | simp_all) (by first | assumption | omega | (simp; omega) | simp_all)) ?_)
                | refine de rfl (eop_callx (i := 3) ca44 rfl (WeakL.refl _) rfl (c_benchmake_Stream_Odd (by first | assumption | omega | (simp; omega) | simp_all) (by first | assumption | omega | (simp; omega) | simp_all) (by first | assumption | omega | (simp; omega) | simp_all) (by first | assumption | omega | (simp; omega) | simp_all)) ?_)
                rintro _ _ ⟨y67, rfl, rfl⟩
                refine dp rfl (pop_move rfl) ?_
                first
                | refine de rfl (eop_callx (i := 0) ca44 rfl (WeakL.refl _) rfl (c_benchmake_Stream_Odd (by first | assumption | omega | (simp; omega) | simp_all) (by first | assumption | omega | (simp; omega) | simp_all) (by first | assumption | omega | (simp; omega) | simp_all) (by first | assumption | omega | (simp; omega) | simp_all)) ?_)
                | refine de rfl (eop_callx (i := 1) ca44 rfl (WeakL.refl _) rfl (c_benchmake_Stream_Odd (by first | assumption | omega | (simp; omega) | simp_all) (by first | assumption | omega | (simp; omega) | simp_all) (by first | assumption | omega | (simp; omega) | simp_all) (by first | assumption | omega | (simp; omega) | simp_all)) ?_)
                | refine de rfl (eop_callx (i := 2) ca44 rfl (WeakL.refl _) rfl (c_benchmake_Stream_Odd (by first | assumption | omega | (simp; omega) | simp_all) (by first | assumption | omega | (simp; omega) | simp_all) (by first | assumption | omega | (simp; omega) | simp_all) (by first | assumption | omega | (simp; omega) | simp_all)) ?_)
                | refine de rfl (eop_callx (i := 3) ca44 rfl (WeakL.refl _) rfl (c_benchmake_Stream_Odd (by first | assumption | omega | (simp; omega) | simp_all) (by first | assumption | omega | (simp; omega) | simp_all) (by first | assumption | omega | (simp; omega) | simp_all) (by first | assumption | omega | (simp; omega) | simp_all)) ?_)
                rintro _ _ ⟨y69, rfl, rfl⟩
                refine dp rfl (pop_fieldAddr_raw ty28 rfl ty3 (by decide) rfl) ?_
                first
                | refine de0 (eop_store (i := 0) ty3 rfl rfl rfl rfl rfl (Nat.le_of_ble_eq_true rfl) ?_)
                | refine de0 (eop_store (i := 1) ty3 rfl rfl rfl rfl rfl (Nat.le_of_ble_eq_true rfl) ?_)
                | refine de0 (eop_store (i := 2) ty3 rfl rfl rfl rfl rfl (Nat.le_of_ble_eq_true rfl) ?_)
                | refine de0 (eop_store (i := 3) ty3 rfl rfl rfl rfl rfl (Nat.le_of_ble_eq_true rfl) ?_)
                refine dp rfl (pop_fieldAddr_raw ty28 rfl ty3 (by decide) rfl) ?_
                first
                | refine de0 (eop_store (i := 0) ty3 rfl rfl rfl rfl rfl (Nat.le_of_ble_eq_true rfl) ?_)
                | refine de0 (eop_store (i := 1) ty3 rfl rfl rfl rfl rfl (Nat.le_of_ble_eq_true rfl) ?_)
                | refine de0 (eop_store (i := 2) ty3 rfl rfl rfl rfl rfl (Nat.le_of_ble_eq_true rfl) ?_)
                | refine de0 (eop_store (i := 3) ty3 rfl rfl rfl rfl rfl (Nat.le_of_ble_eq_true rfl) ?_)
                refine dn ?_
                refine blockQ_n ?_
                (first | refine joinG_n (Ghost.fcell (i := 0) (k := 0) (j := 3) rfl rfl rfl) ?_ | refine joinG_n (Ghost.fcell (i := 0) (k := 1) (j := 3) rfl rfl rfl) ?_ | refine joinG_n (Ghost.fcell (i := 0) (k := 2) (j := 3) rfl rfl rfl) ?_ | refine joinG_n (Ghost.fcell (i := 0) (k := 3) (j := 3) rfl rfl rfl) ?_ | refine joinG_n (Ghost.fcell (i := 1) (k := 0) (j := 3) rfl rfl rfl) ?_ | refine joinG_n (Ghost.fcell (i := 1) (k := 1) (j := 3) rfl rfl rfl) ?_ | refine joinG_n (Ghost.fcell (i := 1) (k := 2) (j := 3) rfl rfl rfl) ?_ | refine joinG_n (Ghost.fcell (i := 1) (k := 3) (j := 3) rfl rfl rfl) ?_ | refine joinG_n (Ghost.fcell (i := 2) (k := 0) (j := 3) rfl rfl rfl) ?_ | refine joinG_n (Ghost.fcell (i := 2) (k := 1) (j := 3) rfl rfl rfl) ?_ | refine joinG_n (Ghost.fcell (i := 2) (k := 2) (j := 3) rfl rfl rfl) ?_ | refine joinG_n (Ghost.fcell (i := 2) (k := 3) (j := 3) rfl rfl rfl) ?_ | refine joinG_n (Ghost.fcell (i := 3) (k := 0) (j := 3) rfl rfl rfl) ?_ | refine joinG_n (Ghost.fcell (i := 3) (k := 1) (j := 3) rfl rfl rfl) ?_ | refine joinG_n (Ghost.fcell (i := 3) (k := 2) (j := 3) rfl rfl rfl) ?_ | refine joinG_n (Ghost.fcell (i := 3) (k := 3) (j := 3) rfl rfl rfl) ?_)
                refine joinG_z (⟨T, y67, y69, Pl, C, S⟩, a + 12) ⟨?_, by dsimp only; omega⟩ trivial (by repeat (first | exact keeps_refl | refine keeps_upd rfl ?_ | refine keeps_loop rfl rfl ?_)) ?_
                · exact good_room hT hPl (by omega) hTs hPs
                · repeat (first | exact List.Perm.nil | refine permTo 0 rfl ?_ | refine permTo 1 rfl ?_ | refine permTo 2 rfl ?_ | refine permTo 3 rfl ?_ | (refine permToE 0 rfl ?hq ?_; (case hq => simp [setL, hcells]; done)) | (refine permToE 1 rfl ?hq ?_; (case hq => simp [setL, hcells]; done)) | (refine permToE 2 rfl ?hq ?_; (case hq => simp [setL, hcells]; done)) | (refine permToE 3 rfl ?hq ?_; (case hq => simp [setL, hcells]; done)) | fail)
              · try simp at h8
                refine hw_reg ?_
                refine dp rfl (pop_eql rfl rfl) ?_
                refine dp rfl (pop_assign rfl) ?_
                refine dn ?_
                refine hw_cond rfl (fun h9 => ?_) (fun h10 => ?_)
                · try simp at h9
                  obtain ⟨Px, Pt, rfl⟩ : ∃ x t, Pl = x :: t := by
                    cases Pl with
                    | nil => simp at hPl; omega
                    | cons x t => exact ⟨x, t, rfl⟩
                  have hPt : Pt.length = k - 1 := by simp at hPl; omega
                  have hPts : ∀ s ∈ Pt, s.length ≤ 100 := fun s hs => hPs s (List.mem_cons_of_mem _ hs)
                  refine hw_arrc (i := 1) rfl (fun h0 he => ?_) (fun bb off cap hv hcap => ?_)
                  · exfalso; simp at he
                  subst hv
                  refine hw_ghost (Ghost.perm (List.Perm.swap _ _ _)) ?_
                  refine hw_ghost (Ghost.tail (x := .str Px) (es := Pt.map .str)) ?_
                  simp only [List.map_cons, List.length_cons] at hcap
                  refine hw_draw1 (fun M => ∃ i : Nat, M[i]? = some (RoomC b3 (eSs (T)) R Wy (.raw (.slice (some ⟨bb, off, none⟩) ((Px :: Pt).map HVal.str).length cap)) C S)) [1] mixed ?_
                  refine ahp 0 rfl rfl (by kernel_rfl) (by kernel_rfl) (pop_fieldAddr_raw ty28 rfl ty26 (by decide) rfl) ?_
                  refine ahl 1 rfl rfl (by kernel_rfl) (by kernel_rfl) (by simp) (by first | exact ⟨0, rfl⟩ | exact ⟨1, rfl⟩ | exact ⟨2, rfl⟩) (fun M hM => by obtain ⟨i, hi⟩ := hM; exact eop_load (i := i) ty26 rfl hi (.inl ⟨rfl, rfl⟩) ⟨rfl, rfl⟩) ?_
                  refine ahp 2 rfl rfl (by kernel_rfl) (by kernel_rfl) (pop_tail (n := (Pt.map HVal.str).length) ty26 ty9 rfl hcap) ?_
                  refine ahp 3 rfl rfl (by kernel_rfl) (by kernel_rfl) (pop_move rfl) ?_
                  refine ahp 4 rfl rfl (by kernel_rfl) (by kernel_rfl) (pop_buildSlice (hs := [_, _, _]) ty26 ty9 rfl rfl (by decide) (by decide) rfl) ?_
                  refine ahe 5 rfl (by kernel_rfl) ?_
                  first
                  | refine hop_e rfl (eop_callx (i := 0) ca43 rfl (WeakL.refl _) rfl (c_benchmake_Stream_Some (L := [_, _, _]) (by first | assumption | omega | (simp; omega) | simp_all) (by first | assumption | omega | (simp; omega) | simp_all) (by first | assumption | omega | (simp; omega) | simp_all)) ?_)
                  | refine hop_e rfl (eop_callx (i := 1) ca43 rfl (WeakL.refl _) rfl (c_benchmake_Stream_Some (L := [_, _, _]) (by first | assumption | omega | (simp; omega) | simp_all) (by first | assumption | omega | (simp; omega) | simp_all) (by first | assumption | omega | (simp; omega) | simp_all)) ?_)
                  | refine hop_e rfl (eop_callx (i := 2) ca43 rfl (WeakL.refl _) rfl (c_benchmake_Stream_Some (L := [_, _, _]) (by first | assumption | omega | (simp; omega) | simp_all) (by first | assumption | omega | (simp; omega) | simp_all) (by first | assumption | omega | (simp; omega) | simp_all)) ?_)
                  | refine hop_e rfl (eop_callx (i := 3) ca43 rfl (WeakL.refl _) rfl (c_benchmake_Stream_Some (L := [_, _, _]) (by first | assumption | omega | (simp; omega) | simp_all) (by first | assumption | omega | (simp; omega) | simp_all) (by first | assumption | omega | (simp; omega) | simp_all)) ?_)
                  rintro _ _ ⟨y79, rfl, hy79, rfl⟩
                  refine ⟨fun _ => by first | exact .inl ⟨0, rfl⟩ | exact .inl ⟨1, rfl⟩ | exact .inl ⟨2, rfl⟩ | exact .inr (by simp [Before, Region.binds]), ?_⟩
                  refine ahp 6 rfl rfl (by kernel_rfl) (by kernel_rfl) (pop_buildSlice (hs := [_]) ty26 ty9 rfl rfl (by decide) (by decide) rfl) ?_
                  refine ahe 7 rfl (by kernel_rfl) ?_
                  first
                  | refine hop_e rfl (eop_append (i := 0) ty26 ty9 rfl rfl rfl rfl rfl (by simp [flat, hcells]) (by first | omega | (simp; omega)) fun v81 => ?_)
                  | refine hop_e rfl (eop_append (i := 1) ty26 ty9 rfl rfl rfl rfl rfl (by simp [flat, hcells]) (by first | omega | (simp; omega)) fun v81 => ?_)
                  | refine hop_e rfl (eop_append (i := 2) ty26 ty9 rfl rfl rfl rfl rfl (by simp [flat, hcells]) (by first | omega | (simp; omega)) fun v81 => ?_)
                  | refine hop_e rfl (eop_append (i := 3) ty26 ty9 rfl rfl rfl rfl rfl (by simp [flat, hcells]) (by first | omega | (simp; omega)) fun v81 => ?_)
                  refine ⟨fun _ => by first | exact .inl ⟨0, rfl⟩ | exact .inl ⟨1, rfl⟩ | exact .inl ⟨2, rfl⟩ | exact .inr (by simp [Before, Region.binds]), ?_⟩
                  refine ahp 8 rfl rfl (by kernel_rfl) (by kernel_rfl) (pop_fieldAddr_raw ty28 rfl ty26 (by decide) rfl) ?_
                  refine ahe 9 rfl (by kernel_rfl) ?_
                  first
                  | refine hop_e0 (eop_store (i := 0) ty26 rfl rfl rfl rfl rfl (Nat.le_of_ble_eq_true rfl) ?_)
                  | refine hop_e0 (eop_store (i := 1) ty26 rfl rfl rfl rfl rfl (Nat.le_of_ble_eq_true rfl) ?_)
                  | refine hop_e0 (eop_store (i := 2) ty26 rfl rfl rfl rfl rfl (Nat.le_of_ble_eq_true rfl) ?_)
                  | refine hop_e0 (eop_store (i := 3) ty26 rfl rfl rfl rfl rfl (Nat.le_of_ble_eq_true rfl) ?_)
                  refine ⟨fun _ => by first | exact .inl ⟨0, rfl⟩ | exact .inl ⟨1, rfl⟩ | exact .inl ⟨2, rfl⟩ | exact .inr (by simp [Before, Region.binds]), ?_⟩
                  refine ahz (by kernel_rfl) ?_
                  refine blockQ_n ?_
                  (first | refine joinG_n (Ghost.fcell (i := 0) (k := 0) (j := 3) rfl rfl rfl) ?_ | refine joinG_n (Ghost.fcell (i := 0) (k := 1) (j := 3) rfl rfl rfl) ?_ | refine joinG_n (Ghost.fcell (i := 0) (k := 2) (j := 3) rfl rfl rfl) ?_ | refine joinG_n (Ghost.fcell (i := 0) (k := 3) (j := 3) rfl rfl rfl) ?_ | refine joinG_n (Ghost.fcell (i := 1) (k := 0) (j := 3) rfl rfl rfl) ?_ | refine joinG_n (Ghost.fcell (i := 1) (k := 1) (j := 3) rfl rfl rfl) ?_ | refine joinG_n (Ghost.fcell (i := 1) (k := 2) (j := 3) rfl rfl rfl) ?_ | refine joinG_n (Ghost.fcell (i := 1) (k := 3) (j := 3) rfl rfl rfl) ?_ | refine joinG_n (Ghost.fcell (i := 2) (k := 0) (j := 3) rfl rfl rfl) ?_ | refine joinG_n (Ghost.fcell (i := 2) (k := 1) (j := 3) rfl rfl rfl) ?_ | refine joinG_n (Ghost.fcell (i := 2) (k := 2) (j := 3) rfl rfl rfl) ?_ | refine joinG_n (Ghost.fcell (i := 2) (k := 3) (j := 3) rfl rfl rfl) ?_ | refine joinG_n (Ghost.fcell (i := 3) (k := 0) (j := 3) rfl rfl rfl) ?_ | refine joinG_n (Ghost.fcell (i := 3) (k := 1) (j := 3) rfl rfl rfl) ?_ | refine joinG_n (Ghost.fcell (i := 3) (k := 2) (j := 3) rfl rfl rfl) ?_ | refine joinG_n (Ghost.fcell (i := 3) (k := 3) (j := 3) rfl rfl rfl) ?_)
                  refine joinG_z (⟨T, R, Wy, Pt ++ [y79], C, S⟩, a + 9) ⟨?_, by dsimp only; omega⟩ trivial (by repeat (first | exact keeps_refl | refine keeps_upd rfl ?_ | refine keeps_loop rfl rfl ?_)) ?_
                  · exact good_roomP hT hPt (by omega) hTs hPts (by simp at hy79; rcases hy79 with rfl | rfl | rfl <;> simp)
                  · repeat (first | exact List.Perm.nil | refine permTo 0 rfl ?_ | refine permTo 1 rfl ?_ | refine permTo 2 rfl ?_ | refine permTo 3 rfl ?_ | (refine permToE 0 rfl ?hq ?_; (case hq => simp [setL, hcells]; done)) | (refine permToE 1 rfl ?hq ?_; (case hq => simp [setL, hcells]; done)) | (refine permToE 2 rfl ?hq ?_; (case hq => simp [setL, hcells]; done)) | (refine permToE 3 rfl ?hq ?_; (case hq => simp [setL, hcells]; done)) | fail)
                · try simp at h10
                  refine hw_reg1 ?_
                  refine dp rfl (pop_move rfl) ?_
                  first
                  | refine de rfl (eop_callx (i := 0) ca44 rfl (WeakL.refl _) rfl (c_benchmake_Stream_Odd (by first | assumption | omega | (simp; omega) | simp_all) (by first | assumption | omega | (simp; omega) | simp_all) (by first | assumption | omega | (simp; omega) | simp_all) (by first | assumption | omega | (simp; omega) | simp_all)) ?_)
                  | refine de rfl (eop_callx (i := 1) ca44 rfl (WeakL.refl _) rfl (c_benchmake_Stream_Odd (by first | assumption | omega | (simp; omega) | simp_all) (by first | assumption | omega | (simp; omega) | simp_all) (by first | assumption | omega | (simp; omega) | simp_all) (by first | assumption | omega | (simp; omega) | simp_all)) ?_)
                  | refine de rfl (eop_callx (i := 2) ca44 rfl (WeakL.refl _) rfl (c_benchmake_Stream_Odd (by first | assumption | omega | (simp; omega) | simp_all) (by first | assumption | omega | (simp; omega) | simp_all) (by first | assumption | omega | (simp; omega) | simp_all) (by first | assumption | omega | (simp; omega) | simp_all)) ?_)
                  | refine de rfl (eop_callx (i := 3) ca44 rfl (WeakL.refl _) rfl (c_benchmake_Stream_Odd (by first | assumption | omega | (simp; omega) | simp_all) (by first | assumption | omega | (simp; omega) | simp_all) (by first | assumption | omega | (simp; omega) | simp_all) (by first | assumption | omega | (simp; omega) | simp_all)) ?_)
                  rintro _ _ ⟨y48, rfl, rfl⟩
                  refine dp rfl (pop_move rfl) ?_
                  first
                  | refine de rfl (eop_callx (i := 0) ca44 rfl (WeakL.refl _) rfl (c_benchmake_Stream_Odd (by first | assumption | omega | (simp; omega) | simp_all) (by first | assumption | omega | (simp; omega) | simp_all) (by first | assumption | omega | (simp; omega) | simp_all) (by first | assumption | omega | (simp; omega) | simp_all)) ?_)
                  | refine de rfl (eop_callx (i := 1) ca44 rfl (WeakL.refl _) rfl (c_benchmake_Stream_Odd (by first | assumption | omega | (simp; omega) | simp_all) (by first | assumption | omega | (simp; omega) | simp_all) (by first | assumption | omega | (simp; omega) | simp_all) (by first | assumption | omega | (simp; omega) | simp_all)) ?_)
                  | refine de rfl (eop_callx (i := 2) ca44 rfl (WeakL.refl _) rfl (c_benchmake_Stream_Odd (by first | assumption | omega | (simp; omega) | simp_all) (by first | assumption | omega | (simp; omega) | simp_all) (by first | assumption | omega | (simp; omega) | simp_all) (by first | assumption | omega | (simp; omega) | simp_all)) ?_)
                  | refine de rfl (eop_callx (i := 3) ca44 rfl (WeakL.refl _) rfl (c_benchmake_Stream_Odd (by first | assumption | omega | (simp; omega) | simp_all) (by first | assumption | omega | (simp; omega) | simp_all) (by first | assumption | omega | (simp; omega) | simp_all) (by first | assumption | omega | (simp; omega) | simp_all)) ?_)
                  rintro _ _ ⟨y50, rfl, rfl⟩
                  refine dp rfl (pop_fieldAddr_raw ty28 rfl ty3 (by decide) rfl) ?_
                  first
                  | refine de0 (eop_store (i := 0) ty3 rfl rfl rfl rfl rfl (Nat.le_of_ble_eq_true rfl) ?_)
                  | refine de0 (eop_store (i := 1) ty3 rfl rfl rfl rfl rfl (Nat.le_of_ble_eq_true rfl) ?_)
                  | refine de0 (eop_store (i := 2) ty3 rfl rfl rfl rfl rfl (Nat.le_of_ble_eq_true rfl) ?_)
                  | refine de0 (eop_store (i := 3) ty3 rfl rfl rfl rfl rfl (Nat.le_of_ble_eq_true rfl) ?_)
                  refine dp rfl (pop_fieldAddr_raw ty28 rfl ty3 (by decide) rfl) ?_
                  first
                  | refine de0 (eop_store (i := 0) ty3 rfl rfl rfl rfl rfl (Nat.le_of_ble_eq_true rfl) ?_)
                  | refine de0 (eop_store (i := 1) ty3 rfl rfl rfl rfl rfl (Nat.le_of_ble_eq_true rfl) ?_)
                  | refine de0 (eop_store (i := 2) ty3 rfl rfl rfl rfl rfl (Nat.le_of_ble_eq_true rfl) ?_)
                  | refine de0 (eop_store (i := 3) ty3 rfl rfl rfl rfl rfl (Nat.le_of_ble_eq_true rfl) ?_)
                  refine dn ?_
                  refine blockQ_n ?_
                  (first | refine joinG_n (Ghost.fcell (i := 0) (k := 0) (j := 3) rfl rfl rfl) ?_ | refine joinG_n (Ghost.fcell (i := 0) (k := 1) (j := 3) rfl rfl rfl) ?_ | refine joinG_n (Ghost.fcell (i := 0) (k := 2) (j := 3) rfl rfl rfl) ?_ | refine joinG_n (Ghost.fcell (i := 0) (k := 3) (j := 3) rfl rfl rfl) ?_ | refine joinG_n (Ghost.fcell (i := 1) (k := 0) (j := 3) rfl rfl rfl) ?_ | refine joinG_n (Ghost.fcell (i := 1) (k := 1) (j := 3) rfl rfl rfl) ?_ | refine joinG_n (Ghost.fcell (i := 1) (k := 2) (j := 3) rfl rfl rfl) ?_ | refine joinG_n (Ghost.fcell (i := 1) (k := 3) (j := 3) rfl rfl rfl) ?_ | refine joinG_n (Ghost.fcell (i := 2) (k := 0) (j := 3) rfl rfl rfl) ?_ | refine joinG_n (Ghost.fcell (i := 2) (k := 1) (j := 3) rfl rfl rfl) ?_ | refine joinG_n (Ghost.fcell (i := 2) (k := 2) (j := 3) rfl rfl rfl) ?_ | refine joinG_n (Ghost.fcell (i := 2) (k := 3) (j := 3) rfl rfl rfl) ?_ | refine joinG_n (Ghost.fcell (i := 3) (k := 0) (j := 3) rfl rfl rfl) ?_ | refine joinG_n (Ghost.fcell (i := 3) (k := 1) (j := 3) rfl rfl rfl) ?_ | refine joinG_n (Ghost.fcell (i := 3) (k := 2) (j := 3) rfl rfl rfl) ?_ | refine joinG_n (Ghost.fcell (i := 3) (k := 3) (j := 3) rfl rfl rfl) ?_)
                  refine joinG_z (⟨T, R, Wy, Pl, y48, y50⟩, a + 12) ⟨?_, by dsimp only; omega⟩ trivial (by repeat (first | exact keeps_refl | refine keeps_upd rfl ?_ | refine keeps_loop rfl rfl ?_)) ?_
                  · exact good_room hT hPl (by omega) hTs hPs
                  · repeat (first | exact List.Perm.nil | refine permTo 0 rfl ?_ | refine permTo 1 rfl ?_ | refine permTo 2 rfl ?_ | refine permTo 3 rfl ?_ | (refine permToE 0 rfl ?hq ?_; (case hq => simp [setL, hcells]; done)) | (refine permToE 1 rfl ?hq ?_; (case hq => simp [setL, hcells]; done)) | (refine permToE 2 rfl ?hq ?_; (case hq => simp [setL, hcells]; done)) | (refine permToE 3 rfl ?hq ?_; (case hq => simp [setL, hcells]; done)) | fail)
          · try simp at h4
            refine hw_skip ?_
            (first | refine joinG_n (Ghost.fcell (i := 0) (k := 0) (j := 3) rfl rfl rfl) ?_ | refine joinG_n (Ghost.fcell (i := 0) (k := 1) (j := 3) rfl rfl rfl) ?_ | refine joinG_n (Ghost.fcell (i := 0) (k := 2) (j := 3) rfl rfl rfl) ?_ | refine joinG_n (Ghost.fcell (i := 0) (k := 3) (j := 3) rfl rfl rfl) ?_ | refine joinG_n (Ghost.fcell (i := 1) (k := 0) (j := 3) rfl rfl rfl) ?_ | refine joinG_n (Ghost.fcell (i := 1) (k := 1) (j := 3) rfl rfl rfl) ?_ | refine joinG_n (Ghost.fcell (i := 1) (k := 2) (j := 3) rfl rfl rfl) ?_ | refine joinG_n (Ghost.fcell (i := 1) (k := 3) (j := 3) rfl rfl rfl) ?_ | refine joinG_n (Ghost.fcell (i := 2) (k := 0) (j := 3) rfl rfl rfl) ?_ | refine joinG_n (Ghost.fcell (i := 2) (k := 1) (j := 3) rfl rfl rfl) ?_ | refine joinG_n (Ghost.fcell (i := 2) (k := 2) (j := 3) rfl rfl rfl) ?_ | refine joinG_n (Ghost.fcell (i := 2) (k := 3) (j := 3) rfl rfl rfl) ?_ | refine joinG_n (Ghost.fcell (i := 3) (k := 0) (j := 3) rfl rfl rfl) ?_ | refine joinG_n (Ghost.fcell (i := 3) (k := 1) (j := 3) rfl rfl rfl) ?_ | refine joinG_n (Ghost.fcell (i := 3) (k := 2) (j := 3) rfl rfl rfl) ?_ | refine joinG_n (Ghost.fcell (i := 3) (k := 3) (j := 3) rfl rfl rfl) ?_)
            refine joinG_z (⟨T, R, Wy, Pl, C, S⟩, a + 7) ⟨?_, by dsimp only; omega⟩ trivial (by repeat (first | exact keeps_refl | refine keeps_upd rfl ?_ | refine keeps_loop rfl rfl ?_)) ?_
            · exact good_room hT hPl (by omega) hTs hPs
            · repeat (first | exact List.Perm.nil | refine permTo 0 rfl ?_ | refine permTo 1 rfl ?_ | refine permTo 2 rfl ?_ | refine permTo 3 rfl ?_ | (refine permToE 0 rfl ?hq ?_; (case hq => simp [setL, hcells]; done)) | (refine permToE 1 rfl ?hq ?_; (case hq => simp [setL, hcells]; done)) | (refine permToE 2 rfl ?hq ?_; (case hq => simp [setL, hcells]; done)) | (refine permToE 3 rfl ?hq ?_; (case hq => simp [setL, hcells]; done)) | fail)
        · intro q hq2
          obtain ⟨r, a2⟩ := q
          dsimp only at hq2
          refine hw_reg ?_
          first
          | refine de rfl (eop_loadw (i := 0) ty28 rfl rfl rfl rfl rfl ?_)
          | refine de rfl (eop_loadw (i := 1) ty28 rfl rfl rfl rfl rfl ?_)
          | refine de rfl (eop_loadw (i := 2) ty28 rfl rfl rfl rfl rfl ?_)
          | refine de rfl (eop_loadw (i := 3) ty28 rfl rfl rfl rfl rfl ?_)
          first
          | refine de0 (eop_store (i := 0) ty28 rfl rfl rfl rfl rfl (Nat.le_of_ble_eq_true rfl) ?_)
          | refine de0 (eop_store (i := 1) ty28 rfl rfl rfl rfl rfl (Nat.le_of_ble_eq_true rfl) ?_)
          | refine de0 (eop_store (i := 2) ty28 rfl rfl rfl rfl rfl (Nat.le_of_ble_eq_true rfl) ?_)
          | refine de0 (eop_store (i := 3) ty28 rfl rfl rfl rfl rfl (Nat.le_of_ble_eq_true rfl) ?_)
          refine dn ?_
          refine hw_ret ?_
          exact ⟨_, _, (Ghost.drop).trans (Ghost.fc0 2 rfl), [_], _, ⟨⟨_, _, _, _, _, rfl, ty28, .inr ⟨rfl, rfl, rfl⟩⟩, trivial⟩, Weak.refl _, r, a2, rfl, hq2.1, hq2.2, rfl⟩
end Go.Proofs.YtoomadfbldcioaaGreatDoor
end
section
namespace Go.Proofs.YtoomadfbldcioaaGreatDoor
open Go.HL
set_option maxRecDepth 100000
set_option linter.unusedVariables false
set_option linter.unusedSimpArgs false
/-- benchwarmer/benchref1.SwapsFault -/
theorem c_benchref1_SwapsFault {r : Room} {l : List Swap} (ht : r.Teams.length ≤ 1000000) (hp : r.Players.length ≤ 1000000) (hl : l.length ≤ 1000000) : ConP Tryz.prog 129 [eRoom r, eSwaps l] (.int .i64 (refSwaps r l)) := by
  refine Con.of_body Tryz.func129 rfl Tryz.ntmps129 rfl rfl ?_
  refine hw_reg ?_
  refine dp rfl (pop_box rfl rfl) ?_
  refine dp rfl (pop_assign rfl) ?_
  refine dn ?_
  refine hw_seq ?_
  refine hw_reg ?_
  refine dp rfl (pop_move rfl) ?_
  refine dp rfl (pop_lenm ty32 rfl) ?_
  refine dp rfl (pop_gtr rfl rfl) ?_
  refine dn ?_
  refine hw_cond rfl (fun h1 => ?_) (fun h2 => ?_)
  · try simp at h1
    refine hw_reg ?_
    refine dp rfl (pop_assign rfl) ?_
    refine dn ?_
    refine hw_ret ?_
    refine ret_p rfl ?_
    show HVal.int .i64 _ = _
    first | (rw [refSwaps, if_pos (by omega)]; done) | (rw [hg, swapsGo]; simp_all; done) | (rw [hg]; rfl)
  · try simp at h2
    refine hw_skip ?_
    refine seqQ_n ?_
    refine hw_seq ?_
    refine hw_reg ?_
    refine dp rfl (pop_move rfl) ?_
    refine dp rfl (pop_lenm ty32 rfl) ?_
    refine dp rfl (pop_move rfl) ?_
    refine dn ?_
    refine hw_block ?_
    refine hw_loopw [4, 5, 6, 12, 13, 14, 15, 16, 17, 18, 19, 20, 21, 22, 23, 24, 25, 26, 27, 28, 29, 30, 31, 32, 33, 34, 35, 36, 37, 38, 39, 40, 41, 42, 43, 44, 45, 46, 47, 48, 49, 50, 51, 52, 53, 54, 55, 56, 57, 58, 59, 60, 61, 62, 63, 64, 65] (fun (k : Nat) => [(12, .int .i64 k)]) (fun (k : Nat) => []) (fun (k : Nat) => k ≤ l.length ∧ (refSwaps r l = swapsGo r l k (l.drop k))) (fun (k : Nat) => l.length - k) (0) ?_ ?_ ?_ ?_
    · refine ⟨Nat.zero_le _, ?_⟩
      rw [refSwaps, if_neg (by omega)]; rfl
    · exact ⟨rfl, trivial⟩
    · exact List.Perm.refl _
    · intro k hinv
      obtain ⟨hk, hg⟩ := hinv
      refine hw_reg ?_
      refine dp rfl (pop_lss rfl rfl) ?_
      refine dn ?_
      refine hw_seq ?_
      refine hw_cond rfl (fun h3 => ?_) (fun h4 => ?_)
      · try simp at h3
        obtain ⟨x, hx⟩ : ∃ x, l[k]? = some x := ⟨_, List.getElem?_eq_getElem h3⟩
        have hdx := drop_cons hx
        rw [hdx] at hg
        refine hw_skip ?_
        refine seqQ_n ?_
        refine hw_seq ?_
        refine hw_block ?_
        refine hw_reg ?_
        refine dp rfl (pop_move rfl) ?_
        refine dp rfl (pop_idx ty32 ty92 rfl rfl rfl (by first | assumption | simp_all)) ?_
        refine dp rfl (pop_loadw ty92 rfl rfl rfl rfl) ?_
        refine de rfl (eop_alloc ty92 rfl fun b6 => ?_)
        refine dp rfl (pop_assign rfl) ?_
        refine de0 (eop_storew ty92 rfl rfl rfl rfl rfl ?_)
        refine dn ?_
        refine hw_ghost (Ghost.fc0 6 rfl) ?_
        refine hw_block ?_
        refine hw_reg ?_
        refine dp rfl (pop_fieldAddr ty92 rfl ty3 (by decide) rfl) ?_
        refine dp rfl (pop_load ty3 rfl rfl rfl) ?_
        refine dp rfl (pop_fieldAddr ty28 rfl ty3 (by decide) rfl) ?_
        refine dp rfl (pop_load ty3 rfl rfl rfl) ?_
        refine dp rfl (pop_call ca51 rfl (WeakL.refl _) c_benchref1_in) ?_
        refine dp rfl (pop_not rfl) ?_
        refine dp rfl (pop_assign rfl) ?_
        refine dn ?_
        refine hw_cond rfl (fun h5 => ?_) (fun h6 => ?_)
        · try simp at h5
          refine hw_reg ?_
          refine dp rfl (pop_assign rfl) ?_
          refine dn ?_
          refine hw_ret ?_
          refine ret_p rfl ?_
          show HVal.int .i64 _ = _
          first | (rw [refSwaps, if_pos (by omega)]; done) | (rw [hg, swapsGo]; simp_all; done) | (rw [hg]; rfl)
        · try simp at h6
          refine hw_reg ?_
          refine dp rfl (pop_fieldAddr ty28 rfl ty26 (by decide) rfl) ?_
          refine dp rfl (pop_load ty26 rfl rfl rfl) ?_
          refine dp rfl (pop_fieldAddr ty92 rfl ty9 (by decide) rfl) ?_
          refine dp rfl (pop_load ty9 rfl rfl rfl) ?_
          refine dp rfl (pop_call ca53 rfl (WeakL.refl _) (c_slices_Contains_string_string (by first | assumption | omega | (simp; omega) | simp_all))) ?_
          refine dp rfl (pop_not rfl) ?_
          refine dp rfl (pop_move rfl) ?_
          refine dg rfl rfl (fun hc => ⟨_, OpenTo.refl _, pop_fieldAddr ty28 rfl ty26 (by decide) rfl⟩) ?_
          refine dg rfl rfl (fun hc => ⟨_, OpenTo.upd (t := 32) rfl (by first | exact hc | simp_all) (OpenTo.refl _), pop_load ty26 rfl rfl rfl⟩) ?_
          refine dg rfl rfl (fun hc => ⟨_, OpenTo.refl _, pop_fieldAddr ty92 rfl ty9 (by decide) rfl⟩) ?_
          refine dg rfl rfl (fun hc => ⟨_, OpenTo.upd (t := 34) rfl (by first | exact hc | simp_all) (OpenTo.refl _), pop_load ty9 rfl rfl rfl⟩) ?_
          refine dg rfl rfl (fun hc => by have hq := hc; (try simp at hq); exact ⟨_, OpenTo.upd (t := 35) rfl (by first | exact hc | simp_all) (OpenTo.upd (t := 33) rfl (by first | exact hc | simp_all) (OpenTo.refl _)), pop_call ca53 rfl (WeakL.refl _) (c_slices_Contains_string_string (by first | assumption | omega | (simp; omega) | simp_all))⟩) ?_
          refine dg rfl rfl (fun hc => ⟨_, OpenTo.upd (t := 36) rfl (by first | exact hc | simp_all) (OpenTo.refl _), pop_not rfl⟩) ?_
          refine dp rfl (pop_picko rfl (.inl rfl) (.inr ⟨_, rfl, fun h => by simp_all⟩)) ?_
          refine dp rfl (pop_assign rfl) ?_
          refine dn ?_
          refine hw_cond rfl (fun h7 => ?_) (fun h8 => ?_)
          · try simp at h7
            refine hw_reg ?_
            refine dp rfl (pop_assign rfl) ?_
            refine dn ?_
            refine hw_ret ?_
            refine ret_p rfl ?_
            show HVal.int .i64 _ = _
            first | (rw [refSwaps, if_pos (by omega)]; done) | (rw [hg, swapsGo]; simp_all; done) | (rw [hg]; rfl)
          · try simp at h8
            refine hw_draw (fun _ => True) [] mixed ?_
            refine ahp 0 rfl rfl (by kernel_rfl) (by kernel_rfl) (pop_move rfl) ?_
            refine ahp 1 rfl rfl (by kernel_rfl) (by kernel_rfl) (pop_gtr rfl rfl) ?_
            refine ahp 2 rfl rfl (by kernel_rfl) (by kernel_rfl) (pop_move rfl) ?_
            refine ahg 3 rfl rfl (by kernel_rfl) (by kernel_rfl) rfl (fun hc => ⟨_, OpenTo.refl _, pop_move rfl⟩) ?_
            refine ahg 4 rfl rfl (by kernel_rfl) (by kernel_rfl) rfl (fun hc => ⟨_, OpenTo.refl _, pop_move rfl⟩) ?_
            refine ahg 5 rfl rfl (by kernel_rfl) (by kernel_rfl) rfl (fun hc => by have hq := hc; (try simp at hq); exact ⟨_, OpenTo.upd (t := 44) rfl (by first | exact hc | simp_all) (OpenTo.refl _), pop_sub64 rfl rfl (by omega) (by omega)⟩) ?_
            refine ahg 6 rfl rfl (by kernel_rfl) (by kernel_rfl) rfl (fun hc => by have hq := hc; (try simp at hq); exact ⟨_, OpenTo.upd (t := 45) rfl (by first | exact hc | simp_all) (OpenTo.upd (t := 43) rfl (by first | exact hc | simp_all) (OpenTo.refl _)), pop_idx (j := k - 1) (a := l.getD (k - 1) swap0) ty32 ty92 rfl rfl (by omega) (getD_some (by omega))⟩) ?_
            refine ahg 7 rfl rfl (by kernel_rfl) (by kernel_rfl) rfl (fun hc => ⟨_, OpenTo.upd (t := 46) rfl (by first | exact hc | simp_all) (OpenTo.refl _), pop_fieldAddr ty92 rfl ty3 (by decide) rfl⟩) ?_
            refine ahg 8 rfl rfl (by kernel_rfl) (by kernel_rfl) rfl (fun hc => ⟨_, OpenTo.upd (t := 47) rfl (by first | exact hc | simp_all) (OpenTo.refl _), pop_load ty3 rfl rfl rfl⟩) ?_
            refine ahg 9 rfl rfl (by kernel_rfl) (by kernel_rfl) rfl (fun hc => ⟨_, OpenTo.refl _, pop_fieldAddr ty92 rfl ty3 (by decide) rfl⟩) ?_
            refine ahg 10 rfl rfl (by kernel_rfl) (by kernel_rfl) rfl (fun hc => ⟨_, OpenTo.upd (t := 49) rfl (by first | exact hc | simp_all) (OpenTo.refl _), pop_load ty3 rfl rfl rfl⟩) ?_
            refine ahg 11 rfl rfl (by kernel_rfl) (by kernel_rfl) rfl (fun hc => ⟨_, OpenTo.upd (t := 50) rfl (by first | exact hc | simp_all) (OpenTo.upd (t := 48) rfl (by first | exact hc | simp_all) (OpenTo.refl _)), pop_call ca87 rfl (WeakL.refl _) c_cmp_Compare_int⟩) ?_
            refine ahg 12 rfl rfl (by kernel_rfl) (by kernel_rfl) rfl (fun hc => ⟨_, OpenTo.refl _, pop_move rfl⟩) ?_
            refine ahg 13 rfl rfl (by kernel_rfl) (by kernel_rfl) rfl (fun hc => ⟨_, OpenTo.refl _, pop_move rfl⟩) ?_
            refine ahg 14 rfl rfl (by kernel_rfl) (by kernel_rfl) rfl (fun hc => by have hq := hc; (try simp at hq); exact ⟨_, OpenTo.upd (t := 53) rfl (by first | exact hc | simp_all) (OpenTo.refl _), pop_sub64 rfl rfl (by omega) (by omega)⟩) ?_
            refine ahg 15 rfl rfl (by kernel_rfl) (by kernel_rfl) rfl (fun hc => by have hq := hc; (try simp at hq); exact ⟨_, OpenTo.upd (t := 54) rfl (by first | exact hc | simp_all) (OpenTo.upd (t := 52) rfl (by first | exact hc | simp_all) (OpenTo.refl _)), pop_idx (j := k - 1) (a := l.getD (k - 1) swap0) ty32 ty92 rfl rfl (by omega) (getD_some (by omega))⟩) ?_
            refine ahg 16 rfl rfl (by kernel_rfl) (by kernel_rfl) rfl (fun hc => ⟨_, OpenTo.upd (t := 55) rfl (by first | exact hc | simp_all) (OpenTo.refl _), pop_fieldAddr ty92 rfl ty9 (by decide) rfl⟩) ?_
            refine ahg 17 rfl rfl (by kernel_rfl) (by kernel_rfl) rfl (fun hc => ⟨_, OpenTo.upd (t := 56) rfl (by first | exact hc | simp_all) (OpenTo.refl _), pop_load ty9 rfl rfl rfl⟩) ?_
            refine ahg 18 rfl rfl (by kernel_rfl) (by kernel_rfl) rfl (fun hc => ⟨_, OpenTo.refl _, pop_fieldAddr ty92 rfl ty9 (by decide) rfl⟩) ?_
            refine ahg 19 rfl rfl (by kernel_rfl) (by kernel_rfl) rfl (fun hc => ⟨_, OpenTo.upd (t := 58) rfl (by first | exact hc | simp_all) (OpenTo.refl _), pop_load ty9 rfl rfl rfl⟩) ?_
            refine ahg 20 rfl rfl (by kernel_rfl) (by kernel_rfl) rfl (fun hc => ⟨_, OpenTo.upd (t := 59) rfl (by first | exact hc | simp_all) (OpenTo.upd (t := 57) rfl (by first | exact hc | simp_all) (OpenTo.refl _)), pop_call ca136 rfl (WeakL.refl _) c_strings_Compare⟩) ?_
            refine ahg 21 rfl rfl (by kernel_rfl) (by kernel_rfl) rfl (fun hc => ⟨_, OpenTo.upd (t := 60) rfl (by first | exact hc | simp_all) (OpenTo.upd (t := 51) rfl (by first | exact hc | simp_all) (OpenTo.refl _)), pop_buildSlice (hs := [_, _]) ty22 ty3 rfl rfl (by decide) (by decide) rfl⟩) ?_
            refine ahg 22 rfl rfl (by kernel_rfl) (by kernel_rfl) rfl (fun hc => ⟨_, OpenTo.upd (t := 61) rfl (by first | exact hc | simp_all) (OpenTo.refl _), pop_call ca135 rfl (WeakL.refl _) (c_cmp_Or_int (l := [_, _]) (by simp))⟩) ?_
            refine ahg 23 rfl rfl (by kernel_rfl) (by kernel_rfl) rfl (fun hc => ⟨_, OpenTo.upd (t := 62) rfl (by first | exact hc | simp_all) (OpenTo.refl _), pop_geq rfl rfl⟩) ?_
            refine ahp 24 rfl rfl (by kernel_rfl) (by kernel_rfl) (pop_picko rfl (.inr ⟨_, rfl, fun h => by simp_all⟩) (.inl rfl)) ?_
            refine ahp 25 rfl rfl (by kernel_rfl) (by kernel_rfl) (pop_assign rfl) ?_
            refine ahz (by kernel_rfl) ?_
            refine hw_cond rfl (fun h9 => ?_) (fun h10 => ?_)
            · rw [ord_is] at h9
              try simp at h9
              refine hw_reg ?_
              refine dp rfl (pop_assign rfl) ?_
              refine dn ?_
              refine hw_ret ?_
              refine ret_p rfl ?_
              show HVal.int .i64 _ = _
              first | (rw [refSwaps, if_pos (by omega)]; done) | (rw [hg, swapsGo]; simp_all; done) | (rw [hg]; rfl)
            · rw [ord_is] at h10
              try simp at h10
              refine hw_skip ?_
              refine blockQ_n ?_
              refine blockQ_n ?_
              refine seqQ_n ?_
              refine hw_reg1 ?_
              refine dp rfl (pop_add64 rfl rfl (by omega) (by omega)) ?_
              refine dp rfl (pop_move rfl) ?_
              refine dn ?_
              refine ⟨k + 1, ?_, ?_, ⟨rfl, trivial⟩, (by repeat (first | exact keeps_refl | refine keeps_upd rfl ?_ | refine keeps_loop rfl rfl ?_)), List.Perm.refl _⟩
              · refine ⟨by omega, ?_⟩
                rw [hg, swapsGo]; simp_all
                try (intro h1 h2; have := h10 h1; omega)
              · dsimp only; omega
      · try simp at h4
        have hnk : l.length ≤ k := by omega
        obtain rfl : k = l.length := by omega
        rw [drop_all (Nat.le_refl _)] at hg
        refine hw_exit ?_
        refine seqQ_x ?_
        refine loopQ_x ?_
        refine blockQ_eq ?_
        refine seqQ_n ?_
        refine hw_reg ?_
        refine dp rfl (pop_assign rfl) ?_
        refine dn ?_
        refine hw_ret ?_
        refine ret_p rfl ?_
        show HVal.int .i64 _ = _
        first | (rw [refSwaps, if_pos (by omega)]; done) | (rw [hg, swapsGo]; simp_all; done) | (rw [hg]; rfl)

/-- benchwarmer/benchref1.KeepsFault -/
theorem c_benchref1_KeepsFault {r : Room} {l : List Keep} (ht : r.Teams.length ≤ 1000000) (hp : r.Players.length ≤ 1000000) (hl : l.length ≤ 1000000) : ConP Tryz.prog 128 [eRoom r, eKeeps l] (.int .i64 (refKeeps r l)) := by
  refine Con.of_body Tryz.func128 rfl Tryz.ntmps128 rfl rfl ?_
  refine hw_reg ?_
  refine dp rfl (pop_box rfl rfl) ?_
  refine dp rfl (pop_assign rfl) ?_
  refine dn ?_
  refine hw_seq ?_
  refine hw_reg ?_
  refine dp rfl (pop_move rfl) ?_
  refine dp rfl (pop_lenm ty30 rfl) ?_
  refine dp rfl (pop_gtr rfl rfl) ?_
  refine dn ?_
  refine hw_cond rfl (fun h1 => ?_) (fun h2 => ?_)
  · try simp at h1
    refine hw_reg ?_
    refine dp rfl (pop_assign rfl) ?_
    refine dn ?_
    refine hw_ret ?_
    first
    | (refine ret_p rfl ?_
       show HVal.int .i64 _ = _
       first | (rw [refKeeps, if_pos (by omega)]; done) | (rw [hg, refKeepsGo]; simp_all [isTwice]; done))
    | (refine ret_g Ghost.drop rfl ⟨?_, rfl⟩
       show HVal.int .i64 _ = _
       rw [hg, refKeepsGo]; simp_all; done)
  · try simp at h2
    refine hw_skip ?_
    refine seqQ_n ?_
    refine hw_reg ?_
    refine dp rfl (pop_assign rfl) ?_
    refine dn ?_
    refine hw_ghost (Ghost.arr_nil 1) ?_
    refine hw_seq ?_
    refine hw_reg ?_
    refine dp rfl (pop_move rfl) ?_
    refine dp rfl (pop_lenm ty30 rfl) ?_
    refine dp rfl (pop_move rfl) ?_
    refine dn ?_
    refine hw_block ?_
    refine hw_loopw2 (4 :: 5 :: 6 :: 7 :: 13 :: 14 :: 15 :: 16 :: 17 :: 18 :: 19 :: 20 :: 21 :: 22 :: 23 :: 24 :: 25 :: 26 :: 27 :: 28 :: 29 :: 30 :: 31 :: 32 :: 33 :: 34 :: 35 :: 36 :: 37 :: 38 :: 39 :: 40 :: 41 :: 42 :: 43 :: 44 :: 45 :: 46 :: 47 :: 48 :: 49 :: 50 :: 51 :: 52 :: 53 :: 54 :: 55 :: 56 :: 57 :: 58 :: 59 :: 60 :: 61 :: 62 :: 63 :: 64 :: 65 :: 66 :: 67 :: 68 :: 69 :: 70 :: 71 :: []) (fun (k : Nat) (u : Value) => [(13, .int .i64 k), (5, .raw u)]) (fun (k : Nat) (u : Value) => [.arr u 1 (((l.take k).map (·.Player)).map .str)]) (fun (k : Nat) (u : Value) => k ≤ l.length ∧ (refKeeps r l = refKeepsGo r l k ((l.take k).map (·.Player)) (l.drop k))) (fun (k : Nat) (u : Value) => l.length - k) (0) (.slice none 0 0) ?_ ?_ ?_ ?_
    · refine ⟨Nat.zero_le _, ?_⟩
      rw [refKeeps, if_neg (by omega)]; rfl
    · exact ⟨rfl, rfl, trivial⟩
    · exact perm_eq (by simp)
    · intro k u hinv
      obtain ⟨hk, hg⟩ := hinv
      refine hw_reg ?_
      refine dp rfl (pop_lss rfl rfl) ?_
      refine dn ?_
      refine hw_seq ?_
      refine hw_cond rfl (fun h3 => ?_) (fun h4 => ?_)
      · try simp at h3
        obtain ⟨x, hx⟩ : ∃ x, l[k]? = some x := ⟨_, List.getElem?_eq_getElem h3⟩
        have hdx := drop_cons hx
        rw [hdx] at hg
        refine hw_skip ?_
        refine seqQ_n ?_
        refine hw_seq ?_
        refine hw_block ?_
        refine hw_reg ?_
        refine dp rfl (pop_move rfl) ?_
        refine dp rfl (pop_idx ty30 ty88 rfl rfl rfl (by first | assumption | simp_all)) ?_
        refine dp rfl (pop_loadw ty88 rfl rfl rfl rfl) ?_
        refine de rfl (eop_alloc ty88 rfl fun b7 => ?_)
        refine dp rfl (pop_assign rfl) ?_
        refine de0 (eop_storew ty88 rfl rfl rfl rfl rfl ?_)
        refine dn ?_
        refine hw_ghost (Ghost.fc0 7 rfl) ?_
        refine hw_seq ?_
        refine hw_block ?_
        refine hw_reg ?_
        refine dp rfl (pop_fieldAddr ty28 rfl ty26 (by decide) rfl) ?_
        refine dp rfl (pop_load ty26 rfl rfl rfl) ?_
        refine dp rfl (pop_fieldAddr ty88 rfl ty9 (by decide) rfl) ?_
        refine dp rfl (pop_load ty9 rfl rfl rfl) ?_
        refine dp rfl (pop_call ca53 rfl (WeakL.refl _) (c_slices_Contains_string_string (by first | assumption | omega | (simp; omega) | simp_all))) ?_
        refine dp rfl (pop_not rfl) ?_
        refine dp rfl (pop_move rfl) ?_
        refine dg rfl rfl (fun hc => ⟨_, OpenTo.refl _, pop_fieldAddr ty28 rfl ty26 (by decide) rfl⟩) ?_
        refine dg rfl rfl (fun hc => ⟨_, OpenTo.upd (t := 26) rfl (by first | exact hc | simp_all) (OpenTo.refl _), pop_load ty26 rfl rfl rfl⟩) ?_
        refine dg rfl rfl (fun hc => ⟨_, OpenTo.refl _, pop_fieldAddr ty88 rfl ty9 (by decide) rfl⟩) ?_
        refine dg rfl rfl (fun hc => ⟨_, OpenTo.upd (t := 28) rfl (by first | exact hc | simp_all) (OpenTo.refl _), pop_load ty9 rfl rfl rfl⟩) ?_
        refine dg rfl rfl (fun hc => by have hq := hc; (try simp at hq); exact ⟨_, OpenTo.upd (t := 29) rfl (by first | exact hc | simp_all) (OpenTo.upd (t := 27) rfl (by first | exact hc | simp_all) (OpenTo.refl _)), pop_call ca53 rfl (WeakL.refl _) (c_slices_Contains_string_string (by first | assumption | omega | (simp; omega) | simp_all))⟩) ?_
        refine dg rfl rfl (fun hc => ⟨_, OpenTo.upd (t := 30) rfl (by first | exact hc | simp_all) (OpenTo.refl _), pop_not rfl⟩) ?_
        refine dp rfl (pop_picko rfl (.inl rfl) (.inr ⟨_, rfl, fun h => by simp_all⟩)) ?_
        refine dp rfl (pop_assign rfl) ?_
        refine dn ?_
        refine hw_cond rfl (fun h5 => ?_) (fun h6 => ?_)
        · try simp at h5
          refine hw_reg ?_
          refine dp rfl (pop_assign rfl) ?_
          refine dn ?_
          refine hw_ret ?_
          first
          | (refine ret_p rfl ?_
             show HVal.int .i64 _ = _
             first | (rw [refKeeps, if_pos (by omega)]; done) | (rw [hg, refKeepsGo]; simp_all [isTwice]; done))
          | (refine ret_g Ghost.drop rfl ⟨?_, rfl⟩
             show HVal.int .i64 _ = _
             rw [hg, refKeepsGo]; simp_all; done)
        · try simp at h6
          refine hw_reg ?_
          refine dp rfl (pop_fieldAddr ty88 rfl ty3 (by decide) rfl) ?_
          refine dp rfl (pop_load ty3 rfl rfl rfl) ?_
          refine dp rfl (pop_fieldAddr ty28 rfl ty3 (by decide) rfl) ?_
          refine dp rfl (pop_load ty3 rfl rfl rfl) ?_
          refine dp rfl (pop_call ca51 rfl (WeakL.refl _) c_benchref1_in) ?_
          refine dp rfl (pop_not rfl) ?_
          refine dp rfl (pop_assign rfl) ?_
          refine dn ?_
          refine hw_cond rfl (fun h7 => ?_) (fun h8 => ?_)
          · try simp at h7
            refine hw_reg ?_
            refine dp rfl (pop_assign rfl) ?_
            refine dn ?_
            refine hw_ret ?_
            first
            | (refine ret_p rfl ?_
               show HVal.int .i64 _ = _
               first | (rw [refKeeps, if_pos (by omega)]; done) | (rw [hg, refKeepsGo]; simp_all [isTwice]; done))
            | (refine ret_g Ghost.drop rfl ⟨?_, rfl⟩
               show HVal.int .i64 _ = _
               rw [hg, refKeepsGo]; simp_all; done)
          · try simp at h8
            refine hw_draw (fun _ => True) [] mixed ?_
            refine ahp 0 rfl rfl (by kernel_rfl) (by kernel_rfl) (pop_move rfl) ?_
            refine ahp 1 rfl rfl (by kernel_rfl) (by kernel_rfl) (pop_gtr rfl rfl) ?_
            refine ahp 2 rfl rfl (by kernel_rfl) (by kernel_rfl) (pop_move rfl) ?_
            refine ahg 3 rfl rfl (by kernel_rfl) (by kernel_rfl) rfl (fun hc => ⟨_, OpenTo.refl _, pop_move rfl⟩) ?_
            refine ahg 4 rfl rfl (by kernel_rfl) (by kernel_rfl) rfl (fun hc => ⟨_, OpenTo.refl _, pop_move rfl⟩) ?_
            refine ahg 5 rfl rfl (by kernel_rfl) (by kernel_rfl) rfl (fun hc => by have hq := hc; (try simp at hq); exact ⟨_, OpenTo.upd (t := 45) rfl (by first | exact hc | simp_all) (OpenTo.refl _), pop_sub64 rfl rfl (by omega) (by omega)⟩) ?_
            refine ahg 6 rfl rfl (by kernel_rfl) (by kernel_rfl) rfl (fun hc => by have hq := hc; (try simp at hq); exact ⟨_, OpenTo.upd (t := 46) rfl (by first | exact hc | simp_all) (OpenTo.upd (t := 44) rfl (by first | exact hc | simp_all) (OpenTo.refl _)), pop_idx (j := k - 1) (a := l.getD (k - 1) keep0) ty30 ty88 rfl rfl (by omega) (getD_some (by omega))⟩) ?_
            refine ahg 7 rfl rfl (by kernel_rfl) (by kernel_rfl) rfl (fun hc => ⟨_, OpenTo.upd (t := 47) rfl (by first | exact hc | simp_all) (OpenTo.refl _), pop_fieldAddr ty88 rfl ty9 (by decide) rfl⟩) ?_
            refine ahg 8 rfl rfl (by kernel_rfl) (by kernel_rfl) rfl (fun hc => ⟨_, OpenTo.upd (t := 48) rfl (by first | exact hc | simp_all) (OpenTo.refl _), pop_load ty9 rfl rfl rfl⟩) ?_
            refine ahg 9 rfl rfl (by kernel_rfl) (by kernel_rfl) rfl (fun hc => ⟨_, OpenTo.refl _, pop_fieldAddr ty88 rfl ty9 (by decide) rfl⟩) ?_
            refine ahg 10 rfl rfl (by kernel_rfl) (by kernel_rfl) rfl (fun hc => ⟨_, OpenTo.upd (t := 50) rfl (by first | exact hc | simp_all) (OpenTo.refl _), pop_load ty9 rfl rfl rfl⟩) ?_
            refine ahg 11 rfl rfl (by kernel_rfl) (by kernel_rfl) rfl (fun hc => ⟨_, OpenTo.upd (t := 51) rfl (by first | exact hc | simp_all) (OpenTo.upd (t := 49) rfl (by first | exact hc | simp_all) (OpenTo.refl _)), pop_call ca136 rfl (WeakL.refl _) c_strings_Compare⟩) ?_
            refine ahg 12 rfl rfl (by kernel_rfl) (by kernel_rfl) rfl (fun hc => ⟨_, OpenTo.refl _, pop_move rfl⟩) ?_
            refine ahg 13 rfl rfl (by kernel_rfl) (by kernel_rfl) rfl (fun hc => ⟨_, OpenTo.refl _, pop_move rfl⟩) ?_
            refine ahg 14 rfl rfl (by kernel_rfl) (by kernel_rfl) rfl (fun hc => by have hq := hc; (try simp at hq); exact ⟨_, OpenTo.upd (t := 54) rfl (by first | exact hc | simp_all) (OpenTo.refl _), pop_sub64 rfl rfl (by omega) (by omega)⟩) ?_
            refine ahg 15 rfl rfl (by kernel_rfl) (by kernel_rfl) rfl (fun hc => by have hq := hc; (try simp at hq); exact ⟨_, OpenTo.upd (t := 55) rfl (by first | exact hc | simp_all) (OpenTo.upd (t := 53) rfl (by first | exact hc | simp_all) (OpenTo.refl _)), pop_idx (j := k - 1) (a := l.getD (k - 1) keep0) ty30 ty88 rfl rfl (by omega) (getD_some (by omega))⟩) ?_
            refine ahg 16 rfl rfl (by kernel_rfl) (by kernel_rfl) rfl (fun hc => ⟨_, OpenTo.upd (t := 56) rfl (by first | exact hc | simp_all) (OpenTo.refl _), pop_fieldAddr ty88 rfl ty3 (by decide) rfl⟩) ?_
            refine ahg 17 rfl rfl (by kernel_rfl) (by kernel_rfl) rfl (fun hc => ⟨_, OpenTo.upd (t := 57) rfl (by first | exact hc | simp_all) (OpenTo.refl _), pop_load ty3 rfl rfl rfl⟩) ?_
            refine ahg 18 rfl rfl (by kernel_rfl) (by kernel_rfl) rfl (fun hc => ⟨_, OpenTo.refl _, pop_fieldAddr ty88 rfl ty3 (by decide) rfl⟩) ?_
            refine ahg 19 rfl rfl (by kernel_rfl) (by kernel_rfl) rfl (fun hc => ⟨_, OpenTo.upd (t := 59) rfl (by first | exact hc | simp_all) (OpenTo.refl _), pop_load ty3 rfl rfl rfl⟩) ?_
            refine ahg 20 rfl rfl (by kernel_rfl) (by kernel_rfl) rfl (fun hc => ⟨_, OpenTo.upd (t := 60) rfl (by first | exact hc | simp_all) (OpenTo.upd (t := 58) rfl (by first | exact hc | simp_all) (OpenTo.refl _)), pop_call ca87 rfl (WeakL.refl _) c_cmp_Compare_int⟩) ?_
            refine ahg 21 rfl rfl (by kernel_rfl) (by kernel_rfl) rfl (fun hc => ⟨_, OpenTo.upd (t := 61) rfl (by first | exact hc | simp_all) (OpenTo.upd (t := 52) rfl (by first | exact hc | simp_all) (OpenTo.refl _)), pop_buildSlice (hs := [_, _]) ty22 ty3 rfl rfl (by decide) (by decide) rfl⟩) ?_
            refine ahg 22 rfl rfl (by kernel_rfl) (by kernel_rfl) rfl (fun hc => ⟨_, OpenTo.upd (t := 62) rfl (by first | exact hc | simp_all) (OpenTo.refl _), pop_call ca135 rfl (WeakL.refl _) (c_cmp_Or_int (l := [_, _]) (by simp))⟩) ?_
            refine ahg 23 rfl rfl (by kernel_rfl) (by kernel_rfl) rfl (fun hc => ⟨_, OpenTo.upd (t := 63) rfl (by first | exact hc | simp_all) (OpenTo.refl _), pop_geq rfl rfl⟩) ?_
            refine ahp 24 rfl rfl (by kernel_rfl) (by kernel_rfl) (pop_picko rfl (.inr ⟨_, rfl, fun h => by simp_all⟩) (.inl rfl)) ?_
            refine ahp 25 rfl rfl (by kernel_rfl) (by kernel_rfl) (pop_assign rfl) ?_
            refine ahz (by kernel_rfl) ?_
            refine hw_cond rfl (fun h9 => ?_) (fun h10 => ?_)
            · rw [ord_si] at h9
              try simp at h9
              refine hw_reg ?_
              refine dp rfl (pop_assign rfl) ?_
              refine dn ?_
              refine hw_ret ?_
              first
              | (refine ret_p rfl ?_
                 show HVal.int .i64 _ = _
                 first | (rw [refKeeps, if_pos (by omega)]; done) | (rw [hg, refKeepsGo]; simp_all [isTwice]; done))
              | (refine ret_g Ghost.drop rfl ⟨?_, rfl⟩
                 show HVal.int .i64 _ = _
                 rw [hg, refKeepsGo]; simp_all; done)
            · rw [ord_si] at h10
              try simp at h10
              refine hw_skip ?_
              refine blockQ_n ?_
              refine seqQ_n ?_
              refine hw_reg1 ?_
              refine dp rfl (pop_move rfl) ?_
              refine dp rfl (pop_fieldAddr ty88 rfl ty9 (by decide) rfl) ?_
              refine dp rfl (pop_load ty9 rfl rfl rfl) ?_
              refine dp rfl (pop_buildSlice (hs := [_]) ty26 ty9 rfl rfl (by decide) (by decide) rfl) ?_
              refine de rfl (eop_append (i := 0) ty26 ty9 rfl rfl rfl rfl rfl (by simp [flat, hcells]) (by first | omega | (simp; omega)) fun v70 => ?_)
              refine dp rfl (pop_assign rfl) ?_
              refine dn ?_
              refine blockQ_n ?_
              refine seqQ_n ?_
              refine hw_reg1 ?_
              refine dp rfl (pop_add64 rfl rfl (by omega) (by omega)) ?_
              refine dp rfl (pop_move rfl) ?_
              refine dn ?_
              refine ⟨k + 1, _, ?_, ?_, ⟨rfl, rfl, trivial⟩, (by repeat (first | exact keeps_refl | refine keeps_upd rfl ?_ | refine keeps_loop rfl rfl ?_)), perm_eq (by simp [List.take_add_one, hx])⟩
              · refine ⟨by omega, ?_⟩
                rw [hg, refKeepsGo, take_map_snoc _ hx]; simp_all
                try (intro h1 h2; have := h10 h1; omega)
              · dsimp only; omega
      · try simp at h4
        have hnk : l.length ≤ k := by omega
        obtain rfl : k = l.length := by omega
        rw [drop_all (Nat.le_refl _), List.take_length] at hg
        rw [List.take_length]
        refine hw_exit ?_
        refine seqQ_x ?_
        refine loopQ2_x ?_
        refine blockQ_eq ?_
        refine seqQ_n ?_
        refine hw_seq ?_
        refine hw_ghost (Ghost.fa0 5 rfl) ?_
        refine hw_reg ?_
        refine dp rfl (pop_move rfl) ?_
        refine dp rfl (pop_call ca163 rfl (WeakL.refl _) (c_benchref1_twice (l := l.map (·.Player)) (by simpa using hl))) ?_
        refine dn ?_
        refine hw_cond rfl (fun h11 => ?_) (fun h12 => ?_)
        · try simp at h11
          refine hw_reg ?_
          refine dp rfl (pop_assign rfl) ?_
          refine dn ?_
          refine hw_ret ?_
          first
          | (refine ret_p rfl ?_
             show HVal.int .i64 _ = _
             first | (rw [refKeeps, if_pos (by omega)]; done) | (rw [hg, refKeepsGo]; simp_all [isTwice]; done))
          | (refine ret_g Ghost.drop rfl ⟨?_, rfl⟩
             show HVal.int .i64 _ = _
             rw [hg, refKeepsGo]; simp_all; done)
        · try simp at h12
          refine hw_skip ?_
          refine seqQ_n ?_
          refine hw_reg ?_
          refine dp rfl (pop_assign rfl) ?_
          refine dn ?_
          refine hw_ret ?_
          first
          | (refine ret_p rfl ?_
             show HVal.int .i64 _ = _
             first | (rw [refKeeps, if_pos (by omega)]; done) | (rw [hg, refKeepsGo]; simp_all [isTwice]; done))
          | (refine ret_g Ghost.drop rfl ⟨?_, rfl⟩
             show HVal.int .i64 _ = _
             rw [hg, refKeepsGo]; simp_all; done)

/-- benchwarmer/benchref1.DraftFault -/
theorem c_benchref1_DraftFault {r : Room} {k : List Keep} {s : List Swap} (ht : r.Teams.length ≤ 1000000) (hp : r.Players.length ≤ 1000000) (hs1 : ∀ s ∈ r.Teams, s.length ≤ 1000000) (hs2 : ∀ s ∈ r.Players, s.length ≤ 1000000) (hk0 : k.length ≤ 1000000) (hl : s.length ≤ 1000000) : ConP Tryz.prog 92 [eRoom r, eKeeps k, eSwaps s] (.int .i64 (draftFault r k s)) := by
  refine Con.of_body Tryz.func92 rfl Tryz.ntmps92 rfl rfl ?_
  refine hw_reg ?_
  refine dp rfl (pop_box rfl rfl) ?_
  refine dp rfl (pop_assign rfl) ?_
  refine dn ?_
  refine hw_seq ?_
  refine hw_reg ?_
  refine dp rfl (pop_loadw ty28 rfl rfl rfl rfl) ?_
  refine dp rfl (pop_call ca12 rfl (WeakL.refl _) (c_benchref1_RoomFault (by first | assumption | omega | (simp; omega) | simp_all) (by first | assumption | omega | (simp; omega) | simp_all) (by first | assumption | omega | (simp; omega) | simp_all) (by first | assumption | omega | (simp; omega) | simp_all))) ?_
  refine dp rfl (pop_assign rfl) ?_
  refine dn ?_
  refine hw_reg ?_
  refine dp rfl (pop_move rfl) ?_
  refine dp rfl (pop_neq rfl rfl) ?_
  refine dn ?_
  refine hw_cond rfl (fun h1 => ?_) (fun h2 => ?_)
  · try simp at h1
    refine hw_reg ?_
    refine dp rfl (pop_move rfl) ?_
    refine dp rfl (pop_assign rfl) ?_
    refine dn ?_
    refine hw_ret ?_
    refine ret_p rfl ?_
    show HVal.int .i64 _ = _
    simp_all [draftFault]
  · try simp at h2
    refine hw_skip ?_
    refine seqQ_n ?_
    refine hw_draw (fun _ => True) [] mixed ?_
    refine ahp 0 rfl rfl (by kernel_rfl) (by kernel_rfl) (pop_loadw ty28 rfl rfl rfl rfl) ?_
    refine ahp 1 rfl rfl (by kernel_rfl) (by kernel_rfl) (pop_move rfl) ?_
    refine ahp 2 rfl rfl (by kernel_rfl) (by kernel_rfl) (pop_call ca128 rfl (WeakL.refl _) (c_benchref1_KeepsFault (by first | assumption | omega | (simp; omega) | simp_all) (by first | assumption | omega | (simp; omega) | simp_all) (by first | assumption | omega | (simp; omega) | simp_all))) ?_
    refine ahp 3 rfl rfl (by kernel_rfl) (by kernel_rfl) (pop_loadw ty28 rfl rfl rfl rfl) ?_
    refine ahp 4 rfl rfl (by kernel_rfl) (by kernel_rfl) (pop_move rfl) ?_
    refine ahp 5 rfl rfl (by kernel_rfl) (by kernel_rfl) (pop_call ca129 rfl (WeakL.refl _) (c_benchref1_SwapsFault (by first | assumption | omega | (simp; omega) | simp_all) (by first | assumption | omega | (simp; omega) | simp_all) (by first | assumption | omega | (simp; omega) | simp_all))) ?_
    refine ahp 6 rfl rfl (by kernel_rfl) (by kernel_rfl) (pop_buildSlice (hs := [_, _]) ty103 ty40 rfl rfl (by decide) (by decide) rfl) ?_
    refine ahp 7 rfl rfl (by kernel_rfl) (by kernel_rfl) (pop_call ca14 rfl (WeakL.refl _) (c_cmp_Or_api_Errno (l := [_, _]) (by simp))) ?_
    refine ahp 8 rfl rfl (by kernel_rfl) (by kernel_rfl) (pop_assign rfl) ?_
    refine ahz (by kernel_rfl) ?_
    refine hw_ret ?_
    refine ret_p rfl ?_
    show HVal.int .i64 _ = _
    simp_all [draftFault]

/-- benchwarmer/benchref1.OpenFault -/
theorem c_benchref1_OpenFault {r : Room} {k : List Keep} {s : List Swap} (ht : r.Teams.length ≤ 1000000) (hp : r.Players.length ≤ 1000000) (hs1 : ∀ s ∈ r.Teams, s.length ≤ 1000000) (hs2 : ∀ s ∈ r.Players, s.length ≤ 1000000) (hk0 : k.length ≤ 1000000) (hl : s.length ≤ 1000000) : ConP Tryz.prog 49 [eRoom r, eKeeps k, eSwaps s] (.int .i64 (refOpenFault r k s)) := by
  refine Con.of_body Tryz.func49 rfl Tryz.ntmps49 rfl rfl ?_
  refine hw_reg ?_
  refine dp rfl (pop_box rfl rfl) ?_
  refine dp rfl (pop_assign rfl) ?_
  refine dn ?_
  refine hw_seq ?_
  refine hw_reg ?_
  refine dp rfl (pop_loadw ty28 rfl rfl rfl rfl) ?_
  refine dp rfl (pop_move rfl) ?_
  refine dp rfl (pop_move rfl) ?_
  refine dp rfl (pop_call ca92 rfl (WeakL.refl _) (c_benchref1_DraftFault (by first | assumption | omega | (simp; omega) | simp_all) (by first | assumption | omega | (simp; omega) | simp_all) (by first | assumption | omega | (simp; omega) | simp_all) (by first | assumption | omega | (simp; omega) | simp_all) (by first | assumption | omega | (simp; omega) | simp_all) (by first | assumption | omega | (simp; omega) | simp_all))) ?_
  refine dp rfl (pop_assign rfl) ?_
  refine dn ?_
  refine hw_reg ?_
  refine dp rfl (pop_move rfl) ?_
  refine dp rfl (pop_neq rfl rfl) ?_
  refine dn ?_
  refine hw_cond rfl (fun h1 => ?_) (fun h2 => ?_)
  · try simp at h1
    refine hw_reg ?_
    refine dp rfl (pop_move rfl) ?_
    refine dp rfl (pop_assign rfl) ?_
    refine dn ?_
    refine hw_ret ?_
    refine ret_p rfl ?_
    show HVal.int .i64 _ = _
    first | (rw [refOpenFault, if_pos (by simp_all)]; done) | (rw [hg, clashGo]; simp_all [clash]; done) | (rw [hg]; rfl)
  · try simp at h2
    refine hw_skip ?_
    refine seqQ_n ?_
    refine hw_seq ?_
    refine hw_reg ?_
    refine dp rfl (pop_move rfl) ?_
    refine dp rfl (pop_lenm ty30 rfl) ?_
    refine dp rfl (pop_move rfl) ?_
    refine dn ?_
    refine hw_block ?_
    refine hw_loopw [6, 9, 10, 11, 21, 22, 23, 24, 25, 26, 27, 28, 29, 30, 31, 32, 33, 34, 35] (fun (i : Nat) => [(21, .int .i64 i)]) (fun (i : Nat) => []) (fun (i : Nat) => i ≤ k.length ∧ (refOpenFault r k s = clashGo s (k.drop i))) (fun (i : Nat) => k.length - i) (0) ?_ ?_ ?_ ?_
    · refine ⟨Nat.zero_le _, ?_⟩
      rw [refOpenFault, if_neg (by simp_all)]; rfl
    · exact ⟨rfl, trivial⟩
    · exact List.Perm.refl _
    · intro i hinv
      obtain ⟨hi, hg⟩ := hinv
      refine hw_reg ?_
      refine dp rfl (pop_lss rfl rfl) ?_
      refine dn ?_
      refine hw_seq ?_
      refine hw_cond rfl (fun h3 => ?_) (fun h4 => ?_)
      · try simp at h3
        obtain ⟨x, hx⟩ : ∃ x, k[i]? = some x := ⟨_, List.getElem?_eq_getElem h3⟩
        have hdx := drop_cons hx
        rw [hdx] at hg
        refine hw_skip ?_
        refine seqQ_n ?_
        refine hw_seq ?_
        refine hw_block ?_
        refine hw_reg ?_
        refine dp rfl (pop_idx ty30 ty88 rfl rfl rfl (by first | assumption | simp_all)) ?_
        refine dp rfl (pop_loadw ty88 rfl rfl rfl rfl) ?_
        refine de rfl (eop_alloc ty88 rfl fun b9 => ?_)
        refine de0 (eop_storew ty88 rfl rfl rfl rfl rfl ?_)
        refine dn ?_
        refine hw_ghost (Ghost.fc0 9 rfl) ?_
        refine hw_reg ?_
        refine dp rfl (pop_move rfl) ?_
        refine dp rfl (pop_fieldAddr ty88 rfl ty3 (by decide) rfl) ?_
        refine dp rfl (pop_load ty3 rfl rfl rfl) ?_
        refine dp rfl (pop_fieldAddr ty88 rfl ty9 (by decide) rfl) ?_
        refine dp rfl (pop_load ty9 rfl rfl rfl) ?_
        refine dp rfl (pop_call ca93 rfl (WeakL.refl _) (c_benchref1_swapped (by first | assumption | omega | (simp; omega) | simp_all))) ?_
        refine dp rfl (pop_move rfl) ?_
        refine dp rfl (pop_extract rfl rfl) ?_
        refine dp rfl (pop_extract rfl rfl) ?_
        refine dp rfl (pop_assign rfl) ?_
        refine dp rfl (pop_assign rfl) ?_
        refine dn ?_
        refine hw_reg ?_
        refine dp rfl (pop_move rfl) ?_
        refine dn ?_
        refine hw_cond rfl (fun h5 => ?_) (fun h6 => ?_)
        · try simp at h5
          refine hw_reg ?_
          refine dp rfl (pop_assign rfl) ?_
          refine dn ?_
          refine hw_ret ?_
          refine ret_p rfl ?_
          show HVal.int .i64 _ = _
          first | (rw [refOpenFault, if_pos (by simp_all)]; done) | (rw [hg, clashGo]; simp_all [clash]; done) | (rw [hg]; rfl)
        · try simp at h6
          refine hw_skip ?_
          refine blockQ_n ?_
          refine seqQ_n ?_
          refine hw_reg1 ?_
          refine dp rfl (pop_add64 rfl rfl (by omega) (by omega)) ?_
          refine dp rfl (pop_move rfl) ?_
          refine dn ?_
          refine ⟨i + 1, ?_, ?_, ⟨rfl, trivial⟩, (by repeat (first | exact keeps_refl | refine keeps_upd rfl ?_ | refine keeps_loop rfl rfl ?_)), List.Perm.refl _⟩
          · refine ⟨by omega, ?_⟩
            rw [hg, clashGo]; simp_all [clash]
          · dsimp only; omega
      · try simp at h4
        have hni : k.length ≤ i := by omega
        obtain rfl : i = k.length := by omega
        rw [drop_all (Nat.le_refl _)] at hg
        refine hw_exit ?_
        refine seqQ_x ?_
        refine loopQ_x ?_
        refine blockQ_eq ?_
        refine seqQ_n ?_
        refine hw_reg ?_
        refine dp rfl (pop_assign rfl) ?_
        refine dn ?_
        refine hw_ret ?_
        refine ret_p rfl ?_
        show HVal.int .i64 _ = _
        first | (rw [refOpenFault, if_pos (by simp_all)]; done) | (rw [hg, clashGo]; simp_all [clash]; done) | (rw [hg]; rfl)

/-- benchwarmer/benchref1.TurnsFor -/
theorem c_benchref1_TurnsFor {r : Room} {s : List Swap} (ht0 : 0 < r.Teams.length) (ht : r.Teams.length ≤ 20) (hr0 : 1 ≤ r.Rounds) (hr : r.Rounds ≤ 30) (hl : s.length ≤ 1000000) : ConP Tryz.prog 113 [eRoom r, eSwaps s] (eSs ((turns r s).map (·.team))) := by
  have ho := ownFrom_len r r.Rounds.toNat
  have hm := Nat.mul_le_mul (show r.Rounds.toNat ≤ 30 by omega) ht
  have ho6 : (ownTurns r).length ≤ 600 := by unfold ownTurns; omega
  refine Con.of_body Tryz.func113 rfl Tryz.ntmps113 rfl rfl ?_
  refine hw_reg ?_
  refine dp rfl (pop_box rfl rfl) ?_
  refine dp rfl (pop_assign rfl) ?_
  refine dn ?_
  refine hw_reg ?_
  refine dp rfl (pop_assign rfl) ?_
  refine dn ?_
  refine hw_ghost (Ghost.arr_nil 1) ?_
  refine hw_seq ?_
  refine hw_reg ?_
  refine dp rfl (pop_loadw ty28 rfl rfl rfl rfl) ?_
  refine dp rfl (pop_call ca112 rfl (WeakL.refl _) (c_benchref1_ownTurns (by first | assumption | omega | (simp; omega) | simp_all) (by first | assumption | omega | (simp; omega) | simp_all) (by first | assumption | omega | (simp; omega) | simp_all))) ?_
  refine dp rfl (pop_lenm ty26 rfl) ?_
  refine dp rfl (pop_move rfl) ?_
  refine dn ?_
  refine hw_block ?_
  refine hw_loopw2 [5, 6, 7, 8, 9, 13, 14, 15, 16, 17, 18, 19, 20, 21, 22, 23, 24, 25, 26, 27, 28, 29, 30, 31, 32, 33, 34] (fun (k : Nat) (u : Value) => [(13, .int .i64 k), (5, .raw u)]) (fun (k : Nat) (u : Value) => [.arr u 1 ((((tfor r s 0 (ownTurns r)).take k).map (·.team)).map .str)]) (fun (k : Nat) (u : Value) => k ≤ (ownTurns r).length ∧ (True)) (fun (k : Nat) (u : Value) => (ownTurns r).length - k) (0) (.slice none 0 0) ?_ ?_ ?_ ?_
  · exact ⟨Nat.zero_le _, by simp_all⟩
  · exact ⟨rfl, rfl, trivial⟩
  · exact perm_eq (by simp)
  · intro k u hinv
    obtain ⟨hk, -⟩ := hinv
    refine hw_reg ?_
    refine dp rfl (pop_lss rfl rfl) ?_
    refine dn ?_
    refine hw_seq ?_
    refine hw_cond rfl (fun h1 => ?_) (fun h2 => ?_)
    · try simp at h1
      obtain ⟨x, hx⟩ : ∃ x, (ownTurns r)[k]? = some x := ⟨_, List.getElem?_eq_getElem h1⟩
      have hdx := drop_cons hx
      refine hw_skip ?_
      refine seqQ_n ?_
      refine hw_seq ?_
      refine hw_block ?_
      refine hw_reg ?_
      refine dp rfl (pop_move rfl) ?_
      refine dp rfl (pop_idx ty26 ty9 rfl rfl rfl (by first | assumption | simp_all)) ?_
      refine dp rfl (pop_load ty9 rfl rfl rfl) ?_
      refine dp rfl (pop_assign rfl) ?_
      refine dp rfl (pop_assign rfl) ?_
      refine dn ?_
      refine hw_reg ?_
      refine dp rfl (pop_move rfl) ?_
      refine dp rfl (pop_move rfl) ?_
      refine dp rfl (pop_fieldAddr ty28 rfl ty26 (by decide) rfl) ?_
      refine dp rfl (pop_load ty26 rfl rfl rfl) ?_
      refine dp rfl (pop_lenm ty26 rfl) ?_
      refine dp rfl (pop_eq (pop_quo64 rfl rfl (by omega) (by omega) (by omega)) (congrArg _ (tdiv_nat _ _))) ?_
      have hdl := Nat.div_le_self k r.Teams.length
      have hdn : (0:Int) ≤ ((k / r.Teams.length : Nat) : Int) := Int.natCast_nonneg _
      refine dp rfl (pop_add64 rfl rfl (by omega) (by omega)) ?_
      refine dp rfl (pop_move rfl) ?_
      refine dp rfl (pop_call ca93 rfl (WeakL.refl _) (c_benchref1_swapped (by first | assumption | omega | (simp; omega) | simp_all))) ?_
      refine dp rfl (pop_move rfl) ?_
      refine dp rfl (pop_extract rfl rfl) ?_
      refine dp rfl (pop_extract rfl rfl) ?_
      refine dp rfl (pop_assign rfl) ?_
      refine dp rfl (pop_assign rfl) ?_
      refine dn ?_
      refine hw_reg1 ?_
      refine dp rfl (pop_move rfl) ?_
      refine dp rfl (pop_move rfl) ?_
      refine dp rfl (pop_buildSlice (hs := [_]) ty26 ty9 rfl rfl (by decide) (by decide) rfl) ?_
      refine de rfl (eop_append (i := 0) ty26 ty9 rfl rfl rfl rfl rfl (by simp [flat, hcells]) (by first | omega | (simp; omega)) fun v33 => ?_)
      refine dp rfl (pop_assign rfl) ?_
      refine dn ?_
      refine blockQ_n ?_
      refine seqQ_n ?_
      refine hw_reg1 ?_
      refine dp rfl (pop_add64 rfl rfl (by omega) (by omega)) ?_
      refine dp rfl (pop_move rfl) ?_
      refine dn ?_
      refine ⟨k + 1, _, ?_, ?_, ⟨rfl, rfl, trivial⟩, (by repeat (first | exact keeps_refl | refine keeps_upd rfl ?_ | refine keeps_loop rfl rfl ?_)), perm_eq (by dsimp only; rw [take_map_snoc _ (tfor_get r s _ 0 k x hx)]; simp)⟩
      · exact ⟨by omega, trivial⟩
      · dsimp only; omega
    · try simp at h2
      have hnk : (ownTurns r).length ≤ k := by omega
      obtain rfl : k = (ownTurns r).length := by omega
      refine hw_exit ?_
      refine seqQ_x ?_
      refine loopQ2_x ?_
      refine blockQ_eq ?_
      refine seqQ_n ?_
      refine hw_reg ?_
      refine dp rfl (pop_move rfl) ?_
      refine dp rfl (pop_assign rfl) ?_
      refine dn ?_
      refine hw_ret ?_
      refine ret_fa (M := []) 4 rfl rfl ?_
      rw [← ref_turns, ← tfor_len r s 0 (ownTurns r), List.take_length]

end Go.Proofs.YtoomadfbldcioaaGreatDoor
end
section
namespace Go.HL
open Op (bytesLess)
/-- A list without the elements that equal the one before (p ahead of the first). -/
def uniqP (p : Option Str) : List Str → List Str
  | [] => []
  | x :: r => if p = some x then uniqP (some x) r else x :: uniqP (some x) r
theorem uniqP_snoc (x : Str) : ∀ (l : List Str) (p : Option Str), uniqP p (l ++ [x]) = uniqP p l ++ if (l.getLast?.or p) = some x then [] else [x]
  | [], p => by
    by_cases h : p = some x
    · simp only [List.nil_append, uniqP]
      rw [if_pos h, if_pos (by simpa using h)]
    · simp only [List.nil_append, uniqP]
      rw [if_neg h, if_neg (by simpa using h)]
  | y :: l, p => by
    have ih := uniqP_snoc x l (some y)
    have e : (y :: l).getLast?.or p = l.getLast?.or (some y) := by
      cases l with
      | nil => simp
      | cons z r => simp [List.getLast?_cons_cons]; rw [List.getLast?_eq_some_getLast (by simp)]; simp
    rw [e]
    simp only [List.cons_append, uniqP, ih]
    split <;> simp
theorem compactUpTo_uniq (l : List Str) : ∀ m, m ≤ l.length → Lib.compactUpTo l.toArray m = uniqP none (l.take m)
  | 0, _ => by simp [Lib.compactUpTo, uniqP]
  | m + 1, h => by
    have hm : m < l.length := by omega
    have hx := List.getElem?_eq_getElem hm
    rw [Lib.compactUpTo_succ, compactUpTo_uniq l m (by omega), take_snoc' hx, uniqP_snoc]
    congr 1
    have e1 : l.toArray[m]! = l[m] := by simp [getElem!_pos, hm]
    rw [e1]
    cases m with
    | zero => simp [Lib.keeps]
    | succ m =>
      have hl : (l.take (m + 1)).getLast? = some l[m] := by
        rw [take_snoc' (List.getElem?_eq_getElem (show m < l.length by omega)), List.getLast?_append]; rfl
      have e2 : l.toArray[m]! = l[m] := by simp [getElem!_pos, show m < l.length by omega]
      rw [hl]
      simp only [Lib.keeps, e1, Nat.add_sub_cancel, e2]
      by_cases hh : l[m] = l[m + 1]
      · simp [hh]
      · have hh' : ¬ l[m + 1] = l[m] := fun h => hh h.symm
        simp [hh, hh']
theorem compact_uniq (l : List Str) : Lib.compact l = uniqP none l := by
  unfold Lib.compact
  rw [compactUpTo_uniq l _ (Nat.le_refl _), List.take_length]
theorem uniqP_le : ∀ (l : List Str) (p : Option Str), (uniqP p l).length ≤ l.length
  | [], _ => Nat.le_refl _
  | x :: r, p => by
    have := uniqP_le r (some x)
    simp only [uniqP]; split <;> simp <;> omega
theorem uniqP_nodup : ∀ (l : List Str) (p : Str), (p :: l).Pairwise (fun x y => x ≤ y) → ((uniqP (some p) l).length = l.length ↔ (p :: l).Nodup)
  | [], p, _ => by simp [uniqP]
  | x :: r, p, h => by
    have h1 := List.pairwise_cons.1 h
    have ih := uniqP_nodup r x h1.2
    have hle := uniqP_le r (some x)
    simp only [uniqP]
    by_cases hp : p = x
    · subst hp
      simp; omega
    · rw [if_neg (by simpa using hp)]
      simp only [List.length_cons, Nat.add_right_cancel_iff, ih]
      constructor
      · intro hn
        refine List.nodup_cons.2 ⟨fun hm => ?_, hn⟩
        rcases List.mem_cons.1 hm with h2 | h2
        · exact hp h2
        · have a1 := h1.1 x (by simp)
          have a2 := (List.pairwise_cons.1 h1.2).1 p h2
          exact hp (List.le_antisymm a1 a2)
      · intro hn; exact (List.nodup_cons.1 hn).2
theorem sortS_sorted (l : List Str) : (sortS l).Pairwise (fun x y => x ≤ y) := by
  have := List.pairwise_mergeSort (le := fun x y : Str => decide (x ≤ y)) (fun a b c h1 h2 => by
    simp only [decide_eq_true_eq] at *; exact List.le_trans h1 h2) (fun a b => by
    simp only [Bool.or_eq_true, decide_eq_true_eq]; exact List.le_total a b) l
  exact this.imp (fun h => by simpa using h)
theorem isTwice_eq (l : List Str) : isTwice l = !decide l.Nodup := by
  unfold isTwice
  rw [compact_uniq]
  have hp : (sortS l).Perm l := List.mergeSort_perm _ _
  have hs := sortS_sorted l
  rw [Bool.eq_iff_iff]
  simp only [decide_eq_true_eq, Bool.not_eq_true', decide_eq_false_iff_not]
  rw [← sortS_len l, ← hp.nodup_iff]
  revert hs
  generalize sortS l = s
  intro hs
  cases s with
  | nil => simp [uniqP]
  | cons x r =>
    have := uniqP_nodup r x hs
    have hle := uniqP_le r (some x)
    simp only [uniqP, reduceCtorEq, if_false, List.length_cons]
    rw [← this]; omega
theorem sadd_mem (s t : Str) (l : List Str) : t ∈ sadd s l ↔ t = s ∨ t ∈ l := by
  unfold sadd
  split
  · rename_i h
    simp only [List.contains_iff_mem] at h
    constructor
    · exact .inr
    · rintro (rfl | h')
      · exact h
      · exact h'
  · simp [or_comm]
theorem keepsGo_ref (r : Room) (l : List Keep) : ∀ (t : List Keep) (k : Nat) (kept who : List Str) (tw : Bool), (∀ s, s ∈ kept ↔ s ∈ who) → tw = !decide who.Nodup → keepsGo r l k kept tw t = refKeepsGo r l k who t
  | [], k, kept, who, tw, h1, h2 => by simp [keepsGo, refKeepsGo, isTwice_eq, h2]
  | x :: t, k, kept, who, tw, h1, h2 => by
    simp only [keepsGo, refKeepsGo]
    rw [keepsGo_ref r l t (k + 1) (sadd x.Player kept) (who ++ [x.Player]) (tw || kept.contains x.Player)]
    · intro s; rw [sadd_mem, h1]; simp [or_comm]
    · rw [h2]
      have : kept.contains x.Player = who.contains x.Player := by
        rw [Bool.eq_iff_iff]; simp only [List.contains_iff_mem]; exact h1 _
      rw [this, Bool.eq_iff_iff]
      simp only [Bool.or_eq_true, Bool.not_eq_true', decide_eq_false_iff_not, List.contains_iff_mem, List.nodup_append]
      constructor
      · rintro (h | h) hn
        · exact h hn.1
        · exact hn.2.2 _ h _ (by simp) rfl
      · intro h
        by_cases hm : x.Player ∈ who
        · exact .inr hm
        · refine .inl fun hn => h ⟨hn, by simp, fun a ha b hb => ?_⟩
          simp at hb; subst hb
          exact fun e => hm (e ▸ ha)
theorem checkKeeps_ref (r : Room) (l : List Keep) : checkKeeps r l = if checkRoom r != 0 then checkRoom r else refKeeps r l := by
  unfold checkKeeps refKeeps
  rw [keepsGo_ref r l l 0 [] [] false (fun _ => Iff.rfl) (by simp)]
theorem checkSwaps_ref (r : Room) (l : List Swap) : checkSwaps r l = if checkRoom r != 0 then checkRoom r else refSwaps r l := rfl
theorem openFault_ref (r : Room) (k : List Keep) (s : List Swap) : refOpenFault r k s = openFault r k s := by
  unfold refOpenFault openFault draftFault
  rw [checkKeeps_ref, checkSwaps_ref]
  by_cases h : checkRoom r = 0
  · simp [h]
  · have : (checkRoom r != 0) = true := by simpa using h
    simp only [this, if_true]
    simp [orI, h]
end Go.HL
end
section
namespace Go.HL
def Sh (s : Str) : Prop := s.length ≤ 1000000
structure GoodKeeps (k : List Keep) : Prop where
  len : k.length ≤ 20
  str : ∀ x ∈ k, Sh x.Team ∧ Sh x.Player
structure GoodSwaps (k : List Swap) : Prop where
  len : k.length ≤ 20
  str : ∀ x ∈ k, Sh x.Of ∧ Sh x.Team
/-- The state of KeepList's loops. -/
structure KLs where
  u : Value
  out : List Keep
  lv : Value
  left : List Str
  a : Nat
structure KLok (n a : Nat) (q : KLs) : Prop where
  out : q.out.length ≤ n
  left : q.left.length ≤ 20
  ls : ∀ s ∈ q.left, Sh s
  os : ∀ x ∈ q.out, Sh x.Team ∧ Sh x.Player
  a : q.a ≤ a + 2 * n
theorem mem_uniqP : ∀ (l : List Str) (p : Option Str) (s : Str), s ∈ uniqP p l → s ∈ l
  | [], _, s, h => by simp [uniqP] at h
  | x :: r, p, s, h => by
    simp only [uniqP] at h
    split at h
    · exact List.mem_cons_of_mem _ (mem_uniqP r _ s h)
    · rcases List.mem_cons.1 h with h | h
      · subst h; simp
      · exact List.mem_cons_of_mem _ (mem_uniqP r _ s h)
theorem mem_cs {l : List Str} {s : Str} (h : s ∈ Lib.compact (sortS l)) : s ∈ l := by
  rw [compact_uniq] at h
  have := mem_uniqP _ _ _ h
  exact (List.mergeSort_perm _ _).mem_iff.1 this
theorem mem_compact {l : List Str} {s : Str} (h : s ∈ Lib.compact l) : s ∈ l := by
  rw [compact_uniq] at h
  exact mem_uniqP _ _ _ h
theorem cs_len (l : List Str) : (Lib.compact (sortS l)).length ≤ l.length := by
  have := compact_le (sortS l); rw [sortS_len] at this; exact this
theorem KLok.more {n a : Nat} {u lv : Value} {out : List Keep} {left : List Str} {a1 a2 : Nat} (h : KLok n a ⟨u, out, lv, left, a1⟩) (h1 : a2 ≤ a1 + 2) : KLok (n + 1) a ⟨u, out, lv, left, a2⟩ :=
  ⟨by have := h.out; dsimp only at *; omega, h.left, h.ls, h.os, by have := h.a; dsimp only at *; omega⟩
theorem KLok.add {n a : Nat} {u u' lv lv' : Value} {out : List Keep} {left : List Str} {a1 a2 k : Nat} {t p : Str} {rd : Int} (h : KLok n a ⟨u, out, lv, left, a1⟩) (h1 : a2 ≤ a1 + 2) (ht : Sh t) (hp : left[k]? = some p) :
    KLok (n + 1) a ⟨u', out ++ [⟨t, p, rd⟩], lv', left.eraseIdx k, a2⟩ :=
  ⟨by have := h.out; simp at *; omega, by have := h.left; have := List.length_eraseIdx_le left k; dsimp only at *; omega, fun s hs => h.ls s (List.mem_of_mem_eraseIdx hs), fun x hx => by
    rcases List.mem_append.1 hx with hx | hx
    · exact h.os x hx
    · simp at hx; subst hx; exact ⟨ht, h.ls p (List.mem_of_getElem? hp)⟩, by have := h.a; dsimp only at *; omega⟩
theorem set_self {α : Type} {l : List α} {j : Nat} {x y : α} (h : l[j]? = some y) : (l.set j x)[j]? = some x := by
  rw [List.getElem?_set_self (lt_of_get h)]
theorem map_get {α β : Type} {f : α → β} {l : List α} {j : Nat} {x : α} (h : l[j]? = some x) : (l.map f)[j]? = some (f x) := by
  rw [List.getElem?_map, h]; rfl
theorem zz_sh : Sh [122, 122] := by simp [Sh]
theorem mem_set_of {α : Type} {l : List α} {j : Nat} {x y : α} (h : x ∈ l.set j y) : x = y ∨ x ∈ l := by
  rcases List.mem_or_eq_of_mem_set h with h | h
  · exact .inr h
  · exact .inl h
theorem keeps_set {k : List Keep} {j : Nat} {y : Keep} (h : ∀ x ∈ k, Sh x.Team ∧ Sh x.Player) (h1 : Sh y.Team) (h2 : Sh y.Player) : ∀ x ∈ k.set j y, Sh x.Team ∧ Sh x.Player := fun x hx => by
  rcases mem_set_of hx with rfl | hx
  · exact ⟨h1, h2⟩
  · exact h x hx
theorem swaps_set {k : List Swap} {j : Nat} {y : Swap} (h : ∀ x ∈ k, Sh x.Of ∧ Sh x.Team) (h1 : Sh y.Of) (h2 : Sh y.Team) : ∀ x ∈ k.set j y, Sh x.Of ∧ Sh x.Team := fun x hx => by
  rcases mem_set_of hx with rfl | hx
  · exact ⟨h1, h2⟩
  · exact h x hx
/-- The state of SwapList's loops: what is out, the row of teams, the draws. -/
structure SLs where
  u : Value
  out : List Swap
  row : List Str
  a : Nat
structure SLok (n a : Nat) (q : SLs) : Prop where
  out : q.out.length ≤ n
  row : q.row.length ≤ 4
  rs : ∀ s ∈ q.row, Sh s
  os : ∀ x ∈ q.out, Sh x.Of ∧ Sh x.Team
  a : q.a ≤ a + 2 * n
theorem SLok.more {n a : Nat} {u : Value} {out : List Swap} {row : List Str} {a1 a2 : Nat} (h : SLok n a ⟨u, out, row, a1⟩) (h1 : a2 ≤ a1 + 2) : SLok (n + 1) a ⟨u, out, row, a2⟩ :=
  ⟨by have := h.out; dsimp only at *; omega, h.row, h.rs, h.os, by have := h.a; dsimp only at *; omega⟩
theorem SLok.mono {n m a : Nat} {q : SLs} (h : SLok n a q) (hm : n ≤ m) : SLok m a q :=
  ⟨by have := h.out; omega, h.row, h.rs, h.os, by have := h.a; omega⟩
theorem KLok.mono {n m a : Nat} {q : KLs} (h : KLok n a q) (hm : n ≤ m) : KLok m a q :=
  ⟨by have := h.out; omega, h.left, h.ls, h.os, by have := h.a; omega⟩
theorem SLok.rowTo {n a : Nat} {u : Value} {out : List Swap} {row row' : List Str} {a1 : Nat} (h : SLok n a ⟨u, out, row, a1⟩) (h1 : row'.length ≤ 4) (h2 : ∀ s ∈ row', Sh s) : SLok n a ⟨u, out, row', a1⟩ :=
  ⟨h.out, h1, h2, h.os, h.a⟩
def fillUp (n : Nat) (l : List Str) : List Str := l ++ List.replicate (n - l.length) []
theorem fillUp_len {n : Nat} {l : List Str} (h : l.length ≤ n) : (fillUp n l).length = n := by simp [fillUp]; omega
theorem fillUp_get {n k : Nat} {l : List Str} {x : Str} (h : l[k]? = some x) : (fillUp n l)[k]? = some x := by
  unfold fillUp; rw [List.getElem?_append_left (lt_of_get h)]; exact h
theorem fillUp_sh {n : Nat} {l : List Str} (h : ∀ s ∈ l, Sh s) : ∀ s ∈ fillUp n l, Sh s := fun s hs => by
  rcases List.mem_append.1 hs with h1 | h1
  · exact h s h1
  · rw [(List.mem_replicate.1 h1).2]; simp [Sh]
theorem SLok.add {n a : Nat} {u u' : Value} {out : List Swap} {row : List Str} {a1 a2 : Nat} {t p : Str} {rd : Int} (h : SLok n a ⟨u, out, row, a1⟩) (h1 : a2 ≤ a1 + 2) (ht : Sh t) (hp : Sh p) :
    SLok (n + 1) a ⟨u', out ++ [⟨rd, t, p⟩], row, a2⟩ :=
  ⟨by have := h.out; simp at *; omega, h.row, h.rs, fun x hx => by
    rcases List.mem_append.1 hx with hx | hx
    · exact h.os x hx
    · simp at hx; subst hx; exact ⟨ht, hp⟩, by have := h.a; dsimp only at *; omega⟩
end Go.HL
end
section
namespace Go.Proofs.YtoomadfbldcioaaGreatDoor
open Go.HL
set_option maxRecDepth 100000
set_option linter.unusedVariables false
set_option linter.unusedSimpArgs false
/-- slices.Delete of one place -/
theorem c_slices_Delete {l : List Str} {v : Value} {k : Nat} (hk : k < l.length) (hl : l.length ≤ 1000000) : Con Tryz.prog 47 [.raw v, .int .i64 (k : Int), .int .i64 ((k : Int) + 1)] [.arr v 1 (l.map .str)] fun x M' => ∃ u, x = .raw u ∧ M' = [.arr u 1 ((l.eraseIdx k).map .str)] := by
  have hlen : (l.eraseIdx k).length = l.length - 1 := by rw [List.length_eraseIdx]; simp [hk]
  refine con_rowd (zs := l.eraseIdx k) (by omega) (by omega) fun b off cap w h1 h2 h3 => ?_
  refine (Any.slices_Delete_string Tryz.lays224 b off cap k (k + 1) l w h1 h2 h3 (by omega) (by omega)).mono ?_
  rintro _ _ ⟨rfl, q, rfl⟩
  have e1 : l.length - (k + 1 - k) = (l.eraseIdx k).length := by omega
  have e2 : l.length - (l.eraseIdx k).length = k + 1 - k := by omega
  refine ⟨by rw [e1], q, ?_⟩
  rw [e2, List.eraseIdx_eq_take_drop_succ]
/-- slices.Compact where the long slice is used again -/
theorem c_slices_Compact_k {l : List Str} {b off cap n : Nat} (hl : l.length ≤ 1000000) (hn : l.length = n) : Con Tryz.prog 46 [.raw (.slice (some ⟨b, off, none⟩) n cap)] [.arr (.slice (some ⟨b, off, none⟩) n cap) 1 (l.map .str)] fun x M' => x = .raw (.slice (some ⟨b, off, none⟩) (Lib.compact l).length cap) ∧ M' = [.arr (.slice (some ⟨b, off, none⟩) n cap) 1 ((fillUp n (Lib.compact l)).map .str)] := by
  subst hn
  exact con_rowk (compact_le l) (fun w h1 h2 h3 => Any.slices_Compact_string Tryz.lays194 b off cap l w h1 (by omega) h3)

set_option maxHeartbeats 2000000 in
/-- (*benchwarmer/benchmake.Stream).KeepList -/
theorem c_benchmake_Stream_KeepList {b : Nat} {l : List Int} {a : Nat} {r : Room}  (ha : a ≤ 800000) (hr : GoodRoom r) : Con Tryz.prog 6 [pAt b, eRoom r] [St b l a] (fun x M' => ∃ k a', x = eKeeps k ∧ GoodKeeps k ∧ a' ≤ a + 60 ∧ M' = [St b l a']) := by
  have hrp := hr.p20
  have hrt := hr.t4
  refine Con.of_body Tryz.func6 rfl Tryz.ntmps6 rfl rfl ?_
  refine hw_reg ?_
  refine dp rfl (pop_box rfl rfl) ?_
  refine dp rfl (pop_assign rfl) ?_
  refine dn ?_
  refine hw_reg ?_
  refine dp rfl (pop_assign rfl) ?_
  refine dn ?_
  refine hw_reg ?_
  refine dp rfl ((by first | exact pop_fieldAddr ty28 rfl ty26 (by decide) rfl | exact pop_fieldAddr_raw ty28 rfl ty26 (by decide) rfl)) ?_
  refine dp rfl (pop_load ty26 rfl rfl rfl) ?_
  refine de rfl (eop_calla ca42 rfl (WeakL.refl _) (c_slices_Clone_string_string (by first | assumption | omega | (simp; omega) | simp_all)) fun v15 => ?_)
  refine dp rfl (pop_assign rfl) ?_
  refine dn ?_
  refine hw_reg ?_
  refine dp rfl ((by first | exact pop_fieldAddr ty28 rfl ty26 (by decide) rfl | exact pop_fieldAddr_raw ty28 rfl ty26 (by decide) rfl)) ?_
  refine dp rfl (pop_load ty26 rfl rfl rfl) ?_
  refine de rfl (eop_calla ca42 rfl (WeakL.refl _) (c_slices_Clone_string_string (by first | assumption | omega | (simp; omega) | simp_all)) fun v18 => ?_)
  refine dp rfl (pop_assign rfl) ?_
  refine dn ?_
  refine hw_reg ?_
  refine dp rfl (pop_move rfl) ?_
  refine de rfl (eop_callx (i := 0) ca45 rfl (WeakL.refl _) rfl (c_slices_Sort (l := r.Teams) (by omega)) ?_)
  rintro _ _ ⟨rfl, rfl⟩
  refine dn ?_
  refine hw_seq ?_
  refine hw_reg ?_
  refine dp rfl (pop_move rfl) ?_
  refine de rfl (eop_callx (i := 0) ca46 rfl (WeakL.refl _) rfl (c_slices_Compact (l := sortS r.Teams) (by rw [sortS_len]; omega)) ?_)
  rintro _ _ ⟨u22, rfl, rfl⟩
  refine de rfl (eop_lenm (i := 0) ty26 rfl rfl ?_)
  refine dp rfl (pop_move rfl) ?_
  refine dn ?_
  refine hw_ghost (Ghost.fa 22 (i := 0) rfl rfl) ?_
  have hts4 : (Lib.compact (sortS r.Teams)).length ≤ 4 := Nat.le_trans (cs_len _) hrt
  have hss : ∀ s ∈ Lib.compact (sortS r.Teams), Sh s := fun s hs => hr.ts s (mem_cs hs)
  generalize Lib.compact (sortS r.Teams) = ts at *
  refine hw_ghost (Ghost.arr_nil 3) ?_
  refine hw_block ?_
  refine hw_loopw2 [5, 6, 9, 10, 11, 24, 25, 26, 27, 28, 29, 30, 31, 32, 33, 34, 35, 36, 37, 38, 39, 40, 41, 42, 43, 44, 45, 46, 47, 48, 49, 50, 51, 52, 53, 54, 55, 56, 57, 58, 59, 60, 61] (fun (k : Nat) (q : KLs) => [(24, .int .i64 k), (5, .raw q.u), (6, .raw q.lv)]) (fun (k : Nat) (q : KLs) => [St b l q.a, .arr q.u 3 (q.out.map eKeep), .arr q.lv 1 (q.left.map .str)]) (fun (k : Nat) (q : KLs) => k ≤ ts.length ∧ (KLok (4 * k) a q)) (fun (k : Nat) (q : KLs) => ts.length - k) (0) (⟨.slice none 0 0, [], v15, r.Players, a⟩) ?_ ?_ ?_ ?_
  · exact ⟨Nat.zero_le _, ⟨by simp, hrp, hr.ps, by simp, by dsimp only; omega⟩⟩
  · exact ⟨rfl, rfl, rfl, trivial⟩
  · repeat (first | exact List.Perm.nil | refine permTo 0 rfl ?_ | refine permTo 1 rfl ?_ | refine permTo 2 rfl ?_ | refine permTo 3 rfl ?_ | (refine permToE 0 rfl ?hq ?_; (case hq => simp [setL, hcells]; done)) | (refine permToE 1 rfl ?hq ?_; (case hq => simp [setL, hcells]; done)) | (refine permToE 2 rfl ?hq ?_; (case hq => simp [setL, hcells]; done)) | (refine permToE 3 rfl ?hq ?_; (case hq => simp [setL, hcells]; done)) | fail)
  · intro k q hinv
    obtain ⟨hk, hg⟩ := hinv
    obtain ⟨u, out, lv, left, a2⟩ := q
    obtain ⟨g1, g2, g3, g4, g5⟩ := id hg
    dsimp only at g1 g2 g3 g4 g5
    refine hw_reg ?_
    refine dp rfl (pop_lss rfl rfl) ?_
    refine dn ?_
    refine hw_seq ?_
    refine hw_cond rfl (fun h1 => ?_) (fun h2 => ?_)
    · try simp at h1
      obtain ⟨x, hx⟩ : ∃ x, ts[k]? = some x := ⟨_, List.getElem?_eq_getElem h1⟩
      have hdx := drop_cons hx
      refine hw_skip ?_
      refine seqQ_n ?_
      refine hw_seq ?_
      refine hw_block ?_
      refine hw_reg ?_
      refine dp rfl (pop_idx ty26 ty9 rfl rfl rfl (by first | assumption | simp_all)) ?_
      refine dp rfl (pop_load ty9 rfl rfl rfl) ?_
      refine dp rfl (pop_assign rfl) ?_
      refine dn ?_
      refine hw_reg ?_
      refine dp rfl (pop_assign rfl) ?_
      refine dn ?_
      refine hw_block ?_
      refine hw_loopw2 [5, 6, 10, 11, 28, 29, 30, 31, 32, 33, 34, 35, 36, 37, 38, 39, 40, 41, 42, 43, 44, 45, 46, 47, 48, 49, 50, 51, 52, 53, 54, 55, 56, 57, 58, 59, 60] (fun (m : Nat) (q : KLs) => [(10, .int .i64 ((m : Int) + 1)), (5, .raw q.u), (6, .raw q.lv)]) (fun (m : Nat) (q : KLs) => [St b l q.a, .arr q.u 3 (q.out.map eKeep), .arr q.lv 1 (q.left.map .str)]) (fun (m : Nat) (q : KLs) => m ≤ 4 ∧ KLok (4 * k + m) a q) (fun (m : Nat) (q : KLs) => 4 - m) (0) (⟨u, out, lv, left, a2⟩) ?_ ?_ ?_ ?_
      · exact ⟨by omega, hg⟩
      · exact ⟨rfl, rfl, rfl, trivial⟩
      · exact List.Perm.refl _
      · intro m q hinv
        obtain ⟨hm, hm2⟩ := hinv
        obtain ⟨u, out, lv, left, a2⟩ := q
        obtain ⟨g1, g2, g3, g4, g5⟩ := id hm2
        dsimp only at g1 g2 g3 g4 g5
        refine hw_seq ?_
        refine hw_reg ?_
        refine dp rfl (pop_move rfl) ?_
        refine dp rfl ((by first | exact pop_fieldAddr ty28 rfl ty3 (by decide) rfl | exact pop_fieldAddr_raw ty28 rfl ty3 (by decide) rfl)) ?_
        refine dp rfl (pop_load ty3 rfl rfl rfl) ?_
        refine dp rfl (pop_min rfl rfl) ?_
        refine dp rfl (pop_leq rfl rfl) ?_
        refine dn ?_
        refine hw_cond rfl (fun h3 => ?_) (fun h4 => ?_)
        · try simp at h3
          have hm4 : m < 4 := by omega
          refine hw_skip ?_
          refine seqQ_n ?_
          refine hw_seq ?_
          refine hw_block ?_
          refine hw_reg ?_
          refine dp rfl (pop_move rfl) ?_
          first
          | refine de rfl (eop_lenm (i := 0) ty26 rfl rfl ?_)
          | refine de rfl (eop_lenm (i := 1) ty26 rfl rfl ?_)
          | refine de rfl (eop_lenm (i := 2) ty26 rfl rfl ?_)
          | refine de rfl (eop_lenm (i := 3) ty26 rfl rfl ?_)
          refine dp rfl (pop_gtr rfl rfl) ?_
          refine dp rfl (pop_move rfl) ?_
          refine dg rfl rfl (fun hc => ⟨_, OpenTo.refl _, pop_move rfl⟩) ?_
          refine dgx (fun x M' => ∃ (y : Bool) (a3 : Nat), x = .bool y ∧ a3 ≤ a2 + 1 ∧ M' = [St b l a3, .arr u 3 (out.map eKeep), .arr lv 1 (left.map .str)]) rfl rfl (fun hc => ⟨_, false, a2, rfl, by omega, rfl⟩) (fun hc => ⟨_, OpenTo.upd (t := 39) rfl (by first | exact hc | simp_all) (OpenTo.refl _), eop_callx (i := 0) ca11 rfl (WeakL.refl _) rfl (c_benchmake_Stream_Flip (a := a2) (by omega) (by omega)) (fun h M' hh => by
            obtain ⟨y, h1, h2⟩ := hh
            exact ⟨y, a2 + 1, h1, by omega, by rw [h2]; rfl⟩)⟩) ?_
          rintro _ _ ⟨y, a3, rfl, ha3, rfl⟩
          refine dp rfl (pop_picko rfl (.inr ⟨_, rfl, fun h => by simp_all⟩) (.inl rfl)) ?_
          refine dn ?_
          refine hw_cond rfl (fun h5 => ?_) (fun h6 => ?_)
          · try simp at h5
            refine hw_reg ?_
            refine dp rfl (pop_move rfl) ?_
            refine dp rfl (pop_move rfl) ?_
            first
            | refine de rfl (eop_lenm (i := 0) ty26 rfl rfl ?_)
            | refine de rfl (eop_lenm (i := 1) ty26 rfl rfl ?_)
            | refine de rfl (eop_lenm (i := 2) ty26 rfl rfl ?_)
            | refine de rfl (eop_lenm (i := 3) ty26 rfl rfl ?_)
            first
            | refine de rfl (eop_callx (i := 0) ca41 rfl (WeakL.refl _) rfl (c_benchmake_Stream_Next (by first | assumption | omega | (simp; omega) | simp_all) (by first | assumption | omega | (simp; omega) | simp_all)) ?_)
            | refine de rfl (eop_callx (i := 1) ca41 rfl (WeakL.refl _) rfl (c_benchmake_Stream_Next (by first | assumption | omega | (simp; omega) | simp_all) (by first | assumption | omega | (simp; omega) | simp_all)) ?_)
            | refine de rfl (eop_callx (i := 2) ca41 rfl (WeakL.refl _) rfl (c_benchmake_Stream_Next (by first | assumption | omega | (simp; omega) | simp_all) (by first | assumption | omega | (simp; omega) | simp_all)) ?_)
            | refine de rfl (eop_callx (i := 3) ca41 rfl (WeakL.refl _) rfl (c_benchmake_Stream_Next (by first | assumption | omega | (simp; omega) | simp_all) (by first | assumption | omega | (simp; omega) | simp_all)) ?_)
            rintro _ _ ⟨y45, rfl, hy45, rfl⟩
            refine dp rfl (pop_assign rfl) ?_
            refine dn ?_
            obtain ⟨z, hz⟩ : ∃ z, left[y45]? = some z := ⟨_, List.getElem?_eq_getElem (by omega)⟩
            refine hw_arrc (i := 2) rfl (fun h0 he => ?_) (fun lb loff lcap hv hcap => ?_)
            · exfalso; have := congrArg List.length he; simp at this; subst this; simp at hz
            subst hv
            refine hw_reg ?_
            refine dp rfl (pop_move rfl) ?_
            refine dp rfl (pop_move rfl) ?_
            refine dp rfl (pop_move rfl) ?_
            refine dp rfl (pop_move rfl) ?_
            refine dp rfl (pop_idxraw (j := y45) ty26 ty9 rfl rfl rfl (by simp; omega)) ?_
            refine de rfl (eop_load_el (i := 2) (j := y45) 0 ty9 rfl (by omega) rfl hz rfl rfl ?_)
            refine dp rfl (pop_move rfl) ?_
            refine dp rfl (pop_build (cs := [_, _, _]) ty88 pl88 rfl) ?_
            refine dp rfl (pop_buildSlice (hs := [_]) ty30 ty88 rfl rfl (by decide) (by decide) rfl) ?_
            first
            | refine de rfl (eop_append (i := 0) ty30 ty88 rfl rfl rfl rfl rfl (by simp [flat, hcells]) (by first | omega | (simp; omega)) fun v55 => ?_)
            | refine de rfl (eop_append (i := 1) ty30 ty88 rfl rfl rfl rfl rfl (by simp [flat, hcells]) (by first | omega | (simp; omega)) fun v55 => ?_)
            | refine de rfl (eop_append (i := 2) ty30 ty88 rfl rfl rfl rfl rfl (by simp [flat, hcells]) (by first | omega | (simp; omega)) fun v55 => ?_)
            | refine de rfl (eop_append (i := 3) ty30 ty88 rfl rfl rfl rfl rfl (by simp [flat, hcells]) (by first | omega | (simp; omega)) fun v55 => ?_)
            refine dp rfl (pop_assign rfl) ?_
            refine dn ?_
            refine hw_reg1 ?_
            refine dp rfl (pop_move rfl) ?_
            refine dp rfl (pop_move rfl) ?_
            refine dp rfl (pop_move rfl) ?_
            refine dp rfl (pop_add64 rfl rfl (by omega) (by omega)) ?_
            refine de rfl (eop_callx (i := 2) ca47 rfl (WeakL.refl _) rfl (c_slices_Delete (l := left) (k := y45) (by omega) (by omega)) ?_)
            rintro _ _ ⟨u60, rfl, rfl⟩
            refine dp rfl (pop_assign rfl) ?_
            refine dn ?_
            refine blockQ_n ?_
            refine seqQ_n ?_
            refine hw_reg1 ?_
            refine dp rfl (pop_move rfl) ?_
            refine dp rfl (pop_add64 rfl rfl (by omega) (by omega)) ?_
            refine dp rfl (pop_assign rfl) ?_
            refine dn ?_
            first
            | exact ⟨m + 1, ⟨v55, out ++ [⟨x, z, (m : Int) + 1⟩], u60, left.eraseIdx y45, a3 + 1⟩, ⟨by omega, hm2.add (by omega) (hss x (List.mem_of_getElem? hx)) hz⟩, by dsimp only; omega, ⟨rfl, rfl, rfl, trivial⟩, (by repeat (first | exact keeps_refl | refine keeps_upd rfl ?_ | refine keeps_loop rfl rfl ?_)), by repeat (first | exact List.Perm.nil | refine permTo 0 rfl ?_ | refine permTo 1 rfl ?_ | refine permTo 2 rfl ?_ | refine permTo 3 rfl ?_ | (refine permToE 0 rfl ?hq ?_; (case hq => simp [setL, hcells]; done)) | (refine permToE 1 rfl ?hq ?_; (case hq => simp [setL, hcells]; done)) | (refine permToE 2 rfl ?hq ?_; (case hq => simp [setL, hcells]; done)) | (refine permToE 3 rfl ?hq ?_; (case hq => simp [setL, hcells]; done)) | fail)⟩
            | exact ⟨m + 1, ⟨u, out, lv, left, a3⟩, ⟨by omega, hm2.more (by omega)⟩, by dsimp only; omega, ⟨rfl, rfl, rfl, trivial⟩, (by repeat (first | exact keeps_refl | refine keeps_upd rfl ?_ | refine keeps_loop rfl rfl ?_)), by repeat (first | exact List.Perm.nil | refine permTo 0 rfl ?_ | refine permTo 1 rfl ?_ | refine permTo 2 rfl ?_ | refine permTo 3 rfl ?_ | (refine permToE 0 rfl ?hq ?_; (case hq => simp [setL, hcells]; done)) | (refine permToE 1 rfl ?hq ?_; (case hq => simp [setL, hcells]; done)) | (refine permToE 2 rfl ?hq ?_; (case hq => simp [setL, hcells]; done)) | (refine permToE 3 rfl ?hq ?_; (case hq => simp [setL, hcells]; done)) | fail)⟩
          · try simp at h6
            refine hw_skip ?_
            refine blockQ_n ?_
            refine seqQ_n ?_
            refine hw_reg1 ?_
            refine dp rfl (pop_move rfl) ?_
            refine dp rfl (pop_add64 rfl rfl (by omega) (by omega)) ?_
            refine dp rfl (pop_assign rfl) ?_
            refine dn ?_
            first
            | exact ⟨m + 1, ⟨v55, out ++ [⟨x, z, (m : Int) + 1⟩], u60, left.eraseIdx y45, a3 + 1⟩, ⟨by omega, hm2.add (by omega) (hss x (List.mem_of_getElem? hx)) hz⟩, by dsimp only; omega, ⟨rfl, rfl, rfl, trivial⟩, (by repeat (first | exact keeps_refl | refine keeps_upd rfl ?_ | refine keeps_loop rfl rfl ?_)), by repeat (first | exact List.Perm.nil | refine permTo 0 rfl ?_ | refine permTo 1 rfl ?_ | refine permTo 2 rfl ?_ | refine permTo 3 rfl ?_ | (refine permToE 0 rfl ?hq ?_; (case hq => simp [setL, hcells]; done)) | (refine permToE 1 rfl ?hq ?_; (case hq => simp [setL, hcells]; done)) | (refine permToE 2 rfl ?hq ?_; (case hq => simp [setL, hcells]; done)) | (refine permToE 3 rfl ?hq ?_; (case hq => simp [setL, hcells]; done)) | fail)⟩
            | exact ⟨m + 1, ⟨u, out, lv, left, a3⟩, ⟨by omega, hm2.more (by omega)⟩, by dsimp only; omega, ⟨rfl, rfl, rfl, trivial⟩, (by repeat (first | exact keeps_refl | refine keeps_upd rfl ?_ | refine keeps_loop rfl rfl ?_)), by repeat (first | exact List.Perm.nil | refine permTo 0 rfl ?_ | refine permTo 1 rfl ?_ | refine permTo 2 rfl ?_ | refine permTo 3 rfl ?_ | (refine permToE 0 rfl ?hq ?_; (case hq => simp [setL, hcells]; done)) | (refine permToE 1 rfl ?hq ?_; (case hq => simp [setL, hcells]; done)) | (refine permToE 2 rfl ?hq ?_; (case hq => simp [setL, hcells]; done)) | (refine permToE 3 rfl ?hq ?_; (case hq => simp [setL, hcells]; done)) | fail)⟩
        · try simp at h4
          refine hw_exit ?_
          refine seqQ_x ?_
          refine loopQ2_x ?_
          refine blockQ_eq ?_
          refine blockQ_n ?_
          refine seqQ_n ?_
          refine hw_reg1 ?_
          refine dp rfl (pop_add64 rfl rfl (by omega) (by omega)) ?_
          refine dp rfl (pop_move rfl) ?_
          refine dn ?_
          exact ⟨k + 1, _, ⟨by omega, hm2.mono (by omega)⟩, by dsimp only; omega, ⟨rfl, rfl, rfl, trivial⟩, (by repeat (first | exact keeps_refl | refine keeps_upd rfl ?_ | refine keeps_loop rfl rfl ?_)), List.Perm.refl _⟩
    · try simp at h2
      have hnk : ts.length ≤ k := by omega
      obtain rfl : k = ts.length := by omega
      refine hw_exit ?_
      refine seqQ_x ?_
      refine loopQ2_x ?_
      refine blockQ_eq ?_
      refine seqQ_n ?_
      refine hw_join [12, 62, 63, 64, 65, 66, 67, 68, 69, 70, 71, 72, 73, 74, 75, 76, 77, 78, 79, 80, 81, 82, 83, 84, 85, 86, 87, 88, 89, 90, 91, 92, 93, 94, 95, 96, 97, 98, 99, 100, 101, 102, 103, 104, 105, 106, 107, 108] (fun (q : List Keep × Nat) => []) (fun (q : List Keep × Nat) => [St b l q.2, .arr u 3 (q.1.map eKeep)]) (fun (q : List Keep × Nat) => q.1.length ≤ 16 ∧ (∀ x ∈ q.1, Sh x.Team ∧ Sh x.Player) ∧ q.2 ≤ a + 60) ?_ ?_
      · skip
        refine hw_ghost (Ghost.perm (M' := [.arr lv 1 (left.map .str), St b l a2, .arr u 3 (out.map eKeep)]) (by repeat (first | exact List.Perm.nil | refine permTo 0 rfl ?_ | refine permTo 1 rfl ?_ | refine permTo 2 rfl ?_ | refine permTo 3 rfl ?_ | (refine permToE 0 rfl ?hq ?_; (case hq => simp [setL, hcells]; done)) | (refine permToE 1 rfl ?hq ?_; (case hq => simp [setL, hcells]; done)) | (refine permToE 2 rfl ?hq ?_; (case hq => simp [setL, hcells]; done)) | (refine permToE 3 rfl ?hq ?_; (case hq => simp [setL, hcells]; done)) | fail))) ?_
        refine hw_ghost Ghost.drop ?_
        refine hw_reg ?_
        refine dp rfl (pop_move rfl) ?_
        first
        | refine de rfl (eop_lenm (i := 0) ty30 rfl rfl ?_)
        | refine de rfl (eop_lenm (i := 1) ty30 rfl rfl ?_)
        | refine de rfl (eop_lenm (i := 2) ty30 rfl rfl ?_)
        | refine de rfl (eop_lenm (i := 3) ty30 rfl rfl ?_)
        refine dp rfl (pop_gtr rfl rfl) ?_
        refine dp rfl (pop_move rfl) ?_
        refine dg rfl rfl (fun hc => ⟨_, OpenTo.refl _, pop_move rfl⟩) ?_
        refine dgx (fun x M' => ∃ (y : Bool) (a3 : Nat), x = .bool y ∧ a3 ≤ a2 + 1 ∧ M' = [St b l a3, .arr u 3 (out.map eKeep)]) rfl rfl (fun hc => ⟨_, false, a2, rfl, by omega, rfl⟩) (fun hc => ⟨_, OpenTo.upd (t := 66) rfl (by first | exact hc | simp_all) (OpenTo.refl _), eop_callx (i := 0) ca11 rfl (WeakL.refl _) rfl (c_benchmake_Stream_Flip (a := a2) (by omega) (by omega)) (fun h M' hh => by
          obtain ⟨y, h1, h2⟩ := hh
          exact ⟨y, a2 + 1, h1, by omega, by rw [h2]; rfl⟩)⟩) ?_
        rintro _ _ ⟨y, a3, rfl, ha3, rfl⟩
        refine dp rfl (pop_picko rfl (.inr ⟨_, rfl, fun h => by simp_all⟩) (.inl rfl)) ?_
        refine dn ?_
        refine hw_cond rfl (fun h7 => ?_) (fun h8 => ?_)
        · try simp at h7
          have ho0 : 0 < out.length := by simp_all
          have hol : out.length ≤ 16 := by omega
          refine hw_arrc (i := 1) rfl (fun h0 he => ?_) (fun ob off cap hv hcap => ?_)
          · exfalso; have := congrArg List.length he; simp at this; subst this; simp at ho0
          subst hv
          refine hw_reg ?_
          refine dp rfl (pop_move rfl) ?_
          refine dp rfl (pop_move rfl) ?_
          refine dp rfl (pop_move rfl) ?_
          first
          | refine de rfl (eop_lenm (i := 0) ty30 rfl rfl ?_)
          | refine de rfl (eop_lenm (i := 1) ty30 rfl rfl ?_)
          | refine de rfl (eop_lenm (i := 2) ty30 rfl rfl ?_)
          | refine de rfl (eop_lenm (i := 3) ty30 rfl rfl ?_)
          first
          | refine de rfl (eop_callx (i := 0) ca41 rfl (WeakL.refl _) rfl (c_benchmake_Stream_Next (by first | assumption | omega | (simp; omega) | simp_all) (by first | assumption | omega | (simp; omega) | simp_all)) ?_)
          | refine de rfl (eop_callx (i := 1) ca41 rfl (WeakL.refl _) rfl (c_benchmake_Stream_Next (by first | assumption | omega | (simp; omega) | simp_all) (by first | assumption | omega | (simp; omega) | simp_all)) ?_)
          | refine de rfl (eop_callx (i := 2) ca41 rfl (WeakL.refl _) rfl (c_benchmake_Stream_Next (by first | assumption | omega | (simp; omega) | simp_all) (by first | assumption | omega | (simp; omega) | simp_all)) ?_)
          | refine de rfl (eop_callx (i := 3) ca41 rfl (WeakL.refl _) rfl (c_benchmake_Stream_Next (by first | assumption | omega | (simp; omega) | simp_all) (by first | assumption | omega | (simp; omega) | simp_all)) ?_)
          rintro _ _ ⟨y73, rfl, hy73, rfl⟩
          refine dp rfl (pop_idxraw (j := y73) ty30 ty88 rfl rfl rfl (by simp; omega)) ?_
          refine dp rfl (pop_assign rfl) ?_
          refine dn ?_
          obtain ⟨x, hx⟩ : ∃ x, out[y73]? = some x := ⟨_, List.getElem?_eq_getElem (by omega)⟩
          obtain ⟨x0, hx0⟩ : ∃ x, out[0]? = some x := ⟨_, List.getElem?_eq_getElem (by omega)⟩
          refine hw_draw1 (fun M => ∃ i : Nat, M[i]? = some (.arr (.slice (some ⟨ob, off, none⟩) (out.map eKeep).length cap) 3 (out.map eKeep))) [7, 14, 18, 25] mixed ?_
          refine ahp 0 rfl rfl (by kernel_rfl) (by kernel_rfl) (pop_move rfl) ?_
          refine ahp 1 rfl rfl (by kernel_rfl) (by kernel_rfl) (pop_move rfl) ?_
          refine ahp 2 rfl rfl (by kernel_rfl) (by kernel_rfl) (pop_move rfl) ?_
          refine ahp 3 rfl rfl (by kernel_rfl) (by kernel_rfl) (pop_move rfl) ?_
          refine ahp 4 rfl rfl (by kernel_rfl) (by kernel_rfl) (pop_move rfl) ?_
          refine ahp 5 rfl rfl (by kernel_rfl) (by kernel_rfl) ((by first | exact pop_nilCheck rfl | exact pop_nilCheck_raw rfl)) ?_
          refine ahp 6 rfl rfl (by kernel_rfl) (by kernel_rfl) ((by first | exact pop_fieldAddr ty88 rfl ty9 (by decide) rfl | exact pop_fieldAddr_raw ty88 rfl ty9 (by decide) rfl)) ?_
          refine ahl 7 rfl rfl (by kernel_rfl) (by kernel_rfl) (by simp) ⟨1, rfl⟩ (fun M hM => by obtain ⟨i, hi⟩ := hM; exact eop_load_el (i := i) (j := y73) 0 ty9 rfl (by omega) hi hx rfl rfl ⟨rfl, rfl⟩) ?_
          refine ahp 8 rfl rfl (by kernel_rfl) (by kernel_rfl) (pop_buildSlice (hs := [_, _]) ty26 ty9 rfl rfl (by decide) (by decide) rfl) ?_
          refine ahp 10 rfl rfl (by kernel_rfl) (by kernel_rfl) (pop_move rfl) ?_
          refine ahp 11 rfl rfl (by kernel_rfl) (by kernel_rfl) (pop_move rfl) ?_
          refine ahp 12 rfl rfl (by kernel_rfl) (by kernel_rfl) ((by first | exact pop_nilCheck rfl | exact pop_nilCheck_raw rfl)) ?_
          refine ahp 13 rfl rfl (by kernel_rfl) (by kernel_rfl) ((by first | exact pop_fieldAddr ty88 rfl ty9 (by decide) rfl | exact pop_fieldAddr_raw ty88 rfl ty9 (by decide) rfl)) ?_
          refine ahl 14 rfl rfl (by kernel_rfl) (by kernel_rfl) (by simp) ⟨1, rfl⟩ (fun M hM => by obtain ⟨i, hi⟩ := hM; exact eop_load_el (i := i) (j := y73) 1 ty9 rfl (by omega) hi hx rfl rfl ⟨rfl, rfl⟩) ?_
          refine ahp 15 rfl rfl (by kernel_rfl) (by kernel_rfl) (pop_move rfl) ?_
          refine ahp 16 rfl rfl (by kernel_rfl) (by kernel_rfl) (pop_idxraw (j := 0) ty30 ty88 rfl rfl rfl (by simp; omega)) ?_
          refine ahp 17 rfl rfl (by kernel_rfl) (by kernel_rfl) ((by first | exact pop_fieldAddr ty88 rfl ty9 (by decide) rfl | exact pop_fieldAddr_raw ty88 rfl ty9 (by decide) rfl)) ?_
          refine ahl 18 rfl rfl (by kernel_rfl) (by kernel_rfl) (by simp) ⟨1, rfl⟩ (fun M hM => by obtain ⟨i, hi⟩ := hM; exact eop_load_el (i := i) (j := 0) 1 ty9 rfl (by omega) hi hx0 rfl rfl ⟨rfl, rfl⟩) ?_
          refine ahp 19 rfl rfl (by kernel_rfl) (by kernel_rfl) (pop_buildSlice (hs := [_, _, _]) ty26 ty9 rfl rfl (by decide) (by decide) rfl) ?_
          refine ahp 21 rfl rfl (by kernel_rfl) (by kernel_rfl) (pop_move rfl) ?_
          refine ahp 22 rfl rfl (by kernel_rfl) (by kernel_rfl) (pop_move rfl) ?_
          refine ahp 23 rfl rfl (by kernel_rfl) (by kernel_rfl) ((by first | exact pop_nilCheck rfl | exact pop_nilCheck_raw rfl)) ?_
          refine ahp 24 rfl rfl (by kernel_rfl) (by kernel_rfl) ((by first | exact pop_fieldAddr ty88 rfl ty3 (by decide) rfl | exact pop_fieldAddr_raw ty88 rfl ty3 (by decide) rfl)) ?_
          refine ahl 25 rfl rfl (by kernel_rfl) (by kernel_rfl) (by simp) ⟨1, rfl⟩ (fun M hM => by obtain ⟨i, hi⟩ := hM; exact eop_load_el (i := i) (j := y73) 2 ty3 rfl (by omega) hi hx rfl rfl ⟨rfl, rfl⟩) ?_
          refine ahp 26 rfl rfl (by kernel_rfl) (by kernel_rfl) (pop_buildSlice (hs := [_, _, _]) ty22 ty3 rfl rfl (by decide) (by decide) rfl) ?_
          refine ahe 9 rfl (by kernel_rfl) ?_
          first
          | refine hop_e rfl (eop_callx (i := 0) ca43 rfl (WeakL.refl _) rfl (c_benchmake_Stream_Some (L := [_, _]) (by first | assumption | omega | (simp; omega) | simp_all) (by first | assumption | omega | (simp; omega) | simp_all) (by first | assumption | omega | (simp; omega) | simp_all)) ?_)
          | refine hop_e rfl (eop_callx (i := 1) ca43 rfl (WeakL.refl _) rfl (c_benchmake_Stream_Some (L := [_, _]) (by first | assumption | omega | (simp; omega) | simp_all) (by first | assumption | omega | (simp; omega) | simp_all) (by first | assumption | omega | (simp; omega) | simp_all)) ?_)
          | refine hop_e rfl (eop_callx (i := 2) ca43 rfl (WeakL.refl _) rfl (c_benchmake_Stream_Some (L := [_, _]) (by first | assumption | omega | (simp; omega) | simp_all) (by first | assumption | omega | (simp; omega) | simp_all) (by first | assumption | omega | (simp; omega) | simp_all)) ?_)
          | refine hop_e rfl (eop_callx (i := 3) ca43 rfl (WeakL.refl _) rfl (c_benchmake_Stream_Some (L := [_, _]) (by first | assumption | omega | (simp; omega) | simp_all) (by first | assumption | omega | (simp; omega) | simp_all) (by first | assumption | omega | (simp; omega) | simp_all)) ?_)
          rintro _ _ ⟨y84, rfl, hy84, rfl⟩
          refine ⟨fun _ => by first | exact .inl ⟨0, rfl⟩ | exact .inl ⟨1, rfl⟩ | exact .inl ⟨2, rfl⟩ | exact .inr (by simp [Before, Region.binds]), ?_⟩
          refine ahe 20 rfl (by kernel_rfl) ?_
          first
          | refine hop_e rfl (eop_callx (i := 0) ca43 rfl (WeakL.refl _) rfl (c_benchmake_Stream_Some (L := [_, _, _]) (by first | assumption | omega | (simp; omega) | simp_all) (by first | assumption | omega | (simp; omega) | simp_all) (by first | assumption | omega | (simp; omega) | simp_all)) ?_)
          | refine hop_e rfl (eop_callx (i := 1) ca43 rfl (WeakL.refl _) rfl (c_benchmake_Stream_Some (L := [_, _, _]) (by first | assumption | omega | (simp; omega) | simp_all) (by first | assumption | omega | (simp; omega) | simp_all) (by first | assumption | omega | (simp; omega) | simp_all)) ?_)
          | refine hop_e rfl (eop_callx (i := 2) ca43 rfl (WeakL.refl _) rfl (c_benchmake_Stream_Some (L := [_, _, _]) (by first | assumption | omega | (simp; omega) | simp_all) (by first | assumption | omega | (simp; omega) | simp_all) (by first | assumption | omega | (simp; omega) | simp_all)) ?_)
          | refine hop_e rfl (eop_callx (i := 3) ca43 rfl (WeakL.refl _) rfl (c_benchmake_Stream_Some (L := [_, _, _]) (by first | assumption | omega | (simp; omega) | simp_all) (by first | assumption | omega | (simp; omega) | simp_all) (by first | assumption | omega | (simp; omega) | simp_all)) ?_)
          rintro _ _ ⟨y95, rfl, hy95, rfl⟩
          refine ⟨fun _ => by first | exact .inl ⟨0, rfl⟩ | exact .inl ⟨1, rfl⟩ | exact .inl ⟨2, rfl⟩ | exact .inr (by simp [Before, Region.binds]), ?_⟩
          refine ahe 27 rfl (by kernel_rfl) ?_
          first
          | refine hop_e rfl (eop_callx (i := 0) ca10 rfl (WeakL.refl _) rfl (c_benchmake_Stream_Pick (L := [_, _, _]) (by first | assumption | omega | (simp; omega) | simp_all) (by first | assumption | omega | (simp; omega) | simp_all) (by first | assumption | omega | (simp; omega) | simp_all)) ?_)
          | refine hop_e rfl (eop_callx (i := 1) ca10 rfl (WeakL.refl _) rfl (c_benchmake_Stream_Pick (L := [_, _, _]) (by first | assumption | omega | (simp; omega) | simp_all) (by first | assumption | omega | (simp; omega) | simp_all) (by first | assumption | omega | (simp; omega) | simp_all)) ?_)
          | refine hop_e rfl (eop_callx (i := 2) ca10 rfl (WeakL.refl _) rfl (c_benchmake_Stream_Pick (L := [_, _, _]) (by first | assumption | omega | (simp; omega) | simp_all) (by first | assumption | omega | (simp; omega) | simp_all) (by first | assumption | omega | (simp; omega) | simp_all)) ?_)
          | refine hop_e rfl (eop_callx (i := 3) ca10 rfl (WeakL.refl _) rfl (c_benchmake_Stream_Pick (L := [_, _, _]) (by first | assumption | omega | (simp; omega) | simp_all) (by first | assumption | omega | (simp; omega) | simp_all) (by first | assumption | omega | (simp; omega) | simp_all)) ?_)
          rintro _ _ ⟨y102, rfl, hy102, rfl⟩
          refine ⟨fun _ => by first | exact .inl ⟨0, rfl⟩ | exact .inl ⟨1, rfl⟩ | exact .inl ⟨2, rfl⟩ | exact .inr (by simp [Before, Region.binds]), ?_⟩
          refine ahp 28 rfl rfl (by kernel_rfl) (by kernel_rfl) ((by first | exact pop_nilCheck rfl | exact pop_nilCheck_raw rfl)) ?_
          refine ahp 29 rfl rfl (by kernel_rfl) (by kernel_rfl) ((by first | exact pop_fieldAddr ty88 rfl ty9 (by decide) rfl | exact pop_fieldAddr_raw ty88 rfl ty9 (by decide) rfl)) ?_
          refine ahe 30 rfl (by kernel_rfl) ?_
          refine hop_e0 (eop_store_arr (i := 1) (j := y73) (f := 0) (y := eKeep x) (y' := eKeep ⟨y84, x.Player, x.Round⟩) ty9 rfl (by omega) rfl rfl (by simp [hx]) rfl rfl (by simp [hcells]) rfl ?_)
          refine ⟨fun _ => .inr (by simp [Before, Region.binds]), ?_⟩
          refine ahp 31 rfl rfl (by kernel_rfl) (by kernel_rfl) ((by first | exact pop_nilCheck rfl | exact pop_nilCheck_raw rfl)) ?_
          refine ahp 32 rfl rfl (by kernel_rfl) (by kernel_rfl) ((by first | exact pop_fieldAddr ty88 rfl ty9 (by decide) rfl | exact pop_fieldAddr_raw ty88 rfl ty9 (by decide) rfl)) ?_
          refine ahe 33 rfl (by kernel_rfl) ?_
          refine hop_e0 (eop_store_arr (i := 1) (j := y73) (f := 1) (y := eKeep ⟨y84, x.Player, x.Round⟩) (y' := eKeep ⟨y84, y95, x.Round⟩) ty9 rfl (by omega) rfl rfl (set_self (map_get hx)) rfl rfl (by simp [hcells]) rfl ?_)
          refine ⟨fun _ => .inr (by simp [Before, Region.binds]), ?_⟩
          refine ahp 34 rfl rfl (by kernel_rfl) (by kernel_rfl) ((by first | exact pop_nilCheck rfl | exact pop_nilCheck_raw rfl)) ?_
          refine ahp 35 rfl rfl (by kernel_rfl) (by kernel_rfl) ((by first | exact pop_fieldAddr ty88 rfl ty3 (by decide) rfl | exact pop_fieldAddr_raw ty88 rfl ty3 (by decide) rfl)) ?_
          refine ahe 36 rfl (by kernel_rfl) ?_
          refine hop_e0 (eop_store_arr (i := 1) (j := y73) (f := 2) (y := eKeep ⟨y84, y95, x.Round⟩) (y' := eKeep ⟨y84, y95, y102⟩) ty3 rfl (by omega) rfl rfl (set_self (set_self (map_get hx))) rfl rfl (by simp [hcells]) rfl ?_)
          refine ⟨fun _ => .inr (by simp [Before, Region.binds]), ?_⟩
          refine ahz (by kernel_rfl) ?_
          exact ⟨(out.set y73 ⟨y84, y95, y102⟩, a3 + 4), ⟨by simp; omega, keeps_set g4 (by simp at hy84; rcases hy84 with rfl | rfl <;> first | exact zz_sh | exact (g4 x (List.mem_of_getElem? hx)).1) (by simp at hy95; rcases hy95 with rfl | rfl | rfl <;> first | exact zz_sh | exact (g4 x (List.mem_of_getElem? hx)).2 | exact (g4 x0 (List.mem_of_getElem? hx0)).2), by dsimp only; omega⟩, trivial, (by repeat (first | exact keeps_refl | refine keeps_upd rfl ?_ | refine keeps_loop rfl rfl ?_)), by repeat (first | exact List.Perm.nil | refine permTo 0 rfl ?_ | refine permTo 1 rfl ?_ | refine permTo 2 rfl ?_ | refine permTo 3 rfl ?_ | (refine permToE 0 rfl ?hq ?_; (case hq => simp [setL, hcells]; done)) | (refine permToE 1 rfl ?hq ?_; (case hq => simp [setL, hcells]; done)) | (refine permToE 2 rfl ?hq ?_; (case hq => simp [setL, hcells]; done)) | (refine permToE 3 rfl ?hq ?_; (case hq => simp [setL, hcells]; done)) | fail)⟩
        · try simp at h8
          refine hw_skip ?_
          exact ⟨(out, a3), ⟨by dsimp only; omega, g4, by dsimp only; omega⟩, trivial, (by repeat (first | exact keeps_refl | refine keeps_upd rfl ?_ | refine keeps_loop rfl rfl ?_)), by repeat (first | exact List.Perm.nil | refine permTo 0 rfl ?_ | refine permTo 1 rfl ?_ | refine permTo 2 rfl ?_ | refine permTo 3 rfl ?_ | (refine permToE 0 rfl ?hq ?_; (case hq => simp [setL, hcells]; done)) | (refine permToE 1 rfl ?hq ?_; (case hq => simp [setL, hcells]; done)) | (refine permToE 2 rfl ?hq ?_; (case hq => simp [setL, hcells]; done)) | (refine permToE 3 rfl ?hq ?_; (case hq => simp [setL, hcells]; done)) | fail)⟩
      · intro q hq
        obtain ⟨k, a4⟩ := q
        dsimp only at hq
        obtain ⟨q1, q2, q3⟩ := hq
        refine hw_reg ?_
        refine dp rfl (pop_move rfl) ?_
        refine dp rfl (pop_assign rfl) ?_
        refine dn ?_
        refine hw_ret ?_
        refine ret_g (Ghost.fa 4 (i := 1) rfl rfl) rfl ⟨k, a4, rfl, ⟨by omega, q2⟩, by omega, rfl⟩
end Go.Proofs.YtoomadfbldcioaaGreatDoor
end
section
namespace Go.Proofs.YtoomadfbldcioaaGreatDoor
open Go.HL
set_option maxRecDepth 100000
set_option linter.unusedVariables false
set_option linter.unusedSimpArgs false
set_option maxHeartbeats 2000000 in
/-- (*benchwarmer/benchmake.Stream).SwapList -/
theorem c_benchmake_Stream_SwapList {b : Nat} {l : List Int} {a : Nat} {r : Room}  (ha : a ≤ 800000) (hr : GoodRoom r) : Con Tryz.prog 7 [pAt b, eRoom r] [St b l a] (fun x M' => ∃ k a', x = eSwaps k ∧ GoodSwaps k ∧ a' ≤ a + 60 ∧ M' = [St b l a']) := by
  have hrp := hr.p20
  have hrt := hr.t4
  have hrt0 := hr.t0
  refine Con.of_body Tryz.func7 rfl Tryz.ntmps7 rfl rfl ?_
  refine hw_reg ?_
  refine dp rfl (pop_box rfl rfl) ?_
  refine dp rfl (pop_assign rfl) ?_
  refine dn ?_
  refine hw_reg ?_
  refine dp rfl (pop_assign rfl) ?_
  refine dn ?_
  refine hw_reg ?_
  refine dp rfl ((by first | exact pop_fieldAddr ty28 rfl ty26 (by decide) rfl | exact pop_fieldAddr_raw ty28 rfl ty26 (by decide) rfl)) ?_
  refine dp rfl (pop_load ty26 rfl rfl rfl) ?_
  refine de rfl (eop_calla ca42 rfl (WeakL.refl _) (c_slices_Clone_string_string (by first | assumption | omega | (simp; omega) | simp_all)) fun v13 => ?_)
  refine dp rfl (pop_assign rfl) ?_
  refine dn ?_
  refine hw_reg ?_
  refine dp rfl (pop_move rfl) ?_
  refine de rfl (eop_callx (i := 0) ca45 rfl (WeakL.refl _) rfl (c_slices_Sort (l := r.Teams) (by omega)) ?_)
  rintro _ _ ⟨rfl, rfl⟩
  refine dn ?_
  refine hw_arrc (i := 0) rfl (fun h0 he => ?_) (fun tb toff tcap hv hcap => ?_)
  · exfalso; have := congrArg List.length he; simp [sortS_len] at this; rw [this] at hrt0; simp at hrt0
  rw [List.length_map, sortS_len] at hv
  subst hv
  refine hw_ghost (Ghost.arr_nil 3) ?_
  refine hw_seq ?_
  refine hw_reg ?_
  refine dp rfl (pop_assign rfl) ?_
  refine dn ?_
  refine hw_block ?_
  refine hw_loopw2 [5, 7, 9, 16, 17, 18, 19, 20, 21, 22, 23, 24, 25, 26, 27, 28, 29, 30, 31, 32, 33, 34, 35, 36, 37, 38, 39, 40, 41, 42] (fun (m : Nat) (q : SLs) => [(7, .int .i64 ((m : Int) + 1)), (5, .raw q.u)]) (fun (m : Nat) (q : SLs) => [St b l q.a, .arr q.u 3 (q.out.map eSwap), .arr (.slice (some ⟨tb, toff, none⟩) r.Teams.length tcap) 1 (q.row.map .str)]) (fun (m : Nat) (q : SLs) => m ≤ 4 ∧ q.row.length = r.Teams.length ∧ SLok (4 * m) a q) (fun (m : Nat) (q : SLs) => 4 - m) (0) (⟨.slice none 0 0, [], sortS r.Teams, a⟩) ?_ ?_ ?_ ?_
  · exact ⟨by omega, sortS_len _, ⟨by simp, by simp [sortS_len, hrt], fun s hs => hr.ts s ((List.mergeSort_perm _ _).mem_iff.1 hs), by simp, by dsimp only; omega⟩⟩
  · exact ⟨rfl, rfl, trivial⟩
  · repeat (first | exact List.Perm.nil | refine permTo 0 rfl ?_ | refine permTo 1 rfl ?_ | refine permTo 2 rfl ?_ | refine permTo 3 rfl ?_ | (refine permToE 0 rfl ?hq ?_; (case hq => simp [setL, hcells]; done)) | (refine permToE 1 rfl ?hq ?_; (case hq => simp [setL, hcells]; done)) | (refine permToE 2 rfl ?hq ?_; (case hq => simp [setL, hcells]; done)) | (refine permToE 3 rfl ?hq ?_; (case hq => simp [setL, hcells]; done)) | fail)
  · intro m q hinv
    obtain ⟨hm, hrl, hm2⟩ := hinv
    obtain ⟨u, out, row, a2⟩ := q
    obtain ⟨g1, g2, g3, g4, g5⟩ := id hm2
    dsimp only at g1 g2 g3 g4 g5 hrl
    refine hw_seq ?_
    refine hw_reg ?_
    refine dp rfl (pop_move rfl) ?_
    refine dp rfl ((by first | exact pop_fieldAddr ty28 rfl ty3 (by decide) rfl | exact pop_fieldAddr_raw ty28 rfl ty3 (by decide) rfl)) ?_
    refine dp rfl (pop_load ty3 rfl rfl rfl) ?_
    refine dp rfl (pop_min rfl rfl) ?_
    refine dp rfl (pop_leq rfl rfl) ?_
    refine dn ?_
    refine hw_cond rfl (fun h1 => ?_) (fun h2 => ?_)
    · try simp at h1
      have hm4 : m < 4 := by omega
      refine hw_skip ?_
      refine seqQ_n ?_
      refine hw_seq ?_
      refine hw_block ?_
      refine hw_reg ?_
      refine dp rfl (pop_move rfl) ?_
      refine de rfl (eop_callx (i := 2) ca46 rfl (WeakL.refl _) rfl (c_slices_Compact_k (l := row) (by omega) hrl) ?_)
      rintro _ _ ⟨rfl, rfl⟩
      refine dp rfl (pop_len_raw ty26 rfl) ?_
      refine dp rfl (pop_move rfl) ?_
      refine dn ?_
      have hcl := compact_le row
      have hrow : ∀ s ∈ Lib.compact row, Sh s := fun s hs => g3 s (mem_compact hs)
      refine hw_block ?_
      refine hw_loopw2 [5, 9, 26, 27, 28, 29, 30, 31, 32, 33, 34, 35, 36, 37, 38, 39, 40, 41, 42] (fun (k : Nat) (q : SLs) => [(26, .int .i64 k), (5, .raw q.u)]) (fun (k : Nat) (q : SLs) => [St b l q.a, .arr q.u 3 (q.out.map eSwap), .arr (.slice (some ⟨tb, toff, none⟩) r.Teams.length tcap) 1 ((fillUp r.Teams.length (Lib.compact row)).map .str)]) (fun (k : Nat) (q : SLs) => k ≤ (Lib.compact row).length ∧ (SLok (4 * m + k) a q)) (fun (k : Nat) (q : SLs) => (Lib.compact row).length - k) (0) (⟨u, out, row, a2⟩) ?_ ?_ ?_ ?_
      · exact ⟨Nat.zero_le _, hm2⟩
      · exact ⟨rfl, rfl, trivial⟩
      · repeat (first | exact List.Perm.nil | refine permTo 0 rfl ?_ | refine permTo 1 rfl ?_ | refine permTo 2 rfl ?_ | refine permTo 3 rfl ?_ | (refine permToE 0 rfl ?hq ?_; (case hq => simp [setL, hcells]; done)) | (refine permToE 1 rfl ?hq ?_; (case hq => simp [setL, hcells]; done)) | (refine permToE 2 rfl ?hq ?_; (case hq => simp [setL, hcells]; done)) | (refine permToE 3 rfl ?hq ?_; (case hq => simp [setL, hcells]; done)) | fail)
      · intro k q hinv
        obtain ⟨hk, hg⟩ := hinv
        obtain ⟨u2, out2, row2, a4⟩ := q
        obtain ⟨g1, g2, g3, g4, g5⟩ := id hg
        dsimp only at g1 g2 g3 g4 g5
        refine hw_reg ?_
        refine dp rfl (pop_lss rfl rfl) ?_
        refine dn ?_
        refine hw_seq ?_
        refine hw_cond rfl (fun h3 => ?_) (fun h4 => ?_)
        · try simp at h3
          obtain ⟨x, hx⟩ : ∃ x, (Lib.compact row)[k]? = some x := ⟨_, List.getElem?_eq_getElem h3⟩
          have hdx := drop_cons hx
          refine hw_skip ?_
          refine seqQ_n ?_
          refine hw_seq ?_
          refine hw_block ?_
          refine hw_reg ?_
          refine dp rfl (pop_idxraw (j := k) ty26 ty9 rfl rfl rfl (lt_of_get hx)) ?_
          refine de rfl (eop_load_el (i := 2) (j := k) 0 ty9 rfl (by omega) rfl (fillUp_get hx) rfl rfl ?_)
          refine dp rfl (pop_assign rfl) ?_
          refine dn ?_
          refine hw_reg ?_
          refine dp rfl (pop_move rfl) ?_
          first
          | refine de rfl (eop_callx (i := 0) ca11 rfl (WeakL.refl _) rfl (c_benchmake_Stream_Flip (by first | assumption | omega | (simp; omega) | simp_all) (by first | assumption | omega | (simp; omega) | simp_all)) ?_)
          | refine de rfl (eop_callx (i := 1) ca11 rfl (WeakL.refl _) rfl (c_benchmake_Stream_Flip (by first | assumption | omega | (simp; omega) | simp_all) (by first | assumption | omega | (simp; omega) | simp_all)) ?_)
          | refine de rfl (eop_callx (i := 2) ca11 rfl (WeakL.refl _) rfl (c_benchmake_Stream_Flip (by first | assumption | omega | (simp; omega) | simp_all) (by first | assumption | omega | (simp; omega) | simp_all)) ?_)
          | refine de rfl (eop_callx (i := 3) ca11 rfl (WeakL.refl _) rfl (c_benchmake_Stream_Flip (by first | assumption | omega | (simp; omega) | simp_all) (by first | assumption | omega | (simp; omega) | simp_all)) ?_)
          rintro _ _ ⟨y31, rfl, rfl⟩
          refine dn ?_
          refine hw_cond rfl (fun h5 => ?_) (fun h6 => ?_)
          · try simp at h5
            refine hw_reg1 ?_
            refine dp rfl (pop_move rfl) ?_
            refine dp rfl (pop_move rfl) ?_
            refine dp rfl (pop_move rfl) ?_
            refine dp rfl (pop_move rfl) ?_
            refine dp rfl ((by first | exact pop_fieldAddr ty28 rfl ty26 (by decide) rfl | exact pop_fieldAddr_raw ty28 rfl ty26 (by decide) rfl)) ?_
            refine dp rfl (pop_load ty26 rfl rfl rfl) ?_
            first
            | refine de rfl (eop_callx (i := 0) ca43 rfl (WeakL.refl _) rfl (c_benchmake_Stream_Some (by first | assumption | omega | (simp; omega) | simp_all) (by first | assumption | omega | (simp; omega) | simp_all) (by first | assumption | omega | (simp; omega) | simp_all)) ?_)
            | refine de rfl (eop_callx (i := 1) ca43 rfl (WeakL.refl _) rfl (c_benchmake_Stream_Some (by first | assumption | omega | (simp; omega) | simp_all) (by first | assumption | omega | (simp; omega) | simp_all) (by first | assumption | omega | (simp; omega) | simp_all)) ?_)
            | refine de rfl (eop_callx (i := 2) ca43 rfl (WeakL.refl _) rfl (c_benchmake_Stream_Some (by first | assumption | omega | (simp; omega) | simp_all) (by first | assumption | omega | (simp; omega) | simp_all) (by first | assumption | omega | (simp; omega) | simp_all)) ?_)
            | refine de rfl (eop_callx (i := 3) ca43 rfl (WeakL.refl _) rfl (c_benchmake_Stream_Some (by first | assumption | omega | (simp; omega) | simp_all) (by first | assumption | omega | (simp; omega) | simp_all) (by first | assumption | omega | (simp; omega) | simp_all)) ?_)
            rintro _ _ ⟨y38, rfl, hy38, rfl⟩
            refine dp rfl (pop_build (cs := [_, _, _]) ty92 pl92 rfl) ?_
            refine dp rfl (pop_buildSlice (hs := [_]) ty32 ty92 rfl rfl (by decide) (by decide) rfl) ?_
            first
            | refine de rfl (eop_append (i := 0) ty32 ty92 rfl rfl rfl rfl rfl (by simp [flat, hcells]) (by first | omega | (simp; omega)) fun v41 => ?_)
            | refine de rfl (eop_append (i := 1) ty32 ty92 rfl rfl rfl rfl rfl (by simp [flat, hcells]) (by first | omega | (simp; omega)) fun v41 => ?_)
            | refine de rfl (eop_append (i := 2) ty32 ty92 rfl rfl rfl rfl rfl (by simp [flat, hcells]) (by first | omega | (simp; omega)) fun v41 => ?_)
            | refine de rfl (eop_append (i := 3) ty32 ty92 rfl rfl rfl rfl rfl (by simp [flat, hcells]) (by first | omega | (simp; omega)) fun v41 => ?_)
            refine dp rfl (pop_assign rfl) ?_
            refine dn ?_
            refine blockQ_n ?_
            refine seqQ_n ?_
            refine hw_reg1 ?_
            refine dp rfl (pop_add64 rfl rfl (by omega) (by omega)) ?_
            refine dp rfl (pop_move rfl) ?_
            refine dn ?_
            first
            | exact ⟨k + 1, ⟨v41, out2 ++ [⟨(m : Int) + 1, x, y38⟩], row2, a4 + 2⟩, ⟨by omega, hg.add (by omega) (hrow x (List.mem_of_getElem? hx)) (hr.ts _ hy38)⟩, by dsimp only; omega, ⟨rfl, rfl, trivial⟩, (by repeat (first | exact keeps_refl | refine keeps_upd rfl ?_ | refine keeps_loop rfl rfl ?_)), by repeat (first | exact List.Perm.nil | refine permTo 0 rfl ?_ | refine permTo 1 rfl ?_ | refine permTo 2 rfl ?_ | refine permTo 3 rfl ?_ | (refine permToE 0 rfl ?hq ?_; (case hq => simp [setL, hcells]; done)) | (refine permToE 1 rfl ?hq ?_; (case hq => simp [setL, hcells]; done)) | (refine permToE 2 rfl ?hq ?_; (case hq => simp [setL, hcells]; done)) | (refine permToE 3 rfl ?hq ?_; (case hq => simp [setL, hcells]; done)) | fail)⟩
            | exact ⟨k + 1, ⟨u2, out2, row2, a4 + 1⟩, ⟨by omega, hg.more (by omega)⟩, by dsimp only; omega, ⟨rfl, rfl, trivial⟩, (by repeat (first | exact keeps_refl | refine keeps_upd rfl ?_ | refine keeps_loop rfl rfl ?_)), by repeat (first | exact List.Perm.nil | refine permTo 0 rfl ?_ | refine permTo 1 rfl ?_ | refine permTo 2 rfl ?_ | refine permTo 3 rfl ?_ | (refine permToE 0 rfl ?hq ?_; (case hq => simp [setL, hcells]; done)) | (refine permToE 1 rfl ?hq ?_; (case hq => simp [setL, hcells]; done)) | (refine permToE 2 rfl ?hq ?_; (case hq => simp [setL, hcells]; done)) | (refine permToE 3 rfl ?hq ?_; (case hq => simp [setL, hcells]; done)) | fail)⟩
          · try simp at h6
            refine hw_skip ?_
            refine blockQ_n ?_
            refine seqQ_n ?_
            refine hw_reg1 ?_
            refine dp rfl (pop_add64 rfl rfl (by omega) (by omega)) ?_
            refine dp rfl (pop_move rfl) ?_
            refine dn ?_
            first
            | exact ⟨k + 1, ⟨v41, out2 ++ [⟨(m : Int) + 1, x, y38⟩], row2, a4 + 2⟩, ⟨by omega, hg.add (by omega) (hrow x (List.mem_of_getElem? hx)) (hr.ts _ hy38)⟩, by dsimp only; omega, ⟨rfl, rfl, trivial⟩, (by repeat (first | exact keeps_refl | refine keeps_upd rfl ?_ | refine keeps_loop rfl rfl ?_)), by repeat (first | exact List.Perm.nil | refine permTo 0 rfl ?_ | refine permTo 1 rfl ?_ | refine permTo 2 rfl ?_ | refine permTo 3 rfl ?_ | (refine permToE 0 rfl ?hq ?_; (case hq => simp [setL, hcells]; done)) | (refine permToE 1 rfl ?hq ?_; (case hq => simp [setL, hcells]; done)) | (refine permToE 2 rfl ?hq ?_; (case hq => simp [setL, hcells]; done)) | (refine permToE 3 rfl ?hq ?_; (case hq => simp [setL, hcells]; done)) | fail)⟩
            | exact ⟨k + 1, ⟨u2, out2, row2, a4 + 1⟩, ⟨by omega, hg.more (by omega)⟩, by dsimp only; omega, ⟨rfl, rfl, trivial⟩, (by repeat (first | exact keeps_refl | refine keeps_upd rfl ?_ | refine keeps_loop rfl rfl ?_)), by repeat (first | exact List.Perm.nil | refine permTo 0 rfl ?_ | refine permTo 1 rfl ?_ | refine permTo 2 rfl ?_ | refine permTo 3 rfl ?_ | (refine permToE 0 rfl ?hq ?_; (case hq => simp [setL, hcells]; done)) | (refine permToE 1 rfl ?hq ?_; (case hq => simp [setL, hcells]; done)) | (refine permToE 2 rfl ?hq ?_; (case hq => simp [setL, hcells]; done)) | (refine permToE 3 rfl ?hq ?_; (case hq => simp [setL, hcells]; done)) | fail)⟩
        · try simp at h4
          have hnk : (Lib.compact row).length ≤ k := by omega
          obtain rfl : k = (Lib.compact row).length := by omega
          refine hw_exit ?_
          refine seqQ_x ?_
          refine loopQ2_x ?_
          refine blockQ_eq ?_
          refine blockQ_n ?_
          refine seqQ_n ?_
          refine hw_reg1 ?_
          refine dp rfl (pop_move rfl) ?_
          refine dp rfl (pop_add64 rfl rfl (by omega) (by omega)) ?_
          refine dp rfl (pop_assign rfl) ?_
          refine dn ?_
          exact ⟨m + 1, ⟨u2, out2, fillUp r.Teams.length (Lib.compact row), a4⟩, ⟨by omega, fillUp_len (by omega), (hg.mono (by omega)).rowTo (by rw [fillUp_len (by omega)]; exact hrt) (fillUp_sh hrow)⟩, by dsimp only; omega, ⟨rfl, rfl, trivial⟩, (by repeat (first | exact keeps_refl | refine keeps_upd rfl ?_ | refine keeps_loop rfl rfl ?_)), by repeat (first | exact List.Perm.nil | refine permTo 0 rfl ?_ | refine permTo 1 rfl ?_ | refine permTo 2 rfl ?_ | refine permTo 3 rfl ?_ | (refine permToE 0 rfl ?hq ?_; (case hq => simp [setL, hcells]; done)) | (refine permToE 1 rfl ?hq ?_; (case hq => simp [setL, hcells]; done)) | (refine permToE 2 rfl ?hq ?_; (case hq => simp [setL, hcells]; done)) | (refine permToE 3 rfl ?hq ?_; (case hq => simp [setL, hcells]; done)) | fail)⟩
    · try simp at h2
      refine hw_exit ?_
      refine seqQ_x ?_
      refine loopQ2_x ?_
      refine blockQ_eq ?_
      refine seqQ_n ?_
      refine hw_join [10, 43, 44, 45, 46, 47, 48, 49, 50, 51, 52, 53, 54, 55, 56, 57, 58, 59, 60, 61, 62, 63, 64, 65, 66, 67, 68, 69, 70, 71, 72, 73, 74, 75, 76, 77, 78, 79, 80, 81, 82, 83, 84, 85] (fun (q : List Swap × Nat) => []) (fun (q : List Swap × Nat) => [St b l q.2, .arr u 3 (q.1.map eSwap)]) (fun (q : List Swap × Nat) => q.1.length ≤ 16 ∧ (∀ x ∈ q.1, Sh x.Of ∧ Sh x.Team) ∧ q.2 ≤ a + 60) ?_ ?_
      · skip
        refine hw_ghost (Ghost.perm (M' := [.arr (.slice (some ⟨tb, toff, none⟩) r.Teams.length tcap) 1 (row.map .str), St b l a2, .arr u 3 (out.map eSwap)]) (by repeat (first | exact List.Perm.nil | refine permTo 0 rfl ?_ | refine permTo 1 rfl ?_ | refine permTo 2 rfl ?_ | refine permTo 3 rfl ?_ | (refine permToE 0 rfl ?hq ?_; (case hq => simp [setL, hcells]; done)) | (refine permToE 1 rfl ?hq ?_; (case hq => simp [setL, hcells]; done)) | (refine permToE 2 rfl ?hq ?_; (case hq => simp [setL, hcells]; done)) | (refine permToE 3 rfl ?hq ?_; (case hq => simp [setL, hcells]; done)) | fail))) ?_
        refine hw_ghost Ghost.drop ?_
        refine hw_reg ?_
        refine dp rfl (pop_move rfl) ?_
        first
        | refine de rfl (eop_lenm (i := 0) ty32 rfl rfl ?_)
        | refine de rfl (eop_lenm (i := 1) ty32 rfl rfl ?_)
        | refine de rfl (eop_lenm (i := 2) ty32 rfl rfl ?_)
        | refine de rfl (eop_lenm (i := 3) ty32 rfl rfl ?_)
        refine dp rfl (pop_gtr rfl rfl) ?_
        refine dp rfl (pop_move rfl) ?_
        refine dg rfl rfl (fun hc => ⟨_, OpenTo.refl _, pop_move rfl⟩) ?_
        refine dgx (fun x M' => ∃ (y : Bool) (a3 : Nat), x = .bool y ∧ a3 ≤ a2 + 1 ∧ M' = [St b l a3, .arr u 3 (out.map eSwap)]) rfl rfl (fun hc => ⟨_, false, a2, rfl, by omega, rfl⟩) (fun hc => ⟨_, OpenTo.upd (t := 47) rfl (by first | exact hc | simp_all) (OpenTo.refl _), eop_callx (i := 0) ca11 rfl (WeakL.refl _) rfl (c_benchmake_Stream_Flip (a := a2) (by omega) (by omega)) (fun h M' hh => by
          obtain ⟨y, h1, h2⟩ := hh
          exact ⟨y, a2 + 1, h1, by omega, by rw [h2]; rfl⟩)⟩) ?_
        rintro _ _ ⟨y, a3, rfl, ha3, rfl⟩
        refine dp rfl (pop_picko rfl (.inr ⟨_, rfl, fun h => by simp_all⟩) (.inl rfl)) ?_
        refine dn ?_
        refine hw_cond rfl (fun h7 => ?_) (fun h8 => ?_)
        · try simp at h7
          have ho0 : 0 < out.length := by simp_all
          have hol : out.length ≤ 16 := by omega
          refine hw_arrc (i := 1) rfl (fun h0 he => ?_) (fun ob off cap hv hcap => ?_)
          · exfalso; have := congrArg List.length he; simp at this; subst this; simp at ho0
          subst hv
          refine hw_reg ?_
          refine dp rfl (pop_move rfl) ?_
          refine dp rfl (pop_move rfl) ?_
          refine dp rfl (pop_move rfl) ?_
          first
          | refine de rfl (eop_lenm (i := 0) ty32 rfl rfl ?_)
          | refine de rfl (eop_lenm (i := 1) ty32 rfl rfl ?_)
          | refine de rfl (eop_lenm (i := 2) ty32 rfl rfl ?_)
          | refine de rfl (eop_lenm (i := 3) ty32 rfl rfl ?_)
          first
          | refine de rfl (eop_callx (i := 0) ca41 rfl (WeakL.refl _) rfl (c_benchmake_Stream_Next (by first | assumption | omega | (simp; omega) | simp_all) (by first | assumption | omega | (simp; omega) | simp_all)) ?_)
          | refine de rfl (eop_callx (i := 1) ca41 rfl (WeakL.refl _) rfl (c_benchmake_Stream_Next (by first | assumption | omega | (simp; omega) | simp_all) (by first | assumption | omega | (simp; omega) | simp_all)) ?_)
          | refine de rfl (eop_callx (i := 2) ca41 rfl (WeakL.refl _) rfl (c_benchmake_Stream_Next (by first | assumption | omega | (simp; omega) | simp_all) (by first | assumption | omega | (simp; omega) | simp_all)) ?_)
          | refine de rfl (eop_callx (i := 3) ca41 rfl (WeakL.refl _) rfl (c_benchmake_Stream_Next (by first | assumption | omega | (simp; omega) | simp_all) (by first | assumption | omega | (simp; omega) | simp_all)) ?_)
          rintro _ _ ⟨y54, rfl, hy54, rfl⟩
          refine dp rfl (pop_idxraw (j := y54) ty32 ty92 rfl rfl rfl (by simp; omega)) ?_
          refine dp rfl (pop_assign rfl) ?_
          refine dn ?_
          obtain ⟨x, hx⟩ : ∃ x, out[y54]? = some x := ⟨_, List.getElem?_eq_getElem (by omega)⟩
          refine hw_draw1 (fun M => ∃ i : Nat, M[i]? = some (.arr (.slice (some ⟨ob, off, none⟩) (out.map eSwap).length cap) 3 (out.map eSwap))) [7, 14, 21] mixed ?_
          refine ahp 0 rfl rfl (by kernel_rfl) (by kernel_rfl) (pop_move rfl) ?_
          refine ahp 1 rfl rfl (by kernel_rfl) (by kernel_rfl) (pop_move rfl) ?_
          refine ahp 2 rfl rfl (by kernel_rfl) (by kernel_rfl) (pop_move rfl) ?_
          refine ahp 3 rfl rfl (by kernel_rfl) (by kernel_rfl) (pop_move rfl) ?_
          refine ahp 4 rfl rfl (by kernel_rfl) (by kernel_rfl) (pop_move rfl) ?_
          refine ahp 5 rfl rfl (by kernel_rfl) (by kernel_rfl) ((by first | exact pop_nilCheck rfl | exact pop_nilCheck_raw rfl)) ?_
          refine ahp 6 rfl rfl (by kernel_rfl) (by kernel_rfl) ((by first | exact pop_fieldAddr ty92 rfl ty3 (by decide) rfl | exact pop_fieldAddr_raw ty92 rfl ty3 (by decide) rfl)) ?_
          refine ahl 7 rfl rfl (by kernel_rfl) (by kernel_rfl) (by simp) ⟨1, rfl⟩ (fun M hM => by obtain ⟨i, hi⟩ := hM; exact eop_load_el (i := i) (j := y54) 0 ty3 rfl (by omega) hi hx rfl rfl ⟨rfl, rfl⟩) ?_
          refine ahp 8 rfl rfl (by kernel_rfl) (by kernel_rfl) (pop_buildSlice (hs := [_, _, _]) ty22 ty3 rfl rfl (by decide) (by decide) rfl) ?_
          refine ahp 10 rfl rfl (by kernel_rfl) (by kernel_rfl) (pop_move rfl) ?_
          refine ahp 11 rfl rfl (by kernel_rfl) (by kernel_rfl) (pop_move rfl) ?_
          refine ahp 12 rfl rfl (by kernel_rfl) (by kernel_rfl) ((by first | exact pop_nilCheck rfl | exact pop_nilCheck_raw rfl)) ?_
          refine ahp 13 rfl rfl (by kernel_rfl) (by kernel_rfl) ((by first | exact pop_fieldAddr ty92 rfl ty9 (by decide) rfl | exact pop_fieldAddr_raw ty92 rfl ty9 (by decide) rfl)) ?_
          refine ahl 14 rfl rfl (by kernel_rfl) (by kernel_rfl) (by simp) ⟨1, rfl⟩ (fun M hM => by obtain ⟨i, hi⟩ := hM; exact eop_load_el (i := i) (j := y54) 1 ty9 rfl (by omega) hi hx rfl rfl ⟨rfl, rfl⟩) ?_
          refine ahp 15 rfl rfl (by kernel_rfl) (by kernel_rfl) (pop_buildSlice (hs := [_, _]) ty26 ty9 rfl rfl (by decide) (by decide) rfl) ?_
          refine ahp 17 rfl rfl (by kernel_rfl) (by kernel_rfl) (pop_move rfl) ?_
          refine ahp 18 rfl rfl (by kernel_rfl) (by kernel_rfl) (pop_move rfl) ?_
          refine ahp 19 rfl rfl (by kernel_rfl) (by kernel_rfl) ((by first | exact pop_nilCheck rfl | exact pop_nilCheck_raw rfl)) ?_
          refine ahp 20 rfl rfl (by kernel_rfl) (by kernel_rfl) ((by first | exact pop_fieldAddr ty92 rfl ty9 (by decide) rfl | exact pop_fieldAddr_raw ty92 rfl ty9 (by decide) rfl)) ?_
          refine ahl 21 rfl rfl (by kernel_rfl) (by kernel_rfl) (by simp) ⟨1, rfl⟩ (fun M hM => by obtain ⟨i, hi⟩ := hM; exact eop_load_el (i := i) (j := y54) 2 ty9 rfl (by omega) hi hx rfl rfl ⟨rfl, rfl⟩) ?_
          refine ahp 22 rfl rfl (by kernel_rfl) (by kernel_rfl) (pop_buildSlice (hs := [_, _]) ty26 ty9 rfl rfl (by decide) (by decide) rfl) ?_
          refine ahe 9 rfl (by kernel_rfl) ?_
          first
          | refine hop_e rfl (eop_callx (i := 0) ca10 rfl (WeakL.refl _) rfl (c_benchmake_Stream_Pick (L := [_, _, _]) (by first | assumption | omega | (simp; omega) | simp_all) (by first | assumption | omega | (simp; omega) | simp_all) (by first | assumption | omega | (simp; omega) | simp_all)) ?_)
          | refine hop_e rfl (eop_callx (i := 1) ca10 rfl (WeakL.refl _) rfl (c_benchmake_Stream_Pick (L := [_, _, _]) (by first | assumption | omega | (simp; omega) | simp_all) (by first | assumption | omega | (simp; omega) | simp_all) (by first | assumption | omega | (simp; omega) | simp_all)) ?_)
          | refine hop_e rfl (eop_callx (i := 2) ca10 rfl (WeakL.refl _) rfl (c_benchmake_Stream_Pick (L := [_, _, _]) (by first | assumption | omega | (simp; omega) | simp_all) (by first | assumption | omega | (simp; omega) | simp_all) (by first | assumption | omega | (simp; omega) | simp_all)) ?_)
          | refine hop_e rfl (eop_callx (i := 3) ca10 rfl (WeakL.refl _) rfl (c_benchmake_Stream_Pick (L := [_, _, _]) (by first | assumption | omega | (simp; omega) | simp_all) (by first | assumption | omega | (simp; omega) | simp_all) (by first | assumption | omega | (simp; omega) | simp_all)) ?_)
          rintro _ _ ⟨y65, rfl, hy65, rfl⟩
          refine ⟨fun _ => by first | exact .inl ⟨0, rfl⟩ | exact .inl ⟨1, rfl⟩ | exact .inl ⟨2, rfl⟩ | exact .inr (by simp [Before, Region.binds]), ?_⟩
          refine ahe 16 rfl (by kernel_rfl) ?_
          first
          | refine hop_e rfl (eop_callx (i := 0) ca43 rfl (WeakL.refl _) rfl (c_benchmake_Stream_Some (L := [_, _]) (by first | assumption | omega | (simp; omega) | simp_all) (by first | assumption | omega | (simp; omega) | simp_all) (by first | assumption | omega | (simp; omega) | simp_all)) ?_)
          | refine hop_e rfl (eop_callx (i := 1) ca43 rfl (WeakL.refl _) rfl (c_benchmake_Stream_Some (L := [_, _]) (by first | assumption | omega | (simp; omega) | simp_all) (by first | assumption | omega | (simp; omega) | simp_all) (by first | assumption | omega | (simp; omega) | simp_all)) ?_)
          | refine hop_e rfl (eop_callx (i := 2) ca43 rfl (WeakL.refl _) rfl (c_benchmake_Stream_Some (L := [_, _]) (by first | assumption | omega | (simp; omega) | simp_all) (by first | assumption | omega | (simp; omega) | simp_all) (by first | assumption | omega | (simp; omega) | simp_all)) ?_)
          | refine hop_e rfl (eop_callx (i := 3) ca43 rfl (WeakL.refl _) rfl (c_benchmake_Stream_Some (L := [_, _]) (by first | assumption | omega | (simp; omega) | simp_all) (by first | assumption | omega | (simp; omega) | simp_all) (by first | assumption | omega | (simp; omega) | simp_all)) ?_)
          rintro _ _ ⟨y72, rfl, hy72, rfl⟩
          refine ⟨fun _ => by first | exact .inl ⟨0, rfl⟩ | exact .inl ⟨1, rfl⟩ | exact .inl ⟨2, rfl⟩ | exact .inr (by simp [Before, Region.binds]), ?_⟩
          refine ahe 23 rfl (by kernel_rfl) ?_
          first
          | refine hop_e rfl (eop_callx (i := 0) ca43 rfl (WeakL.refl _) rfl (c_benchmake_Stream_Some (L := [_, _]) (by first | assumption | omega | (simp; omega) | simp_all) (by first | assumption | omega | (simp; omega) | simp_all) (by first | assumption | omega | (simp; omega) | simp_all)) ?_)
          | refine hop_e rfl (eop_callx (i := 1) ca43 rfl (WeakL.refl _) rfl (c_benchmake_Stream_Some (L := [_, _]) (by first | assumption | omega | (simp; omega) | simp_all) (by first | assumption | omega | (simp; omega) | simp_all) (by first | assumption | omega | (simp; omega) | simp_all)) ?_)
          | refine hop_e rfl (eop_callx (i := 2) ca43 rfl (WeakL.refl _) rfl (c_benchmake_Stream_Some (L := [_, _]) (by first | assumption | omega | (simp; omega) | simp_all) (by first | assumption | omega | (simp; omega) | simp_all) (by first | assumption | omega | (simp; omega) | simp_all)) ?_)
          | refine hop_e rfl (eop_callx (i := 3) ca43 rfl (WeakL.refl _) rfl (c_benchmake_Stream_Some (L := [_, _]) (by first | assumption | omega | (simp; omega) | simp_all) (by first | assumption | omega | (simp; omega) | simp_all) (by first | assumption | omega | (simp; omega) | simp_all)) ?_)
          rintro _ _ ⟨y79, rfl, hy79, rfl⟩
          refine ⟨fun _ => by first | exact .inl ⟨0, rfl⟩ | exact .inl ⟨1, rfl⟩ | exact .inl ⟨2, rfl⟩ | exact .inr (by simp [Before, Region.binds]), ?_⟩
          refine ahp 24 rfl rfl (by kernel_rfl) (by kernel_rfl) ((by first | exact pop_nilCheck rfl | exact pop_nilCheck_raw rfl)) ?_
          refine ahp 25 rfl rfl (by kernel_rfl) (by kernel_rfl) ((by first | exact pop_fieldAddr ty92 rfl ty3 (by decide) rfl | exact pop_fieldAddr_raw ty92 rfl ty3 (by decide) rfl)) ?_
          refine ahe 26 rfl (by kernel_rfl) ?_
          refine hop_e0 (eop_store_arr (i := 1) (j := y54) (f := 0) (y := eSwap x) (y' := eSwap ⟨y65, x.Of, x.Team⟩) ty3 rfl (by omega) rfl rfl (by simp [hx]) rfl rfl (by simp [hcells]) rfl ?_)
          refine ⟨fun _ => .inr (by simp [Before, Region.binds]), ?_⟩
          refine ahp 27 rfl rfl (by kernel_rfl) (by kernel_rfl) ((by first | exact pop_nilCheck rfl | exact pop_nilCheck_raw rfl)) ?_
          refine ahp 28 rfl rfl (by kernel_rfl) (by kernel_rfl) ((by first | exact pop_fieldAddr ty92 rfl ty9 (by decide) rfl | exact pop_fieldAddr_raw ty92 rfl ty9 (by decide) rfl)) ?_
          refine ahe 29 rfl (by kernel_rfl) ?_
          refine hop_e0 (eop_store_arr (i := 1) (j := y54) (f := 1) (y := eSwap ⟨y65, x.Of, x.Team⟩) (y' := eSwap ⟨y65, y72, x.Team⟩) ty9 rfl (by omega) rfl rfl (set_self (map_get hx)) rfl rfl (by simp [hcells]) rfl ?_)
          refine ⟨fun _ => .inr (by simp [Before, Region.binds]), ?_⟩
          refine ahp 30 rfl rfl (by kernel_rfl) (by kernel_rfl) ((by first | exact pop_nilCheck rfl | exact pop_nilCheck_raw rfl)) ?_
          refine ahp 31 rfl rfl (by kernel_rfl) (by kernel_rfl) ((by first | exact pop_fieldAddr ty92 rfl ty9 (by decide) rfl | exact pop_fieldAddr_raw ty92 rfl ty9 (by decide) rfl)) ?_
          refine ahe 32 rfl (by kernel_rfl) ?_
          refine hop_e0 (eop_store_arr (i := 1) (j := y54) (f := 2) (y := eSwap ⟨y65, y72, x.Team⟩) (y' := eSwap ⟨y65, y72, y79⟩) ty9 rfl (by omega) rfl rfl (set_self (set_self (map_get hx))) rfl rfl (by simp [hcells]) rfl ?_)
          refine ⟨fun _ => .inr (by simp [Before, Region.binds]), ?_⟩
          refine ahz (by kernel_rfl) ?_
          exact ⟨(out.set y54 ⟨y65, y72, y79⟩, a3 + 4), ⟨by simp; omega, swaps_set g4 (by simp at hy72; rcases hy72 with rfl | rfl <;> first | exact zz_sh | exact (g4 x (List.mem_of_getElem? hx)).1) (by simp at hy79; rcases hy79 with rfl | rfl <;> first | exact zz_sh | exact (g4 x (List.mem_of_getElem? hx)).2), by dsimp only; omega⟩, trivial, (by repeat (first | exact keeps_refl | refine keeps_upd rfl ?_ | refine keeps_loop rfl rfl ?_)), by repeat (first | exact List.Perm.nil | refine permTo 0 rfl ?_ | refine permTo 1 rfl ?_ | refine permTo 2 rfl ?_ | refine permTo 3 rfl ?_ | (refine permToE 0 rfl ?hq ?_; (case hq => simp [setL, hcells]; done)) | (refine permToE 1 rfl ?hq ?_; (case hq => simp [setL, hcells]; done)) | (refine permToE 2 rfl ?hq ?_; (case hq => simp [setL, hcells]; done)) | (refine permToE 3 rfl ?hq ?_; (case hq => simp [setL, hcells]; done)) | fail)⟩
        · try simp at h8
          refine hw_skip ?_
          exact ⟨(out, a3), ⟨by dsimp only; omega, g4, by dsimp only; omega⟩, trivial, (by repeat (first | exact keeps_refl | refine keeps_upd rfl ?_ | refine keeps_loop rfl rfl ?_)), by repeat (first | exact List.Perm.nil | refine permTo 0 rfl ?_ | refine permTo 1 rfl ?_ | refine permTo 2 rfl ?_ | refine permTo 3 rfl ?_ | (refine permToE 0 rfl ?hq ?_; (case hq => simp [setL, hcells]; done)) | (refine permToE 1 rfl ?hq ?_; (case hq => simp [setL, hcells]; done)) | (refine permToE 2 rfl ?hq ?_; (case hq => simp [setL, hcells]; done)) | (refine permToE 3 rfl ?hq ?_; (case hq => simp [setL, hcells]; done)) | fail)⟩
      · intro q hq
        obtain ⟨k, a4⟩ := q
        dsimp only at hq
        obtain ⟨q1, q2, q3⟩ := hq
        refine hw_reg ?_
        refine dp rfl (pop_move rfl) ?_
        refine dp rfl (pop_assign rfl) ?_
        refine dn ?_
        refine hw_ret ?_
        refine ret_g (Ghost.fa 4 (i := 1) rfl rfl) rfl ⟨k, a4, rfl, ⟨by omega, q2⟩, by omega, rfl⟩
end Go.Proofs.YtoomadfbldcioaaGreatDoor
end
section
namespace Go.HL
def room1 : Room := ⟨[[97], [98]], 2, 2, [[112], [113], [114], [115]], 1000, 0⟩
theorem room1_ok : checkSwaps room1 [] = 0 := by kernel_rfl
theorem room1_turns : turnTeams room1 [] = [[97], [98], [98], [97]] := by kernel_rfl
end Go.HL
end
section
namespace Go.HL
open Op (bytesLess)
abbrev pick0 : Pick := ⟨0, [], [], 0, false⟩
theorem adj_pairwise {α : Type} {R : α → α → Prop} (tr : ∀ a b c, R a b → R b c → R a c) {l : List α} (h : ∀ (i : Nat) (a b : α), l[i]? = some a → l[i + 1]? = some b → R a b) : l.Pairwise R := by
  have key : ∀ (d i : Nat) (a b : α), l[i]? = some a → l[i + d + 1]? = some b → R a b := by
    intro d
    induction d with
    | zero => intro i a b ha hb; exact h i a b ha hb
    | succ d ih =>
      intro i a b ha hb
      have hlt := lt_of_get hb
      have hc := List.getElem?_eq_getElem (l := l) (i := i + d + 1) (by omega)
      exact tr _ _ _ (ih i a _ ha hc) (h (i + d + 1) _ b hc (by rw [show i + d + 1 + 1 = i + (d + 1) + 1 by omega]; exact hb))
  refine List.pairwise_iff_getElem.2 fun i j hi hj hij => ?_
  refine key (j - i - 1) i _ _ (List.getElem?_eq_getElem hi) ?_
  rw [show i + (j - i - 1) + 1 = j by omega]; exact List.getElem?_eq_getElem hj
theorem nodup_sub {α : Type} [DecidableEq α] : ∀ {l m : List α}, l.Nodup → (∀ x ∈ l, x ∈ m) → l.length ≤ m.length
  | [], _, _, _ => Nat.zero_le _
  | a :: l, m, h, hs => by
    have ha := hs a List.mem_cons_self
    obtain ⟨h1, h2⟩ := List.nodup_cons.1 h
    have h3 := nodup_sub (m := m.erase a) h2 fun x hx => (List.mem_erase_of_ne (fun e : x = a => h1 (by rw [← e]; exact hx))).2 (hs x (List.mem_cons_of_mem _ hx))
    rw [List.length_erase_of_mem ha] at h3
    have := List.length_pos_of_mem ha
    simp; omega
theorem pw_tri {α : Type} {R : α → α → Prop} : ∀ {l : List α}, l.Pairwise R → ∀ x ∈ l, ∀ y ∈ l, x = y ∨ R x y ∨ R y x
  | [], _, x, hx, _, _ => by simp at hx
  | a :: l, h, x, hx, y, hy => by
    obtain ⟨h1, h2⟩ := List.pairwise_cons.1 h
    rcases List.mem_cons.1 hx with e | hx' <;> rcases List.mem_cons.1 hy with e' | hy'
    · exact .inl (e.trans e'.symm)
    · exact .inr (.inl (e ▸ h1 y hy'))
    · exact .inr (.inr (e' ▸ h1 x hx'))
    · exact pw_tri h2 x hx' y hy'
/-! keeps that are right -/
def kLt (a b : Keep) : Prop := bytesLess a.Team b.Team = true ∨ (a.Team = b.Team ∧ a.Round < b.Round)
theorem kLt_trans (a b c : Keep) (h1 : kLt a b) (h2 : kLt b c) : kLt a c := by
  rcases h1 with h1 | ⟨e1, h1⟩ <;> rcases h2 with h2 | ⟨e2, h2⟩
  · exact .inl (less_trans h1 h2)
  · exact .inl (e2 ▸ h1)
  · exact .inl (e1 ▸ h2)
  · exact .inr ⟨e1.trans e2, by omega⟩
theorem kLt_of {a b : Keep} (h : ¬ orI [cmpS b.Team a.Team, cmpI b.Round a.Round] ≤ 0) : kLt a b := by
  rw [cmpS_eq] at h
  rcases less_total a.Team b.Team with h1 | h1 | h1
  · exact .inl h1
  · refine .inr ⟨h1, ?_⟩
    rw [h1] at h
    simp [less_irrefl, orI, cmpI] at h
    split at h
    · omega
    · split at h <;> omega
  · rw [h1] at h; simp [orI] at h
structure KeepsOk (r : Room) (k : List Keep) : Prop where
  all : ∀ x ∈ k, x.Team ∈ r.Teams ∧ x.Player ∈ r.Players ∧ 1 ≤ x.Round ∧ x.Round ≤ r.Rounds
  lt : k.Pairwise kLt
theorem keepsGo_ok {r : Room} {l : List Keep} : ∀ (t : List Keep) (k : Nat) (kept : List Str) (tw : Bool), l.drop k = t → keepsGo r l k kept tw t = 0 →
    (∀ x ∈ t, x.Team ∈ r.Teams ∧ x.Player ∈ r.Players ∧ 1 ≤ x.Round ∧ x.Round ≤ r.Rounds) ∧ ∀ (i : Nat) (a b : Keep), k ≤ i + 1 → l[i]? = some a → l[i + 1]? = some b → kLt a b
  | [], k, kept, tw, hd, h => ⟨by simp, fun i a b hi ha hb => by
      have := lt_of_get hb
      have h2 : l.length ≤ k := by rw [← List.drop_eq_nil_iff]; exact hd
      omega⟩
  | x :: t, k, kept, tw, hd, h => by
    have hk : l[k]? = some x := by
      have := congrArg (fun q => q[0]?) hd
      simpa using this
    have hd' : l.drop (k + 1) = t := by
      have := drop_cons hk
      rw [hd] at this; simp at this; exact this.symm
    simp only [keepsGo] at h
    split at h
    · omega
    · rename_i h1
      split at h
      · omega
      · rename_i h2
        split at h
        · omega
        · rename_i h3
          obtain ⟨h4, h5⟩ := keepsGo_ok t (k + 1) _ _ hd' h
          have h2' := out_f (by simpa using h2)
          refine ⟨fun y hy => ?_, fun i a b hi ha hb => ?_⟩
          · rcases List.mem_cons.1 hy with rfl | hy
            · simp at h1; exact ⟨h1.1, h1.2, h2'⟩
            · exact h4 y hy
          · by_cases e : k = i + 1
            · subst e
              rw [hk] at hb; cases hb
              refine kLt_of fun hc => h3 ?_
              simp [List.getD, ha]; exact hc
            · exact h5 i a b (by omega) ha hb
theorem checkKeeps_good {r : Room} {k : List Keep} (h : checkKeeps r k = 0) : KeepsOk r k := by
  unfold checkKeeps at h
  split at h
  · rename_i hc; simp [h] at hc
  · split at h
    · omega
    · obtain ⟨h1, h2⟩ := keepsGo_ok k 0 [] false rfl h
      exact ⟨h1, adj_pairwise kLt_trans fun i a b => h2 i a b (by omega)⟩
theorem risingGo_key {l : List Str} : ∀ (r : List Str) (k : Nat), risingGo l k r = 0 → ∀ s ∈ r, key s = true
  | [], _, _, s, hs => by simp at hs
  | x :: r, k, h, s, hs => by
    simp only [risingGo] at h
    split at h
    · omega
    · rename_i h1
      split at h
      · omega
      · rcases List.mem_cons.1 hs with rfl | hs
        · simpa using h1
        · exact risingGo_key r (k + 1) h s hs
structure RoomOk (r : Room) : Prop where
  sorted : SortedS r.Players
  t20 : r.Teams.length ≤ 20
  t0 : 0 < r.Teams.length
  r1 : 1 ≤ r.Rounds
  r30 : r.Rounds ≤ 30
  p500 : r.Players.length ≤ 500
  ne : ∀ s ∈ r.Players, s ≠ []
  many : (r.Teams.length : Int) * r.Rounds ≤ r.Players.length
  clock : 1000 ≤ r.Clock ∧ r.Clock ≤ 86400000
  start : moment r.Start = true
theorem room_ok {r : Room} (h : checkRoom r = 0) : RoomOk r := by
  obtain ⟨a1, a2, a3, a4, a5, a6⟩ := checkRoom_ok h
  unfold checkRoom at h
  split at h
  · rename_i hc; simp [h] at hc
  · split at h
    · omega
    · split at h
      · omega
      · split at h
        · rename_i hc; simp [h] at hc
        · rename_i hp
          split at h
          · omega
          · rename_i hcl
            split at h
            · omega
            · rename_i hm
              simp at hcl hp
              refine ⟨a1, a2, a3, a4, a5, a6, fun s hs e => ?_, by omega, out_f hcl.1, hcl.2⟩
              unfold playersFault at hp
              split at hp
              · omega
              · have := risingGo_key _ 0 hp s hs
                subst e; simp [key, keyHd] at this
theorem sorted_nodup {l : List Str} (h : SortedS l) : l.Nodup :=
  List.Pairwise.imp (fun {a b} hab e => by subst e; rw [less_irrefl] at hab; cases hab) h
/-! turns -/
theorem mem_turnsFrom {r : Room} {s : List Swap} {t : Str} (ht : t ∈ r.Teams) : ∀ (n : Nat) (rd : Int), 1 ≤ rd → rd ≤ n → ∃ x ∈ turnsFrom r s n, x.of = t ∧ x.round = rd
  | 0, rd, h1, h2 => by omega
  | n + 1, rd, h1, h2 => by
    by_cases e : rd = (n : Int) + 1
    · refine ⟨⟨rd, t, owner rd t s⟩, ?_, rfl, rfl⟩
      simp only [turnsFrom, List.mem_append]
      right
      subst e
      unfold roundTurns
      refine List.mem_map.2 ⟨t, ?_, rfl⟩
      split
      · exact List.mem_reverse.2 ht
      · exact ht
    · obtain ⟨x, hx, h3⟩ := mem_turnsFrom ht n rd h1 (by omega)
      exact ⟨x, by simp only [turnsFrom, List.mem_append]; exact .inl hx, h3⟩
def fits (t : Turn) (x : Keep) : Bool := decide (x.Team = t.of ∧ x.Round = t.round)
theorem keepIn_fix (r : Room) (t : Turn) : ∀ (k : List Keep) (p : Pick), (keepIn r t p k).No = p.No ∧ (keepIn r t p k).Team = p.Team
  | [], p => ⟨rfl, rfl⟩
  | x :: k, p => by
    obtain ⟨h1, h2⟩ := keepIn_fix r t k (if x.Team = t.of ∧ x.Round = t.round then { p with Player := x.Player, At := r.Start } else p)
    simp only [keepIn]; rw [h1, h2]
    split <;> exact ⟨rfl, rfl⟩
theorem keepIn_mem (r : Room) (t : Turn) : ∀ (k : List Keep) (p : Pick), (keepIn r t p k).Player = p.Player ∨ ∃ x ∈ k, fits t x = true ∧ (keepIn r t p k).Player = x.Player
  | [], p => .inl rfl
  | x :: k, p => by
    simp only [keepIn]
    rcases keepIn_mem r t k (if x.Team = t.of ∧ x.Round = t.round then { p with Player := x.Player, At := r.Start } else p) with h | ⟨y, hy, h1, h2⟩
    · by_cases e : x.Team = t.of ∧ x.Round = t.round
      · rw [if_pos e] at h ⊢
        exact .inr ⟨x, List.mem_cons_self, by simp [fits, e], h⟩
      · rw [if_neg e] at h ⊢
        exact .inl h
    · exact .inr ⟨y, List.mem_cons_of_mem _ hy, h1, h2⟩
theorem keepIn_none (r : Room) (t : Turn) : ∀ (k : List Keep) (p : Pick), k.any (fits t) = false → keepIn r t p k = p
  | [], p, _ => rfl
  | x :: k, p, h => by
    simp only [List.any_cons, Bool.or_eq_false_iff] at h
    have e : ¬ (x.Team = t.of ∧ x.Round = t.round) := by simpa [fits] using h.1
    simp only [keepIn]; rw [if_neg e]; exact keepIn_none r t k p h.2
theorem keepIn_one (r : Room) (t : Turn) {x : Keep} : ∀ (k : List Keep) (p : Pick), x ∈ k → fits t x = true → (∀ y ∈ k, fits t y = true → y.Player = x.Player) → (keepIn r t p k).Player = x.Player
  | [], p, hx, _, _ => by simp at hx
  | y :: k, p, hx, hf, hu => by
    simp only [keepIn]
    by_cases e : y.Team = t.of ∧ y.Round = t.round
    · have hy := hu y List.mem_cons_self (by simp [fits, e])
      rw [if_pos e]
      rcases keepIn_mem r t k { p with Player := y.Player, At := r.Start } with h | ⟨z, hz, h1, h2⟩
      · rw [h]; exact hy
      · rw [h2]; exact hu z (List.mem_cons_of_mem _ hz) h1
    · rw [if_neg e]
      rcases List.mem_cons.1 hx with rfl | hx
      · exact absurd (by simpa [fits] using hf) e
      · exact keepIn_one r t k p hx hf fun z hz => hu z (List.mem_cons_of_mem _ hz)
theorem KeepsOk.one {r : Room} {k : List Keep} (h : KeepsOk r k) {t : Turn} {x y : Keep} (hx : x ∈ k) (hy : y ∈ k) (fx : fits t x = true) (fy : fits t y = true) : y = x := by
  simp [fits] at fx fy
  rcases pw_tri h.lt x hx y hy with e | e | e
  · exact e.symm
  · exfalso
    rcases e with e | ⟨e1, e2⟩
    · rw [fx.1, fy.1, less_irrefl] at e; cases e
    · omega
  · exfalso
    rcases e with e | ⟨e1, e2⟩
    · rw [fx.1, fy.1, less_irrefl] at e; cases e
    · omega
theorem keepIn_free {r : Room} {k : List Keep} (h : KeepsOk r k) (hne : ∀ s ∈ r.Players, s ≠ []) (t : Turn) (p : Pick) (hp : p.Player = []) : ((keepIn r t p k).Player == []) = !(k.any (fits t)) := by
  cases hq : k.any (fits t) with
  | false => rw [keepIn_none r t k p hq, hp]; rfl
  | true =>
    obtain ⟨x, hx, hf⟩ := List.any_eq_true.1 hq
    rw [keepIn_one r t k p hx hf fun y hy hfy => by rw [h.one hx hy hf hfy]]
    have := hne _ (h.all x hx).2.1
    simpa using this
theorem mem_openFrom {r : Room} {k : List Keep} {p : Pick} : ∀ (l : List Turn) (i : Nat), p ∈ openFrom r k i l → ∃ (j : Nat) (t : Turn), t ∈ l ∧ p = keepIn r t ⟨j, t.team, [], 0, false⟩ k
  | [], i, h => by simp [openFrom] at h
  | t :: l, i, h => by
    simp only [openFrom, List.mem_cons] at h
    rcases h with h | h
    · exact ⟨i, t, List.mem_cons_self, h⟩
    · obtain ⟨j, t', h1, h2⟩ := mem_openFrom l (i + 1) h
      exact ⟨j, t', List.mem_cons_of_mem _ h1, h2⟩
theorem openFrom_mem {r : Room} {k : List Keep} {t : Turn} : ∀ (l : List Turn) (i : Nat), t ∈ l → ∃ j : Nat, keepIn r t ⟨j, t.team, [], 0, false⟩ k ∈ openFrom r k i l
  | [], i, h => by simp at h
  | x :: l, i, h => by
    rcases List.mem_cons.1 h with rfl | h
    · exact ⟨i, by simp [openFrom]⟩
    · obtain ⟨j, hj⟩ := openFrom_mem l (i + 1) h
      exact ⟨j, by simp only [openFrom, List.mem_cons]; exact .inr hj⟩
theorem open_any {r : Room} {k : List Keep} {s : List Swap} (h : openFault r k s = 0) {n : Str} (hn : n ≠ []) : (open1 r k s).any (fun p => p.Player == n) = k.any (fun x => x.Player == n) := by
  obtain ⟨h1, _, h3⟩ := openFault_ok h
  have hk := checkKeeps_good h3
  have hr := room_ok h1
  rw [Bool.eq_iff_iff, List.any_eq_true, List.any_eq_true]
  constructor
  · rintro ⟨p, hp, e⟩
    obtain ⟨j, t, _, rfl⟩ := mem_openFrom _ _ hp
    rcases keepIn_mem r t k ⟨j, t.team, [], 0, false⟩ with q | ⟨x, hx, _, q⟩
    · rw [q] at e; simp at e; exact absurd e hn
    · exact ⟨x, hx, by rw [q] at e; exact e⟩
  · rintro ⟨x, hx, e⟩
    obtain ⟨a1, _, a3, a4⟩ := hk.all x hx
    obtain ⟨t, ht, b1, b2⟩ := mem_turnsFrom (s := s) a1 r.Rounds.toNat x.Round a3 (by omega)
    obtain ⟨j, hj⟩ := openFrom_mem (r := r) (k := k) (turnsFrom r s r.Rounds.toNat) 0 ht
    have hf : fits t x = true := by simp [fits, b1, b2]
    exact ⟨_, hj, by rw [keepIn_one r t k _ hx hf fun y hy hfy => by rw [hk.one hx hy hf hfy]]; exact e⟩
def freeP (r : Room) (k : List Keep) (s : List Swap) : List Pick := (open1 r k s).filter fun p => p.Player == []
theorem openFrom_free {r : Room} {k : List Keep} (h : KeepsOk r k) (hne : ∀ s ∈ r.Players, s ≠ []) : ∀ (l : List Turn) (i : Nat), ((openFrom r k i l).filter fun p => p.Player == []).length + (l.filter fun t => k.any (fits t)).length = l.length
  | [], i => rfl
  | t :: l, i => by
    have ih := openFrom_free h hne l (i + 1)
    simp only [openFrom, List.filter_cons, keepIn_free h hne t ⟨i, t.team, [], 0, false⟩ rfl, List.length_cons]
    cases k.any (fits t) <;> simp only [Bool.not_true, Bool.not_false, Bool.false_eq_true, if_true, if_false, List.length_cons] <;> omega
theorem free_len {r : Room} {k : List Keep} {s : List Swap} (h : openFault r k s = 0) : (freeP r k s).length + k.length ≤ (turns r s).length := by
  obtain ⟨h1, _, h3⟩ := openFault_ok h
  have hk := checkKeeps_good h3
  have hr := room_ok h1
  have e := openFrom_free hk hr.ne (turns r s) 0
  have hs : (k.map fun x => (x.Team, x.Round)).length ≤ (((turns r s).filter fun t => k.any (fits t)).map fun t => (t.of, t.round)).length := by
    refine nodup_sub ?_ fun q hq => ?_
    · refine List.pairwise_map.2 (hk.lt.imp fun {a b} hab e => ?_)
      injection e with e1 e2
      rcases hab with hab | ⟨_, hab⟩
      · rw [e1, less_irrefl] at hab; cases hab
      · omega
    · obtain ⟨x, hx, rfl⟩ := List.mem_map.1 hq
      obtain ⟨a1, _, a3, a4⟩ := hk.all x hx
      obtain ⟨t, ht, b1, b2⟩ := mem_turnsFrom (s := s) a1 r.Rounds.toNat x.Round a3 (by omega)
      refine List.mem_map.2 ⟨t, List.mem_filter.2 ⟨ht, List.any_eq_true.2 ⟨x, hx, by simp [fits, b1, b2]⟩⟩, by rw [b1, b2]⟩
  simp only [List.length_map] at hs
  unfold freeP open1
  omega
/-! who is left -/
def goneB (k : List Keep) (l : List Pick) (s : Str) : Bool := k.any (fun x => x.Player == s) || l.any (fun p => p.Player == s)
def leftL (r : Room) (k : List Keep) (l : List Pick) : List Str := r.Players.filter fun s => !(goneB k l s)
theorem left_len {r : Room} {k : List Keep} {l : List Pick} (hs : SortedS r.Players) : r.Players.length ≤ (leftL r k l).length + k.length + l.length := by
  have h1 : (r.Players.filter (goneB k l)).length ≤ (k.map (·.Player) ++ l.map (·.Player)).length := by
    refine nodup_sub ((sorted_nodup hs).sublist List.filter_sublist) fun s h => ?_
    have := (List.mem_filter.1 h).2
    simp only [goneB, Bool.or_eq_true, List.any_eq_true, beq_iff_eq] at this
    rcases this with ⟨x, hx, e⟩ | ⟨x, hx, e⟩
    · exact List.mem_append_left _ (List.mem_map.2 ⟨x, hx, e⟩)
    · exact List.mem_append_right _ (List.mem_map.2 ⟨x, hx, e⟩)
  have h2 : ∀ (p : Str → Bool) (q : List Str), (q.filter fun s => !(p s)).length + (q.filter p).length = q.length := fun p q => by
    induction q with
    | nil => rfl
    | cons a q ih => simp only [List.filter_cons]; cases p a <;> simp <;> omega
  have := h2 (goneB k l) r.Players
  rw [List.length_append, List.length_map, List.length_map] at h1
  unfold leftL
  omega
theorem turns_many {r : Room} {s : List Swap} (h : RoomOk r) : (turns r s).length ≤ r.Players.length := by
  unfold turns; rw [turnsFrom_len]
  have := h.many
  have e : ((r.Rounds.toNat * r.Teams.length : Nat) : Int) = (r.Teams.length : Int) * r.Rounds := by
    rw [Int.natCast_mul, Int.toNat_of_nonneg (by have := h.r1; omega), Int.mul_comm]
  omega
theorem left_ne {r : Room} {k : List Keep} {s : List Swap} {l : List Pick} (h : openFault r k s = 0) (hl : l.length < (freeP r k s).length) : 0 < (leftL r k l).length := by
  have hr := room_ok (openFault_ok h).1
  have h1 := free_len h
  have h2 := left_len (k := k) (l := l) hr.sorted
  have h3 := turns_many (s := s) hr
  omega
end Go.HL
end
section
namespace Go.HL
section
variable {α : Type} (c : α → α → Int)
variable {c}
end
end Go.HL
end
section
namespace Go.HL
open Op (bytesLess)
end Go.HL
end
section
namespace Go.HL
open Op (bytesLess)
end Go.HL
end
section
namespace Go.HL
end Go.HL
namespace Go.HL
end Go.HL
namespace Go.HL
end Go.HL
end
section
namespace Go.HL
/-- The state of a loop that draws: the list that grows, how many were drawn. -/
structure GL (α : Type) where
  u : Value
  out : List α
  a : Nat
structure GLok {α : Type} (P : α → Prop) (n m : Nat) (q : GL α) : Prop where
  len : q.out.length ≤ n
  all : ∀ x ∈ q.out, P x
  a : q.a ≤ m
section
variable {α : Type} {P : α → Prop}
theorem GLok.add {n m m' : Nat} {u u' : Value} {out : List α} {a1 a2 : Nat} {x : α} (h : GLok P n m ⟨u, out, a1⟩) (hx : P x) (ha : a2 ≤ m') : GLok P (n + 1) m' ⟨u', out ++ [x], a2⟩ :=
  ⟨by have := h.len; simp at *; omega, fun y hy => by
    rcases List.mem_append.1 hy with hy | hy
    · exact h.all y hy
    · simp at hy; subst hy; exact hx, ha⟩
end
end Go.HL
end
section
namespace Go.HL
structure PairS where
  Name : Str
  Val : Str
end Go.HL
end
section
namespace Go.HL
end Go.HL
end
section
namespace Go.HL
open Op (bytesLess)
end Go.HL
end
section
namespace Go.HL
end Go.HL
end
section
namespace Go.HL
end Go.HL
end
section
namespace Go.HL
end Go.HL
end
section
namespace Go.HL
end Go.HL
end
section
namespace Go.HL
end Go.HL
end
section
namespace Go.HL
end Go.HL
end
section
namespace Go.HL
end Go.HL
end
section
namespace Go.HL
structure Hall where
  Teams : List Str
  Players : List Str
  Budget : Int
  Places : Int
structure Sale where
  Player : Str
  Team : Str
  Price : Int
def spent : List Sale → Str → Int
  | [], _ => 0
  | x :: r, t => (if x.Team = t then x.Price else 0) + spent r t
def many : List Sale → Str → Int
  | [], _ => 0
  | x :: r, t => (if x.Team = t then 1 else 0) + many r t
theorem spent_snoc (l : List Sale) (x : Sale) (t : Str) : spent (l ++ [x]) t = spent l t + (if x.Team = t then x.Price else 0) := by
  induction l with
  | nil => simp [spent]
  | cons y r ih => simp only [List.cons_append, spent, ih]; omega
theorem many_snoc (l : List Sale) (x : Sale) (t : Str) : many (l ++ [x]) t = many l t + (if x.Team = t then 1 else 0) := by
  induction l with
  | nil => simp [many]
  | cons y r ih => simp only [List.cons_append, many, ih]; omega
abbrev SMap := List (Str × HVal)
def lkI (L : SMap) (t : Str) : HVal := match sfind t L with | some p => p.2 | none => .int .i64 0
theorem sfind_append_none {s t : Str} {v : HVal} : ∀ {L : SMap}, sfind s L = none → sfind t (L ++ [(s, v)]) = if t = s then some (L.length, v) else sfind t L
  | [], _ => by by_cases h : t = s <;> simp [sfind, h]
  | (k, h) :: r, hn => by
    simp only [sfind] at hn
    by_cases hk : s = k
    · rw [if_pos hk] at hn; cases hn
    · rw [if_neg hk] at hn
      have hr : sfind s r = none := by cases hq : sfind s r with
        | none => rfl
        | some p => rw [hq] at hn; cases hn
      have ih := sfind_append_none (t := t) (v := v) hr
      simp only [List.cons_append, sfind]
      by_cases ht : t = k
      · have : ¬ t = s := fun e => hk (e ▸ ht)
        rw [if_pos ht, if_neg this, if_pos ht]
      · rw [if_neg ht, ih]
        by_cases hs : t = s
        · rw [if_pos hs, if_pos hs]; simp
        · rw [if_neg hs, if_neg hs, if_neg ht]
theorem sfind_set {s t : Str} {v : HVal} : ∀ {L : SMap} {j : Nat} {h : HVal}, sfind s L = some (j, h) → (sfind t (L.set j (s, v))) = if t = s then some (j, v) else sfind t L
  | [], j, h, hh => by simp [sfind] at hh
  | (k, x) :: r, j, h, hh => by
    simp only [sfind] at hh
    by_cases hk : s = k
    · rw [if_pos hk] at hh
      simp only [Option.some.injEq, Prod.mk.injEq] at hh
      obtain ⟨rfl, rfl⟩ := hh
      subst hk
      simp only [List.set_cons_zero, sfind]
      by_cases ht : t = s
      · rw [if_pos ht, if_pos ht]
      · rw [if_neg ht, if_neg ht, if_neg ht]
    · rw [if_neg hk] at hh
      cases hq : sfind s r with
      | none => rw [hq] at hh; cases hh
      | some p =>
        rw [hq] at hh
        simp only [Option.map_some, Option.some.injEq, Prod.mk.injEq] at hh
        obtain ⟨rfl, rfl⟩ := hh
        have ih := sfind_set (t := t) (v := v) (L := r) (j := p.1) (h := p.2) (by rw [hq])
        simp only [List.set_cons_succ, sfind]
        by_cases ht : t = k
        · have : ¬ t = s := fun e => hk (e ▸ ht)
          rw [if_pos ht, if_neg this, if_pos ht]
        · rw [if_neg ht, ih, if_neg ht]
          by_cases hs : t = s
          · rw [if_pos hs, if_pos hs]; rfl
          · rw [if_neg hs, if_neg hs]
theorem sfind_put (s t : Str) (v : HVal) (L : SMap) : (sfind t (sput s v L)).map (·.2) = if t = s then some v else (sfind t L).map (·.2) := by
  unfold sput
  cases hq : sfind s L with
  | none => simp only []; rw [sfind_append_none hq]; split <;> rfl
  | some p => obtain ⟨j, h⟩ := p; simp only []; rw [sfind_set hq]; split <;> rfl
theorem lkI_eq (L : SMap) (t : Str) : lkI L t = ((sfind t L).map (·.2)).getD (.int .i64 0) := by
  unfold lkI; cases sfind t L <;> rfl
theorem lkI_put (s t : Str) (v : HVal) (L : SMap) : lkI (sput s v L) t = if t = s then v else lkI L t := by
  rw [lkI_eq, sfind_put, lkI_eq]; split <;> rfl
theorem sfind_some_iff (L : SMap) (t : Str) : (sfind t L).isSome = ((sfind t L).map (·.2)).isSome := by cases sfind t L <;> rfl
/-- An auction after sales. -/
structure AucOk (h : Hall) (l : List Sale) (S : List Str) (L H : SMap) : Prop where
  sold : ∀ s, S.contains s = l.any (fun y => y.Player == s)
  left : ∀ t, h.Teams.contains t = true → lkI L t = .int .i64 (h.Budget - spent l t)
  got : ∀ t, lkI H t = .int .i64 (many l t)
theorem sadd_contains (s t : Str) (l : List Str) : (sadd s l).contains t = (l.contains t || s == t) := by
  unfold sadd
  by_cases hc : l.contains s = true
  · rw [if_pos hc]
    by_cases h : s = t
    · subst h; rw [hc]; simp
    · have : (s == t) = false := by simpa using h
      simp [this]
  · rw [if_neg hc, List.contains_eq_any_beq, List.any_append, ← List.contains_eq_any_beq]
    congr 1
    simp only [List.any_cons, List.any_nil, Bool.or_false]
    rw [Bool.eq_iff_iff, beq_iff_eq, beq_iff_eq]; exact eq_comm
theorem AucOk.add {h : Hall} {l : List Sale} {S : List Str} {L H : SMap} (ok : AucOk h l S L H) (x : Sale) (hx : h.Teams.contains x.Team = true) :
    AucOk h (l ++ [x]) (sadd x.Player S) (sput x.Team (.int .i64 (h.Budget - spent l x.Team - x.Price)) L) (sput x.Team (.int .i64 (many l x.Team + 1)) H) where
  sold s := by rw [sadd_contains, ok.sold, List.any_append]; simp
  left t ht := by
    rw [lkI_put, spent_snoc]
    by_cases e : t = x.Team
    · subst e; rw [if_pos rfl, if_pos rfl]; congr 1; omega
    · rw [if_neg e, if_neg (fun q => e q.symm), ok.left t ht]; congr 1; omega
  got t := by
    rw [lkI_put, many_snoc]
    by_cases e : t = x.Team
    · subst e; rw [if_pos rfl, if_pos rfl]
    · rw [if_neg e, if_neg (fun q => e q.symm), ok.got t]; congr 1; omega
end Go.HL
end
section
namespace Go.HL
def lastAt (r : Room) (l : List Pick) : Int := match l.getLast? with | some p => p.At | none => r.Start
theorem lastAt_snoc (r : Room) (l : List Pick) (p : Pick) : lastAt r (l ++ [p]) = p.At := by simp [lastAt]
def pkF (r : Room) (k : List Keep) (fr l : List Pick) (p : Pick) : Int :=
  if !(moment p.At) then 1 else if !(p.No == (fr.getD l.length pick0).No) then 7 else if !(p.Team == (fr.getD l.length pick0).Team) then 13
  else if !(r.Players.contains p.Player) then 8 else if goneB k l p.Player then 6 else if p.At < lastAt r l then 11 else 0
def pksGo (r : Room) (k : List Keep) (fr l : List Pick) : Nat → List Pick → Int
  | _, [] => 0
  | i, p :: t => if pkF r k fr (l.take i) p != 0 then pkF r k fr (l.take i) p else pksGo r k fr l (i + 1) t
def pksR (r : Room) (k : List Keep) (s : List Swap) (l : List Pick) : Int := if (freeP r k s).length < l.length then 2 else pksGo r k (freeP r k s) l 0 l
def picksE (r : Room) (k : List Keep) (s : List Swap) (l : List Pick) : Int := if openFault r k s != 0 then openFault r k s else pksR r k s l
theorem pgo_ne {r : Room} {k : List Keep} {fr l : List Pick} {i : Nat} {p : Pick} {t : List Pick} (h : pkF r k fr (l.take i) p ≠ 0) : pksGo r k fr l i (p :: t) = pkF r k fr (l.take i) p := by
  rw [pksGo, if_pos (by simpa using h)]
theorem pgo_z {r : Room} {k : List Keep} {fr l : List Pick} {i : Nat} {p : Pick} {t : List Pick} (h : pkF r k fr (l.take i) p = 0) : pksGo r k fr l i (p :: t) = pksGo r k fr l (i + 1) t := by
  rw [pksGo, if_neg (by simp [h])]
section
variable {r : Room} {k : List Keep} {fr l : List Pick} {p : Pick}
theorem pf1 (h1 : moment p.At = false) : pkF r k fr l p = 1 := by simp [pkF, h1]
theorem pf2 (h1 : moment p.At = true) (h2 : ¬ p.No = (fr.getD l.length pick0).No) : pkF r k fr l p = 7 := by
  unfold pkF; rw [if_neg (by simp [h1]), if_pos (by simpa using h2)]
theorem pf3 (h1 : moment p.At = true) (h2 : p.No = (fr.getD l.length pick0).No) (h3 : ¬ p.Team = (fr.getD l.length pick0).Team) : pkF r k fr l p = 13 := by
  unfold pkF; rw [if_neg (by simp [h1]), if_neg (by simpa using h2), if_pos (by simpa using h3)]
theorem pf4 (h1 : moment p.At = true) (h2 : p.No = (fr.getD l.length pick0).No) (h3 : p.Team = (fr.getD l.length pick0).Team) (h4 : ¬ p.Player ∈ r.Players) : pkF r k fr l p = 8 := by
  unfold pkF; rw [if_neg (by simp [h1]), if_neg (by simpa using h2), if_neg (by simpa using h3), if_pos (by simpa using h4)]
theorem pf5 (h1 : moment p.At = true) (h2 : p.No = (fr.getD l.length pick0).No) (h3 : p.Team = (fr.getD l.length pick0).Team) (h4 : p.Player ∈ r.Players) (h5 : goneB k l p.Player = true) : pkF r k fr l p = 6 := by
  unfold pkF; rw [if_neg (by simp [h1]), if_neg (by simpa using h2), if_neg (by simpa using h3), if_neg (by simpa using h4), if_pos h5]
theorem pf6 (h1 : moment p.At = true) (h2 : p.No = (fr.getD l.length pick0).No) (h3 : p.Team = (fr.getD l.length pick0).Team) (h4 : p.Player ∈ r.Players) (h5 : goneB k l p.Player = false) (h6 : p.At < lastAt r l) : pkF r k fr l p = 11 := by
  unfold pkF; rw [if_neg (by simp [h1]), if_neg (by simpa using h2), if_neg (by simpa using h3), if_neg (by simpa using h4), if_neg (by simp [h5]), if_pos h6]
theorem pf0 (h1 : moment p.At = true) (h2 : p.No = (fr.getD l.length pick0).No) (h3 : p.Team = (fr.getD l.length pick0).Team) (h4 : p.Player ∈ r.Players) (h5 : goneB k l p.Player = false) (h6 : ¬ p.At < lastAt r l) : pkF r k fr l p = 0 := by
  unfold pkF; rw [if_neg (by simp [h1]), if_neg (by simpa using h2), if_neg (by simpa using h3), if_neg (by simpa using h4), if_neg (by simp [h5]), if_neg h6]
theorem pkF_ok (h : pkF r k fr l p = 0) : moment p.At = true ∧ p.No = (fr.getD l.length pick0).No ∧ p.Team = (fr.getD l.length pick0).Team ∧ p.Player ∈ r.Players ∧ goneB k l p.Player = false := by
  unfold pkF at h
  split at h
  · omega
  · rename_i h1
    split at h
    · omega
    · rename_i h2
      split at h
      · omega
      · rename_i h3
        split at h
        · omega
        · rename_i h4
          split at h
          · omega
          · rename_i h5
            simp at h1 h2 h3 h4 h5
            exact ⟨h1, h2, h3, h4, h5⟩
end
theorem picksE_ok {r : Room} {k : List Keep} {s : List Swap} {l : List Pick} (h : picksE r k s l = 0) : openFault r k s = 0 ∧ l.length ≤ (freeP r k s).length ∧ pksGo r k (freeP r k s) l 0 l = 0 := by
  unfold picksE at h
  split at h
  · rename_i hc; simp [h] at hc
  · rename_i hc
    unfold pksR at h
    split at h
    · omega
    · exact ⟨by simpa using hc, by omega, h⟩
theorem pksGo_at {r : Room} {k : List Keep} {fr l : List Pick} : ∀ (t : List Pick) (i : Nat), l.drop i = t → pksGo r k fr l i t = 0 → ∀ (j : Nat) (p : Pick), i ≤ j → l[j]? = some p → pkF r k fr (l.take j) p = 0
  | [], i, hd, _, j, p, hj, hp => by
    have := lt_of_get hp
    have h2 : l.length ≤ i := by rw [← List.drop_eq_nil_iff]; exact hd
    omega
  | x :: t, i, hd, h, j, p, hj, hp => by
    have hk : l[i]? = some x := by
      have := congrArg (fun q => q[0]?) hd
      simpa using this
    have hd' : l.drop (i + 1) = t := by
      have := drop_cons hk
      rw [hd] at this; simp at this; exact this.symm
    by_cases e : pkF r k fr (l.take i) x = 0
    · rw [pgo_z e] at h
      by_cases hij : i = j
      · subst hij; rw [hk] at hp; cases hp; exact e
      · exact pksGo_at t (i + 1) hd' h j p (by omega) hp
    · rw [pgo_ne e] at h; exact absurd h e
theorem last_moment {r : Room} {k : List Keep} {s : List Swap} {l : List Pick} (h : picksE r k s l = 0) : moment (lastAt r l) = true := by
  obtain ⟨h1, h2, h3⟩ := picksE_ok h
  cases hl : l.getLast? with
  | none => simp only [lastAt, hl]; exact (room_ok (openFault_ok h1).1).start
  | some p =>
    simp only [lastAt, hl]
    have : l[l.length - 1]? = some p := by rw [← List.getLast?_eq_getElem?]; exact hl
    exact (pkF_ok (pksGo_at l 0 rfl h3 _ p (Nat.zero_le _) this)).1
/-! wishes -/
structure Wish where
  Team : Str
  Players : List Str
abbrev eWish (w : Wish) : HVal := .agg [.str w.Team, eSs w.Players]
abbrev eWishes (l : List Wish) : HVal := .slice 2 (l.map eWish)
theorem goneB_snoc (k : List Keep) (l : List Pick) (p : Pick) (s : Str) : goneB k (l ++ [p]) s = (goneB k l s || p.Player == s) := by
  simp [goneB, Bool.or_assoc]
/-! what a run holds -/
structure RunOk (r : Room) (k : List Keep) (s : List Swap) (l : List Pick) (S : List Str) : Prop where
  gone : ∀ x ∈ r.Players, S.contains x = goneB k l x
theorem RunOk.add {r : Room} {k : List Keep} {s : List Swap} {l : List Pick} {S : List Str} (ok : RunOk r k s l S) (p : Pick) : RunOk r k s (l ++ [p]) (sadd p.Player S) :=
  ⟨fun x hx => by rw [goneB_snoc, sadd_contains, ok.gone x hx]⟩
end Go.HL
end
section
namespace Go.HL
variable {P : Program}
open Go.ChangeShapes Go.WideShapes Go.RowKit
theorem below_of_sat {W W' : World} {J : Imm} {M : List MObj} (hl : Le (allI W) J) (hs : Sat P J M W') : Below W.heap.size W W' := by
  have hb : ∀ k, k < W.heap.size → W'.heap[k]? = W.heap[k]? := fun k hk => by
    have h1 : W.heap[k]? = some W.heap[k] := by simp [hk]
    rw [h1]
    exact hs.imm _ _ (hl.heap _ _ h1)
  exact {
    os := hs.os.trans hl.os
    tape := hs.tape.trans hl.tape
    output := hs.output.trans hl.output
    size := by
      rcases Nat.eq_zero_or_pos W.heap.size with h | h
      · omega
      · have h1 := hb (W.heap.size - 1) (by omega)
        have h2 : W.heap[W.heap.size - 1]? = some (W.heap[W.heap.size - 1]'(by omega)) := by simp
        rw [h2] at h1
        rcases Nat.lt_or_ge (W.heap.size - 1) W'.heap.size with h3 | h3
        · omega
        · rw [Array.getElem?_eq_none h3] at h1; cases h1
    block := hb }
theorem sat_now {W : World} (ht : TabI P (allI W)) : Sat P (allI W) [] W := ⟨fun _ _ h => h, fun _ h => by simp at h, by simp [blocks], fun _ h => by simp [blocks] at h, rfl, rfl, rfl, ht, Nat.le_refl _⟩
theorem conp_law {P : Program} {f : FuncId} {l : List Int} (hc : ConP P f [.slice 1 (l.map (.int .i64))] (.bool true)) {W : World} (ht : TabI P (allI W)) {v : Value} (hv : V (allI W) (.slice 1 (l.map (.int .i64))) v) :
    Calls P f #[v] W fun e W' => e = .returned (.bool true) ∧ Below W.heap.size W W' := by
  refine (hc (allI W) [] W [v] (VL.cons hv VL.nil) (sat_now ht)).mono ?_
  rintro e W' ⟨u, h, M', J, rfl, hle, ⟨rfl, rfl⟩, hV, hs⟩
  exact ⟨by rw [hV.bool_inv], below_of_sat hle hs⟩
theorem v_ints {W : World} {a : Addr} {len cap : Nat} {zs : List Int} (hcell : ∀ i, i < zs.length → W.cell? (a.add i) = some (.int .i64 (zs.getD i 0))) (hl : len ≤ zs.length) (hc : len ≤ cap) :
    V (allI W) (.slice 1 ((zs.take len).map (.int .i64))) (.slice (some a) len cap) := by
  rcases Nat.eq_zero_or_pos len with h0 | h0
  · subst h0; exact .slice0 _ _ _
  · obtain ⟨b, off, rfl, hj⟩ := ints_at hcell (by omega)
    have hc0 := hj 0 (by omega)
    unfold World.cell? at hc0
    cases hh : W.heap[b]? with
    | none => rw [hh] at hc0; simp at hc0
    | some o =>
      cases o with
      | cells rc el fr =>
        have hrc : ∀ j, j < zs.length → rc[off + j]? = some (.int .i64 (zs.getD j 0)) := fun j hj' => by
          have := hj j hj'
          unfold World.cell? at this
          simpa [hh] using this
        have hlen : ((zs.take len).map (HVal.int .i64)).length = len := by simp; omega
        have hsz : off + zs.length ≤ rc.size := by
          have := hrc (zs.length - 1) (by omega)
          rcases Nat.lt_or_ge (off + (zs.length - 1)) rc.size with h3 | h3
          · omega
          · rw [Array.getElem?_eq_none h3] at this; cases this
        have := V.slice (I := allI W) (sz := 1) (es := (zs.take len).map (.int .i64)) (b := b) (off := off) (cap := cap) (rc := rc) (el := el) (fr := fr) hh
          (fun e he => by obtain ⟨n, _, rfl⟩ := List.mem_map.1 he; rfl) (by omega) (by omega) (fun i j e c v h1 h2 h3 => by
            have hi := lt_of_get h1
            rw [hlen] at hi
            rw [List.getElem?_map, List.getElem?_take_of_lt hi] at h1
            have e1 : zs[i]? = some zs[i] := List.getElem?_eq_getElem (by omega)
            rw [e1] at h1
            simp only [Option.map_some, Option.some.injEq] at h1
            subst h1
            cases j with
            | succ j => simp [hcells] at h2
            | zero =>
              simp only [hcells, List.getElem?_cons_zero, Option.some.injEq] at h2
              subst h2
              have h4 := hrc i (by omega)
              rw [Nat.mul_one, Nat.add_zero, h4] at h3
              simp only [Option.some.injEq] at h3
              subst h3
              have : zs.getD i 0 = zs[i] := by simp [List.getD, e1]
              rw [this]
              exact .int _ _)
        rw [hlen] at this
        exact this
      | _ => rw [hh] at hc0; simp at hc0
end Go.HL
end
section
namespace Go.HL
open Go.Sort Go.Proofs Go.RowKit
variable {P : Program}
theorem laid_at {w : World} {name : String} {d : DataW Unit} : ∀ {laid : List (String × DataW Unit)} {ps : List MemPlace}, DataW.LaidVars P w laid ps → ∀ (i : Nat), laid[i]? = some (name, d) →
    ∃ g t cs fuel p, P.globalNamed name = some g ∧ (P.globals[g]?).map (·.type) = some t ∧ w.var? P name = some cs ∧ DataW.trod (fun _ => ()) P w 0 (fun _ => true) false fuel t cs.toList = some (d, p)
  | [], _, _, i, h => by simp at h
  | (n, x) :: r, ps, h, 0, hi => by
    simp at hi
    obtain ⟨rfl, rfl⟩ := hi
    obtain ⟨g, t, cs, fuel, p, q, h1, h2, h3, h4, _, _⟩ := h
    exact ⟨g, t, cs, fuel, p, h1, h2, h3, h4⟩
  | (n, x) :: r, ps, h, i + 1, hi => by
    obtain ⟨g, t, cs, fuel, p, q, _, _, _, _, h5, _⟩ := h
    exact laid_at h5 i (by simpa using hi)
theorem tabI_of_laid {W : World} {laid : List (String × DataW Unit)} {i g : Nat} {t e : TypeId} {n : Nat} (h : laidMet P laid W) (hi : laid[i]? = some ("internal/strconv.uint64pow10", Lib.tabData .u64 Lib.pow10Tab))
    (hg : P.globalNamed "internal/strconv.uint64pow10" = some g) (hty : (P.globals[g]?).map (·.type) = some t) (ht : P.underlying t = some (.array n e)) (he : P.underlying e = some (.int .u64)) (hce : P.cellsOf e = 1) (hct : P.cellsOf t = n) : TabI P (allI W) := by
  obtain ⟨ps, h1, _⟩ := h
  obtain ⟨g', t', cs, fuel, p, a1, a2, a3, a4⟩ := laid_at h1 i hi
  obtain rfl := Option.some.inj (hg.symm.trans a1)
  obtain rfl := Option.some.inj (hty.symm.trans a2)
  intro g' hg'
  obtain rfl := Option.some.inj (hg.symm.trans hg')
  have hc := Lib.cells_of_tab ht he hce hct a4
  have hv := a3
  unfold World.var? at hv
  rw [hg] at hv
  simp only [Option.bind_some] at hv
  cases hh : W.heap[g]? with
  | none => rw [hh] at hv; cases hv
  | some o =>
    cases o with
    | cells c ty fr =>
      rw [hh] at hv
      simp only [Option.some.injEq] at hv
      subst hv
      refine ⟨ty, fr, ?_⟩
      show W.heap[g]? = _
      rw [hh, ← hc]
    | _ => rw [hh] at hv; cases hv
theorem Sat.lt {I : Imm} {M : List MObj} {w : World} (hs : Sat P I M w) : (∀ b, (∃ o, I.heap b = some o) → b < w.heap.size) ∧ ∀ b ∈ blocks M, b < w.heap.size := by
  have key : ∀ b o, w.heap[b]? = some o → b < w.heap.size := fun b o h => by
    rcases Nat.lt_or_ge b w.heap.size with h' | h'
    · exact h'
    · simp [Array.getElem?_eq_none h'] at h
  refine ⟨fun b ⟨o, h⟩ => key b o (hs.imm b o h), fun b hb => ?_⟩
  simp only [blocks, List.mem_flatMap] at hb
  obtain ⟨m, hm, hb⟩ := hb
  obtain ⟨o, ho⟩ := (hs.obj m hm).lies hb
  exact key b o ho
end Go.HL
end
section
namespace Go.HL
section
variable {P : Program} {e : Env} {dst : Option Tmp} {ty : TypeId} {pos : String} {af : Array Edge} {g : Option (Nat × Bool)} {M : List MObj} {K : HVal → List MObj → Prop}
end
end Go.HL
end
section
namespace Go.HL
section
variable {P : Program} {e : Env} {dst : Option Tmp} {ty : TypeId} {pos : String} {af : Array Edge} {g : Option (Nat × Bool)} {M : List MObj} {K : HVal → List MObj → Prop}
end
section
variable {P : Program}
end
end Go.HL
end
section
namespace Go.HL
/-! numbers in decimal -/
def dig (c : UInt8) : Bool := decide (48 ≤ c.toNat) && decide (c.toNat ≤ 57)
def cutMinus (s : Str) : Str := match s with | 45 :: r => r | _ => s
def numC (s : Str) (n : Int) : Bool := decide ((cutMinus s = [] ∨ n < ((cutMinus s).length : Int)) ∨ ((((cutMinus s).head?).getD 0).toNat : Int) = 48 ∧ ((1 : Int) < ((cutMinus s).length : Int) ∨ (cutMinus s).length < s.length))
def numB (s : Str) (n : Int) : Bool := !(numC s n) && (cutMinus s).all dig
def numV (s : Str) : Int := (Lib.atoi s).getD 0
def numR (s : Str) (n : Int) : Int := if numB s n then numV s else 0
/-- The map of limits. -/
def LimOk (l : List PairS) (L : SMap) : Prop := ∀ t, (sfind t L).map (·.2) = (l.find? (fun p => p.Name == t)).map (fun p => .int .i64 (numR p.Val 9))
theorem LimOk.add {l : List PairS} {L : SMap} (ok : LimOk l L) (x : PairS) (hx : l.any (fun y => y.Name == x.Name) = false) : LimOk (l ++ [x]) (sput x.Name (.int .i64 (numR x.Val 9)) L) := fun t => by
  rw [sfind_put, List.find?_append, ok t]
  by_cases e : t = x.Name
  · subst e
    rw [if_pos rfl]
    have : l.find? (fun p => p.Name == x.Name) = none := by
      rw [List.find?_eq_none]; intro y hy
      have := List.any_eq_false.1 hx y hy
      simpa using this
    rw [this]; simp
  · rw [if_neg e]
    have hn : (x.Name == t) = false := by simpa using fun q => e q.symm
    cases l.find? (fun p => p.Name == t) with
    | none => simp [List.find?, hn]
    | some p => simp
theorem LimOk.is {l : List PairS} {L : SMap} (ok : LimOk l L) (t : Str) : (sfind t L).isSome = l.any (fun y => y.Name == t) := by
  rw [sfind_some_iff, ok t]
  rw [Bool.eq_iff_iff]; simp
structure Top where
  team : Str
  first : Int
  second : Int
def Top.step (q : Top) (t : Str) (n : Int) : Top := if q.first < n then ⟨t, n, q.first⟩ else ⟨q.team, q.first, max q.second n⟩
end Go.HL
end
section
namespace Go.HL
section
variable {h : Hall} {l : List Sale} {x : Sale} (h6 : x.Player ∈ h.Players ∧ x.Team ∈ h.Teams) (h8 : ∀ y ∈ l, ¬ y.Player = x.Player)
include h6 h8
end
end Go.HL
end
section
namespace Go.HL
end Go.HL
end
section
namespace Go.HL
theorem Ghost.clear {e : Env} : ∀ {M : List MObj}, Ghost e M e []
  | [] => Ghost.perm (List.Perm.refl _)
  | _ :: _ => Ghost.trans Ghost.drop Ghost.clear
theorem Ghost.last {e : Env} {m : MObj} : ∀ {R : List MObj}, Ghost e (R ++ [m]) e [m]
  | [] => Ghost.perm (List.Perm.refl _)
  | x :: R => Ghost.trans (M' := R ++ [m]) Ghost.drop Ghost.last
theorem Ghost.only {e : Env} {M : List MObj} {i : Nat} {m : MObj} (h : M[i]? = some m) : Ghost e M e [m] :=
  Ghost.trans (Ghost.perm ((perm_erase h).trans (List.perm_append_comm (l₁ := [m]) (l₂ := M.eraseIdx i)))) Ghost.last
end Go.HL
end
section
namespace Go.HL
theorem Ghost.suffix {e : Env} {M : List MObj} : ∀ {R : List MObj}, Ghost e (R ++ M) e M
  | [] => Ghost.perm (List.Perm.refl _)
  | x :: R => Ghost.trans (M' := R ++ M) Ghost.drop Ghost.suffix
section
variable {P : Program} {e : Env} {dst : Option Tmp} {ty : TypeId} {pos : String} {af : Array Edge} {g : Option (Nat × Bool)} {M : List MObj} {K : HVal → List MObj → Prop}
end
end Go.HL
end
section
namespace Go.HL
variable {P : Program}
theorem V.hmap_inv {I : Imm} {ks vs : List HVal} {v : Value} (h : V I (.hmap ks vs) v) : ∃ b es clk, v = .map (some b) ∧ I.heap b = some (.map es clk) ∧ es.size = ks.length ∧ es.size = vs.length ∧
    (∀ (j : Nat) (c : HVal) (m : MapEntry), ks[j]? = some c → es[j]? = some m → V I c m.key) ∧ ∀ (j : Nat) (c : HVal) (m : MapEntry), vs[j]? = some c → es[j]? = some m → V I c m.val := by
  cases h with
  | hmap h1 h2 h3 h4 h5 => exact ⟨_, _, _, rfl, h1, h2, h3, h4, h5⟩
/-- A frozen map keyed by strings. -/
abbrev hsm (L : SMap) : HVal := .hmap (L.map fun p => .str p.1) (L.map (·.2))
abbrev hset (S : List (List UInt8)) : HVal := hsm (mset S)
theorem sk_fst (L : SMap) : (sk L).map (·.1) = L.map fun p => HVal.str p.1 := by simp [sk, Function.comp_def]
theorem sk_snd (L : SMap) : (sk L).map (·.2) = L.map (·.2) := by simp [sk, Function.comp_def]
theorem Sat.freeze_map {I : Imm} {M : List MObj} {b : Nat} {L : SMap} {w : World} (h : Sat P I (.map b (sk L) :: M) w) : ∃ J, Le I J ∧ Sat P J M w ∧ V J (hsm L) (.map (some b)) := by
  obtain ⟨es, clk, h1, h2, h3⟩ := h.obj _ List.mem_cons_self
  obtain ⟨hl, hs⟩ := h.freeze (b := b) rfl h1
  have hn : es.size = L.length := by simpa [sk] using h2
  refine ⟨_, hl, hs, .hmap Imm.add_self (by simp [hn]) (by simp [hn]) (fun j c m a1 a2 => ?_) (fun j c m a1 a2 => ?_)⟩
  · rw [← sk_fst, List.getElem?_map] at a1
    cases hq : (sk L)[j]? with
    | none => rw [hq] at a1; simp at a1
    | some p => rw [hq] at a1; simp at a1; subst a1; exact ((h3 j p m hq a2).1).mono hl
  · rw [← sk_snd, List.getElem?_map] at a1
    cases hq : (sk L)[j]? with
    | none => rw [hq] at a1; simp at a1
    | some p => rw [hq] at a1; simp at a1; subst a1; exact ((h3 j p m hq a2).2).mono hl
/-- The map in a cell of an owned variable. -/
theorem Ghost.fmcell {e : Env} {M : List MObj} {i k : Nat} {m b j : Nat} {L : SMap} {cs : List HVal} (hm : M[i]? = some (.map m (sk L))) (hc : (M.eraseIdx i)[k]? = some (.cells b cs)) (hj : cs[j]? = some (.raw (.map (some m)))) :
    Ghost e M e ((M.eraseIdx i).set k (.cells b (cs.set j (hsm L)))) := fun _ I F tmps w h1 hs => by
  obtain ⟨J, hl, hs', hv⟩ := (hs.pull hm).freeze_map
  refine ⟨J, hl, h1.mono hl, Sat.unpull hc ((hs'.pull hc).change (m' := .cells b (cs.set j (hsm L))) (fun _ _ _ => rfl) (fun x hx => .inl hx) (by simp [MObj.blocks]) ?_ rfl rfl rfl)⟩
  obtain ⟨rc, el, fr, a1, a2, a3⟩ := (hs'.pull hc).obj _ List.mem_cons_self
  refine ⟨rc, el, fr, a1, a2, by rw [a3.1]; simp, fun n c u b1 b2 => ?_⟩
  by_cases hn : n = j
  · subst hn
    have hlt := lt_of_get hj
    simp [hlt] at b1
    subst b1
    have := a3.2 n _ u hj b2
    rw [this.raw_inv]; exact hv
  · rw [List.getElem?_set_ne (Ne.symm hn)] at b1
    exact a3.2 n c u b1 b2
section
variable {e : Env} {dst : Option Tmp} {ty : TypeId} {pos : String} {af : Array Edge} {g : Option (Nat × Bool)}
theorem pop_lookup_m {x y : Operand} {t kt et : TypeId} {size bytes s2 b2 s3 b3 : Nat} {zero z2 z3 : Value} {d : TD} {ls : SMap} {s : List UInt8}
    (hf : Fits P t (.map kt et) size bytes zero) (hkt : Fits P kt .str s2 b2 z2) (het : Fits P et d s3 b3 z3) (hx : evalO e x = some (hsm ls)) (hy : evalO e y = some (.str s)) :
    POp P e ⟨dst, .lookup t x y false, ty, pos, af, g⟩ (match sfind s ls with | some p => p.2 | none => ofVal z3) :=
  POp.of_run fun I F a w ho hs => by
    obtain ⟨b, es, clk, h1, h3, h4, h4', hK, hV⟩ := (ho.one (x := x) (by simp [Op.operands]) hx).hmap_inv
    have h2 := (ho.one (x := y) (by simp [Op.operands]) hy).str_inv
    have h3 := hs.imm _ _ h3
    have h5 : ∀ (i : Nat) (p : HVal × HVal) (m : MapEntry), (sk ls)[i]? = some p → es[i]? = some m → V I p.1 m.key ∧ V I p.2 m.val := fun i p m a1 a2 => by
      refine ⟨hK i _ m ?_ a2, hV i _ m ?_ a2⟩
      · rw [← sk_fst, List.getElem?_map, a1]; rfl
      · rw [← sk_snd, List.getElem?_map, a1]; rfl
    obtain ⟨h6, h7⟩ := mapL_entries (by simpa [sk] using h4) h5
    obtain ⟨n1, n2⟩ := findNow_s (I := I) (s := s) es.toList ls 0 h6 h7
    cases hq : sfind s ls with
    | none =>
      refine ⟨z3, w, I, ?_, .refl I, V_ofVal I z3, hs⟩
      simp only [execOp, h1, h2, Instr.lookup, Sem.run_bind, run_underlying hf.mapD, Result.andThen_ok, run_getMap h3, Sem.run_pure, run_checkKey_s hkt.strD, Instr.findKey, run_underlying hkt.strD, n1 hq, het.run_zero]
      simp
    | some p =>
      obtain ⟨j, h⟩ := p
      obtain ⟨v, g1, g2⟩ := n2 j h hq
      refine ⟨v, w, I, ?_, .refl I, g2, hs⟩
      simp only [execOp, h1, h2, Instr.lookup, Sem.run_bind, run_underlying hf.mapD, Result.andThen_ok, run_getMap h3, Sem.run_pure, run_checkKey_s hkt.strD, Instr.findKey, run_underlying hkt.strD, g1]
      simp
theorem pop_lookup_h {x y : Operand} {t kt et : TypeId} {size bytes s2 b2 s3 b3 : Nat} {zero z2 : Value} {d : TD} {S : List (List UInt8)} {s : List UInt8}
    (hf : Fits P t (.map kt et) size bytes zero) (hkt : Fits P kt .str s2 b2 z2) (het : Fits P et d s3 b3 (.bool false)) (hx : evalO e x = some (hset S)) (hy : evalO e y = some (.str s)) :
    POp P e ⟨dst, .lookup t x y false, ty, pos, af, g⟩ (.bool (S.contains s)) := by
  have := pop_lookup_m (dst := dst) (ty := ty) (pos := pos) (af := af) (g := g) hf hkt het hx hy
  rw [← (sfind_mset s S).1]
  exact this
end
/-- h, seen as h' while it is only read; objects may hold others. -/
inductive Bow (M : List MObj) : HVal → HVal → Prop
  | weak {h h' : HVal} (hw : Weak h h') : Bow M h h'
  | arr {i : Nat} {v : Value} {sz : Nat} {es : List HVal} (hm : M[i]? = some (.arr v sz es)) : Bow M (.raw v) (.slice sz es)
  | cells {i b off : Nat} {cs cs' : List HVal} (hm : M[i]? = some (.cells b cs)) (hl : cs.length = cs'.length) (h : ∀ (j : Nat) (c c' : HVal), cs[j]? = some c → cs'[j]? = some c' → Bow M c c') : Bow M (.raw (.pointer (some ⟨b, off, none⟩))) (.vptr cs' off)
  | map {i b : Nat} {L : SMap} (hm : M[i]? = some (.map b (sk L))) : Bow M (.raw (.map (some b))) (hsm L)
  | vptr {off : Nat} {l l' : List HVal} (hl : l.length = l'.length) (h : ∀ (j : Nat) (c c' : HVal), l[j]? = some c → l'[j]? = some c' → Bow M c c') : Bow M (.vptr l off) (.vptr l' off)
  | fn {f : Fn} {c1 l l' : List HVal} (hl : l.length = l'.length) (h : ∀ (j : Nat) (c c' : HVal), l[j]? = some c → l'[j]? = some c' → Bow M c c') : Bow M (.fn f c1 l) (.fn f c1 l')
def BowL (M : List MObj) : List HVal → List HVal → Prop
  | [], [] => True
  | h :: r, h' :: r' => Bow M h h' ∧ BowL M r r'
  | _, _ => False
theorem BowL.pt {M : List MObj} : ∀ {l l' : List HVal}, BowL M l l' → l.length = l'.length ∧ ∀ (j : Nat) (c c' : HVal), l[j]? = some c → l'[j]? = some c' → Bow M c c'
  | [], [], _ => ⟨rfl, fun j c c' h => by simp at h⟩
  | h :: r, h' :: r', hb => by
    obtain ⟨h1, h2⟩ := BowL.pt hb.2
    refine ⟨by simp [h1], fun j c c' a1 a2 => ?_⟩
    cases j with
    | zero => simp at a1 a2; subst a1 a2; exact hb.1
    | succ j => exact h2 j c c' (by simpa using a1) (by simpa using a2)
  | [], _ :: _, hb => hb.elim
  | _ :: _, [], hb => hb.elim
theorem Bow.cellsL {M : List MObj} {i b off : Nat} {cs cs' : List HVal} (hm : M[i]? = some (.cells b cs)) (h : BowL M cs cs') : Bow M (.raw (.pointer (some ⟨b, off, none⟩))) (.vptr cs' off) := .cells hm h.pt.1 h.pt.2
theorem Bow.refl {M : List MObj} {h : HVal} : Bow M h h := .weak (Weak.refl _)
theorem V.vptr_inv' {I : Imm} {cs : List HVal} {off : Nat} {v : Value} (h : V I (.vptr cs off) v) : ∃ b base rc el fr, v = .pointer (some ⟨b, base + off, none⟩) ∧ I.heap b = some (.cells rc el fr) ∧ base + cs.length ≤ rc.size ∧
    ∀ (j : Nat) (c : HVal) (v : Value), cs[j]? = some c → rc[base + j]? = some v → V I c v := by
  cases h with
  | vptr h1 h2 h3 => exact ⟨_, _, _, _, _, rfl, h1, h2, h3⟩
theorem Bow.v {M : List MObj} {I : Imm} {F : List MObj} {w : World} {h h' : HVal} (hb : Bow M h h') (hs : Sat P I (M ++ F) w) : ∀ {v : Value}, V I h v → V (allI w) h' v := by
  induction hb with
  | weak hw => intro v hv; exact hw _ _ (hv.mono hs.le_all)
  | arr hm => intro v hv; exact (Bor.arr hm).v hs hv
  | @cells i b off cs cs' hm hl _ ih =>
    intro v hv
    rw [hv.raw_inv]
    obtain ⟨rc, el, fr, h2, h3, h4⟩ := hs.obj _ (List.mem_append_left _ (List.mem_of_getElem? hm))
    have := V.vptr (I := allI w) (cs := cs') (off := off) (base := 0) h2 (by have := h4.1; simp at this; omega) fun j c v a1 a2 => by
      have hj := lt_of_get a1
      have hj' := List.getElem?_eq_getElem (l := cs) (i := j) (by omega)
      exact ih j _ c hj' a1 (h4.2 j _ v hj' (by simpa using a2))
    rwa [Nat.zero_add] at this
  | @map i b L hm =>
    intro v hv
    rw [hv.raw_inv]
    obtain ⟨es, clk, h1, h2, h3⟩ := hs.obj _ (List.mem_append_left _ (List.mem_of_getElem? hm))
    have hn : es.size = L.length := by simpa [sk] using h2
    refine .hmap (I := allI w) h1 (by simp [hn]) (by simp [hn]) (fun j c m a1 a2 => ?_) (fun j c m a1 a2 => ?_)
    · rw [← sk_fst, List.getElem?_map] at a1
      cases hq : (sk L)[j]? with
      | none => rw [hq] at a1; simp at a1
      | some p => rw [hq] at a1; simp at a1; subst a1; exact ((h3 j p m hq a2).1).mono hs.le_all
    · rw [← sk_snd, List.getElem?_map] at a1
      cases hq : (sk L)[j]? with
      | none => rw [hq] at a1; simp at a1
      | some p => rw [hq] at a1; simp at a1; subst a1; exact ((h3 j p m hq a2).2).mono hs.le_all
  | @vptr off l l' hl _ ih =>
    intro v hv
    obtain ⟨b, base, rc, el, fr, rfl, h1, h2, h3⟩ := hv.vptr_inv'
    refine .vptr (I := allI w) (hs.imm _ _ h1) (by omega) fun j c u a1 a2 => ?_
    have hj := lt_of_get a1
    have hj' := List.getElem?_eq_getElem (l := l) (i := j) (by omega)
    exact ih j _ c hj' a1 (h3 j _ u hj' a2)
  | @fn f c1 l l' hl _ ih =>
    intro v hv
    cases hv with
    | fn g1 g2 g3 g4 =>
      refine .fn g1 (by omega) (fun j c u a1 a2 => (g3 j c u a1 a2).mono hs.le_all) fun j c u a1 a2 => ?_
      have hj := lt_of_get a1
      have hj' := List.getElem?_eq_getElem (l := l) (i := j) (by omega)
      exact ih j _ c hj' a1 (g4 j _ u hj' a2)
theorem BowL.vl {M : List MObj} {I : Imm} {F : List MObj} {w : World} (hs : Sat P I (M ++ F) w) : ∀ {hs1 hs2 : List HVal} {vs : List Value}, BowL M hs1 hs2 → VL I hs1 vs → VL (allI w) hs2 vs
  | [], [], vs, _, h => ⟨by have := h.1; simpa using this, fun j c v h1 _ => by simp at h1⟩
  | h :: r, h' :: r', [], _, hv => by have := hv.1; simp at this
  | h :: r, h' :: r', v :: vs, hb, hv => VL.cons (hb.1.v hs hv.head) (BowL.vl hs hb.2 hv.tail)
  | [], _ :: _, _, hb, _ => hb.elim
  | _ :: _, [], _, hb, _ => hb.elim
/-- A function that changes nothing, called while objects are owned that it reads; what it yields hangs on no memory. -/
theorem eop_callw {e : Env} {dst : Option Tmp} {ty : TypeId} {pos : String} {af : Array Edge} {g : Option (Nat × Bool)} {M : List MObj} {K : HVal → List MObj → Prop} {f : FuncId} {args : Array Operand} {ats : Array TypeId} {hs hs' : List HVal} {h : HVal} (hc : Callable P f) (ha : evalL e args.toList = some hs) (hb : BowL M hs hs') (hp : ConP P f hs' h)
    (hg : ground h = true) (hk : K h M) : EOp P e M ⟨dst, .call ⟨.value (.func f), args, ats⟩, ty, pos, af, g⟩ K := fun I F a w ho hsat => by
  have hrun : (execOp a.eval ⟨dst, .call ⟨.value (.func f), args, ats⟩, ty, pos, af, g⟩).run P w = .ok (.enter f (args.toList.map a.eval).toArray) w := by
    simp [execOp, resolve, Act.eval, Deferred.ofValue, invoke, run_callFunc hc]
    apply Array.ext'; simp
  have hv := evalL_V (I := I) (f := a.eval) _ _ ha fun x hx h hh => ho.one (by simp only [Op.operands, Call.operands]; exact Array.mem_append_right _ (by simpa using hx)) hh
  simp only [Oper.wp, hrun, Oper.upon]
  refine (hp (allI w) [] w _ (hb.vl hsat hv) (by simpa using sat_all hsat)).mono ?_
  rintro x w' ⟨v, y, M', J, rfl, h1, ⟨rfl, rfl⟩, h3, h4⟩
  exact ⟨v, _, M, I, rfl, .refl I, hk, ground_V h3 hg, hsat.back h1 h4⟩
end Go.HL
end
