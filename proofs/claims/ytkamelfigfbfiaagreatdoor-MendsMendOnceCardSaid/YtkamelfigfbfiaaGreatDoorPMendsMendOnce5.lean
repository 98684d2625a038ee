/- The statement is proved: the card of the law, out of its function's contract; no conditions. -/
import Derived.Test.YtkamelfigfbfiaaGreatDoorPMendsMendOnce4
import Derived.LaidMore
import Derived.Lay
import Derived.OpenShut
import Derived.ProofKit
import Derived.SevenTiedAt
import Derived.Stop.Joined
import Derived.Test.YtkamelfigfbfiaaGreatDoorCards
import Derived.Test.YtkamelfigfbfiaaGreatDoorTie
set_option linter.unusedVariables false
set_option linter.unusedSimpArgs false
section
namespace Go.Proofs.YtkamelfigfbfiaaGreatDoor
open Go.HL
set_option maxRecDepth 100000
set_option linter.unusedVariables false
set_option linter.unusedSimpArgs false
set_option maxHeartbeats 4000000 in
/-- (*benchwarmer/benchmake.Stream).LineList -/
theorem c_benchmake_Stream_LineList [Tracks] {b : Nat} {l : List Int} {a : Nat}  (ha : a ≤ 700000) : Con Tryz.prog 20 [pAt b] [St b l a] (fun x M' => ∃ k a', x = eLines k ∧ GoodLns k ∧ a' ≤ a + 60 ∧ M' = [St b l a']) := by
 refine Con.of_body Tryz.func20 rfl Tryz.ntmps20 rfl rfl ?_
 refine hw_reg ?_
 refine dp rfl (pop_assign rfl) ?_
 refine dn ?_
 refine hw_reg ?_
 refine dp rfl (pop_assign rfl) ?_
 refine dn ?_
 refine hw_ghost (Ghost.arr_nil 3) ?_
 refine hw_ghost (Ghost.perm (List.Perm.swap _ _ _)) ?_
 refine hw_seq ?_
 refine hw_reg ?_
 refine dp rfl (pop_buildSlice (hs := [_, _, _]) ty36 ty9 rfl rfl (by decide) (by decide) rfl) ?_
 refine dp rfl (pop_lenm (f := HVal.str) (l := lp3) ty36 rfl) ?_
 refine dp rfl (pop_move rfl) ?_
 refine dn ?_
 refine hw_block ?_
 refine hw_loopw2 [3, 5, 6, 7, 9, 13, 14, 15, 16, 17, 18, 19, 20, 21, 22, 23, 24, 25, 26, 27, 28, 29, 30, 31, 32, 33, 34, 35, 36, 37, 38, 39, 40, 41, 42, 43, 44, 45, 46, 47, 48, 49] (fun (k : Nat) (q : LG) => [(13, .int .i64 k), (3, .raw q.u)]) (fun (k : Nat) (q : LG) => [St b l q.a, .arr q.u 3 (q.out.map rLn)] ++ q.out.map sLn) (fun (k : Nat) (q : LG) => k ≤ lp3.length ∧ (LGok (2 * k) (a + 14 * k) q)) (fun (k : Nat) (q : LG) => lp3.length - k) (0) (⟨.slice none 0 0, [], a⟩) ?_ ?_ ?_ ?_
 ·exact ⟨by decide, ⟨by simp, by simp, by dsimp only; omega⟩⟩
 ·exact ⟨rfl, rfl, trivial⟩
 ·exact perm_eq rfl
 ·intro k q hinv
  obtain ⟨hk, hq⟩ := hinv
  have hk3 : lp3.length = 3 := rfl
  obtain ⟨u, out, a2⟩ := q
  obtain ⟨g1, g2, g3⟩ := id hq
  dsimp only at g1 g2 g3
  refine hw_reg ?_
  refine dp rfl (pop_lss rfl rfl) ?_
  refine dn ?_
  refine hw_seq ?_
  refine hw_cond rfl (fun h1 => ?_) (fun h2 => ?_)
  ·try simp at h1
   obtain ⟨x, hx⟩ : ∃ x, lp3[k]? = some x := ⟨_, List.getElem?_eq_getElem h1⟩
   have hdx := drop_cons hx
   refine hw_skip ?_
   refine seqQ_n ?_
   refine hw_seq ?_
   refine hw_block ?_
   refine hw_reg ?_
   refine dp rfl (pop_idx (f := HVal.str) (l := lp3) (j := k) (a := x) ty36 ty9 rfl rfl rfl hx) ?_
   refine dp rfl (pop_load ty9 rfl rfl rfl) ?_
   refine dp rfl (pop_assign rfl) ?_
   refine dn ?_
   refine hw_reg ?_
   refine dp rfl (pop_assign rfl) ?_
   refine dn ?_
   refine hw_block ?_
   refine hw_loopw2 [3, 6, 7, 9, 17, 18, 19, 20, 21, 22, 23, 24, 25, 26, 27, 28, 29, 30, 31, 32, 33, 34, 35, 36, 37, 38, 39, 40, 41, 42, 43, 44, 45, 46, 47, 48] (fun (w : Nat) (q2 : LG) => [(6, .int .i64 ((w : Int) + 1)), (3, .raw q2.u)]) (fun (w : Nat) (q2 : LG) => [St b l q2.a, .arr q2.u 3 (q2.out.map rLn)] ++ q2.out.map sLn) (fun (w : Nat) (q2 : LG) => w ≤ 2 ∧ LGok (2 * k + w) (a + 14 * k + 7 * w) q2) (fun (w : Nat) (q2 : LG) => 2 - w) (0) (⟨u, out, a2⟩) ?_ ?_ ?_ ?_
   ·exact ⟨by omega, hq.mono (by omega) (by omega)⟩
   ·exact ⟨some_int (by omega), rfl, trivial⟩
   ·exact perm_eq rfl
   ·intro w q2 hinv
    obtain ⟨hw, hq2⟩ := hinv
    obtain ⟨u, out, a2⟩ := q2
    obtain ⟨g1, g2, g3⟩ := id hq2
    dsimp only at g1 g2 g3
    refine hw_seq ?_
    refine hw_reg ?_
    refine dp rfl (pop_move rfl) ?_
    refine dp rfl (pop_leq rfl rfl) ?_
    refine dn ?_
    refine hw_cond rfl (fun h3 => ?_) (fun h4 => ?_)
    ·try simp at h3
     refine hw_skip ?_
     refine seqQ_n ?_
     refine hw_seq ?_
     refine hw_block ?_
     refine hw_seq ?_
     refine hw_reg ?_
     refine dp rfl (pop_move rfl) ?_
     first
     | refine de rfl (eop_callx (i := 0) ca49 rfl (WeakL.refl _) rfl (c_benchmake_Stream_Flip (by first | assumption | omega | (simp; omega) | simp_all) (by first | assumption | omega | (simp; omega) | simp_all)) ?_)
     | refine de rfl (eop_callx (i := 1) ca49 rfl (WeakL.refl _) rfl (c_benchmake_Stream_Flip (by first | assumption | omega | (simp; omega) | simp_all) (by first | assumption | omega | (simp; omega) | simp_all)) ?_)
     | refine de rfl (eop_callx (i := 2) ca49 rfl (WeakL.refl _) rfl (c_benchmake_Stream_Flip (by first | assumption | omega | (simp; omega) | simp_all) (by first | assumption | omega | (simp; omega) | simp_all)) ?_)
     | refine de rfl (eop_callx (i := 3) ca49 rfl (WeakL.refl _) rfl (c_benchmake_Stream_Flip (by first | assumption | omega | (simp; omega) | simp_all) (by first | assumption | omega | (simp; omega) | simp_all)) ?_)
     rintro _ _ ⟨y22, rfl, rfl⟩
     refine dn ?_
     refine hw_cond rfl (fun h5 => ?_) (fun h6 => ?_)
     ·try simp at h5
      refine hw_exit ?_
      refine seqQ_x ?_
      refine blockQ_eq ?_
      refine seqQ_n ?_
      refine hw_reg1 ?_
      refine dp rfl (pop_move rfl) ?_
      refine dp rfl (pop_add64 rfl rfl (by omega) (by omega)) ?_
      refine dp rfl (pop_assign rfl) ?_
      refine dn ?_
      exact ⟨w + 1, ⟨u, out, a2 + 1⟩, ⟨by omega, hq2.same (by omega)⟩, by dsimp only; omega, ⟨some_int (by omega), rfl, trivial⟩, (by repeat (first | exact keeps_refl | refine keeps_upd rfl ?_ | refine keeps_loop rfl rfl ?_)), perm_eq rfl⟩
     ·try simp at h6
      refine hw_skip ?_
      refine seqQ_n ?_
      refine hw_reg ?_
      refine dp rfl (pop_move rfl) ?_
      refine dp rfl (pop_move rfl) ?_
      refine dp rfl (pop_build (cs := [_, _, _]) ty63 pl63 rfl) ?_
      refine de rfl (eop_alloc ty63 rfl fun b7 => ?_)
      first
      | refine de0 (eop_store (i := 0) ty63 rfl rfl rfl rfl rfl (Nat.le_of_ble_eq_true rfl) ?_)
      | refine de0 (eop_store (i := 1) ty63 rfl rfl rfl rfl rfl (Nat.le_of_ble_eq_true rfl) ?_)
      | refine de0 (eop_store (i := 2) ty63 rfl rfl rfl rfl rfl (Nat.le_of_ble_eq_true rfl) ?_)
      | refine de0 (eop_store (i := 3) ty63 rfl rfl rfl rfl rfl (Nat.le_of_ble_eq_true rfl) ?_)
      refine dn ?_
      refine hw_ghost (Ghost.arr_nil 2) ?_
      refine hw_ghost (Ghost.perm (List.perm_middle (l₁ := [_, _]))) ?_
      refine hw_seq ?_
      refine hw_reg ?_
      refine dp rfl (pop_buildSlice (hs := [_, _, _]) ty36 ty9 rfl rfl (by decide) (by decide) rfl) ?_
      refine dp rfl (pop_lenm (f := HVal.str) (l := ls3) ty36 rfl) ?_
      refine dp rfl (pop_move rfl) ?_
      refine dn ?_
      refine hw_block ?_
      refine hw_loopw4 [9, 28, 29, 30, 31, 32, 33, 34, 35, 36, 37, 38, 39, 40, 41, 42, 43, 44] (fun (j : Nat) (v : Value) (st : List StatS) (a4 : Nat) => [(28, .int .i64 j)]) (fun (j : Nat) (v : Value) (st : List StatS) (a4 : Nat) => [St b l a4, .arr v 2 (st.map eStat), .cells b7 [.str x, .int .i64 ((w : Int) + 1), .raw v], .arr u 3 (out.map rLn)] ++ out.map sLn) (fun (j : Nat) (v : Value) (st : List StatS) (a4 : Nat) => j ≤ ls3.length ∧ (st.length ≤ j ∧ (∀ s ∈ st, Sh s.Name) ∧ a4 ≤ a2 + 1 + 2 * j)) (fun (j : Nat) (v : Value) (st : List StatS) (a4 : Nat) => ls3.length - j) (0) (.slice none 0 0) ([]) (a2 + 1) ?_ ?_ ?_ ?_
      ·exact ⟨by decide, by simp, by simp, by omega⟩
      ·exact ⟨rfl, trivial⟩
      ·exact perm_eq rfl
      ·intro j v st a4 hinv
       obtain ⟨hj, ⟨hs1, hs2, hs3⟩⟩ := hinv
       have hj3 : ls3.length = 3 := rfl
       refine hw_reg ?_
       refine dp rfl (pop_lss rfl rfl) ?_
       refine dn ?_
       refine hw_seq ?_
       refine hw_cond rfl (fun h7 => ?_) (fun h8 => ?_)
       ·try simp at h7
        obtain ⟨z, hz⟩ : ∃ z, ls3[j]? = some z := ⟨_, List.getElem?_eq_getElem h7⟩
        have hdz := drop_cons hz
        refine hw_skip ?_
        refine seqQ_n ?_
        refine hw_seq ?_
        refine hw_block ?_
        refine hw_reg ?_
        refine dp rfl (pop_idx (f := HVal.str) (l := ls3) (j := j) (a := z) ty36 ty9 rfl rfl rfl hz) ?_
        refine dp rfl (pop_load ty9 rfl rfl rfl) ?_
        refine dp rfl (pop_assign rfl) ?_
        refine dn ?_
        refine hw_reg ?_
        refine dp rfl (pop_move rfl) ?_
        first
        | refine de rfl (eop_callx (i := 0) ca49 rfl (WeakL.refl _) rfl (c_benchmake_Stream_Flip (by first | assumption | omega | (simp; omega) | simp_all) (by first | assumption | omega | (simp; omega) | simp_all)) ?_)
        | refine de rfl (eop_callx (i := 1) ca49 rfl (WeakL.refl _) rfl (c_benchmake_Stream_Flip (by first | assumption | omega | (simp; omega) | simp_all) (by first | assumption | omega | (simp; omega) | simp_all)) ?_)
        | refine de rfl (eop_callx (i := 2) ca49 rfl (WeakL.refl _) rfl (c_benchmake_Stream_Flip (by first | assumption | omega | (simp; omega) | simp_all) (by first | assumption | omega | (simp; omega) | simp_all)) ?_)
        | refine de rfl (eop_callx (i := 3) ca49 rfl (WeakL.refl _) rfl (c_benchmake_Stream_Flip (by first | assumption | omega | (simp; omega) | simp_all) (by first | assumption | omega | (simp; omega) | simp_all)) ?_)
        rintro _ _ ⟨y33, rfl, rfl⟩
        refine dn ?_
        refine hw_cond rfl (fun h9 => ?_) (fun h10 => ?_)
        ·try simp at h9
         refine hw_draw1 (fun M => ∃ i : Nat, M[i]? = some (.cells b7 [.str x, .int .i64 ((w : Int) + 1), .raw v])) [1] mixed ?_
         refine ahp 0 rfl rfl (by kernel_rfl) (by kernel_rfl) (pop_fieldAddr_raw ty63 rfl ty61 (by decide) rfl) ?_
         refine ahl 1 rfl rfl (by kernel_rfl) (by kernel_rfl) (by simp) (by first | exact ⟨0, rfl⟩ | exact ⟨1, rfl⟩ | exact ⟨2, rfl⟩) (fun M hM => by obtain ⟨i, hi⟩ := hM; exact eop_load (i := i) ty61 rfl hi (.inl ⟨rfl, rfl⟩) ⟨rfl, rfl⟩) ?_
         refine ahp 2 rfl rfl (by kernel_rfl) (by kernel_rfl) (pop_move rfl) ?_
         refine ahp 3 rfl rfl (by kernel_rfl) (by kernel_rfl) (pop_move rfl) ?_
         refine ahp 4 rfl rfl (by kernel_rfl) (by kernel_rfl) (pop_buildSlice (hs := [_, _, _, _]) ty22 ty3 rfl rfl (by decide) (by decide) rfl) ?_
         refine ahe 5 rfl (by kernel_rfl) ?_
         first
         | refine hop_e rfl (eop_callx (i := 0) ca32 rfl (WeakL.refl _) rfl (c_benchmake_Stream_Pick (L := [_, _, _, _]) (by first | assumption | omega | (simp; omega) | simp_all) (by first | assumption | omega | (simp; omega) | simp_all) (by first | assumption | omega | (simp; omega) | simp_all)) ?_)
         | refine hop_e rfl (eop_callx (i := 1) ca32 rfl (WeakL.refl _) rfl (c_benchmake_Stream_Pick (L := [_, _, _, _]) (by first | assumption | omega | (simp; omega) | simp_all) (by first | assumption | omega | (simp; omega) | simp_all) (by first | assumption | omega | (simp; omega) | simp_all)) ?_)
         | refine hop_e rfl (eop_callx (i := 2) ca32 rfl (WeakL.refl _) rfl (c_benchmake_Stream_Pick (L := [_, _, _, _]) (by first | assumption | omega | (simp; omega) | simp_all) (by first | assumption | omega | (simp; omega) | simp_all) (by first | assumption | omega | (simp; omega) | simp_all)) ?_)
         | refine hop_e rfl (eop_callx (i := 3) ca32 rfl (WeakL.refl _) rfl (c_benchmake_Stream_Pick (L := [_, _, _, _]) (by first | assumption | omega | (simp; omega) | simp_all) (by first | assumption | omega | (simp; omega) | simp_all) (by first | assumption | omega | (simp; omega) | simp_all)) ?_)
         rintro _ _ ⟨y39, rfl, hy39, rfl⟩
         refine ⟨fun _ => by first | exact .inl ⟨0, rfl⟩ | exact .inl ⟨1, rfl⟩ | exact .inl ⟨2, rfl⟩ | exact .inr (by simp [Before, Region.binds]), ?_⟩
         refine ahp 6 rfl rfl (by kernel_rfl) (by kernel_rfl) (pop_build (cs := [_, _]) ty121 pl121 rfl) ?_
         refine ahp 7 rfl rfl (by kernel_rfl) (by kernel_rfl) (pop_buildSlice (hs := [_]) ty61 ty121 rfl rfl (by decide) (by decide) rfl) ?_
         refine ahe 8 rfl (by kernel_rfl) ?_
         first
         | refine hop_e rfl (eop_append (i := 0) ty61 ty121 rfl rfl rfl rfl rfl (by simp [flat, hcells]) (by first | omega | (simp; omega)) fun v42 => ?_)
         | refine hop_e rfl (eop_append (i := 1) ty61 ty121 rfl rfl rfl rfl rfl (by simp [flat, hcells]) (by first | omega | (simp; omega)) fun v42 => ?_)
         | refine hop_e rfl (eop_append (i := 2) ty61 ty121 rfl rfl rfl rfl rfl (by simp [flat, hcells]) (by first | omega | (simp; omega)) fun v42 => ?_)
         | refine hop_e rfl (eop_append (i := 3) ty61 ty121 rfl rfl rfl rfl rfl (by simp [flat, hcells]) (by first | omega | (simp; omega)) fun v42 => ?_)
         refine ⟨fun _ => by first | exact .inl ⟨0, rfl⟩ | exact .inl ⟨1, rfl⟩ | exact .inl ⟨2, rfl⟩ | exact .inr (by simp [Before, Region.binds]), ?_⟩
         refine ahp 9 rfl rfl (by kernel_rfl) (by kernel_rfl) (pop_fieldAddr_raw ty63 rfl ty61 (by decide) rfl) ?_
         refine ahe 10 rfl (by kernel_rfl) ?_
         first
         | refine hop_e0 (eop_store (i := 0) ty61 rfl rfl rfl rfl rfl (Nat.le_of_ble_eq_true rfl) ?_)
         | refine hop_e0 (eop_store (i := 1) ty61 rfl rfl rfl rfl rfl (Nat.le_of_ble_eq_true rfl) ?_)
         | refine hop_e0 (eop_store (i := 2) ty61 rfl rfl rfl rfl rfl (Nat.le_of_ble_eq_true rfl) ?_)
         | refine hop_e0 (eop_store (i := 3) ty61 rfl rfl rfl rfl rfl (Nat.le_of_ble_eq_true rfl) ?_)
         refine ⟨fun _ => by first | exact .inl ⟨0, rfl⟩ | exact .inl ⟨1, rfl⟩ | exact .inl ⟨2, rfl⟩ | exact .inr (by simp [Before, Region.binds]), ?_⟩
         refine ahz (by kernel_rfl) ?_
         refine blockQ_n ?_
         refine seqQ_n ?_
         refine hw_reg1 ?_
         refine dp rfl (pop_add64 rfl rfl (by omega) (by omega)) ?_
         refine dp rfl (pop_move rfl) ?_
         refine dn ?_
         exact ⟨j + 1, v42, st ++ [⟨z, y39⟩], a4 + 1 + 1, ⟨by omega, by simp; omega, fun s hs => by
          rcases List.mem_append.1 hs with hs | hs
          ·exact hs2 s hs
          ·rw [List.mem_singleton.1 hs]; exact ls3_sh z (List.mem_of_getElem? hz), by omega⟩, by dsimp only; omega, ⟨rfl, trivial⟩, (by repeat (first | exact keeps_refl | refine keeps_upd rfl ?_ | refine keeps_loop rfl rfl ?_)), perm_eq (by dsimp only; rw [List.map_append]; rfl)⟩
        ·try simp at h10
         refine hw_skip ?_
         refine blockQ_n ?_
         refine seqQ_n ?_
         refine hw_reg1 ?_
         refine dp rfl (pop_add64 rfl rfl (by omega) (by omega)) ?_
         refine dp rfl (pop_move rfl) ?_
         refine dn ?_
         exact ⟨j + 1, v, st, a4 + 1, ⟨by omega, by omega, hs2, by omega⟩, by dsimp only; omega, ⟨rfl, trivial⟩, (by repeat (first | exact keeps_refl | refine keeps_upd rfl ?_ | refine keeps_loop rfl rfl ?_)), perm_eq rfl⟩
       ·try simp at h8
        have hnj : ls3.length ≤ j := by omega
        obtain rfl : j = ls3.length := by omega
        refine hw_exit ?_
        refine seqQ_x ?_
        refine loopQ4_x ?_
        refine blockQ_eq ?_
        refine seqQ_n ?_
        refine hw_reg1 ?_
        refine dp rfl (pop_move rfl) ?_
        refine de rfl (eop_loadw (i := 2) (h := rLn (⟨x, (w : Int) + 1, st⟩, v)) ty63 rfl rfl rfl rfl rfl ?_)
        refine dp rfl (pop_buildSlice (hs := [_]) ty54 ty63 rfl rfl (by decide) (by decide) rfl) ?_
        refine de rfl (EOp.post_ghost (eop_append (i := 3) (v := u) (es := out.map rLn) ty54 ty63 rfl rfl rfl rfl rfl (by simp [flat, hcells]) (by simp; omega) fun v48 => ⟨_, ln_norm, ?_⟩))
        refine dp rfl (pop_assign rfl) ?_
        refine dn ?_
        refine blockQ_n ?_
        refine seqQ_n ?_
        refine hw_reg1 ?_
        refine dp rfl (pop_move rfl) ?_
        refine dp rfl (pop_add64 rfl rfl (by omega) (by omega)) ?_
        refine dp rfl (pop_assign rfl) ?_
        refine dn ?_
        exact ⟨w + 1, ⟨v48, out ++ [(⟨x, (w : Int) + 1, st⟩, v)], a4⟩, ⟨by omega, hq2.add (p := (⟨x, (w : Int) + 1, st⟩, v)) ⟨⟨lp3_sh x (List.mem_of_getElem? hx), hs2⟩, by dsimp only; have : ls3.length = 3 := rfl; omega⟩ (by have : ls3.length = 3 := rfl; omega)⟩, by dsimp only; omega, ⟨some_int (by omega), rfl, trivial⟩, (by repeat (first | exact keeps_refl | refine keeps_upd rfl ?_ | refine keeps_loop rfl rfl ?_)), perm_eq (by dsimp only; simp only [List.map_append, List.map_cons, List.map_nil]; rfl)⟩
    ·try simp at h4
     refine hw_exit ?_
     refine seqQ_x ?_
     refine loopQ2_x ?_
     refine blockQ_eq ?_
     refine blockQ_n ?_
     refine seqQ_n ?_
     refine hw_reg1 ?_
     refine dp rfl (pop_add64 rfl rfl (by omega) (by omega)) ?_
     refine dp rfl (pop_move rfl) ?_
     refine dn ?_
     exact ⟨k + 1, ⟨u, out, a2⟩, ⟨by omega, hq2.mono (by omega) (by omega)⟩, by dsimp only; omega, ⟨rfl, rfl, trivial⟩, (by repeat (first | exact keeps_refl | refine keeps_upd rfl ?_ | refine keeps_loop rfl rfl ?_)), perm_eq rfl⟩
  ·try simp at h2
   have hnk : lp3.length ≤ k := by omega
   obtain rfl : k = lp3.length := by omega
   refine hw_exit ?_
   refine seqQ_x ?_
   refine loopQ2_x ?_
   refine blockQ_eq ?_
   refine seqQ_n ?_
   refine hw_join [10, 50, 51, 52, 53, 54, 55, 56, 57, 58, 59, 60, 61, 62, 63, 64, 65, 66, 67, 68, 69, 70, 71, 72, 73, 74, 75, 76, 77, 78, 79, 80, 81, 82, 83, 84, 85, 86, 87, 88, 89, 90, 91, 92, 93, 94, 95, 96, 97, 98] (fun (q5 : List LnV × Nat) => []) (fun (q5 : List LnV × Nat) => [St b l q5.2, .arr u 3 (q5.1.map rLn)] ++ q5.1.map sLn) (fun (q5 : List LnV × Nat) => q5.1.length ≤ 6 ∧ (∀ p ∈ q5.1, GoodLn p.1 ∧ p.1.Stats.length ≤ 4) ∧ q5.2 ≤ a + 60) ?_ ?_
   ·skip
    refine hw_reg ?_
    refine dp rfl (pop_move rfl) ?_
    first
    | refine de rfl (eop_lenm (i := 0) ty54 rfl rfl ?_)
    | refine de rfl (eop_lenm (i := 1) ty54 rfl rfl ?_)
    | refine de rfl (eop_lenm (i := 2) ty54 rfl rfl ?_)
    | refine de rfl (eop_lenm (i := 3) ty54 rfl rfl ?_)
    refine dp rfl (pop_gtr rfl rfl) ?_
    refine dp rfl (pop_move rfl) ?_
    refine dg rfl rfl (fun hc => ⟨_, OpenTo.refl _, pop_move rfl⟩) ?_
    refine dgx (fun x M' => ∃ (y : Bool) (a3 : Nat), x = .bool y ∧ a3 ≤ a2 + 1 ∧ M' = [St b l a3, .arr u 3 (out.map rLn)] ++ out.map sLn) rfl rfl (fun hc => ⟨_, false, a2, rfl, by omega, rfl⟩) (fun hc => ⟨_, OpenTo.upd (t := 54) rfl (by first | exact hc | simp_all) (OpenTo.refl _), eop_callx (i := 0) ca49 rfl (WeakL.refl _) rfl (c_benchmake_Stream_Flip (a := a2) (by omega) (by omega)) (fun h M' hh => by
     obtain ⟨y, h1, h2⟩ := hh
     exact ⟨y, a2 + 1, h1, by omega, by rw [h2]; rfl⟩)⟩) ?_
    rintro _ _ ⟨y, a3, rfl, ha3, rfl⟩
    refine dp rfl (pop_picko rfl (.inr ⟨_, rfl, fun h => by simp_all⟩) (.inl rfl)) ?_
    refine dn ?_
    refine hw_cond rfl (fun h11 => ?_) (fun h12 => ?_)
    ·try simp at h11
     have ho0 : 0 < out.length := by simp_all
     refine hw_arrc (i := 1) rfl (fun h0 he => ?_) (fun ob off cap hv hcap => ?_)
     ·exfalso; have := congrArg List.length he; simp at this; subst this; simp at ho0
     subst hv
     refine hw_reg ?_
     refine dp rfl (pop_move rfl) ?_
     refine dp rfl (pop_move rfl) ?_
     refine dp rfl (pop_move rfl) ?_
     first
     | refine de rfl (eop_lenm (i := 0) ty54 rfl rfl ?_)
     | refine de rfl (eop_lenm (i := 1) ty54 rfl rfl ?_)
     | refine de rfl (eop_lenm (i := 2) ty54 rfl rfl ?_)
     | refine de rfl (eop_lenm (i := 3) ty54 rfl rfl ?_)
     first
     | refine de rfl (eop_callx (i := 0) ca50 rfl (WeakL.refl _) rfl (c_benchmake_Stream_Next (by first | assumption | omega | (simp; omega) | simp_all) (by first | assumption | omega | (simp; omega) | simp_all)) ?_)
     | refine de rfl (eop_callx (i := 1) ca50 rfl (WeakL.refl _) rfl (c_benchmake_Stream_Next (by first | assumption | omega | (simp; omega) | simp_all) (by first | assumption | omega | (simp; omega) | simp_all)) ?_)
     | refine de rfl (eop_callx (i := 2) ca50 rfl (WeakL.refl _) rfl (c_benchmake_Stream_Next (by first | assumption | omega | (simp; omega) | simp_all) (by first | assumption | omega | (simp; omega) | simp_all)) ?_)
     | refine de rfl (eop_callx (i := 3) ca50 rfl (WeakL.refl _) rfl (c_benchmake_Stream_Next (by first | assumption | omega | (simp; omega) | simp_all) (by first | assumption | omega | (simp; omega) | simp_all)) ?_)
     rintro _ _ ⟨y61, rfl, hy61, rfl⟩
     refine dp rfl (pop_idxraw (j := y61) ty54 ty63 rfl rfl rfl (by simp; omega)) ?_
     refine dp rfl (pop_assign rfl) ?_
     refine dn ?_
     obtain ⟨x, hx⟩ : ∃ x, out[y61]? = some x := ⟨_, List.getElem?_eq_getElem (by omega)⟩
     refine hw_draw (fun M => ∃ i : Nat, M[i]? = some (.arr (.slice (some ⟨ob, off, none⟩) (out.map rLn).length cap) 3 (out.map rLn))) [6, 13] mixed ?_
     refine ahp 0 rfl rfl (by kernel_rfl) (by kernel_rfl) (pop_move rfl) ?_
     refine ahp 1 rfl rfl (by kernel_rfl) (by kernel_rfl) (pop_move rfl) ?_
     refine ahp 2 rfl rfl (by kernel_rfl) (by kernel_rfl) (pop_move rfl) ?_
     refine ahp 3 rfl rfl (by kernel_rfl) (by kernel_rfl) (pop_move rfl) ?_
     refine ahp 4 rfl rfl (by kernel_rfl) (by kernel_rfl) ((by first | exact pop_nilCheck rfl | exact pop_nilCheck_raw rfl)) ?_
     refine ahp 5 rfl rfl (by kernel_rfl) (by kernel_rfl) ((by first | exact pop_fieldAddr ty63 rfl ty9 (by decide) rfl | exact pop_fieldAddr_raw ty63 rfl ty9 (by decide) rfl)) ?_
     refine ahl 6 rfl rfl (by kernel_rfl) (by kernel_rfl) (by simp) ⟨1, rfl⟩ (fun M hM => by obtain ⟨i, hi⟩ := hM; exact eop_load_el (i := i) (j := y61) 0 ty9 rfl (by omega) hi hx rfl rfl ⟨rfl, rfl⟩) ?_
     refine ahp 7 rfl rfl (by kernel_rfl) (by kernel_rfl) (pop_buildSlice (hs := [_, _, _]) ty36 ty9 rfl rfl (by decide) (by decide) rfl) ?_
     refine ahp 9 rfl rfl (by kernel_rfl) (by kernel_rfl) (pop_move rfl) ?_
     refine ahp 10 rfl rfl (by kernel_rfl) (by kernel_rfl) (pop_move rfl) ?_
     refine ahp 11 rfl rfl (by kernel_rfl) (by kernel_rfl) ((by first | exact pop_nilCheck rfl | exact pop_nilCheck_raw rfl)) ?_
     refine ahp 12 rfl rfl (by kernel_rfl) (by kernel_rfl) ((by first | exact pop_fieldAddr ty63 rfl ty3 (by decide) rfl | exact pop_fieldAddr_raw ty63 rfl ty3 (by decide) rfl)) ?_
     refine ahl 13 rfl rfl (by kernel_rfl) (by kernel_rfl) (by simp) ⟨1, rfl⟩ (fun M hM => by obtain ⟨i, hi⟩ := hM; exact eop_load_el (i := i) (j := y61) 1 ty3 rfl (by omega) hi hx rfl rfl ⟨rfl, rfl⟩) ?_
     refine ahp 14 rfl rfl (by kernel_rfl) (by kernel_rfl) (pop_buildSlice (hs := [_, _, _]) ty22 ty3 rfl rfl (by decide) (by decide) rfl) ?_
     refine ahe 8 rfl (by kernel_rfl) ?_
     first
     | refine hop_e rfl (eop_callx (i := 0) ca31 rfl (WeakL.refl _) rfl (c_benchmake_Stream_Some (L := [_, _, _]) (by first | assumption | omega | (simp; omega) | simp_all) (by first | assumption | omega | (simp; omega) | simp_all) (by first | assumption | omega | (simp; omega) | simp_all)) ?_)
     | refine hop_e rfl (eop_callx (i := 1) ca31 rfl (WeakL.refl _) rfl (c_benchmake_Stream_Some (L := [_, _, _]) (by first | assumption | omega | (simp; omega) | simp_all) (by first | assumption | omega | (simp; omega) | simp_all) (by first | assumption | omega | (simp; omega) | simp_all)) ?_)
     | refine hop_e rfl (eop_callx (i := 2) ca31 rfl (WeakL.refl _) rfl (c_benchmake_Stream_Some (L := [_, _, _]) (by first | assumption | omega | (simp; omega) | simp_all) (by first | assumption | omega | (simp; omega) | simp_all) (by first | assumption | omega | (simp; omega) | simp_all)) ?_)
     | refine hop_e rfl (eop_callx (i := 3) ca31 rfl (WeakL.refl _) rfl (c_benchmake_Stream_Some (L := [_, _, _]) (by first | assumption | omega | (simp; omega) | simp_all) (by first | assumption | omega | (simp; omega) | simp_all) (by first | assumption | omega | (simp; omega) | simp_all)) ?_)
     rintro _ _ ⟨y71, rfl, hy71, rfl⟩
     refine ⟨fun _ => by first | exact .inl ⟨0, rfl⟩ | exact .inl ⟨1, rfl⟩ | exact .inl ⟨2, rfl⟩ | exact .inr (by simp [Before, Region.binds]), ?_⟩
     refine ahe 15 rfl (by kernel_rfl) ?_
     first
     | refine hop_e rfl (eop_callx (i := 0) ca32 rfl (WeakL.refl _) rfl (c_benchmake_Stream_Pick (L := [_, _, _]) (by first | assumption | omega | (simp; omega) | simp_all) (by first | assumption | omega | (simp; omega) | simp_all) (by first | assumption | omega | (simp; omega) | simp_all)) ?_)
     | refine hop_e rfl (eop_callx (i := 1) ca32 rfl (WeakL.refl _) rfl (c_benchmake_Stream_Pick (L := [_, _, _]) (by first | assumption | omega | (simp; omega) | simp_all) (by first | assumption | omega | (simp; omega) | simp_all) (by first | assumption | omega | (simp; omega) | simp_all)) ?_)
     | refine hop_e rfl (eop_callx (i := 2) ca32 rfl (WeakL.refl _) rfl (c_benchmake_Stream_Pick (L := [_, _, _]) (by first | assumption | omega | (simp; omega) | simp_all) (by first | assumption | omega | (simp; omega) | simp_all) (by first | assumption | omega | (simp; omega) | simp_all)) ?_)
     | refine hop_e rfl (eop_callx (i := 3) ca32 rfl (WeakL.refl _) rfl (c_benchmake_Stream_Pick (L := [_, _, _]) (by first | assumption | omega | (simp; omega) | simp_all) (by first | assumption | omega | (simp; omega) | simp_all) (by first | assumption | omega | (simp; omega) | simp_all)) ?_)
     rintro _ _ ⟨y78, rfl, hy78, rfl⟩
     refine ⟨fun _ => by first | exact .inl ⟨0, rfl⟩ | exact .inl ⟨1, rfl⟩ | exact .inl ⟨2, rfl⟩ | exact .inr (by simp [Before, Region.binds]), ?_⟩
     refine ahp 16 rfl rfl (by kernel_rfl) (by kernel_rfl) ((by first | exact pop_nilCheck rfl | exact pop_nilCheck_raw rfl)) ?_
     refine ahp 17 rfl rfl (by kernel_rfl) (by kernel_rfl) ((by first | exact pop_fieldAddr ty63 rfl ty9 (by decide) rfl | exact pop_fieldAddr_raw ty63 rfl ty9 (by decide) rfl)) ?_
     refine ahe 18 rfl (by kernel_rfl) ?_
     refine hop_e0 (eop_store_arr (i := 1) (j := y61) (f := 0) (y := rLn x) (y' := rLn (⟨y71, x.1.Week, x.1.Stats⟩, x.2)) ty9 rfl (by omega) rfl rfl (map_get hx) rfl rfl (by simp [hcells]) rfl ?_)
     refine ⟨fun _ => .inr (by simp [Before, Region.binds]), ?_⟩
     refine ahp 19 rfl rfl (by kernel_rfl) (by kernel_rfl) ((by first | exact pop_nilCheck rfl | exact pop_nilCheck_raw rfl)) ?_
     refine ahp 20 rfl rfl (by kernel_rfl) (by kernel_rfl) ((by first | exact pop_fieldAddr ty63 rfl ty3 (by decide) rfl | exact pop_fieldAddr_raw ty63 rfl ty3 (by decide) rfl)) ?_
     refine ahe 21 rfl (by kernel_rfl) ?_
     refine hop_e0 (eop_store_arr (i := 1) (j := y61) (f := 1) (y := rLn (⟨y71, x.1.Week, x.1.Stats⟩, x.2)) (y' := rLn (⟨y71, y78, x.1.Stats⟩, x.2)) ty3 rfl (by omega) rfl rfl (set_self (map_get hx)) rfl rfl (by simp [hcells]) rfl ?_)
     refine ⟨fun _ => .inr (by simp [Before, Region.binds]), ?_⟩
     refine ahz (by kernel_rfl) ?_
     have hx2 : (out.set y61 (⟨y71, y78, x.1.Stats⟩, x.2))[y61]? = some (⟨y71, y78, x.1.Stats⟩, x.2) := List.getElem?_set_self (by omega)
     refine hw_ghost (Ghost.of_eq (M' := [St b l (a3 + 1 + 1 + 1), .arr (.slice (some ⟨ob, off, none⟩) (out.map rLn).length cap) 3 ((out.set y61 (⟨y71, y78, x.1.Stats⟩, x.2)).map rLn)] ++ (out.set y61 (⟨y71, y78, x.1.Stats⟩, x.2)).map sLn) (by rw [sLn_same (n := (⟨y71, y78, x.1.Stats⟩, x.2)) hx rfl, List.map_set, List.set_set, List.set_set]; rfl)) ?_
     refine hw_draw1 (fun M => ∃ i : Nat, M[i]? = some (.arr (.slice (some ⟨ob, off, none⟩) (out.map rLn).length cap) 3 ((out.set y61 (⟨y71, y78, x.1.Stats⟩, x.2)).map rLn))) [4] mixed ?_
     refine ahp 0 rfl rfl (by kernel_rfl) (by kernel_rfl) (pop_move rfl) ?_
     refine ahp 1 rfl rfl (by kernel_rfl) (by kernel_rfl) (pop_move rfl) ?_
     refine ahp 2 rfl rfl (by kernel_rfl) (by kernel_rfl) ((by first | exact pop_nilCheck rfl | exact pop_nilCheck_raw rfl)) ?_
     refine ahp 3 rfl rfl (by kernel_rfl) (by kernel_rfl) ((by first | exact pop_fieldAddr ty63 rfl ty61 (by decide) rfl | exact pop_fieldAddr_raw ty63 rfl ty61 (by decide) rfl)) ?_
     refine ahl 4 rfl rfl (by kernel_rfl) (by kernel_rfl) (by simp) ⟨1, rfl⟩ (fun M hM => by obtain ⟨i, hi⟩ := hM; exact eop_load_el (i := i) (j := y61) 2 ty61 rfl (by omega) hi hx2 rfl rfl ⟨rfl, rfl⟩) ?_
     refine ahp 5 rfl rfl (by kernel_rfl) (by kernel_rfl) (pop_move rfl) ?_
     refine ahp 6 rfl rfl (by kernel_rfl) (by kernel_rfl) (pop_buildSlice (hs := [_, _, _]) ty36 ty9 rfl rfl (by decide) (by decide) rfl) ?_
     refine ahp 8 rfl rfl (by kernel_rfl) (by kernel_rfl) (pop_move rfl) ?_
     refine ahp 9 rfl rfl (by kernel_rfl) (by kernel_rfl) (pop_buildSlice (hs := [_, _, _]) ty22 ty3 rfl rfl (by decide) (by decide) rfl) ?_
     refine ahe 7 rfl (by kernel_rfl) ?_
     first
     | refine hop_e rfl (eop_callx (i := 0) ca31 rfl (WeakL.refl _) rfl (c_benchmake_Stream_Some (L := [_, _, _]) (by first | assumption | omega | (simp; omega) | simp_all) (by first | assumption | omega | (simp; omega) | simp_all) (by first | assumption | omega | (simp; omega) | simp_all)) ?_)
     | refine hop_e rfl (eop_callx (i := 1) ca31 rfl (WeakL.refl _) rfl (c_benchmake_Stream_Some (L := [_, _, _]) (by first | assumption | omega | (simp; omega) | simp_all) (by first | assumption | omega | (simp; omega) | simp_all) (by first | assumption | omega | (simp; omega) | simp_all)) ?_)
     | refine hop_e rfl (eop_callx (i := 2) ca31 rfl (WeakL.refl _) rfl (c_benchmake_Stream_Some (L := [_, _, _]) (by first | assumption | omega | (simp; omega) | simp_all) (by first | assumption | omega | (simp; omega) | simp_all) (by first | assumption | omega | (simp; omega) | simp_all)) ?_)
     | refine hop_e rfl (eop_callx (i := 3) ca31 rfl (WeakL.refl _) rfl (c_benchmake_Stream_Some (L := [_, _, _]) (by first | assumption | omega | (simp; omega) | simp_all) (by first | assumption | omega | (simp; omega) | simp_all) (by first | assumption | omega | (simp; omega) | simp_all)) ?_)
     rintro _ _ ⟨y90, rfl, hy90, rfl⟩
     refine ⟨fun _ => by first | exact .inl ⟨0, rfl⟩ | exact .inl ⟨1, rfl⟩ | exact .inl ⟨2, rfl⟩ | exact .inr (by simp [Before, Region.binds]), ?_⟩
     refine ahe 10 rfl (by kernel_rfl) ?_
     first
     | refine hop_e rfl (eop_callx (i := 0) ca32 rfl (WeakL.refl _) rfl (c_benchmake_Stream_Pick (L := [_, _, _]) (by first | assumption | omega | (simp; omega) | simp_all) (by first | assumption | omega | (simp; omega) | simp_all) (by first | assumption | omega | (simp; omega) | simp_all)) ?_)
     | refine hop_e rfl (eop_callx (i := 1) ca32 rfl (WeakL.refl _) rfl (c_benchmake_Stream_Pick (L := [_, _, _]) (by first | assumption | omega | (simp; omega) | simp_all) (by first | assumption | omega | (simp; omega) | simp_all) (by first | assumption | omega | (simp; omega) | simp_all)) ?_)
     | refine hop_e rfl (eop_callx (i := 2) ca32 rfl (WeakL.refl _) rfl (c_benchmake_Stream_Pick (L := [_, _, _]) (by first | assumption | omega | (simp; omega) | simp_all) (by first | assumption | omega | (simp; omega) | simp_all) (by first | assumption | omega | (simp; omega) | simp_all)) ?_)
     | refine hop_e rfl (eop_callx (i := 3) ca32 rfl (WeakL.refl _) rfl (c_benchmake_Stream_Pick (L := [_, _, _]) (by first | assumption | omega | (simp; omega) | simp_all) (by first | assumption | omega | (simp; omega) | simp_all) (by first | assumption | omega | (simp; omega) | simp_all)) ?_)
     rintro _ _ ⟨y93, rfl, hy93, rfl⟩
     refine ⟨fun _ => by first | exact .inl ⟨0, rfl⟩ | exact .inl ⟨1, rfl⟩ | exact .inl ⟨2, rfl⟩ | exact .inr (by simp [Before, Region.binds]), ?_⟩
     refine ahp 11 rfl rfl (by kernel_rfl) (by kernel_rfl) (pop_build (cs := [_, _]) ty121 pl121 rfl) ?_
     refine ahp 12 rfl rfl (by kernel_rfl) (by kernel_rfl) (pop_buildSlice (hs := [_]) ty61 ty121 rfl rfl (by decide) (by decide) rfl) ?_
     refine ahe 13 rfl (by kernel_rfl) ?_
     refine hop_e rfl (eop_append (i := y61 + 2) (v := x.2) (es := x.1.Stats.map eStat) ty61 ty121 rfl rfl rfl rfl (show ((out.set y61 (⟨y71, y78, x.1.Stats⟩, x.2)).map sLn)[y61]? = some _ from by rw [List.getElem?_map, hx2]; rfl) (by simp [flat, hcells]) (by have := (g2 x (List.mem_of_getElem? hx)).2; simp; omega) fun v96 => ?_)
     refine ⟨fun _ => .inr (by simp [Before, Region.binds]), ?_⟩
     refine ahp 14 rfl rfl (by kernel_rfl) (by kernel_rfl) ((by first | exact pop_nilCheck rfl | exact pop_nilCheck_raw rfl)) ?_
     refine ahp 15 rfl rfl (by kernel_rfl) (by kernel_rfl) ((by first | exact pop_fieldAddr ty63 rfl ty61 (by decide) rfl | exact pop_fieldAddr_raw ty63 rfl ty61 (by decide) rfl)) ?_
     refine ahe 16 rfl (by kernel_rfl) ?_
     refine hop_e0 (eop_store_arr (i := 1) (j := y61) (f := 2) (y := rLn (⟨y71, y78, x.1.Stats⟩, x.2)) (y' := rLn (⟨y71, y78, x.1.Stats ++ [⟨y90, y93⟩]⟩, v96)) ty61 rfl (by omega) rfl rfl (map_get hx2) rfl rfl (by simp [hcells]) rfl ?_)
     refine ⟨fun _ => .inr (by simp [Before, Region.binds]), ?_⟩
     refine ahz (by kernel_rfl) ?_
     have hgx := g2 x (List.mem_of_getElem? hx)
     have hp71 : Sh y71 := by
      simp at hy71
      rcases hy71 with rfl | rfl | rfl
      ·exact hgx.1.1
      ·exact nil_sh
      ·unfold Sh; simp
     have hp90 : Sh y90 := by simp at hy90; rcases hy90 with rfl | rfl | rfl <;> (unfold Sh; simp)
     exact ⟨((out.set y61 (⟨y71, y78, x.1.Stats⟩, x.2)).set y61 (⟨y71, y78, x.1.Stats ++ [⟨y90, y93⟩]⟩, v96), a3 + 1 + 1 + 1 + 1 + 1), ⟨by simp; omega, all_set (P := fun p : LnV => GoodLn p.1 ∧ p.1.Stats.length ≤ 4) (all_set (P := fun p : LnV => GoodLn p.1 ∧ p.1.Stats.length ≤ 4) (fun p hp => ⟨(g2 p hp).1, Nat.le_succ_of_le (g2 p hp).2⟩) ⟨⟨hp71, hgx.1.2⟩, Nat.le_succ_of_le hgx.2⟩) ⟨⟨hp71, fun s hs => by
      rcases List.mem_append.1 hs with hs | hs
      ·exact hgx.1.2 s hs
      ·rw [List.mem_singleton.1 hs]; exact hp90⟩, by simp; exact hgx.2⟩, by dsimp only; omega⟩, trivial, (by repeat (first | exact keeps_refl | refine keeps_upd rfl ?_ | refine keeps_loop rfl rfl ?_)), perm_eq (by dsimp only; simp only [List.map_set, sLn, rLn, List.map_append, List.map_cons, List.map_nil]; rfl)⟩
    ·try simp at h12
     refine hw_skip ?_
     exact ⟨(out, a3), ⟨by dsimp only; omega, fun p hp => ⟨(g2 p hp).1, Nat.le_succ_of_le (g2 p hp).2⟩, by dsimp only; omega⟩, trivial, (by repeat (first | exact keeps_refl | refine keeps_upd rfl ?_ | refine keeps_loop rfl rfl ?_)), perm_eq rfl⟩
   ·intro q5 hq5
    obtain ⟨k1, a4⟩ := q5
    dsimp only at hq5
    obtain ⟨q1, q2, q3⟩ := hq5
    refine hw_ghost (Ghost.of_eq (M' := [St b l a4] ++ .arr u 3 (([] : List LineS).map eLine ++ k1.map fun p : LnV => HVal.agg [.str p.1.Player, .int .i64 p.1.Week, .raw p.2]) :: k1.map fun p : LnV => MObj.arr p.2 2 ((LineS.Stats p.1).map eStat)) rfl) ?_
    refine hw_ghost (Ghost.fz_each (A := [St b l a4]) (enc := eLine) (raw := fun y v => HVal.agg [.str y.Player, .int .i64 y.Week, .raw v]) (cs := fun y v => [HVal.str y.Player, .int .i64 y.Week, .raw v]) (st := LineS.Stats) (eb := eStat) (j := 2) (fun _ _ => rfl) (fun _ _ => rfl) (fun _ _ => rfl) k1 []) ?_
    refine hw_reg ?_
    refine dp rfl (pop_move rfl) ?_
    refine dp rfl (pop_assign rfl) ?_
    refine dn ?_
    refine hw_ret ?_
    exact ret_g (Ghost.fa 2 (i := 1) rfl rfl) rfl ⟨k1.map (·.1), a4, by simp, ⟨by simpa using q1, fun x hx => by
     obtain ⟨p, hp, rfl⟩ := List.mem_map.1 hx; exact (q2 p hp).2, fun x hx => by
     obtain ⟨p, hp, rfl⟩ := List.mem_map.1 hx; exact (q2 p hp).1⟩, by omega, rfl⟩
end Go.Proofs.YtkamelfigfbfiaaGreatDoor
end
section
namespace Go.Proofs.YtkamelfigfbfiaaGreatDoor
open Go.HL
set_option maxRecDepth 100000
set_option linter.unusedVariables false
set_option linter.unusedSimpArgs false
end Go.Proofs.YtkamelfigfbfiaaGreatDoor
end
section
namespace Go.Proofs.YtkamelfigfbfiaaGreatDoor
open Go.HL
set_option maxRecDepth 100000
set_option linter.unusedVariables false
set_option linter.unusedSimpArgs false
end Go.Proofs.YtkamelfigfbfiaaGreatDoor
end
section
namespace Go.Proofs.YtkamelfigfbfiaaGreatDoor
open Go.HL
set_option maxRecDepth 100000
set_option linter.unusedVariables false
set_option linter.unusedSimpArgs false

end Go.Proofs.YtkamelfigfbfiaaGreatDoor
end
section
namespace Go.Proofs.YtkamelfigfbfiaaGreatDoor
open Go.HL
set_option maxRecDepth 100000
set_option linter.unusedVariables false
set_option linter.unusedSimpArgs false

end Go.Proofs.YtkamelfigfbfiaaGreatDoor
end
section
namespace Go.Proofs.YtkamelfigfbfiaaGreatDoor
open Go.HL
set_option maxRecDepth 100000
set_option linter.unusedVariables false
set_option linter.unusedSimpArgs false

end Go.Proofs.YtkamelfigfbfiaaGreatDoor
end
section
namespace Go.Proofs.YtkamelfigfbfiaaGreatDoor
open Go.HL
set_option maxRecDepth 100000
set_option linter.unusedVariables false
set_option linter.unusedSimpArgs false

end Go.Proofs.YtkamelfigfbfiaaGreatDoor
end
section
namespace Go.Proofs.YtkamelfigfbfiaaGreatDoor
open Go.HL
set_option maxRecDepth 100000
set_option linter.unusedVariables false
set_option linter.unusedSimpArgs false

end Go.Proofs.YtkamelfigfbfiaaGreatDoor
end
section
namespace Go.Proofs.YtkamelfigfbfiaaGreatDoor
open Go.HL
set_option maxRecDepth 100000
set_option linter.unusedVariables false
set_option linter.unusedSimpArgs false
/-- slices.Equal[[]benchwarmer/api.Stat,benchwarmer/api.Stat] -/
theorem c_slices_Equal_api_Stat_api_Stat [Tracks] {l m : List StatS} (hl : l.length ≤ 1000000) : ConP Tryz.prog 79 [eStats l, eStats m] (.bool (eqSts eStat l m)) := by
 refine Con.of_body Tryz.func79 rfl Tryz.ntmps79 rfl rfl ?_
 refine hw_reg ?_
 refine dp rfl (pop_assign rfl) ?_
 refine dn ?_
 refine hw_seq ?_
 refine hw_reg ?_
 refine dp rfl (pop_move rfl) ?_
 refine dp rfl (pop_lenm ty61 rfl) ?_
 refine dp rfl (pop_move rfl) ?_
 refine dp rfl (pop_lenm ty61 rfl) ?_
 refine dp rfl (pop_neq rfl rfl) ?_
 refine dn ?_
 refine hw_cond rfl (fun h1 => ?_) (fun h2 => ?_)
 ·try simp at h1
  refine hw_reg ?_
  refine dp rfl (pop_assign rfl) ?_
  refine dn ?_
  refine hw_ret ?_
  refine ret_p rfl ?_
  show HVal.bool _ = _
  (congr 1; symm; exact eqSts_len (by omega))
 ·try simp at h2
  refine hw_skip ?_
  refine seqQ_n ?_
  refine hw_seq ?_
  refine hw_reg ?_
  refine dp rfl (pop_move rfl) ?_
  refine dp rfl (pop_lenm ty61 rfl) ?_
  refine dp rfl (pop_move rfl) ?_
  refine dn ?_
  refine hw_block ?_
  refine hw_loopw [4, 5, 13, 14, 15, 16, 17, 18, 19, 20, 21, 22, 23, 24, 25] (fun (k : Nat) => [(13, .int .i64 k)]) (fun (k : Nat) => []) (fun (k : Nat) => k ≤ l.length ∧ (l.length = m.length ∧ eqSts eStat l m = eqSts eStat (l.drop k) (m.drop k))) (fun (k : Nat) => l.length - k) (0) ?_ ?_ ?_ ?_
  ·refine ⟨Nat.zero_le _, ?_, rfl⟩
   omega
  ·exact ⟨rfl, trivial⟩
  ·exact List.Perm.refl _
  ·intro k hinv
   obtain ⟨hk, hg⟩ := hinv
   refine hw_reg ?_
   refine dp rfl (pop_lss rfl rfl) ?_
   refine dn ?_
   refine hw_seq ?_
   refine hw_cond rfl (fun h3 => ?_) (fun h4 => ?_)
   ·try simp at h3
    obtain ⟨x, hx⟩ : ∃ x, l[k]? = some x := ⟨_, List.getElem?_eq_getElem h3⟩
    have hdx := drop_cons hx
    obtain ⟨y, hy⟩ : ∃ y, m[k]? = some y := ⟨_, List.getElem?_eq_getElem (by omega)⟩
    rw [hdx, drop_cons hy] at hg
    refine hw_skip ?_
    refine seqQ_n ?_
    refine hw_seq ?_
    refine hw_block ?_
    refine hw_reg ?_
    refine dp rfl (pop_move rfl) ?_
    refine dp rfl (pop_assign rfl) ?_
    refine dn ?_
    refine hw_draw (fun _ => True) [] mixed ?_
    refine ahp 0 rfl rfl (by kernel_rfl) (by kernel_rfl) (pop_move rfl) ?_
    refine ahp 1 rfl rfl (by kernel_rfl) (by kernel_rfl) (pop_move rfl) ?_
    refine ahp 2 rfl rfl (by kernel_rfl) (by kernel_rfl) (pop_idx ty61 ty121 rfl rfl rfl (by assumption)) ?_
    refine ahp 3 rfl rfl (by kernel_rfl) (by kernel_rfl) (pop_loadw ty121 rfl rfl rfl rfl) ?_
    refine ahp 4 rfl rfl (by kernel_rfl) (by kernel_rfl) (pop_move rfl) ?_
    refine ahp 5 rfl rfl (by kernel_rfl) (by kernel_rfl) (pop_move rfl) ?_
    refine ahp 6 rfl rfl (by kernel_rfl) (by kernel_rfl) (pop_idx ty61 ty121 rfl rfl rfl (by assumption)) ?_
    refine ahp 7 rfl rfl (by kernel_rfl) (by kernel_rfl) (pop_loadw ty121 rfl rfl rfl rfl) ?_
    refine ahp 8 rfl rfl (by kernel_rfl) (by kernel_rfl) (pop_neqst ty121 eq121 rfl rfl ⟨rfl, ⟨_, _, _, _, ty9, rfl⟩, ⟨rfl, ⟨_, _, _, _, ty3, rfl⟩, trivial⟩⟩) ?_
    refine ahz (by kernel_rfl) ?_
    refine hw_cond rfl (fun h5 => ?_) (fun h6 => ?_)
    ·try simp at h5
     refine hw_reg ?_
     refine dp rfl (pop_assign rfl) ?_
     refine dn ?_
     refine hw_ret ?_
     refine ret_p rfl ?_
     show HVal.bool _ = _
     (rw [hg.2, eqSts, show eqSt eStat x y = false from h5]; rfl)
    ·try simp at h6
     refine hw_skip ?_
     refine blockQ_n ?_
     refine seqQ_n ?_
     refine hw_reg1 ?_
     refine dp rfl (pop_add64 rfl rfl (by omega) (by omega)) ?_
     refine dp rfl (pop_move rfl) ?_
     refine dn ?_
     refine ⟨k + 1, ?_, ?_, ⟨rfl, trivial⟩, (by repeat (first | exact keeps_refl | refine keeps_upd rfl ?_ | refine keeps_loop rfl rfl ?_)), List.Perm.refl _⟩
     ·refine ⟨by omega, hg.1, ?_⟩
      rw [hg.2, eqSts, show eqSt eStat x y = true from h6]; rfl
     ·dsimp only; omega
   ·try simp at h4
    have hnk : l.length ≤ k := by omega
    obtain rfl : k = l.length := by omega
    rw [drop_all (Nat.le_refl _)] at hg
    refine hw_exit ?_
    refine seqQ_x ?_
    refine loopQ_x ?_
    refine blockQ_eq ?_
    refine seqQ_n ?_
    refine hw_reg ?_
    refine dp rfl (pop_assign rfl) ?_
    refine dn ?_
    refine hw_ret ?_
    refine ret_p rfl ?_
    show HVal.bool _ = _
    (rw [hg.2, drop_all (Nat.le_of_eq hg.1.symm)]; rfl)

/-- benchwarmer/benchref1.byLine -/
theorem c_benchref1_byLine [Tracks] {a b : LineS}  : ConP Tryz.prog 78 [eLine a, eLine b] (.int .i64 (byLn a b)) := by
 refine Con.of_body Tryz.func78 rfl Tryz.ntmps78 rfl rfl ?_
 refine hw_reg ?_
 refine dp rfl (pop_box rfl rfl) ?_
 refine dp rfl (pop_box rfl rfl) ?_
 refine dp rfl (pop_assign rfl) ?_
 refine dn ?_
 refine hw_draw (fun _ => True) [] mixed ?_
 refine ahp 0 rfl rfl (by kernel_rfl) (by kernel_rfl) (pop_fieldAddr ty63 rfl ty9 (by decide) rfl) ?_
 refine ahp 1 rfl rfl (by kernel_rfl) (by kernel_rfl) (pop_load ty9 rfl rfl rfl) ?_
 refine ahp 2 rfl rfl (by kernel_rfl) (by kernel_rfl) (pop_fieldAddr ty63 rfl ty9 (by decide) rfl) ?_
 refine ahp 3 rfl rfl (by kernel_rfl) (by kernel_rfl) (pop_load ty9 rfl rfl rfl) ?_
 refine ahp 4 rfl rfl (by kernel_rfl) (by kernel_rfl) (pop_call ca103 rfl (WeakL.refl _) c_strings_Compare) ?_
 refine ahp 5 rfl rfl (by kernel_rfl) (by kernel_rfl) (pop_fieldAddr ty63 rfl ty3 (by decide) rfl) ?_
 refine ahp 6 rfl rfl (by kernel_rfl) (by kernel_rfl) (pop_load ty3 rfl rfl rfl) ?_
 refine ahp 7 rfl rfl (by kernel_rfl) (by kernel_rfl) (pop_fieldAddr ty63 rfl ty3 (by decide) rfl) ?_
 refine ahp 8 rfl rfl (by kernel_rfl) (by kernel_rfl) (pop_load ty3 rfl rfl rfl) ?_
 refine ahp 9 rfl rfl (by kernel_rfl) (by kernel_rfl) (pop_call ca104 rfl (WeakL.refl _) c_cmp_Compare_int) ?_
 refine ahp 10 rfl rfl (by kernel_rfl) (by kernel_rfl) (pop_buildSlice (hs := [_, _]) ty22 ty3 rfl rfl (by decide) (by decide) rfl) ?_
 refine ahp 11 rfl rfl (by kernel_rfl) (by kernel_rfl) (pop_call ca102 rfl (WeakL.refl _) (c_cmp_Or_int (l := [_, _]) (by simp))) ?_
 refine ahp 12 rfl rfl (by kernel_rfl) (by kernel_rfl) (pop_assign rfl) ?_
 refine ahz (by kernel_rfl) ?_
 refine hw_ret ?_
 refine ret_p rfl ?_
 rfl

/-- benchwarmer/benchref1.SameLine -/
theorem c_benchref1_SameLine [Tracks] {x : LineS} (hs : x.Stats.length ≤ 1000000) : ConP Tryz.prog 25 [eLine x, eLine x] (.bool true) := by
 refine Con.of_body Tryz.func25 rfl Tryz.ntmps25 rfl rfl ?_
 refine hw_reg ?_
 refine dp rfl (pop_box rfl rfl) ?_
 refine dp rfl (pop_box rfl rfl) ?_
 refine dp rfl (pop_assign rfl) ?_
 refine dn ?_
 refine hw_reg ?_
 refine dp rfl (pop_loadw ty63 rfl rfl rfl rfl) ?_
 refine dp rfl (pop_loadw ty63 rfl rfl rfl rfl) ?_
 refine dp rfl (pop_call ca78 rfl (WeakL.refl _) c_benchref1_byLine) ?_
 refine dp rfl (pop_eql rfl rfl) ?_
 refine dp rfl (pop_move rfl) ?_
 refine dg rfl rfl (fun hc => ⟨_, OpenTo.refl _, pop_fieldAddr ty63 rfl ty61 (by decide) rfl⟩) ?_
 refine dg rfl rfl (fun hc => ⟨_, OpenTo.upd (t := 10) rfl (hc) (OpenTo.refl _), pop_load ty61 rfl rfl rfl⟩) ?_
 refine dg rfl rfl (fun hc => ⟨_, OpenTo.refl _, pop_fieldAddr ty63 rfl ty61 (by decide) rfl⟩) ?_
 refine dg rfl rfl (fun hc => ⟨_, OpenTo.upd (t := 12) rfl (hc) (OpenTo.refl _), pop_load ty61 rfl rfl rfl⟩) ?_
 refine dg rfl rfl (fun hc => ⟨_, OpenTo.upd (t := 13) rfl (hc) (OpenTo.upd (t := 11) rfl (hc) (OpenTo.refl _)), pop_call ca79 rfl (WeakL.refl _) (c_slices_Equal_api_Stat_api_Stat (l := x.Stats) (m := x.Stats) hs)⟩) ?_
 refine dp rfl (pop_picko rfl (.inr ⟨_, rfl, fun h => by simp_all⟩) (.inl rfl)) ?_
 refine dp rfl (pop_assign rfl) ?_
 refine dn ?_
 refine hw_ret ?_
 refine ret_p rfl ?_
 show HVal.bool _ = _
 simp [byLn_refl, eqStats_refl]

/-- slices.EqualFunc[[]benchwarmer/api.Line,[]benchwarmer/api.Line,benchwarmer/api.Line,benchwarmer/api.Line] -/
theorem c_EqualFunc_Line [Tracks] {l : List LineS} (hl : l.length ≤ 1000000) (hs : ∀ y ∈ l, y.Stats.length ≤ 1000000) : ConP Tryz.prog 24 [eLines l, eLines l, .fn (.func 25) [] []] (.bool true) := by
 refine Con.of_body Tryz.func24 rfl Tryz.ntmps24 rfl rfl ?_
 refine hw_reg ?_
 refine dp rfl (pop_assign rfl) ?_
 refine dn ?_
 refine hw_seq ?_
 refine hw_reg ?_
 refine dp rfl (pop_move rfl) ?_
 refine dp rfl (pop_lenm ty54 rfl) ?_
 refine dp rfl (pop_move rfl) ?_
 refine dp rfl (pop_lenm ty54 rfl) ?_
 refine dp rfl (pop_neq rfl rfl) ?_
 refine dn ?_
 refine hw_cond rfl (fun h1 => ?_) (fun h1 => ?_)
 ·exfalso
  try simp at h1
  done
 ·try simp at h1
  refine hw_skip ?_
  refine seqQ_n ?_
  refine hw_seq ?_
  refine hw_reg ?_
  refine dp rfl (pop_move rfl) ?_
  refine dp rfl (pop_lenm ty54 rfl) ?_
  refine dp rfl (pop_move rfl) ?_
  refine dn ?_
  refine hw_block ?_
  refine hw_loopw [6, 7, 8, 9, 17, 18, 19, 20, 21, 22, 23, 24, 25, 26, 27, 28, 29, 30, 31] (fun (k : Nat) => [(17, .int .i64 k)]) (fun (k : Nat) => []) (fun (k : Nat) => k ≤ l.length ∧ (True)) (fun (k : Nat) => l.length - k) (0) ?_ ?_ ?_ ?_
  ·exact ⟨Nat.zero_le _, trivial⟩
  ·exact ⟨rfl, trivial⟩
  ·exact List.Perm.refl _
  ·intro k hinv
   obtain ⟨hk, -⟩ := hinv
   refine hw_reg ?_
   refine dp rfl (pop_lss rfl rfl) ?_
   refine dn ?_
   refine hw_seq ?_
   refine hw_cond rfl (fun h2 => ?_) (fun h3 => ?_)
   ·try simp at h2
    obtain ⟨x, hx⟩ : ∃ x, l[k]? = some x := ⟨_, List.getElem?_eq_getElem h2⟩
    have hdx := drop_cons hx
    refine hw_skip ?_
    refine seqQ_n ?_
    refine hw_seq ?_
    refine hw_block ?_
    refine hw_reg ?_
    refine dp rfl (pop_move rfl) ?_
    refine dp rfl (pop_idx ty54 ty63 rfl rfl rfl (by assumption)) ?_
    refine dp rfl (pop_loadw ty63 rfl rfl rfl rfl) ?_
    refine de rfl (eop_alloc ty63 rfl fun b8 => ?_)
    refine dp rfl (pop_assign rfl) ?_
    refine de0 (eop_storew ty63 rfl rfl rfl rfl rfl ?_)
    refine dn ?_
    refine hw_ghost (Ghost.fc0 8 rfl) ?_
    refine hw_reg ?_
    refine dp rfl (pop_move rfl) ?_
    refine dp rfl (pop_move rfl) ?_
    refine dp rfl (pop_idx (j := k) (a := x) ty54 ty63 rfl rfl rfl hx) ?_
    refine dp rfl (pop_loadw ty63 rfl rfl rfl rfl) ?_
    refine de rfl (eop_alloc ty63 rfl fun b9 => ?_)
    refine de0 (eop_storew ty63 rfl rfl rfl rfl rfl ?_)
    refine dn ?_
    refine hw_ghost (Ghost.fc0 9 rfl) ?_
    refine hw_reg ?_
    refine dp rfl (pop_move rfl) ?_
    refine dp rfl (pop_loadw ty63 rfl rfl rfl rfl) ?_
    refine dp rfl (pop_loadw ty63 rfl rfl rfl rfl) ?_
    refine dp rfl (pop_callv ca25 rfl rfl (WeakL.refl _) (c_benchref1_SameLine (hs x (List.mem_of_getElem? hx)))) ?_
    refine dp rfl (pop_not rfl) ?_
    refine dn ?_
    refine hw_cond rfl (fun h4 => ?_) (fun h4 => ?_)
    ·exfalso
     try simp at h4
     done
    ·try simp at h4
     refine hw_skip ?_
     refine blockQ_n ?_
     refine seqQ_n ?_
     refine hw_reg1 ?_
     refine dp rfl (pop_add64 rfl rfl (by omega) (by omega)) ?_
     refine dp rfl (pop_move rfl) ?_
     refine dn ?_
     refine ⟨k + 1, ?_, ?_, ⟨rfl, trivial⟩, (by repeat (first | exact keeps_refl | refine keeps_upd rfl ?_ | refine keeps_loop rfl rfl ?_)), List.Perm.refl _⟩
     ·exact ⟨by omega, trivial⟩
     ·dsimp only; omega
   ·try simp at h3
    have hnk : l.length ≤ k := by omega
    obtain rfl : k = l.length := by omega
    refine hw_exit ?_
    refine seqQ_x ?_
    refine loopQ_x ?_
    refine blockQ_eq ?_
    refine seqQ_n ?_
    refine hw_reg ?_
    refine dp rfl (pop_assign rfl) ?_
    refine dn ?_
    refine hw_ret ?_
    refine ret_p rfl ?_
    rfl
end Go.Proofs.YtkamelfigfbfiaaGreatDoor
end
section
namespace Go.Proofs.YtkamelfigfbfiaaGreatDoor
open Go.HL
set_option maxRecDepth 100000
set_option linter.unusedVariables false
set_option linter.unusedSimpArgs false
/-- slices.IndexFunc[[]benchwarmer/api.Mend,benchwarmer/api.Mend] -/
theorem c_slices_IndexFunc_api_Mend_api_Mend [Tracks] {l : List MendS} {fid : FuncId} {caps : List HVal} {p : MendS → Bool} (hca : Callable Tryz.prog fid) (hp : ∀ x, ConP Tryz.prog fid ([eMend x] ++ caps) (.bool (p x))) (hl : l.length ≤ 1000000) : ConP Tryz.prog 84 [.slice 7 (l.map eMend), .fn (.func fid) [] caps] (.int .i64 (idxF p l 0)) := by
 refine Con.of_body Tryz.func84 rfl Tryz.ntmps84 rfl rfl ?_
 refine hw_reg ?_
 refine dp rfl (pop_assign rfl) ?_
 refine dn ?_
 refine hw_seq ?_
 refine hw_reg ?_
 refine dp rfl (pop_move rfl) ?_
 refine dp rfl (pop_lenm ty46 rfl) ?_
 refine dp rfl (pop_move rfl) ?_
 refine dn ?_
 refine hw_block ?_
 refine hw_loopw [4, 5, 8, 9, 10, 11, 12, 13, 14, 15, 16, 17, 18] (fun (k : Nat) => [(8, .int .i64 k)]) (fun (k : Nat) => []) (fun (k : Nat) => k ≤ l.length ∧ (idxF p l 0 = idxF p (l.drop k) k)) (fun (k : Nat) => l.length - k) (0) ?_ ?_ ?_ ?_
 ·exact ⟨Nat.zero_le _, rfl⟩
 ·exact ⟨rfl, trivial⟩
 ·exact List.Perm.refl _
 ·intro k hinv
  obtain ⟨hk, hg⟩ := hinv
  refine hw_reg ?_
  refine dp rfl (pop_lss rfl rfl) ?_
  refine dn ?_
  refine hw_seq ?_
  refine hw_cond rfl (fun h1 => ?_) (fun h2 => ?_)
  ·try simp at h1
   obtain ⟨x, hx⟩ : ∃ x, l[k]? = some x := ⟨_, List.getElem?_eq_getElem h1⟩
   have hdx := drop_cons hx
   rw [hdx] at hg
   refine hw_skip ?_
   refine seqQ_n ?_
   refine hw_seq ?_
   refine hw_block ?_
   refine hw_reg ?_
   refine dp rfl (pop_move rfl) ?_
   refine dp rfl (pop_assign rfl) ?_
   refine dn ?_
   refine hw_reg ?_
   refine dp rfl (pop_move rfl) ?_
   refine dp rfl (pop_move rfl) ?_
   refine dp rfl (pop_move rfl) ?_
   refine dp rfl (pop_idx ty46 ty69 rfl rfl rfl (by first | assumption | simp_all)) ?_
   refine dp rfl (pop_loadw ty69 rfl rfl rfl rfl) ?_
   refine dp rfl (pop_callv hca rfl rfl (WeakL.refl _) (hp _)) ?_
   refine dn ?_
   refine hw_cond rfl (fun h3 => ?_) (fun h4 => ?_)
   ·try simp at h3
    refine hw_reg ?_
    refine dp rfl (pop_move rfl) ?_
    refine dp rfl (pop_assign rfl) ?_
    refine dn ?_
    refine hw_ret ?_
    refine ret_p rfl ?_
    show HVal.int .i64 _ = _
    first | (rw [hg]; rfl) | (rw [hg]; simp_all [idxF])
   ·try simp at h4
    refine hw_skip ?_
    refine blockQ_n ?_
    refine seqQ_n ?_
    refine hw_reg1 ?_
    refine dp rfl (pop_add64 rfl rfl (by omega) (by omega)) ?_
    refine dp rfl (pop_move rfl) ?_
    refine dn ?_
    refine ⟨k + 1, ?_, ?_, ⟨rfl, trivial⟩, (by repeat (first | exact keeps_refl | refine keeps_upd rfl ?_ | refine keeps_loop rfl rfl ?_)), List.Perm.refl _⟩
    ·refine ⟨by omega, ?_⟩
     rw [hg, idxF, if_neg (by simp_all)]; rfl
    ·dsimp only; omega
  ·try simp at h2
   have hnk : l.length ≤ k := by omega
   obtain rfl : k = l.length := by omega
   rw [drop_all (Nat.le_refl _)] at hg
   refine hw_exit ?_
   refine seqQ_x ?_
   refine loopQ_x ?_
   refine blockQ_eq ?_
   refine seqQ_n ?_
   refine hw_reg ?_
   refine dp rfl (pop_assign rfl) ?_
   refine dn ?_
   refine hw_ret ?_
   refine ret_p rfl ?_
   show HVal.int .i64 _ = _
   first | (rw [hg]; rfl) | (rw [hg]; simp_all [idxF])

/-- slices.ContainsFunc[[]benchwarmer/api.Mend,benchwarmer/api.Mend] -/
theorem c_slices_ContainsFunc_api_Mend_api_Mend [Tracks] {l : List MendS} {fid : FuncId} {caps : List HVal} {p : MendS → Bool} (hca : Callable Tryz.prog fid) (hp : ∀ x, ConP Tryz.prog fid ([eMend x] ++ caps) (.bool (p x))) (hl : l.length ≤ 1000000) : ConP Tryz.prog 28 [.slice 7 (l.map eMend), .fn (.func fid) [] caps] (.bool (l.any p)) := by
 refine Con.of_body Tryz.func28 rfl Tryz.ntmps28 rfl rfl ?_
 refine hw_reg ?_
 refine dp rfl (pop_assign rfl) ?_
 refine dn ?_
 refine hw_reg ?_
 refine dp rfl (pop_move rfl) ?_
 refine dp rfl (pop_move rfl) ?_
 refine dp rfl (pop_call ca84 rfl (WeakL.refl _) (c_slices_IndexFunc_api_Mend_api_Mend hca hp hl)) ?_
 refine dp rfl (pop_geq rfl rfl) ?_
 refine dp rfl (pop_assign rfl) ?_
 refine dn ?_
 refine hw_ret ?_
 refine ret_p rfl ?_
 congr 1; exact idxF_nonneg p l 0 (by omega)

set_option maxHeartbeats 1000000 in
/-- benchwarmer/benchref1.LinesFault -/
theorem c_benchref1_LinesFault [Tracks] {l : List LineS} (hl : l.length ≤ 1000000) (hL : ∀ x ∈ l, x.Stats.length ≤ 1000000) (hgl : ∀ x ∈ l, GoodLn x) : ConP Tryz.prog 21 [eLines l] (.int .i64 (linesFE l)) := by
 refine Con.of_body Tryz.func21 rfl Tryz.ntmps21 rfl rfl ?_
 refine hw_reg ?_
 refine dp rfl (pop_assign rfl) ?_
 refine dn ?_
 refine hw_seq ?_
 refine hw_reg ?_
 refine dp rfl (pop_move rfl) ?_
 refine dp rfl (pop_lenm ty54 rfl) ?_
 refine dp rfl (pop_gtr rfl rfl) ?_
 refine dn ?_
 refine hw_cond rfl (fun h1 => ?_) (fun h2 => ?_)
 ·try simp at h1
  refine hw_reg ?_
  refine dp rfl (pop_assign rfl) ?_
  refine dn ?_
  refine hw_ret ?_
  refine ret_p rfl ?_
  show HVal.int .i64 _ = _
  first
  | (rw [linesFE, if_pos (by omega)]; done)
  | (rw [linesFE, if_neg (by omega), hg]; rfl)
  | (have f1 := byWk_cmp.flip x (l.getD (k - 1) line0) trivial trivial
     have f2 := byWk_cmp.flip (l.getD (k - 1) line0) x trivial trivial
     refine congrArg _ (lines_ord (by omega) hg hlf ?_ ?_) <;> first | omega | (simp_all; done) | (simp_all; omega))
  | (refine congrArg _ (lines_bad (c := 7) (by omega) hg (by decide) ?_)
     rw [lineFault, if_neg, if_neg]
     ·refine (stats_ord hle40 hgs ?_ ?_ ?_).symm
      ·rw [statFault, if_neg, if_neg] <;> simp_all
      ·simp_all
      ·simp_all
     all_goals simp_all
     done)
  | (refine congrArg _ (lines_bad (c := 5) (by omega) hg (by decide) ?_)
     rw [lineFault, if_neg, if_neg]
     ·refine (stats_bad (c := 5) hle40 hgs (by decide) ?_).symm
      rw [statFault, if_pos]
      simp_all
     all_goals simp_all
     done)
  | (refine congrArg _ (lines_bad (c := 1) (by omega) hg (by decide) ?_)
     rw [lineFault, if_neg, if_neg]
     ·refine (stats_bad (c := 1) hle40 hgs (by decide) ?_).symm
      rw [statFault, if_neg, if_pos]
      all_goals simp_all [or_comm]
     all_goals simp_all
     done)
  | (refine congrArg _ (lines_bad (c := 2) (by omega) hg (by decide) ?_)
     rw [lineFault, if_neg, if_neg]
     ·rw [statsE, if_pos]
      omega
     all_goals simp_all
     done)
  | (refine congrArg _ (lines_bad (c := 5) (by omega) hg (by decide) ?_)
     rw [lineFault, if_pos]
     simp_all
     done)
  | (refine congrArg _ (lines_bad (c := 1) (by omega) hg (by decide) ?_)
     rw [lineFault, if_neg, if_pos]
     all_goals simp_all
     done)
 ·try simp at h2
  refine hw_skip ?_
  refine seqQ_n ?_
  refine hw_seq ?_
  refine hw_reg ?_
  refine dp rfl (pop_move rfl) ?_
  refine dp rfl (pop_lenm ty54 rfl) ?_
  refine dp rfl (pop_move rfl) ?_
  refine dn ?_
  refine hw_block ?_
  refine hw_loopw (2 :: 3 :: 4 :: 5 :: 6 :: 12 :: 13 :: 14 :: 15 :: 16 :: 17 :: 18 :: 19 :: 20 :: 21 :: 22 :: 23 :: 24 :: 25 :: 26 :: 27 :: 28 :: 29 :: 30 :: 31 :: 32 :: 33 :: 34 :: 35 :: 36 :: 37 :: 38 :: 39 :: 40 :: 41 :: 42 :: 43 :: 44 :: 45 :: 46 :: 47 :: 48 :: 49 :: 50 :: 51 :: 52 :: 53 :: 54 :: 55 :: 56 :: 57 :: 58 :: 59 :: 60 :: 61 :: 62 :: 63 :: 64 :: 65 :: 66 :: 67 :: 68 :: 69 :: 70 :: 71 :: 72 :: 73 :: 74 :: 75 :: 76 :: 77 :: 78 :: 79 :: 80 :: 81 :: 82 :: 83 :: []) (fun (k : Nat) => [(12, .int .i64 k)]) (fun (k : Nat) => []) (fun (k : Nat) => k ≤ l.length ∧ (chkGo lineFault byWk line0 l 0 l = chkGo lineFault byWk line0 l k (l.drop k))) (fun (k : Nat) => l.length - k) (0) ?_ ?_ ?_ ?_
  ·exact ⟨Nat.zero_le _, rfl⟩
  ·exact ⟨rfl, trivial⟩
  ·exact List.Perm.refl _
  ·intro k hinv
   obtain ⟨hk, hg⟩ := hinv
   refine hw_reg ?_
   refine dp rfl (pop_lss rfl rfl) ?_
   refine dn ?_
   refine hw_seq ?_
   refine hw_cond rfl (fun h3 => ?_) (fun h4 => ?_)
   ·try simp at h3
    obtain ⟨x, hx⟩ : ∃ x, l[k]? = some x := ⟨_, List.getElem?_eq_getElem h3⟩
    have hdx := drop_cons hx
    rw [hdx] at hg
    refine hw_skip ?_
    refine seqQ_n ?_
    refine hw_seq ?_
    refine hw_block ?_
    refine hw_reg ?_
    refine dp rfl (pop_move rfl) ?_
    refine dp rfl (pop_idx ty54 ty63 rfl rfl rfl (by first | assumption | simp_all)) ?_
    refine dp rfl (pop_loadw ty63 rfl rfl rfl rfl) ?_
    refine de rfl (eop_alloc ty63 rfl fun b4 => ?_)
    refine dp rfl (pop_assign rfl) ?_
    refine de0 (eop_storew ty63 rfl rfl rfl rfl rfl ?_)
    refine dn ?_
    refine hw_ghost (Ghost.fc0 4 rfl) ?_
    refine hw_seq ?_
    refine hw_block ?_
    refine hw_reg ?_
    refine dp rfl (pop_fieldAddr ty63 rfl ty9 (by decide) rfl) ?_
    refine dp rfl (pop_load ty9 rfl rfl rfl) ?_
    refine dp rfl (pop_call ca52 rfl (WeakL.refl _) (c_benchref1_Key (hgl x (List.mem_of_getElem? hx)).1)) ?_
    refine dp rfl (pop_not rfl) ?_
    refine dp rfl (pop_assign rfl) ?_
    refine dn ?_
    refine hw_cond rfl (fun h5 => ?_) (fun h6 => ?_)
    ·try simp at h5
     refine hw_reg ?_
     refine dp rfl (pop_assign rfl) ?_
     refine dn ?_
     refine hw_ret ?_
     refine ret_p rfl ?_
     show HVal.int .i64 _ = _
     first
     | (rw [linesFE, if_pos (by omega)]; done)
     | (rw [linesFE, if_neg (by omega), hg]; rfl)
     | (have f1 := byWk_cmp.flip x (l.getD (k - 1) line0) trivial trivial
        have f2 := byWk_cmp.flip (l.getD (k - 1) line0) x trivial trivial
        refine congrArg _ (lines_ord (by omega) hg hlf ?_ ?_) <;> first | omega | (simp_all; done) | (simp_all; omega))
     | (refine congrArg _ (lines_bad (c := 7) (by omega) hg (by decide) ?_)
        rw [lineFault, if_neg, if_neg]
        ·refine (stats_ord hle40 hgs ?_ ?_ ?_).symm
         ·rw [statFault, if_neg, if_neg] <;> simp_all
         ·simp_all
         ·simp_all
        all_goals simp_all
        done)
     | (refine congrArg _ (lines_bad (c := 5) (by omega) hg (by decide) ?_)
        rw [lineFault, if_neg, if_neg]
        ·refine (stats_bad (c := 5) hle40 hgs (by decide) ?_).symm
         rw [statFault, if_pos]
         simp_all
        all_goals simp_all
        done)
     | (refine congrArg _ (lines_bad (c := 1) (by omega) hg (by decide) ?_)
        rw [lineFault, if_neg, if_neg]
        ·refine (stats_bad (c := 1) hle40 hgs (by decide) ?_).symm
         rw [statFault, if_neg, if_pos]
         all_goals simp_all [or_comm]
        all_goals simp_all
        done)
     | (refine congrArg _ (lines_bad (c := 2) (by omega) hg (by decide) ?_)
        rw [lineFault, if_neg, if_neg]
        ·rw [statsE, if_pos]
         omega
        all_goals simp_all
        done)
     | (refine congrArg _ (lines_bad (c := 5) (by omega) hg (by decide) ?_)
        rw [lineFault, if_pos]
        simp_all
        done)
     | (refine congrArg _ (lines_bad (c := 1) (by omega) hg (by decide) ?_)
        rw [lineFault, if_neg, if_pos]
        all_goals simp_all
        done)
    ·try simp at h6
     refine hw_reg ?_
     refine dp rfl (pop_fieldAddr ty63 rfl ty3 (by decide) rfl) ?_
     refine dp rfl (pop_load ty3 rfl rfl rfl) ?_
     refine dp rfl (pop_call ca43 rfl (WeakL.refl _) c_benchref1_WeekFault) ?_
     refine dp rfl (pop_neq rfl rfl) ?_
     refine dp rfl (pop_assign rfl) ?_
     refine dn ?_
     refine hw_cond rfl (fun h7 => ?_) (fun h8 => ?_)
     ·try simp at h7
      refine hw_reg ?_
      refine dp rfl (pop_assign rfl) ?_
      refine dn ?_
      refine hw_ret ?_
      refine ret_p rfl ?_
      show HVal.int .i64 _ = _
      first
      | (rw [linesFE, if_pos (by omega)]; done)
      | (rw [linesFE, if_neg (by omega), hg]; rfl)
      | (have f1 := byWk_cmp.flip x (l.getD (k - 1) line0) trivial trivial
         have f2 := byWk_cmp.flip (l.getD (k - 1) line0) x trivial trivial
         refine congrArg _ (lines_ord (by omega) hg hlf ?_ ?_) <;> first | omega | (simp_all; done) | (simp_all; omega))
      | (refine congrArg _ (lines_bad (c := 7) (by omega) hg (by decide) ?_)
         rw [lineFault, if_neg, if_neg]
         ·refine (stats_ord hle40 hgs ?_ ?_ ?_).symm
          ·rw [statFault, if_neg, if_neg] <;> simp_all
          ·simp_all
          ·simp_all
         all_goals simp_all
         done)
      | (refine congrArg _ (lines_bad (c := 5) (by omega) hg (by decide) ?_)
         rw [lineFault, if_neg, if_neg]
         ·refine (stats_bad (c := 5) hle40 hgs (by decide) ?_).symm
          rw [statFault, if_pos]
          simp_all
         all_goals simp_all
         done)
      | (refine congrArg _ (lines_bad (c := 1) (by omega) hg (by decide) ?_)
         rw [lineFault, if_neg, if_neg]
         ·refine (stats_bad (c := 1) hle40 hgs (by decide) ?_).symm
          rw [statFault, if_neg, if_pos]
          all_goals simp_all [or_comm]
         all_goals simp_all
         done)
      | (refine congrArg _ (lines_bad (c := 2) (by omega) hg (by decide) ?_)
         rw [lineFault, if_neg, if_neg]
         ·rw [statsE, if_pos]
          omega
         all_goals simp_all
         done)
      | (refine congrArg _ (lines_bad (c := 5) (by omega) hg (by decide) ?_)
         rw [lineFault, if_pos]
         simp_all
         done)
      | (refine congrArg _ (lines_bad (c := 1) (by omega) hg (by decide) ?_)
         rw [lineFault, if_neg, if_pos]
         all_goals simp_all
         done)
     ·try simp at h8
      refine hw_reg ?_
      refine dp rfl (pop_fieldAddr ty63 rfl ty61 (by decide) rfl) ?_
      refine dp rfl (pop_load ty61 rfl rfl rfl) ?_
      refine dp rfl (pop_lenm ty61 rfl) ?_
      refine dp rfl (pop_gtr rfl rfl) ?_
      refine dp rfl (pop_assign rfl) ?_
      refine dn ?_
      refine hw_cond rfl (fun h9 => ?_) (fun h10 => ?_)
      ·try simp at h9
       refine hw_reg ?_
       refine dp rfl (pop_assign rfl) ?_
       refine dn ?_
       refine hw_ret ?_
       refine ret_p rfl ?_
       show HVal.int .i64 _ = _
       first
       | (rw [linesFE, if_pos (by omega)]; done)
       | (rw [linesFE, if_neg (by omega), hg]; rfl)
       | (have f1 := byWk_cmp.flip x (l.getD (k - 1) line0) trivial trivial
          have f2 := byWk_cmp.flip (l.getD (k - 1) line0) x trivial trivial
          refine congrArg _ (lines_ord (by omega) hg hlf ?_ ?_) <;> first | omega | (simp_all; done) | (simp_all; omega))
       | (refine congrArg _ (lines_bad (c := 7) (by omega) hg (by decide) ?_)
          rw [lineFault, if_neg, if_neg]
          ·refine (stats_ord hle40 hgs ?_ ?_ ?_).symm
           ·rw [statFault, if_neg, if_neg] <;> simp_all
           ·simp_all
           ·simp_all
          all_goals simp_all
          done)
       | (refine congrArg _ (lines_bad (c := 5) (by omega) hg (by decide) ?_)
          rw [lineFault, if_neg, if_neg]
          ·refine (stats_bad (c := 5) hle40 hgs (by decide) ?_).symm
           rw [statFault, if_pos]
           simp_all
          all_goals simp_all
          done)
       | (refine congrArg _ (lines_bad (c := 1) (by omega) hg (by decide) ?_)
          rw [lineFault, if_neg, if_neg]
          ·refine (stats_bad (c := 1) hle40 hgs (by decide) ?_).symm
           rw [statFault, if_neg, if_pos]
           all_goals simp_all [or_comm]
          all_goals simp_all
          done)
       | (refine congrArg _ (lines_bad (c := 2) (by omega) hg (by decide) ?_)
          rw [lineFault, if_neg, if_neg]
          ·rw [statsE, if_pos]
           omega
          all_goals simp_all
          done)
       | (refine congrArg _ (lines_bad (c := 5) (by omega) hg (by decide) ?_)
          rw [lineFault, if_pos]
          simp_all
          done)
       | (refine congrArg _ (lines_bad (c := 1) (by omega) hg (by decide) ?_)
          rw [lineFault, if_neg, if_pos]
          all_goals simp_all
          done)
      ·try simp at h10
       refine hw_skip ?_
       refine blockQ_n ?_
       refine seqQ_n ?_
       refine hw_seq ?_
       have hxl := hL x (List.mem_of_getElem? hx)
       have hle40 : ¬ 40 < x.Stats.length := by omega
       refine hw_reg ?_
       refine dp rfl (pop_fieldAddr ty63 rfl ty61 (by decide) rfl) ?_
       refine dp rfl (pop_load ty61 rfl rfl rfl) ?_
       refine dp rfl (pop_lenm ty61 rfl) ?_
       refine dp rfl (pop_move rfl) ?_
       refine dn ?_
       refine hw_block ?_
       refine hw_loopw [2, 5, 6, 35, 36, 37, 38, 39, 40, 41, 42, 43, 44, 45, 46, 47, 48, 49, 50, 51, 52, 53, 54, 55, 56, 57, 58, 59, 60, 61, 62, 63, 64, 65, 66, 67, 68, 69, 70] (fun (j : Nat) => [(35, .int .i64 j)]) (fun (j : Nat) => []) (fun (j : Nat) => j ≤ x.Stats.length ∧ (chkGo statFault byNm stat0 x.Stats 0 x.Stats = chkGo statFault byNm stat0 x.Stats j (x.Stats.drop j))) (fun (j : Nat) => x.Stats.length - j) (0) ?_ ?_ ?_ ?_
       ·exact ⟨Nat.zero_le _, rfl⟩
       ·exact ⟨rfl, trivial⟩
       ·exact List.Perm.refl _
       ·intro j hinv
        obtain ⟨hj, hgs⟩ := hinv
        refine hw_reg ?_
        refine dp rfl (pop_lss rfl rfl) ?_
        refine dn ?_
        refine hw_seq ?_
        refine hw_cond rfl (fun h11 => ?_) (fun h12 => ?_)
        ·try simp at h11
         obtain ⟨s, hs⟩ : ∃ s, x.Stats[j]? = some s := ⟨_, List.getElem?_eq_getElem h11⟩
         have hds := drop_cons hs
         rw [hds] at hgs
         refine hw_skip ?_
         refine seqQ_n ?_
         refine hw_seq ?_
         refine hw_block ?_
         refine hw_reg ?_
         refine dp rfl (pop_move rfl) ?_
         refine dp rfl (pop_idx ty61 ty121 rfl rfl rfl (by first | assumption | simp_all)) ?_
         refine dp rfl (pop_loadw ty121 rfl rfl rfl rfl) ?_
         refine de rfl (eop_alloc ty121 rfl fun b6 => ?_)
         refine dp rfl (pop_assign rfl) ?_
         refine de0 (eop_storew ty121 rfl rfl rfl rfl rfl ?_)
         refine dn ?_
         refine hw_ghost (Ghost.fc0 6 rfl) ?_
         refine hw_block ?_
         refine hw_reg ?_
         refine dp rfl (pop_fieldAddr ty121 rfl ty9 (by decide) rfl) ?_
         refine dp rfl (pop_load ty9 rfl rfl rfl) ?_
         refine dp rfl (pop_call ca52 rfl (WeakL.refl _) (c_benchref1_Key ((hgl x (List.mem_of_getElem? hx)).2 s (List.mem_of_getElem? hs)))) ?_
         refine dp rfl (pop_not rfl) ?_
         refine dp rfl (pop_assign rfl) ?_
         refine dn ?_
         refine hw_cond rfl (fun h13 => ?_) (fun h14 => ?_)
         ·try simp at h13
          refine hw_reg ?_
          refine dp rfl (pop_assign rfl) ?_
          refine dn ?_
          refine hw_ret ?_
          refine ret_p rfl ?_
          show HVal.int .i64 _ = _
          first
          | (rw [linesFE, if_pos (by omega)]; done)
          | (rw [linesFE, if_neg (by omega), hg]; rfl)
          | (have f1 := byWk_cmp.flip x (l.getD (k - 1) line0) trivial trivial
             have f2 := byWk_cmp.flip (l.getD (k - 1) line0) x trivial trivial
             refine congrArg _ (lines_ord (by omega) hg hlf ?_ ?_) <;> first | omega | (simp_all; done) | (simp_all; omega))
          | (refine congrArg _ (lines_bad (c := 7) (by omega) hg (by decide) ?_)
             rw [lineFault, if_neg, if_neg]
             ·refine (stats_ord hle40 hgs ?_ ?_ ?_).symm
              ·rw [statFault, if_neg, if_neg] <;> simp_all
              ·simp_all
              ·simp_all
             all_goals simp_all
             done)
          | (refine congrArg _ (lines_bad (c := 5) (by omega) hg (by decide) ?_)
             rw [lineFault, if_neg, if_neg]
             ·refine (stats_bad (c := 5) hle40 hgs (by decide) ?_).symm
              rw [statFault, if_pos]
              simp_all
             all_goals simp_all
             done)
          | (refine congrArg _ (lines_bad (c := 1) (by omega) hg (by decide) ?_)
             rw [lineFault, if_neg, if_neg]
             ·refine (stats_bad (c := 1) hle40 hgs (by decide) ?_).symm
              rw [statFault, if_neg, if_pos]
              all_goals simp_all [or_comm]
             all_goals simp_all
             done)
          | (refine congrArg _ (lines_bad (c := 2) (by omega) hg (by decide) ?_)
             rw [lineFault, if_neg, if_neg]
             ·rw [statsE, if_pos]
              omega
             all_goals simp_all
             done)
          | (refine congrArg _ (lines_bad (c := 5) (by omega) hg (by decide) ?_)
             rw [lineFault, if_pos]
             simp_all
             done)
          | (refine congrArg _ (lines_bad (c := 1) (by omega) hg (by decide) ?_)
             rw [lineFault, if_neg, if_pos]
             all_goals simp_all
             done)
         ·try simp at h14
          refine hw_reg ?_
          refine dp rfl (pop_fieldAddr ty121 rfl ty3 (by decide) rfl) ?_
          refine dp rfl (pop_load ty3 rfl rfl rfl) ?_
          refine dp rfl (pop_eql rfl rfl) ?_
          refine dp rfl (pop_move rfl) ?_
          refine dg rfl rfl (fun hc => ⟨_, OpenTo.refl _, pop_fieldAddr ty121 rfl ty3 (by decide) rfl⟩) ?_
          refine dg rfl rfl (fun hc => ⟨_, OpenTo.upd (t := 50) rfl (by first | exact hc | simp_all) (OpenTo.refl _), pop_load ty3 rfl rfl rfl⟩) ?_
          refine dg rfl rfl (fun hc => ⟨_, OpenTo.upd (t := 51) rfl (by first | exact hc | simp_all) (OpenTo.refl _), pop_call ca53 rfl (WeakL.refl _) c_benchref1_in⟩) ?_
          refine dg rfl rfl (fun hc => ⟨_, OpenTo.upd (t := 52) rfl (by first | exact hc | simp_all) (OpenTo.refl _), pop_not rfl⟩) ?_
          refine dp rfl (pop_picko rfl (.inl rfl) (.inr ⟨_, rfl, fun h => by simp_all⟩)) ?_
          refine dp rfl (pop_assign rfl) ?_
          refine dn ?_
          refine hw_cond rfl (fun h15 => ?_) (fun h16 => ?_)
          ·try simp at h15
           refine hw_reg ?_
           refine dp rfl (pop_assign rfl) ?_
           refine dn ?_
           refine hw_ret ?_
           refine ret_p rfl ?_
           show HVal.int .i64 _ = _
           first
           | (rw [linesFE, if_pos (by omega)]; done)
           | (rw [linesFE, if_neg (by omega), hg]; rfl)
           | (have f1 := byWk_cmp.flip x (l.getD (k - 1) line0) trivial trivial
              have f2 := byWk_cmp.flip (l.getD (k - 1) line0) x trivial trivial
              refine congrArg _ (lines_ord (by omega) hg hlf ?_ ?_) <;> first | omega | (simp_all; done) | (simp_all; omega))
           | (refine congrArg _ (lines_bad (c := 7) (by omega) hg (by decide) ?_)
              rw [lineFault, if_neg, if_neg]
              ·refine (stats_ord hle40 hgs ?_ ?_ ?_).symm
               ·rw [statFault, if_neg, if_neg] <;> simp_all
               ·simp_all
               ·simp_all
              all_goals simp_all
              done)
           | (refine congrArg _ (lines_bad (c := 5) (by omega) hg (by decide) ?_)
              rw [lineFault, if_neg, if_neg]
              ·refine (stats_bad (c := 5) hle40 hgs (by decide) ?_).symm
               rw [statFault, if_pos]
               simp_all
              all_goals simp_all
              done)
           | (refine congrArg _ (lines_bad (c := 1) (by omega) hg (by decide) ?_)
              rw [lineFault, if_neg, if_neg]
              ·refine (stats_bad (c := 1) hle40 hgs (by decide) ?_).symm
               rw [statFault, if_neg, if_pos]
               all_goals simp_all [or_comm]
              all_goals simp_all
              done)
           | (refine congrArg _ (lines_bad (c := 2) (by omega) hg (by decide) ?_)
              rw [lineFault, if_neg, if_neg]
              ·rw [statsE, if_pos]
               omega
              all_goals simp_all
              done)
           | (refine congrArg _ (lines_bad (c := 5) (by omega) hg (by decide) ?_)
              rw [lineFault, if_pos]
              simp_all
              done)
           | (refine congrArg _ (lines_bad (c := 1) (by omega) hg (by decide) ?_)
              rw [lineFault, if_neg, if_pos]
              all_goals simp_all
              done)
          ·try simp at h16
           refine hw_draw (fun _ => True) [] mixed ?_
           refine ahp 0 rfl rfl (by kernel_rfl) (by kernel_rfl) (pop_move rfl) ?_
           refine ahp 1 rfl rfl (by kernel_rfl) (by kernel_rfl) (pop_gtr rfl rfl) ?_
           refine ahp 2 rfl rfl (by kernel_rfl) (by kernel_rfl) (pop_move rfl) ?_
           refine ahg 3 rfl rfl (by kernel_rfl) (by kernel_rfl) rfl (fun hc => ⟨_, OpenTo.refl _, pop_fieldAddr ty121 rfl ty9 (by decide) rfl⟩) ?_
           refine ahg 4 rfl rfl (by kernel_rfl) (by kernel_rfl) rfl (fun hc => ⟨_, OpenTo.upd (t := 59) rfl (by first | exact hc | simp_all) (OpenTo.refl _), pop_load ty9 rfl rfl rfl⟩) ?_
           refine ahg 5 rfl rfl (by kernel_rfl) (by kernel_rfl) rfl (fun hc => ⟨_, OpenTo.refl _, pop_fieldAddr ty63 rfl ty61 (by decide) rfl⟩) ?_
           refine ahg 6 rfl rfl (by kernel_rfl) (by kernel_rfl) rfl (fun hc => ⟨_, OpenTo.upd (t := 61) rfl (by first | exact hc | simp_all) (OpenTo.refl _), pop_load ty61 rfl rfl rfl⟩) ?_
           refine ahg 7 rfl rfl (by kernel_rfl) (by kernel_rfl) rfl (fun hc => ⟨_, OpenTo.refl _, pop_move rfl⟩) ?_
           refine ahg 8 rfl rfl (by kernel_rfl) (by kernel_rfl) rfl (fun hc => by have hq := hc; (try simp at hq); exact ⟨_, OpenTo.upd (t := 63) rfl (by first | exact hc | simp_all) (OpenTo.refl _), pop_sub64 rfl rfl (by omega) (by omega)⟩) ?_
           refine ahg 9 rfl rfl (by kernel_rfl) (by kernel_rfl) rfl (fun hc => by have hq := hc; (try simp at hq); exact ⟨_, OpenTo.upd (t := 64) rfl (by first | exact hc | simp_all) (OpenTo.upd (t := 62) rfl (by first | exact hc | simp_all) (OpenTo.refl _)), pop_idx (j := j - 1) (a := x.Stats.getD (j - 1) stat0) ty61 ty121 rfl rfl (by omega) (getD_some (by omega))⟩) ?_
           refine ahg 10 rfl rfl (by kernel_rfl) (by kernel_rfl) rfl (fun hc => ⟨_, OpenTo.upd (t := 65) rfl (by first | exact hc | simp_all) (OpenTo.refl _), pop_fieldAddr ty121 rfl ty9 (by decide) rfl⟩) ?_
           refine ahg 11 rfl rfl (by kernel_rfl) (by kernel_rfl) rfl (fun hc => ⟨_, OpenTo.upd (t := 66) rfl (by first | exact hc | simp_all) (OpenTo.refl _), pop_load ty9 rfl rfl rfl⟩) ?_
           refine ahg 12 rfl rfl (by kernel_rfl) (by kernel_rfl) rfl (fun hc => ⟨_, OpenTo.upd (t := 67) rfl (by first | exact hc | simp_all) (OpenTo.upd (t := 60) rfl (by first | exact hc | simp_all) (OpenTo.refl _)), pop_leqs rfl rfl⟩) ?_
           refine ahp 13 rfl rfl (by kernel_rfl) (by kernel_rfl) (pop_picko rfl (.inr ⟨_, rfl, fun h => by simp_all⟩) (.inl rfl)) ?_
           refine ahp 14 rfl rfl (by kernel_rfl) (by kernel_rfl) (pop_assign rfl) ?_
           refine ahz (by kernel_rfl) ?_
           refine hw_cond rfl (fun h17 => ?_) (fun h18 => ?_)
           ·try simp at h17
            refine hw_reg ?_
            refine dp rfl (pop_assign rfl) ?_
            refine dn ?_
            refine hw_ret ?_
            refine ret_p rfl ?_
            show HVal.int .i64 _ = _
            first
            | (rw [linesFE, if_pos (by omega)]; done)
            | (rw [linesFE, if_neg (by omega), hg]; rfl)
            | (have f1 := byWk_cmp.flip x (l.getD (k - 1) line0) trivial trivial
               have f2 := byWk_cmp.flip (l.getD (k - 1) line0) x trivial trivial
               refine congrArg _ (lines_ord (by omega) hg hlf ?_ ?_) <;> first | omega | (simp_all; done) | (simp_all; omega))
            | (refine congrArg _ (lines_bad (c := 7) (by omega) hg (by decide) ?_)
               rw [lineFault, if_neg, if_neg]
               ·refine (stats_ord hle40 hgs ?_ ?_ ?_).symm
                ·rw [statFault, if_neg, if_neg] <;> simp_all
                ·simp_all
                ·simp_all
               all_goals simp_all
               done)
            | (refine congrArg _ (lines_bad (c := 5) (by omega) hg (by decide) ?_)
               rw [lineFault, if_neg, if_neg]
               ·refine (stats_bad (c := 5) hle40 hgs (by decide) ?_).symm
                rw [statFault, if_pos]
                simp_all
               all_goals simp_all
               done)
            | (refine congrArg _ (lines_bad (c := 1) (by omega) hg (by decide) ?_)
               rw [lineFault, if_neg, if_neg]
               ·refine (stats_bad (c := 1) hle40 hgs (by decide) ?_).symm
                rw [statFault, if_neg, if_pos]
                all_goals simp_all [or_comm]
               all_goals simp_all
               done)
            | (refine congrArg _ (lines_bad (c := 2) (by omega) hg (by decide) ?_)
               rw [lineFault, if_neg, if_neg]
               ·rw [statsE, if_pos]
                omega
               all_goals simp_all
               done)
            | (refine congrArg _ (lines_bad (c := 5) (by omega) hg (by decide) ?_)
               rw [lineFault, if_pos]
               simp_all
               done)
            | (refine congrArg _ (lines_bad (c := 1) (by omega) hg (by decide) ?_)
               rw [lineFault, if_neg, if_pos]
               all_goals simp_all
               done)
           ·try simp at h18
            refine hw_skip ?_
            refine blockQ_n ?_
            refine blockQ_n ?_
            refine seqQ_n ?_
            refine hw_reg1 ?_
            refine dp rfl (pop_add64 rfl rfl (by omega) (by omega)) ?_
            refine dp rfl (pop_move rfl) ?_
            refine dn ?_
            refine ⟨j + 1, ?_, ?_, ⟨rfl, trivial⟩, (by repeat (first | exact keeps_refl | refine keeps_upd rfl ?_ | refine keeps_loop rfl rfl ?_)), List.Perm.refl _⟩
            ·refine ⟨by omega, ?_⟩
             rw [hgs, stats_next (by rw [statFault, if_neg (by simp_all), if_neg (by simp_all)]) (by intro hk0; simp_all)]
            ·dsimp only; omega
        ·try simp at h12
         have hnj : x.Stats.length ≤ j := by omega
         obtain rfl : j = x.Stats.length := by omega
         rw [drop_all (Nat.le_refl _)] at hgs
         refine hw_exit ?_
         refine seqQ_x ?_
         refine loopQ_x ?_
         refine blockQ_eq ?_
         refine seqQ_n ?_
         have hse : statsE x.Stats = 0 := by rw [statsE, if_neg hle40, hgs]; rfl
         have hlf : lineFault x = 0 := by rw [lineFault, if_neg (by simp_all), if_neg (by simp_all)]; exact hse
         refine hw_draw (fun _ => True) [] mixed ?_
         refine ahp 0 rfl rfl (by kernel_rfl) (by kernel_rfl) (pop_move rfl) ?_
         refine ahp 1 rfl rfl (by kernel_rfl) (by kernel_rfl) (pop_gtr rfl rfl) ?_
         refine ahp 2 rfl rfl (by kernel_rfl) (by kernel_rfl) (pop_move rfl) ?_
         refine ahg 3 rfl rfl (by kernel_rfl) (by kernel_rfl) rfl (fun hc => ⟨_, OpenTo.refl _, pop_move rfl⟩) ?_
         refine ahg 4 rfl rfl (by kernel_rfl) (by kernel_rfl) rfl (fun hc => ⟨_, OpenTo.refl _, pop_move rfl⟩) ?_
         refine ahg 5 rfl rfl (by kernel_rfl) (by kernel_rfl) rfl (fun hc => by have hq := hc; (try simp at hq); exact ⟨_, OpenTo.upd (t := 75) rfl (by first | exact hc | simp_all) (OpenTo.refl _), pop_sub64 rfl rfl (by omega) (by omega)⟩) ?_
         refine ahg 6 rfl rfl (by kernel_rfl) (by kernel_rfl) rfl (fun hc => by have hq := hc; (try simp at hq); exact ⟨_, OpenTo.upd (t := 76) rfl (by first | exact hc | simp_all) (OpenTo.upd (t := 74) rfl (by first | exact hc | simp_all) (OpenTo.refl _)), pop_idx (j := k - 1) (a := l.getD (k - 1) line0) ty54 ty63 rfl rfl (by omega) (getD_some (by omega))⟩) ?_
         refine ahg 7 rfl rfl (by kernel_rfl) (by kernel_rfl) rfl (fun hc => ⟨_, OpenTo.upd (t := 77) rfl (by first | exact hc | simp_all) (OpenTo.refl _), pop_loadw ty63 rfl rfl rfl rfl⟩) ?_
         refine ahg 8 rfl rfl (by kernel_rfl) (by kernel_rfl) rfl (fun hc => ⟨_, OpenTo.refl _, pop_loadw ty63 rfl rfl rfl rfl⟩) ?_
         refine ahg 9 rfl rfl (by kernel_rfl) (by kernel_rfl) rfl (fun hc => ⟨_, OpenTo.upd (t := 79) rfl (by first | exact hc | simp_all) (OpenTo.upd (t := 78) rfl (by first | exact hc | simp_all) (OpenTo.refl _)), pop_eq (h' := .int .i64 (byWk (l.getD (k - 1) line0) x)) (pop_call ca78 rfl (WeakL.refl _) c_benchref1_byLine) rfl⟩) ?_
         refine ahg 10 rfl rfl (by kernel_rfl) (by kernel_rfl) rfl (fun hc => ⟨_, OpenTo.upd (t := 80) rfl (by first | exact hc | simp_all) (OpenTo.refl _), pop_geq rfl rfl⟩) ?_
         refine ahp 11 rfl rfl (by kernel_rfl) (by kernel_rfl) (pop_picko rfl (.inr ⟨_, rfl, fun h => by simp_all⟩) (.inl rfl)) ?_
         refine ahz (by kernel_rfl) ?_
         refine hw_cond rfl (fun h19 => ?_) (fun h20 => ?_)
         ·try simp at h19
          refine hw_reg ?_
          refine dp rfl (pop_assign rfl) ?_
          refine dn ?_
          refine hw_ret ?_
          refine ret_p rfl ?_
          show HVal.int .i64 _ = _
          first
          | (rw [linesFE, if_pos (by omega)]; done)
          | (rw [linesFE, if_neg (by omega), hg]; rfl)
          | (have f1 := byWk_cmp.flip x (l.getD (k - 1) line0) trivial trivial
             have f2 := byWk_cmp.flip (l.getD (k - 1) line0) x trivial trivial
             refine congrArg _ (lines_ord (by omega) hg hlf ?_ ?_) <;> first | omega | (simp_all; done) | (simp_all; omega))
          | (refine congrArg _ (lines_bad (c := 7) (by omega) hg (by decide) ?_)
             rw [lineFault, if_neg, if_neg]
             ·refine (stats_ord hle40 hgs ?_ ?_ ?_).symm
              ·rw [statFault, if_neg, if_neg] <;> simp_all
              ·simp_all
              ·simp_all
             all_goals simp_all
             done)
          | (refine congrArg _ (lines_bad (c := 5) (by omega) hg (by decide) ?_)
             rw [lineFault, if_neg, if_neg]
             ·refine (stats_bad (c := 5) hle40 hgs (by decide) ?_).symm
              rw [statFault, if_pos]
              simp_all
             all_goals simp_all
             done)
          | (refine congrArg _ (lines_bad (c := 1) (by omega) hg (by decide) ?_)
             rw [lineFault, if_neg, if_neg]
             ·refine (stats_bad (c := 1) hle40 hgs (by decide) ?_).symm
              rw [statFault, if_neg, if_pos]
              all_goals simp_all [or_comm]
             all_goals simp_all
             done)
          | (refine congrArg _ (lines_bad (c := 2) (by omega) hg (by decide) ?_)
             rw [lineFault, if_neg, if_neg]
             ·rw [statsE, if_pos]
              omega
             all_goals simp_all
             done)
          | (refine congrArg _ (lines_bad (c := 5) (by omega) hg (by decide) ?_)
             rw [lineFault, if_pos]
             simp_all
             done)
          | (refine congrArg _ (lines_bad (c := 1) (by omega) hg (by decide) ?_)
             rw [lineFault, if_neg, if_pos]
             all_goals simp_all
             done)
         ·try simp at h20
          refine hw_skip ?_
          refine blockQ_n ?_
          refine seqQ_n ?_
          refine hw_reg1 ?_
          refine dp rfl (pop_add64 rfl rfl (by omega) (by omega)) ?_
          refine dp rfl (pop_move rfl) ?_
          refine dn ?_
          refine ⟨k + 1, ?_, ?_, ⟨rfl, trivial⟩, (by repeat (first | exact keeps_refl | refine keeps_upd rfl ?_ | refine keeps_loop rfl rfl ?_)), List.Perm.refl _⟩
          ·refine ⟨by omega, ?_⟩
           rw [hg, chkGo_ne hlf (by intro hk0; have := byWk_cmp.flip x (l.getD (k - 1) line0) trivial trivial; have := byWk_cmp.flip (l.getD (k - 1) line0) x trivial trivial; simp_all; try omega)]
          ·dsimp only; omega
   ·try simp at h4
    have hnk : l.length ≤ k := by omega
    obtain rfl : k = l.length := by omega
    rw [drop_all (Nat.le_refl _)] at hg
    refine hw_exit ?_
    refine seqQ_x ?_
    refine loopQ_x ?_
    refine blockQ_eq ?_
    refine seqQ_n ?_
    refine hw_reg ?_
    refine dp rfl (pop_assign rfl) ?_
    refine dn ?_
    refine hw_ret ?_
    refine ret_p rfl ?_
    show HVal.int .i64 _ = _
    first
    | (rw [linesFE, if_pos (by omega)]; done)
    | (rw [linesFE, if_neg (by omega), hg]; rfl)
    | (have f1 := byWk_cmp.flip x (l.getD (k - 1) line0) trivial trivial
       have f2 := byWk_cmp.flip (l.getD (k - 1) line0) x trivial trivial
       refine congrArg _ (lines_ord (by omega) hg hlf ?_ ?_) <;> first | omega | (simp_all; done) | (simp_all; omega))
    | (refine congrArg _ (lines_bad (c := 7) (by omega) hg (by decide) ?_)
       rw [lineFault, if_neg, if_neg]
       ·refine (stats_ord hle40 hgs ?_ ?_ ?_).symm
        ·rw [statFault, if_neg, if_neg] <;> simp_all
        ·simp_all
        ·simp_all
       all_goals simp_all
       done)
    | (refine congrArg _ (lines_bad (c := 5) (by omega) hg (by decide) ?_)
       rw [lineFault, if_neg, if_neg]
       ·refine (stats_bad (c := 5) hle40 hgs (by decide) ?_).symm
        rw [statFault, if_pos]
        simp_all
       all_goals simp_all
       done)
    | (refine congrArg _ (lines_bad (c := 1) (by omega) hg (by decide) ?_)
       rw [lineFault, if_neg, if_neg]
       ·refine (stats_bad (c := 1) hle40 hgs (by decide) ?_).symm
        rw [statFault, if_neg, if_pos]
        all_goals simp_all [or_comm]
       all_goals simp_all
       done)
    | (refine congrArg _ (lines_bad (c := 2) (by omega) hg (by decide) ?_)
       rw [lineFault, if_neg, if_neg]
       ·rw [statsE, if_pos]
        omega
       all_goals simp_all
       done)
    | (refine congrArg _ (lines_bad (c := 5) (by omega) hg (by decide) ?_)
       rw [lineFault, if_pos]
       simp_all
       done)
    | (refine congrArg _ (lines_bad (c := 1) (by omega) hg (by decide) ?_)
       rw [lineFault, if_neg, if_pos]
       all_goals simp_all
       done)

/-- benchwarmer/benchkeep1.MendsMendOnce$1 -/
theorem c_benchkeep1_MendsMendOnce_1 [Tracks] {z : MendS} {t : TurnedS} {n : Int}  : ConP Tryz.prog 29 [eMend z, .vptr (hcells (eTurned t)) 0, .vptr [.int .i64 n] 0] (.bool (mendsAt n t z)) := by
 refine Con.of_body Tryz.func29 rfl Tryz.ntmps29 rfl rfl ?_
 refine hw_reg ?_
 refine dp rfl (pop_box rfl rfl) ?_
 refine dp rfl (pop_assign rfl) ?_
 refine dn ?_
 refine hw_reg ?_
 refine dp rfl (pop_fieldAddr ty69 rfl ty9 (by decide) rfl) ?_
 refine dp rfl (pop_load ty9 rfl rfl rfl) ?_
 refine dp rfl (pop_fieldAddr ty53 rfl ty9 (by decide) rfl) ?_
 refine dp rfl (pop_load ty9 rfl rfl rfl) ?_
 refine dp rfl (pop_eqls rfl rfl) ?_
 refine dp rfl (pop_move rfl) ?_
 refine dg rfl rfl (fun hc => ⟨_, OpenTo.refl _, pop_fieldAddr ty69 rfl ty3 (by decide) rfl⟩) ?_
 refine dg rfl rfl (fun hc => ⟨_, OpenTo.upd (t := 11) rfl (by first | exact hc | simp_all) (OpenTo.refl _), pop_load ty3 rfl rfl rfl⟩) ?_
 refine dg rfl rfl (fun hc => ⟨_, OpenTo.refl _, pop_fieldAddr ty53 rfl ty3 (by decide) rfl⟩) ?_
 refine dg rfl rfl (fun hc => ⟨_, OpenTo.upd (t := 13) rfl (by first | exact hc | simp_all) (OpenTo.refl _), pop_load ty3 rfl rfl rfl⟩) ?_
 refine dg rfl rfl (fun hc => ⟨_, OpenTo.upd (t := 14) rfl (by first | exact hc | simp_all) (OpenTo.upd (t := 12) rfl (by first | exact hc | simp_all) (OpenTo.refl _)), pop_eql rfl rfl⟩) ?_
 refine dp rfl (pop_picko rfl (.inr ⟨_, rfl, fun h => by simp_all⟩) (.inl rfl)) ?_
 refine dp rfl (pop_move rfl) ?_
 refine dg rfl rfl (fun hc => ⟨_, OpenTo.refl _, pop_fieldAddr ty69 rfl ty9 (by decide) rfl⟩) ?_
 refine dg rfl rfl (fun hc => ⟨_, OpenTo.upd (t := 18) rfl (by first | exact hc | simp_all) (OpenTo.refl _), pop_load ty9 rfl rfl rfl⟩) ?_
 refine dg rfl rfl (fun hc => ⟨_, OpenTo.refl _, pop_fieldAddr ty53 rfl ty9 (by decide) rfl⟩) ?_
 refine dg rfl rfl (fun hc => ⟨_, OpenTo.upd (t := 20) rfl (by first | exact hc | simp_all) (OpenTo.refl _), pop_load ty9 rfl rfl rfl⟩) ?_
 refine dg rfl rfl (fun hc => ⟨_, OpenTo.upd (t := 21) rfl (by first | exact hc | simp_all) (OpenTo.upd (t := 19) rfl (by first | exact hc | simp_all) (OpenTo.refl _)), pop_eqls rfl rfl⟩) ?_
 refine dp rfl (pop_picko rfl (.inr ⟨_, rfl, fun h => by simp_all⟩) (.inl rfl)) ?_
 refine dp rfl (pop_move rfl) ?_
 refine dg rfl rfl (fun hc => ⟨_, OpenTo.refl _, pop_fieldAddr ty69 rfl ty3 (by decide) rfl⟩) ?_
 refine dg rfl rfl (fun hc => ⟨_, OpenTo.upd (t := 25) rfl (by first | exact hc | simp_all) (OpenTo.refl _), pop_load ty3 rfl rfl rfl⟩) ?_
 refine dg rfl rfl (fun hc => ⟨_, OpenTo.refl _, pop_load ty3 rfl rfl rfl⟩) ?_
 refine dg rfl rfl (fun hc => ⟨_, OpenTo.upd (t := 27) rfl (by first | exact hc | simp_all) (OpenTo.upd (t := 26) rfl (by first | exact hc | simp_all) (OpenTo.refl _)), pop_leq rfl rfl⟩) ?_
 refine dp rfl (pop_picko rfl (.inr ⟨_, rfl, fun h => by simp_all⟩) (.inl rfl)) ?_
 refine dp rfl (pop_assign rfl) ?_
 refine dn ?_
 refine hw_ret ?_
 refine ret_p rfl ?_
 show HVal.bool _ = _
 unfold mendsAt
 cases z.Player == t.Player <;> cases z.Week == t.Week <;> cases z.Stat == t.Stat <;> simp_all

set_option maxHeartbeats 2000000 in
/-- benchwarmer/benchkeep1.MendsMendOnce -/
theorem c_benchkeep1_MendsMendOnce [Tracks] {l : List Int} (hT : Tracks.on = false) : ConP Tryz.prog 5 [.slice 1 (l.map (.int .i64))] (.bool true) := by
 refine Con.of_body Tryz.func5 rfl Tryz.ntmps5 rfl rfl ?_
 refine hw_reg ?_
 refine dp rfl (pop_assign rfl) ?_
 refine dn ?_
 refine hw_reg ?_
 refine dp rfl (pop_move rfl) ?_
 refine dp rfl (pop_build (cs := [_, _]) ty25 pl25 rfl) ?_
 refine de rfl (eop_box rfl rfl fun b => ?_)
 refine dghost (M' := [St b l 0]) rfl ?_
 refine dp rfl (pop_assign rfl) ?_
 refine dn ?_
 refine hw_reg ?_
 refine dp rfl (pop_move rfl) ?_
 first
 | refine de rfl (eop_callx (i := 0) ca20 rfl (WeakL.refl _) rfl (c_benchmake_Stream_LineList (by first | assumption | omega | (simp; omega) | simp_all)) ?_)
 | refine de rfl (eop_callx (i := 1) ca20 rfl (WeakL.refl _) rfl (c_benchmake_Stream_LineList (by first | assumption | omega | (simp; omega) | simp_all)) ?_)
 | refine de rfl (eop_callx (i := 2) ca20 rfl (WeakL.refl _) rfl (c_benchmake_Stream_LineList (by first | assumption | omega | (simp; omega) | simp_all)) ?_)
 | refine de rfl (eop_callx (i := 3) ca20 rfl (WeakL.refl _) rfl (c_benchmake_Stream_LineList (by first | assumption | omega | (simp; omega) | simp_all)) ?_)
 rintro _ _ ⟨n22, a22, rfl, hn22, ha22, rfl⟩
 refine dp rfl (pop_move rfl) ?_
 first
 | refine de rfl (eop_callx (i := 0) ca17 rfl (WeakL.refl _) rfl (c_benchmake_Stream_Mends (by first | assumption | omega | (simp; omega) | simp_all)) ?_)
 | refine de rfl (eop_callx (i := 1) ca17 rfl (WeakL.refl _) rfl (c_benchmake_Stream_Mends (by first | assumption | omega | (simp; omega) | simp_all)) ?_)
 | refine de rfl (eop_callx (i := 2) ca17 rfl (WeakL.refl _) rfl (c_benchmake_Stream_Mends (by first | assumption | omega | (simp; omega) | simp_all)) ?_)
 | refine de rfl (eop_callx (i := 3) ca17 rfl (WeakL.refl _) rfl (c_benchmake_Stream_Mends (by first | assumption | omega | (simp; omega) | simp_all)) ?_)
 rintro _ _ ⟨m24, a24, rfl, hm24, ha24, rfl⟩
 refine dp rfl (pop_move rfl) ?_
 first
 | refine de rfl (eop_callx (i := 0) ca9 rfl (WeakL.refl _) rfl (c_benchmake_Stream_Range (by first | assumption | omega | (simp; omega) | simp_all) (by first | assumption | omega | (simp; omega) | simp_all) (by first | assumption | omega | (simp; omega) | simp_all) (by first | assumption | omega | (simp; omega) | simp_all)) ?_)
 | refine de rfl (eop_callx (i := 1) ca9 rfl (WeakL.refl _) rfl (c_benchmake_Stream_Range (by first | assumption | omega | (simp; omega) | simp_all) (by first | assumption | omega | (simp; omega) | simp_all) (by first | assumption | omega | (simp; omega) | simp_all) (by first | assumption | omega | (simp; omega) | simp_all)) ?_)
 | refine de rfl (eop_callx (i := 2) ca9 rfl (WeakL.refl _) rfl (c_benchmake_Stream_Range (by first | assumption | omega | (simp; omega) | simp_all) (by first | assumption | omega | (simp; omega) | simp_all) (by first | assumption | omega | (simp; omega) | simp_all) (by first | assumption | omega | (simp; omega) | simp_all)) ?_)
 | refine de rfl (eop_callx (i := 3) ca9 rfl (WeakL.refl _) rfl (c_benchmake_Stream_Range (by first | assumption | omega | (simp; omega) | simp_all) (by first | assumption | omega | (simp; omega) | simp_all) (by first | assumption | omega | (simp; omega) | simp_all) (by first | assumption | omega | (simp; omega) | simp_all)) ?_)
 rintro _ _ ⟨y26, rfl, hy26, rfl⟩
 refine de rfl (eop_alloc ty3 rfl fun b6 => ?_)
 refine dp rfl (pop_assign rfl) ?_
 refine dp rfl (pop_assign rfl) ?_
 refine de0 (eop_storew ty3 rfl rfl rfl rfl rfl ?_)
 refine dn ?_
 refine hw_ghost (Ghost.fc0 6 rfl) ?_
 refine hw_ghost Ghost.clear ?_
 have hnl := hn22.len
 have hml := hm24.len
 have hmo : moment y26 = true := by simp [moment, out]; omega
 refine hw_seq ?_
 refine hw_reg ?_
 refine dp rfl (pop_move rfl) ?_
 refine dp rfl (pop_call ca21 rfl (WeakL.refl _) (c_benchref1_LinesFault (l := n22) (by omega) (fun x hx => Nat.le_trans (hn22.st x hx) (by decide)) hn22.all)) ?_
 refine dp rfl (pop_neq rfl rfl) ?_
 refine dp rfl (pop_move rfl) ?_
 refine dg rfl rfl (fun hc => ⟨_, OpenTo.refl _, pop_move rfl⟩) ?_
 refine dg rfl rfl (fun hc => by have hq := hc; (try simp at hq); exact ⟨_, OpenTo.upd (t := 31) rfl (by first | exact hc | simp_all) (OpenTo.refl _), pop_call ca18 rfl (WeakL.refl _) (c_benchref1_MendsFault (m := m24) (by omega) hm24.all)⟩) ?_
 refine dg rfl rfl (fun hc => ⟨_, OpenTo.upd (t := 32) rfl (by first | exact hc | simp_all) (OpenTo.refl _), pop_neq rfl rfl⟩) ?_
 refine dp rfl (pop_picko rfl (.inl rfl) (.inr ⟨_, rfl, fun h => by simp_all⟩)) ?_
 refine dn ?_
 refine hw_cond rfl (fun h1 => ?_) (fun h2 => ?_)
 ·try simp at h1
  refine hw_reg ?_
  refine dp rfl (pop_call ca13 rfl (WeakL.refl _) (c_benchkeep1_ready hT)) ?_
  refine dp rfl (pop_assign rfl) ?_
  refine dn ?_
  refine hw_ret ?_
  refine ret_p rfl ?_
  rfl
 ·try simp at h2
  refine hw_skip ?_
  refine seqQ_n ?_
  obtain ⟨X, ⟨hX1, hX2⟩, ⟨hX3, hX4⟩, hXr, ⟨hXl, hXs⟩, h40a, h40X, hXd⟩ := once_law (a := n22) (m := m24) (n := y26) h2.1 h2.2 hnl hn22.st hml hmo
  refine hw_reg ?_
  refine dp rfl (pop_move rfl) ?_
  refine dp rfl (pop_move rfl) ?_
  refine dp rfl (pop_load ty3 rfl rfl rfl) ?_
  refine dp rfl (pop_call ca22 rfl (WeakL.refl _) (c_play_Mended (l := n22) (m := m24) (n := y26) (by omega) (by omega) (fun x hx => Nat.le_trans (hn22.st x hx) (by decide)) h40a)) ?_
  refine dp rfl (pop_move rfl) ?_
  refine dp rfl (pop_extract rfl rfl) ?_
  refine dp rfl (pop_extract rfl rfl) ?_
  refine dp rfl (pop_assign rfl) ?_
  refine dp rfl (pop_assign rfl) ?_
  refine dn ?_
  rw [hX1, hX2]
  refine hw_reg ?_
  refine dp rfl (pop_move rfl) ?_
  refine dp rfl (pop_move rfl) ?_
  refine dp rfl (pop_load ty3 rfl rfl rfl) ?_
  refine dp rfl (pop_call ca22 rfl (WeakL.refl _) (c_play_Mended (l := X) (m := m24) (n := y26) hXl (by omega) (fun x hx => Nat.le_trans (hXs x hx) (by decide)) h40X)) ?_
  refine dp rfl (pop_move rfl) ?_
  refine dp rfl (pop_extract rfl rfl) ?_
  refine dp rfl (pop_extract rfl rfl) ?_
  refine dp rfl (pop_assign rfl) ?_
  refine dp rfl (pop_assign rfl) ?_
  refine dn ?_
  rw [hX3, hX4]
  refine hw_reg ?_
  refine dp rfl (pop_move rfl) ?_
  refine dp rfl (pop_move rfl) ?_
  refine dp rfl (pop_call ca23 rfl (WeakL.refl _) (c_play_Differ (a := n22) (b := X) (by omega) (fun x hx => Nat.le_trans (hn22.st x hx) (by decide)) hXl hXs)) ?_
  refine dp rfl (pop_move rfl) ?_
  refine dp rfl (pop_extract rfl rfl) ?_
  refine dp rfl (pop_extract rfl rfl) ?_
  refine dp rfl (pop_assign rfl) ?_
  refine dp rfl (pop_assign rfl) ?_
  refine dn ?_
  have hdz : orI [linesFE n22, linesFE X] = 0 := by rw [h2.1, hXr]; rfl
  rw [if_neg (by simp [hdz]), hdz]
  have hdl : (dfL n22 X).length ≤ 1000000 := by
   have q1 := dfL_len n22 X
   have q2 := cnL_many (b := 100) (l := n22) (fun x hx => Nat.le_trans (hn22.st x hx) (by decide))
   have q3 := cnL_many hXs
   omega
  refine hw_seq ?_
  refine hw_reg ?_
  refine dp rfl (pop_move rfl) ?_
  refine dp rfl (pop_neq rfl rfl) ?_
  refine dp rfl (pop_move rfl) ?_
  refine dg rfl rfl (fun hc => ⟨_, OpenTo.refl _, pop_move rfl⟩) ?_
  refine dg rfl rfl (fun hc => ⟨_, OpenTo.upd (t := 59) rfl (by first | exact hc | simp_all) (OpenTo.refl _), pop_neq rfl rfl⟩) ?_
  refine dp rfl (pop_picko rfl (.inl rfl) (.inr ⟨_, rfl, fun h => by simp_all⟩)) ?_
  refine dp rfl (pop_move rfl) ?_
  refine dg rfl rfl (fun hc => ⟨_, OpenTo.refl _, pop_move rfl⟩) ?_
  refine dg rfl rfl (fun hc => ⟨_, OpenTo.upd (t := 63) rfl (by first | exact hc | simp_all) (OpenTo.refl _), pop_neq rfl rfl⟩) ?_
  refine dp rfl (pop_picko rfl (.inl rfl) (.inr ⟨_, rfl, fun h => by simp_all⟩)) ?_
  refine dp rfl (pop_move rfl) ?_
  refine dg rfl rfl (fun hc => ⟨_, OpenTo.refl _, pop_move rfl⟩) ?_
  refine dg rfl rfl (fun hc => ⟨_, OpenTo.refl _, pop_move rfl⟩) ?_
  refine dg rfl rfl (fun hc => by have hq := hc; (try simp at hq); exact ⟨_, OpenTo.upd (t := 68) rfl (by first | exact hc | simp_all) (OpenTo.upd (t := 67) rfl (by first | exact hc | simp_all) (OpenTo.refl _)), pop_call ca24 rfl (WeakL.refl _) (c_EqualFunc_Line (l := X) (by omega) (fun x hx => Nat.le_trans (hXs x hx) (by decide)))⟩) ?_
  refine dg rfl rfl (fun hc => ⟨_, OpenTo.upd (t := 69) rfl (by first | exact hc | simp_all) (OpenTo.refl _), pop_not rfl⟩) ?_
  refine dp rfl (pop_picko rfl (.inl rfl) (.inr ⟨_, rfl, fun h => by simp_all⟩)) ?_
  refine dp rfl (pop_move rfl) ?_
  refine dg rfl rfl (fun hc => ⟨_, OpenTo.refl _, pop_move rfl⟩) ?_
  refine dg rfl rfl (fun hc => by have hq := hc; (try simp at hq); exact ⟨_, OpenTo.upd (t := 73) rfl (by first | exact hc | simp_all) (OpenTo.refl _), pop_call ca26 rfl (WeakL.refl _) (c_play_CheckLines (l := X) (by omega) (fun x hx => Nat.le_trans (hXs x hx) (by decide)))⟩) ?_
  refine dg rfl rfl (fun hc => ⟨_, OpenTo.upd (t := 74) rfl (by first | exact hc | simp_all) (OpenTo.refl _), pop_neq rfl rfl⟩) ?_
  refine dp rfl (pop_picko rfl (.inl rfl) (.inr ⟨_, rfl, fun h => by simp_all⟩)) ?_
  refine dn ?_
  refine hw_cond rfl (fun h3 => ?_) (fun h3 => ?_)
  ·exfalso
   try simp at h3
   exact absurd hXr (by simpa using h3)
  ·try simp at h3
   refine hw_skip ?_
   refine seqQ_n ?_
   refine hw_seq ?_
   refine hw_reg ?_
   refine dp rfl (pop_move rfl) ?_
   refine dp rfl (pop_lenm ty49 rfl) ?_
   refine dp rfl (pop_move rfl) ?_
   refine dn ?_
   refine hw_block ?_
   refine hw_loopw [2, 14, 15, 16, 17, 79, 80, 81, 82, 83, 84, 85, 86, 87, 88, 89, 90, 91, 92, 93, 94, 95, 96, 97, 98, 99, 100, 101, 102, 103, 104, 105, 106, 107, 108, 109] (fun (k : Nat) => [(79, .int .i64 k)]) (fun (k : Nat) => []) (fun (k : Nat) => k ≤ (dfL n22 X).length ∧ (True)) (fun (k : Nat) => (dfL n22 X).length - k) (0) ?_ ?_ ?_ ?_
   ·exact ⟨Nat.zero_le _, trivial⟩
   ·exact ⟨rfl, trivial⟩
   ·exact List.Perm.refl _
   ·intro k hinv
    obtain ⟨hk, -⟩ := hinv
    refine hw_reg ?_
    refine dp rfl (pop_lss rfl rfl) ?_
    refine dn ?_
    refine hw_seq ?_
    refine hw_cond rfl (fun h4 => ?_) (fun h5 => ?_)
    ·try simp at h4
     obtain ⟨t, ht⟩ : ∃ t, (dfL n22 X)[k]? = some t := ⟨_, List.getElem?_eq_getElem h4⟩
     have hdt := drop_cons ht
     refine hw_skip ?_
     refine seqQ_n ?_
     refine hw_seq ?_
     refine hw_block ?_
     refine hw_reg ?_
     refine dp rfl (pop_idx ty49 ty53 rfl rfl rfl (by first | assumption | simp_all)) ?_
     refine dp rfl (pop_loadw ty53 rfl rfl rfl rfl) ?_
     refine de rfl (eop_alloc ty53 rfl fun b14 => ?_)
     refine de0 (eop_storew ty53 rfl rfl rfl rfl rfl ?_)
     refine dn ?_
     refine hw_ghost (Ghost.fc0 14 rfl) ?_
     refine hw_reg ?_
     refine dp rfl (pop_move rfl) ?_
     refine dp rfl (pop_fieldAddr ty53 rfl ty9 (by decide) rfl) ?_
     refine dp rfl (pop_load ty9 rfl rfl rfl) ?_
     refine dp rfl (pop_fieldAddr ty53 rfl ty3 (by decide) rfl) ?_
     refine dp rfl (pop_load ty3 rfl rfl rfl) ?_
     refine dp rfl (pop_fieldAddr ty53 rfl ty9 (by decide) rfl) ?_
     refine dp rfl (pop_load ty9 rfl rfl rfl) ?_
     refine dp rfl (pop_call ca27 rfl (WeakL.refl _) (c_play_Count (l := X) (p := t.Player) (w := t.Week) (s := t.Stat) hXl (fun x hx => Nat.le_trans (hXs x hx) (by decide)))) ?_
     refine dp rfl (pop_move rfl) ?_
     refine dp rfl (pop_extract rfl rfl) ?_
     refine dp rfl (pop_extract rfl rfl) ?_
     refine dp rfl (pop_assign rfl) ?_
     refine dp rfl (pop_assign rfl) ?_
     refine dn ?_
     refine hw_reg ?_
     refine dp rfl (pop_move rfl) ?_
     refine dp rfl (pop_makeFunc rfl rfl) ?_
     refine dp rfl (pop_call ca28 rfl (WeakL.refl _) (c_slices_ContainsFunc_api_Mend_api_Mend (l := m24) (p := mendsAt y26 t) ca29 (fun _ => c_benchkeep1_MendsMendOnce_1) (by omega))) ?_
     refine dp rfl (pop_assign rfl) ?_
     refine dn ?_
     refine hw_reg ?_
     refine dp rfl (pop_move rfl) ?_
     refine dp rfl (pop_neq rfl rfl) ?_
     refine dp rfl (pop_move rfl) ?_
     refine dg rfl rfl (fun hc => ⟨_, OpenTo.refl _, pop_move rfl⟩) ?_
     refine dg rfl rfl (fun hc => ⟨_, OpenTo.refl _, pop_fieldAddr ty53 rfl ty3 (by decide) rfl⟩) ?_
     refine dg rfl rfl (fun hc => ⟨_, OpenTo.upd (t := 101) rfl (by first | exact hc | simp_all) (OpenTo.refl _), pop_load ty3 rfl rfl rfl⟩) ?_
     refine dg rfl rfl (fun hc => ⟨_, OpenTo.upd (t := 102) rfl (by first | exact hc | simp_all) (OpenTo.upd (t := 100) rfl (by first | exact hc | simp_all) (OpenTo.refl _)), pop_neq rfl rfl⟩) ?_
     refine dp rfl (pop_picko rfl (.inl rfl) (.inr ⟨_, rfl, fun h => by simp_all⟩)) ?_
     refine dp rfl (pop_move rfl) ?_
     refine dg rfl rfl (fun hc => ⟨_, OpenTo.refl _, pop_move rfl⟩) ?_
     refine dg rfl rfl (fun hc => ⟨_, OpenTo.upd (t := 106) rfl (by first | exact hc | simp_all) (OpenTo.refl _), pop_not rfl⟩) ?_
     refine dp rfl (pop_picko rfl (.inl rfl) (.inr ⟨_, rfl, fun h => by simp_all⟩)) ?_
     refine dn ?_
     refine hw_cond rfl (fun h6 => ?_) (fun h6 => ?_)
     ·exfalso
      try simp at h6
      obtain ⟨⟨q1, q2⟩, q3⟩ := hXd t (List.mem_of_getElem? ht)
      rw [q1, q2] at h6
      simp [mendsAt] at q3 h6
      obtain ⟨z, hz, hz2⟩ := q3
      have h9 := h6 z hz (by simp_all) (by simp_all) (by simp_all)
      have h8 : z.At ≤ y26 := by simp_all
      omega
     ·try simp at h6
      refine hw_skip ?_
      refine blockQ_n ?_
      refine seqQ_n ?_
      refine hw_reg1 ?_
      refine dp rfl (pop_add64 rfl rfl (by omega) (by omega)) ?_
      refine dp rfl (pop_move rfl) ?_
      refine dn ?_
      refine ⟨k + 1, ?_, ?_, ⟨rfl, trivial⟩, (by repeat (first | exact keeps_refl | refine keeps_upd rfl ?_ | refine keeps_loop rfl rfl ?_)), List.Perm.refl _⟩
      ·exact ⟨by omega, trivial⟩
      ·dsimp only; omega
    ·try simp at h5
     have hnk : (dfL n22 X).length ≤ k := by omega
     obtain rfl : k = (dfL n22 X).length := by omega
     refine hw_exit ?_
     refine seqQ_x ?_
     refine loopQ_x ?_
     refine blockQ_eq ?_
     refine seqQ_n ?_
     refine hw_reg ?_
     refine dp rfl (pop_call ca13 rfl (WeakL.refl _) (c_benchkeep1_ready hT)) ?_
     refine dp rfl (pop_assign rfl) ?_
     refine dn ?_
     refine hw_ret ?_
     refine ret_p rfl ?_
     rfl
end Go.Proofs.YtkamelfigfbfiaaGreatDoor
end
section
namespace Go.HL
theorem tabI_any (P : Program) (I : Imm) : TabI P I := trivial
end Go.HL
end
section
namespace Go.Proofs.YtkamelfigfbfiaaGreatDoor
open Go.ChangeShapes Go.WideShapes Go.ChangeAt Go.RowKit Go.HL
theorem ownMendsMendOnce : ownKnob Tryz.prog.godebug = none := by kernel_rfl
theorem laidOutMendsMendOnce : laidOutB Tryz.prog = true := by kernel_rfl
theorem cellsMendsMendOnce : Tryz.prog.cellsOf 3 = 1 := by kernel_rfl
theorem tabMendsMendOnce {W : World} (_ : laidMetH Tryz.prog Rows.mendsMendOnceRow.laid W) : TabI Tryz.prog (allI W) := tabI_any _ _
theorem callsMendsMendOnce {W : World} (ht : TabI Tryz.prog (allI W)) {a : Option Addr} {len cap : Nat} {H : Type} {enc : TypeId × Value → H} {d0 : DataW H} {p : List MemPlace} (h : DataW.Trod enc Tryz.prog W 0 (fun _ => true) true 22 (.slice a len cap) d0 p) :
 Calls Tryz.prog 5 #[.slice a len cap] W fun e W' => e = .returned (.bool true) ∧ Below W.heap.size W W' := by
 obtain ⟨fuel, hf⟩ := h
 rcases open_ints Tryz.underlying22 Tryz.underlying3 cellsMendsMendOnce hf with ⟨hcs, hx⟩ | ⟨a', len', cap', zs, hcs, _, hl, hm, hz, hx, hcell, hwz⟩
 ·simp [Value.cells] at hcs
  obtain ⟨rfl, rfl, rfl⟩ := hcs
  letI : Tracks := ⟨false⟩
  exact conp_law (l := []) (c_benchkeep1_MendsMendOnce rfl) ht (.slice0 _ _ _)
 ·simp [Value.cells] at hcs
  obtain ⟨rfl, rfl, rfl⟩ := hcs
  simp only [if_true] at hz
  letI : Tracks := ⟨false⟩
  exact conp_law (l := zs.take len) (c_benchkeep1_MendsMendOnce rfl) ht (v_ints hcell (by omega) hl)
set_option maxRecDepth 100000 in
theorem liftedMendsMendOnce (os : Os) (started : os.Started) (H : Type) (enc : TypeId × Value → H) :
 ReturnsInHanded {} Tryz.checked os 5 .any (fun w args => (Rows.mendsMendOnceSpec.pre enc Tryz.prog Tryz.f5 Rows.mendsMendOnceRow.domain false w args ∧ laidMetH Tryz.prog Rows.mendsMendOnceRow.laid w) ∧ sizedMet enc Tryz.prog Tryz.f5 (OpenSpec.ofChange Rows.mendsMendOnceSpec) false w args)
  (Rows.mendsMendOnceSpec.post enc Tryz.prog Tryz.f5 false true false false) := by
 refine returnsInHanded_of_change_and (C := Tryz.checked) (X := fun w _ => laidMetH Tryz.prog Rows.mendsMendOnceRow.laid w) (fun _ _ _ hh h => h.of_heap hh) ownMendsMendOnce started (by kernel_rfl) Tryz.func5
  (ChangeSpec.witness_shaped (enc := enc) (C := Tryz.checked) (os := os) (X := fun w _ => laidMetH Tryz.prog Rows.mendsMendOnceRow.laid w) false (World.laidAll Tryz.prog os Rows.mendsMendOnceRow.laid) #[.slice none 0 0] 8 (World.laidAll_os _ _ _)
    (World.shaped_of_ZipB (by kernel_rfl) (by kernel_rfl)) (by kernel_rfl) (by kernel_rfl) (by kernel_rfl)
    (by rw [MakeChecks.laidMetH_plain _ _ _ (by kernel_rfl)]; exact laidMet_laidAll _ (by kernel_rfl) (by kernel_rfl))) ?_
 intro W base args ds gs before hval0 hW _ _ hL _
 have hval : ∀ (j : Nat) t v, Tryz.f5.params[j]? = some t → args[j]? = some v → Value.okWide Tryz.prog W .any base t v := hval0
 have hW' := hW
 obtain ⟨p, q, hA0, hV, rfl, _, _⟩ := hW
 have hA : DataW.TrodAll enc Tryz.prog W 0 (fun _ => true) true Tryz.f5.params.toList args.toList ds p := hA0
 rw [Tryz.params5] at hA hval
 obtain ⟨v0, d0, rfl, rfl, h0⟩ := trodAll_one hA
 obtain ⟨rfl, rfl⟩ := trodVars_none hV
 obtain ⟨a0, len, cap, rfl⟩ := okWide_slice Tryz.underlying22 (hval 0 22 v0 rfl rfl)
 simp only [List.append_nil] at hW'
 have hlt : ∀ x ∈ p, x.block < W.heap.size := fun x hx => by simpa using hW'.lt x hx
 refine (callsMendsMendOnce (tabMendsMendOnce hL) h0).mono fun e W' ⟨he, hb⟩ => ?_
 subst he
 have hargs : DataW.Trod enc Tryz.prog W' 0 (fun b => decide (b < W.heap.size)) true 22 (.slice a0 len cap) d0 p :=
  Below.trod laidOutMendsMendOnce (by kernel_rfl) (of_decide_eq_true (by kernel_rfl)) h0 hb hlt
 exact ⟨_, rfl, _, _, _, [], p, [], hW', trodAll_mk1 (shut_bool Tryz.underlying4 _), trodAll_mk1 hargs, rfl, hb.frame _, fun h => by cases h⟩
theorem mapsMendsMendOnce : mapsRowed Tryz.prog = true := by kernel_rfl
theorem inplMendsMendOnce : (Rows.mendsMendOnceRow.inPlace == Tryz.prog.inPlace 5) = true := by kernel_rfl
theorem unfoMendsMendOnce : (Rows.mendsMendOnceRow.unfollowed == Tryz.prog.unfollowed 5) = true := by kernel_rfl
theorem recuMendsMendOnce : (Rows.mendsMendOnceRow.recurses == Tryz.prog.recurses 5) = true := by kernel_rfl
theorem varsMendsMendOnce : (Rows.mendsMendOnceRow.named == Tryz.prog.varsNamed 5) = true := by kernel_rfl
theorem joinMendsMendOnce : joinedFacts Tryz.prog 5 Tryz.f5 Rows.mendsMendOnceSpec Rows.mendsMendOnceRow = true := by
 simp only [joinedFacts, Bool.and_eq_true]
 repeat' apply And.intro
 all_goals first
  | with_reducible exact laidOutMendsMendOnce
  | with_reducible exact mapsMendsMendOnce
  | with_reducible exact inplMendsMendOnce
  | with_reducible exact unfoMendsMendOnce
  | with_reducible exact recuMendsMendOnce
  | with_reducible exact varsMendsMendOnce
  | kernel_rfl
theorem lookMendsMendOnce : true = Tryz.prog.looks [] := by kernel_rfl
theorem goesMendsMendOnce : false = Rows.mendsMendOnceRow.goesBy Tryz.prog := by kernel_rfl
theorem wfbtMendsMendOnce : Rows.mendsMendOnceRow.wfByText (OpenSpec.ofChange Rows.mendsMendOnceSpec) = true := by kernel_rfl
theorem mainMendsMendOnce : Tryz.prog.mainIs = some ("e96d158ee7c2175d776f3c610d40cc5602c32f68e2142df93a8d60f2b67470a5" |> fun h => (true, h.toList)) := by kernel_rfl
theorem stanMendsMendOnce : ([22].all fun u => !Tryz.prog.wantsStandIn u) = true := by kernel_rfl
theorem fnamMendsMendOnce : Tryz.prog.funcNamed Rows.mendsMendOnceRow.func = some 5 := by kernel_rfl
theorem holdsMendsMendOnce : Rows.MendsMendOnceSaid :=
 OpenClaim.holds_of_wide 5 Tryz.f5 rfl rfl rfl rfl rfl rfl rfl ⟨rfl, rfl, rfl, rfl, rfl⟩ rfl rfl rfl rfl rfl fnamMendsMendOnce Tryz.func5 joinMendsMendOnce
  (of_decide_eq_true (by kernel_rfl)) (by unfold Func.isWrapper; first | (rw [if_pos (by decide +kernel)]; kernel_rfl) | (rw [if_neg (by decide +kernel)]; exact ⟨rfl, rfl⟩))
  (fun os started H enc _ => liftedMendsMendOnce os started H enc)
theorem cardMendsMendOnce : Rows.MendsMendOnceCardSaid :=
 Claim7.holds_tied_plain_at .later [] [.data, .pinned] true (true, "e96d158ee7c2175d776f3c610d40cc5602c32f68e2142df93a8d60f2b67470a5") true holdsMendsMendOnce (fun _ h => by cases h) wfbtMendsMendOnce (fun _ h => by cases h) mendsMendOnce_row_tie rfl ⟨rfl, rfl⟩ mainMendsMendOnce rfl
  (fun f fn hf hfn => by
    obtain rfl : f = 5 := Option.some.inj (fnamMendsMendOnce.symm.trans hf) |>.symm
    obtain rfl : fn = Tryz.f5 := (Option.some.inj (Tryz.func5.symm.trans hfn)).symm
    exact ⟨lookMendsMendOnce, fun j t ht => by
     rw [Tryz.params5] at ht
     have hm : t ∈ [22] := by simpa using Array.mem_of_getElem? ht
     have hall := stanMendsMendOnce
     exact (show Tryz.prog.wantsStandIn t = false by simpa using List.all_eq_true.1 hall t hm)⟩)
  goesMendsMendOnce
end Go.Proofs.YtkamelfigfbfiaaGreatDoor
end
