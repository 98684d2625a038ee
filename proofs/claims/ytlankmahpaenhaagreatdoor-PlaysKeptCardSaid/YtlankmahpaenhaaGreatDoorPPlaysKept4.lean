/- Part 4 of the proof: a program logic, contracts of functions and plain facts; no conditions. -/
import Derived.Test.YtlankmahpaenhaaGreatDoorPPlaysKept3
set_option linter.unusedVariables false
set_option linter.unusedSimpArgs false
section
namespace Go.Proofs.YtlankmahpaenhaaGreatDoor
open Go.HL
set_option maxRecDepth 100000
set_option linter.unusedVariables false
set_option linter.unusedSimpArgs false
set_option maxHeartbeats 1000000 in
/-- slices.swapRangeCmpFunc[benchwarmer/api.Play] -/
theorem c_swap_api_Play [Tracks] {A X B Y C : List Play} {ia ib k0 : Int} {n b off cap : Nat} {f : HVal} (hxy : X.length = Y.length) (hn : A.length + X.length + B.length + Y.length + C.length = n) (hia : ia = (A.length : Int)) (hib : ib = (A.length : Int) + X.length + B.length) (hk0 : k0 = (X.length : Int)) (hl : n ≤ 1000000) : Con Tryz.prog 153 [.raw (.slice (some ⟨b, off, none⟩) n cap), .int .i64 ia, .int .i64 ib, .int .i64 k0, f] [.arr (.slice (some ⟨b, off, none⟩) n cap) 9 ((A ++ X ++ B ++ Y ++ C).map ePlay)] (fun x M' => x = .tup [] ∧ M' = [.arr (.slice (some ⟨b, off, none⟩) n cap) 9 ((A ++ Y ++ B ++ X ++ C).map ePlay)]) := by
 refine Con.of_body Tryz.func153 rfl Tryz.ntmps153 rfl rfl ?_
 refine hw_reg ?_
 refine dp rfl (pop_assign rfl) ?_
 refine dn ?_
 refine hw_block ?_
 refine hw_loopw [10, 11, 12, 13, 14, 15, 16, 17, 18, 19, 20, 21, 22, 23, 24, 25, 26, 27, 28, 29, 30, 31, 32, 33, 34, 35, 36, 37] (fun (k : Nat) => [(10, .int .i64 (k : Int))]) (fun (k : Nat) => [.arr (.slice (some ⟨b, off, none⟩) n cap) 9 ((swR A X B Y C k).map ePlay)]) (fun (k : Nat) => k ≤ X.length) (fun (k : Nat) => X.length - k) (0) ?_ ?_ ?_ ?_
 ·exact Nat.zero_le _
 ·exact ⟨rfl, trivial⟩
 ·exact perm_eq (by rw [swR_zero])
 ·intro k hk
  refine hw_seq ?_
  refine hw_reg ?_
  refine dp rfl (pop_move rfl) ?_
  refine dp rfl (pop_move rfl) ?_
  refine dp rfl (pop_lss rfl rfl) ?_
  refine dn ?_
  refine hw_cond rfl (fun h1 => ?_) (fun h2 => ?_)
  ·try simp at h1
   obtain ⟨x, hx⟩ : ∃ x, X[k]? = some x := ⟨_, List.getElem?_eq_getElem (by omega)⟩
   obtain ⟨y, hy⟩ : ∃ y, Y[k]? = some y := ⟨_, List.getElem?_eq_getElem (by omega)⟩
   refine hw_skip ?_
   refine seqQ_n ?_
   refine hw_seq ?_
   refine hw_block ?_
   refine hw_draw1 (fun M => M = [.arr (.slice (some ⟨b, off, none⟩) n cap) 9 ((swR A X B Y C k).map ePlay)]) [13, 19] mixed ?_
   refine ahp 0 rfl rfl (by kernel_rfl) (by kernel_rfl) (pop_move rfl) ?_
   refine ahp 1 rfl rfl (by kernel_rfl) (by kernel_rfl) (pop_move rfl) ?_
   refine ahp 2 rfl rfl (by kernel_rfl) (by kernel_rfl) (pop_move rfl) ?_
   refine ahp 3 rfl rfl (by kernel_rfl) (by kernel_rfl) (pop_add64 rfl rfl (by omega) (by omega)) ?_
   refine ahp 4 rfl rfl (by kernel_rfl) (by kernel_rfl) (pop_move rfl) ?_
   refine ahp 5 rfl rfl (by kernel_rfl) (by kernel_rfl) (pop_move rfl) ?_
   refine ahp 6 rfl rfl (by kernel_rfl) (by kernel_rfl) (pop_move rfl) ?_
   refine ahp 7 rfl rfl (by kernel_rfl) (by kernel_rfl) (pop_add64 rfl rfl (by omega) (by omega)) ?_
   refine ahp 8 rfl rfl (by kernel_rfl) (by kernel_rfl) (pop_move rfl) ?_
   refine ahp 9 rfl rfl (by kernel_rfl) (by kernel_rfl) (pop_move rfl) ?_
   refine ahp 10 rfl rfl (by kernel_rfl) (by kernel_rfl) (pop_move rfl) ?_
   refine ahp 11 rfl rfl (by kernel_rfl) (by kernel_rfl) (pop_add64 rfl rfl (by omega) (by omega)) ?_
   refine ahp 12 rfl rfl (by kernel_rfl) (by kernel_rfl) (pop_idxraw (j := A.length + X.length + B.length + k) ty26 ty30 rfl rfl (by omega) (by omega)) ?_
   refine ahl 13 rfl rfl (by kernel_rfl) (by kernel_rfl) (by simp) rfl (fun M hM => by subst hM; exact eop_load_elw (i := 0) (j := A.length + X.length + B.length + k) ty30 rfl rfl rfl (swR_get2 hx hy) rfl rfl rfl ⟨rfl, rfl⟩) ?_
   refine ahp 14 rfl rfl (by kernel_rfl) (by kernel_rfl) (pop_move rfl) ?_
   refine ahp 15 rfl rfl (by kernel_rfl) (by kernel_rfl) (pop_move rfl) ?_
   refine ahp 16 rfl rfl (by kernel_rfl) (by kernel_rfl) (pop_move rfl) ?_
   refine ahp 17 rfl rfl (by kernel_rfl) (by kernel_rfl) (pop_add64 rfl rfl (by omega) (by omega)) ?_
   refine ahp 18 rfl rfl (by kernel_rfl) (by kernel_rfl) (pop_idxraw (j := A.length + k) ty26 ty30 rfl rfl (by omega) (by omega)) ?_
   refine ahl 19 rfl rfl (by kernel_rfl) (by kernel_rfl) (by simp) rfl (fun M hM => by subst hM; exact eop_load_elw (i := 0) (j := A.length + k) ty30 rfl rfl rfl (swR_get1 hx hy) rfl rfl rfl ⟨rfl, rfl⟩) ?_
   refine ahp 20 rfl rfl (by kernel_rfl) (by kernel_rfl) (pop_idxraw (j := A.length + k) ty26 ty30 rfl rfl (by omega) (by omega)) ?_
   refine ahe 21 rfl (by kernel_rfl) ?_
   refine hop_e0 (eop_store_elw (i := 0) (j := A.length + k) (y := x) (y' := y) ty30 rfl rfl rfl rfl (swR_get1 hx hy) rfl rfl rfl ?_)
   refine ⟨fun _ => .inr (by simp [Before, Region.binds]), ?_⟩
   refine ahp 22 rfl rfl (by kernel_rfl) (by kernel_rfl) (pop_idxraw (j := A.length + X.length + B.length + k) ty26 ty30 rfl rfl (by omega) (by omega)) ?_
   refine ahe 23 rfl (by kernel_rfl) ?_
   refine hop_e0 (eop_store_elw (i := 0) (j := A.length + X.length + B.length + k) (y := y) (y' := x) ty30 rfl rfl rfl rfl (swR_get2' hx hy) rfl rfl rfl ?_)
   refine ⟨fun _ => .inr (by simp [Before, Region.binds]), ?_⟩
   refine ahz (by kernel_rfl) ?_
   refine blockQ_n ?_
   refine seqQ_n ?_
   refine hw_reg1 ?_
   refine dp rfl (pop_move rfl) ?_
   refine dp rfl (pop_add64 rfl rfl (by omega) (by omega)) ?_
   refine dp rfl (pop_assign rfl) ?_
   refine dn ?_
   exact ⟨k + 1, by omega, by dsimp only; omega, ⟨rfl, trivial⟩, (by repeat (first | exact keeps_refl | refine keeps_upd rfl ?_ | refine keeps_loop rfl rfl ?_)), perm_eq (by rw [swR_set hx hy]; rfl)⟩
  ·try simp at h2
   obtain rfl : k = X.length := by omega
   rw [swR_end hxy]
   refine hw_exit ?_
   refine seqQ_x ?_
   refine loopQ_x ?_
   refine blockQ_eq ?_
   exact ret_q rfl ⟨rfl, rfl⟩

set_option maxHeartbeats 1000000 in
/-- slices.rotateCmpFunc[benchwarmer/api.Play] -/
theorem c_rotate_api_Play [Tracks] {P U W Q : List Play} {ia im ib : Int} {n b off cap : Nat} {f : HVal} (hu : 0 < U.length) (hw : 0 < W.length) (hn : P.length + U.length + W.length + Q.length = n) (hia : ia = (P.length : Int)) (him : im = (P.length : Int) + U.length) (hib : ib = (P.length : Int) + U.length + W.length) (hl : n ≤ 1000000) : Con Tryz.prog 125 [.raw (.slice (some ⟨b, off, none⟩) n cap), .int .i64 ia, .int .i64 im, .int .i64 ib, f] [.arr (.slice (some ⟨b, off, none⟩) n cap) 9 ((P ++ U ++ W ++ Q).map ePlay)] (fun x M' => x = .tup [] ∧ M' = [.arr (.slice (some ⟨b, off, none⟩) n cap) 9 ((P ++ W ++ U ++ Q).map ePlay)]) := by
 refine Con.of_body Tryz.func125 rfl Tryz.ntmps125 rfl rfl ?_
 refine hw_reg ?_
 refine dp rfl (pop_move rfl) ?_
 refine dp rfl (pop_move rfl) ?_
 refine dp rfl (pop_sub64 rfl rfl (by omega) (by omega)) ?_
 refine dp rfl (pop_assign rfl) ?_
 refine dn ?_
 refine hw_reg ?_
 refine dp rfl (pop_move rfl) ?_
 refine dp rfl (pop_move rfl) ?_
 refine dp rfl (pop_sub64 rfl rfl (by omega) (by omega)) ?_
 refine dp rfl (pop_assign rfl) ?_
 refine dn ?_
 refine hw_seq ?_
 refine hw_block ?_
 refine hw_loopw4 [10, 11, 18, 19, 20, 21, 22, 23, 24, 25, 26, 27, 28, 29, 30, 31, 32, 33, 34, 35, 36, 37, 38, 39, 40, 41, 42, 43, 44, 45, 46, 47, 48, 49] (fun (P1 : List Play) (U1 : List Play) (W1 : List Play) (Q1 : List Play) => [(10, .int .i64 (U1.length : Int)), (11, .int .i64 (W1.length : Int))]) (fun (P1 : List Play) (U1 : List Play) (W1 : List Play) (Q1 : List Play) => [.arr (.slice (some ⟨b, off, none⟩) n cap) 9 ((P1 ++ U1 ++ W1 ++ Q1).map ePlay)]) (fun (P1 : List Play) (U1 : List Play) (W1 : List Play) (Q1 : List Play) => P1 ++ W1 ++ U1 ++ Q1 = P ++ W ++ U ++ Q ∧ P1.length + U1.length = P.length + U.length ∧ 0 < U1.length ∧ 0 < W1.length ∧ P1.length + U1.length + W1.length + Q1.length = n) (fun (P1 : List Play) (U1 : List Play) (W1 : List Play) (Q1 : List Play) => U1.length + W1.length) (P) (U) (W) (Q) ?_ ?_ ?_ ?_
 ·exact ⟨rfl, rfl, hu, hw, hn⟩
 ·exact ⟨some_int (by omega), some_int (by omega), trivial⟩
 ·exact List.Perm.refl _
 ·intro P1 U1 W1 Q1 hinv
  obtain ⟨hf, hpu, hu1, hw1, hn1⟩ := hinv
  refine hw_seq ?_
  refine hw_reg ?_
  refine dp rfl (pop_move rfl) ?_
  refine dp rfl (pop_move rfl) ?_
  refine dp rfl (pop_neq rfl rfl) ?_
  refine dn ?_
  refine hw_cond rfl (fun h1 => ?_) (fun h2 => ?_)
  ·try simp at h1
   refine hw_skip ?_
   refine seqQ_n ?_
   refine hw_block ?_
   refine hw_reg ?_
   refine dp rfl (pop_move rfl) ?_
   refine dp rfl (pop_move rfl) ?_
   refine dp rfl (pop_gtr rfl rfl) ?_
   refine dn ?_
   refine hw_cond rfl (fun h3 => ?_) (fun h4 => ?_)
   ·try simp at h3
    obtain ⟨Ua, Ub, rfl, hUa⟩ : ∃ Ua Ub, U1 = Ua ++ Ub ∧ Ua.length = W1.length := ⟨U1.take W1.length, U1.drop W1.length, (List.take_append_drop _ _).symm, by rw [List.length_take]; omega⟩
    rw [List.length_append] at *
    refine hw_ghost (Ghost.of_eq (M' := [.arr (.slice (some ⟨b, off, none⟩) n cap) 9 ((P1 ++ Ua ++ Ub ++ W1 ++ Q1).map ePlay)]) (by simp)) ?_
    refine hw_reg ?_
    refine dp rfl (pop_move rfl) ?_
    refine dp rfl (pop_move rfl) ?_
    refine dp rfl (pop_move rfl) ?_
    refine dp rfl (pop_sub64 rfl rfl (by omega) (by omega)) ?_
    refine dp rfl (pop_move rfl) ?_
    refine dp rfl (pop_move rfl) ?_
    refine dp rfl (pop_move rfl) ?_
    refine de rfl (eop_callx (i := 0) ca153 rfl (WeakL.refl _) rfl (c_swap_api_Play (A := P1) (X := Ua) (B := Ub) (Y := W1) (C := Q1) (n := n) (by omega) (by first | omega | (simp only [List.length_nil]; omega)) (by first | omega | (simp only [List.length_nil]; omega)) (by first | omega | (simp only [List.length_nil]; omega)) (by first | omega | (simp only [List.length_nil]; omega)) hl) ?_)
    rintro _ _ ⟨rfl, rfl⟩
    refine dn ?_
    refine hw_reg1 ?_
    refine dp rfl (pop_move rfl) ?_
    refine dp rfl (pop_move rfl) ?_
    refine dp rfl (pop_sub64 rfl rfl (by omega) (by omega)) ?_
    refine dp rfl (pop_assign rfl) ?_
    refine dn ?_
    refine blockQ_n ?_
    exact ⟨P1 ++ W1, Ub, Ua, Q1, ⟨by rw [← hf]; simp, by simp only [List.length_append] at *; omega, by omega, by omega, by simp only [List.length_append] at *; omega⟩, by dsimp only; simp only [List.length_append] at *; omega, ⟨some_int (by omega), some_int (by omega), trivial⟩, (by repeat (first | exact keeps_refl | refine keeps_upd rfl ?_ | refine keeps_loop rfl rfl ?_)), List.Perm.refl _⟩
   ·try simp at h4
    obtain ⟨Wa, Wb, rfl, hWb⟩ : ∃ Wa Wb, W1 = Wa ++ Wb ∧ Wb.length = U1.length := ⟨W1.take (W1.length - U1.length), W1.drop (W1.length - U1.length), (List.take_append_drop _ _).symm, by rw [List.length_drop]; omega⟩
    rw [List.length_append] at *
    refine hw_ghost (Ghost.of_eq (M' := [.arr (.slice (some ⟨b, off, none⟩) n cap) 9 ((P1 ++ U1 ++ Wa ++ Wb ++ Q1).map ePlay)]) (by simp)) ?_
    refine hw_reg ?_
    refine dp rfl (pop_move rfl) ?_
    refine dp rfl (pop_move rfl) ?_
    refine dp rfl (pop_move rfl) ?_
    refine dp rfl (pop_sub64 rfl rfl (by omega) (by omega)) ?_
    refine dp rfl (pop_move rfl) ?_
    refine dp rfl (pop_move rfl) ?_
    refine dp rfl (pop_add64 rfl rfl (by omega) (by omega)) ?_
    refine dp rfl (pop_move rfl) ?_
    refine dp rfl (pop_sub64 rfl rfl (by omega) (by omega)) ?_
    refine dp rfl (pop_move rfl) ?_
    refine dp rfl (pop_move rfl) ?_
    refine de rfl (eop_callx (i := 0) ca153 rfl (WeakL.refl _) rfl (c_swap_api_Play (A := P1) (X := U1) (B := Wa) (Y := Wb) (C := Q1) (n := n) (by omega) (by first | omega | (simp only [List.length_nil]; omega)) (by first | omega | (simp only [List.length_nil]; omega)) (by first | omega | (simp only [List.length_nil]; omega)) (by first | omega | (simp only [List.length_nil]; omega)) hl) ?_)
    rintro _ _ ⟨rfl, rfl⟩
    refine dn ?_
    refine hw_reg1 ?_
    refine dp rfl (pop_move rfl) ?_
    refine dp rfl (pop_move rfl) ?_
    refine dp rfl (pop_sub64 rfl rfl (by omega) (by omega)) ?_
    refine dp rfl (pop_assign rfl) ?_
    refine dn ?_
    refine blockQ_n ?_
    exact ⟨P1, Wb, Wa, U1 ++ Q1, ⟨by rw [← hf]; simp, by omega, by omega, by omega, by simp only [List.length_append] at *; omega⟩, by dsimp only; simp only [List.length_append] at *; omega, ⟨some_int (by omega), some_int (by omega), trivial⟩, (by repeat (first | exact keeps_refl | refine keeps_upd rfl ?_ | refine keeps_loop rfl rfl ?_)), perm_eq (by simp)⟩
  ·try simp at h2
   refine hw_exit ?_
   refine seqQ_x ?_
   refine loopQ4_x ?_
   refine blockQ_eq ?_
   refine seqQ_n ?_
   refine hw_ghost (Ghost.of_eq (M' := [.arr (.slice (some ⟨b, off, none⟩) n cap) 9 ((P1 ++ U1 ++ [] ++ W1 ++ Q1).map ePlay)]) (by simp)) ?_
   refine hw_reg1 ?_
   refine dp rfl (pop_move rfl) ?_
   refine dp rfl (pop_move rfl) ?_
   refine dp rfl (pop_move rfl) ?_
   refine dp rfl (pop_sub64 rfl rfl (by omega) (by omega)) ?_
   refine dp rfl (pop_move rfl) ?_
   refine dp rfl (pop_move rfl) ?_
   refine dp rfl (pop_move rfl) ?_
   refine de rfl (eop_callx (i := 0) ca153 rfl (WeakL.refl _) rfl (c_swap_api_Play (A := P1) (X := U1) (B := []) (Y := W1) (C := Q1) (n := n) (by omega) (by first | omega | (simp only [List.length_nil]; omega)) (by first | omega | (simp only [List.length_nil]; omega)) (by first | omega | (simp only [List.length_nil]; omega)) (by first | omega | (simp only [List.length_nil]; omega)) hl) ?_)
   rintro _ _ ⟨rfl, rfl⟩
   refine dn ?_
   exact ret_q rfl ⟨rfl, by simp only [List.append_nil] at *; rw [← hf]; rfl⟩

set_option maxHeartbeats 1000000 in
/-- slices.insertionSortCmpFunc[benchwarmer/api.Play] -/
theorem c_insw_api_Play [Tracks] {A X C : List Play} {ia ib : Int} {n b off cap : Nat} {fid : FuncId} {caps : List HVal} {c : Play → Play → Int} (hca : Callable Tryz.prog fid) (hp : ∀ x y, ConP Tryz.prog fid ([ePlay x, ePlay y] ++ caps) (.int .i64 (c x y))) (hn : A.length + X.length + C.length = n) (hia : ia = (A.length : Int)) (hib : ib = (A.length : Int) + X.length) (hl : n ≤ 1000000) : Con Tryz.prog 90 [.raw (.slice (some ⟨b, off, none⟩) n cap), .int .i64 ia, .int .i64 ib, .fn (.func fid) [] caps] [.arr (.slice (some ⟨b, off, none⟩) n cap) 9 ((A ++ X ++ C).map ePlay)] (fun x M' => x = .tup [] ∧ M' = [.arr (.slice (some ⟨b, off, none⟩) n cap) 9 ((A ++ isort c X ++ C).map ePlay)]) := by
 refine Con.of_body Tryz.func90 rfl Tryz.ntmps90 rfl rfl ?_
 refine hw_reg ?_
 refine dp rfl (pop_move rfl) ?_
 refine dp rfl (pop_add64 rfl rfl (by omega) (by omega)) ?_
 refine dp rfl (pop_assign rfl) ?_
 refine dn ?_
 refine hw_block ?_
 refine hw_loopw [8, 9, 12, 13, 14, 15, 16, 17, 18, 19, 20, 21, 22, 23, 24, 25, 26, 27, 28, 29, 30, 31, 32, 33, 34, 35, 36, 37, 38, 39, 40, 41, 42, 43, 44, 45, 46, 47, 48, 49, 50, 51, 52] (fun (k : Nat) => [(8, .int .i64 ((A.length + k : Nat) : Int))]) (fun (k : Nat) => [.arr (.slice (some ⟨b, off, none⟩) n cap) 9 ((A ++ (isort c (X.take k) ++ X.drop k) ++ C).map ePlay)]) (fun (k : Nat) => 1 ≤ k) (fun (k : Nat) => X.length - k) (1) ?_ ?_ ?_ ?_
 ·exact Nat.le_refl _
 ·exact ⟨some_int (by omega), trivial⟩
 ·exact perm_eq (by rw [isort_take1])
 ·intro k hk
  refine hw_seq ?_
  refine hw_reg ?_
  refine dp rfl (pop_move rfl) ?_
  refine dp rfl (pop_move rfl) ?_
  refine dp rfl (pop_lss rfl rfl) ?_
  refine dn ?_
  refine hw_cond rfl (fun h1 => ?_) (fun h2 => ?_)
  ·try simp at h1
   obtain ⟨x, hx⟩ : ∃ x, X[k]? = some x := ⟨_, List.getElem?_eq_getElem (by omega)⟩
   refine hw_skip ?_
   refine seqQ_n ?_
   refine hw_seq ?_
   refine hw_block ?_
   refine hw_reg ?_
   refine dp rfl (pop_move rfl) ?_
   refine dp rfl (pop_assign rfl) ?_
   refine dn ?_
   refine hw_block ?_
   refine hw_loopw2 [9, 18, 19, 20, 21, 22, 23, 24, 25, 26, 27, 28, 29, 30, 31, 32, 33, 34, 35, 36, 37, 38, 39, 40, 41, 42, 43, 44, 45, 46, 47, 48, 49, 50, 51, 52] (fun (D : List Play) (B : List Play) => [(9, .int .i64 ((A.length + D.length : Nat) : Int))]) (fun (D : List Play) (B : List Play) => [.arr (.slice (some ⟨b, off, none⟩) n cap) 9 (((A ++ D) ++ x :: (B ++ X.drop (k + 1) ++ C)).map ePlay)]) (fun (D : List Play) (B : List Play) => D.length + B.length = k ∧ insB c x (isort c (X.take k)) = insB c x D ++ B) (fun (D : List Play) (B : List Play) => D.length) (isort c (X.take k)) ([]) ?_ ?_ ?_ ?_
   ·exact ⟨by simp [isort_len]; omega, by simp⟩
   ·exact ⟨some_int (by simp [isort_len]; omega), trivial⟩
   ·exact perm_eq (by rw [drop_cons hx]; simp)
   ·intro D B hinv
    obtain ⟨hA, hB⟩ := hinv
    have hlA : D.length < X.length := by omega
    refine hw_seq ?_
    refine hw_draw (fun M => M = [.arr (.slice (some ⟨b, off, none⟩) n cap) 9 (((A ++ D) ++ x :: (B ++ X.drop (k + 1) ++ C)).map ePlay)]) [8, 13] mixed ?_
    refine ahp 0 rfl rfl (by kernel_rfl) (by kernel_rfl) (pop_move rfl) ?_
    refine ahp 1 rfl rfl (by kernel_rfl) (by kernel_rfl) (pop_move rfl) ?_
    refine ahp 2 rfl rfl (by kernel_rfl) (by kernel_rfl) (pop_gtr rfl rfl) ?_
    refine ahp 3 rfl rfl (by kernel_rfl) (by kernel_rfl) (pop_move rfl) ?_
    refine ahg 4 rfl rfl (by kernel_rfl) (by kernel_rfl) rfl (fun hc => ⟨_, OpenTo.refl _, pop_move rfl⟩) ?_
    refine ahg 5 rfl rfl (by kernel_rfl) (by kernel_rfl) rfl (fun hc => ⟨_, OpenTo.refl _, pop_move rfl⟩) ?_
    refine ahg 6 rfl rfl (by kernel_rfl) (by kernel_rfl) rfl (fun hc => ⟨_, OpenTo.refl _, pop_move rfl⟩) ?_
    refine ahg 7 rfl rfl (by kernel_rfl) (by kernel_rfl) rfl (fun hc => by
     have hq : 0 < D.length := by simp at hc; omega
     exact ⟨_, OpenTo.upd (t := 24) rfl (by first | exact hc | simp_all) (OpenTo.upd (t := 23) rfl (by first | exact hc | simp_all) (OpenTo.refl _)), pop_idxraw (j := (A ++ D).length) ty26 ty30 rfl rfl (by simp) (by first | omega | (simp; omega))⟩) ?_
    refine ahgl 8 rfl rfl (by kernel_rfl) (by kernel_rfl) (by simp) rfl rfl (fun hc => ⟨_, OpenTo.upd (t := 25) rfl (by first | exact hc | simp_all) (OpenTo.refl _), fun M hM => by
     subst hM; exact eop_load_elw (i := 0) (j := (A ++ D).length) ty30 rfl rfl rfl get_mid rfl rfl rfl ⟨rfl, rfl⟩
     ⟩) ?_
    refine ahg 9 rfl rfl (by kernel_rfl) (by kernel_rfl) rfl (fun hc => ⟨_, OpenTo.refl _, pop_move rfl⟩) ?_
    refine ahg 10 rfl rfl (by kernel_rfl) (by kernel_rfl) rfl (fun hc => ⟨_, OpenTo.refl _, pop_move rfl⟩) ?_
    refine ahg 11 rfl rfl (by kernel_rfl) (by kernel_rfl) rfl (fun hc => by
     have hq : 0 < D.length := by simp at hc; omega
     exact ⟨_, OpenTo.upd (t := 28) rfl (by first | exact hc | simp_all) (OpenTo.refl _), pop_sub64 rfl rfl (by omega) (by omega)⟩) ?_
    refine ahg 12 rfl rfl (by kernel_rfl) (by kernel_rfl) rfl (fun hc => by
     have hq : 0 < D.length := by simp at hc; omega
     exact ⟨_, OpenTo.upd (t := 29) rfl (by first | exact hc | simp_all) (OpenTo.upd (t := 27) rfl (by first | exact hc | simp_all) (OpenTo.refl _)), pop_idxraw (j := (A ++ D).length - 1) ty26 ty30 rfl rfl (by first | omega | (simp; omega)) (by first | omega | (simp; omega))⟩) ?_
    refine ahgl 13 rfl rfl (by kernel_rfl) (by kernel_rfl) (by simp) rfl rfl (fun hc => ⟨_, OpenTo.upd (t := 30) rfl (by first | exact hc | simp_all) (OpenTo.refl _), fun M hM => by
     have hq : 0 < D.length := by simp at hc; omega
     subst hM; exact eop_load_elw (i := 0) (j := (A ++ D).length - 1) ty30 rfl rfl rfl (get_before (by first | omega | (simp; omega))) rfl rfl rfl ⟨rfl, rfl⟩
     ⟩) ?_
    refine ahg 14 rfl rfl (by kernel_rfl) (by kernel_rfl) rfl (fun hc => ⟨_, OpenTo.upd (t := 31) rfl (by first | exact hc | simp_all) (OpenTo.upd (t := 26) rfl (by first | exact hc | simp_all) (OpenTo.upd (t := 22) rfl (by first | exact hc | simp_all) (OpenTo.refl _))), pop_callv hca rfl rfl (WeakL.refl _) (hp _ _)⟩) ?_
    refine ahg 15 rfl rfl (by kernel_rfl) (by kernel_rfl) rfl (fun hc => ⟨_, OpenTo.upd (t := 32) rfl (by first | exact hc | simp_all) (OpenTo.refl _), pop_lss rfl rfl⟩) ?_
    refine ahp 16 rfl rfl (by kernel_rfl) (by kernel_rfl) (pop_picko rfl (.inr ⟨_, rfl, fun h => by simp_all⟩) (.inl rfl)) ?_
    refine ahz (by kernel_rfl) ?_
    refine hw_cond rfl (fun h3 => ?_) (fun h4 => ?_)
    ·try simp at h3
     obtain ⟨hA0, hcx⟩ := h3
     obtain ⟨D1, y, rfl⟩ := snoc_of (A := D) (by omega)
     rw [last_idx] at hcx
     have hD1 : (D1 ++ [y]).length = D1.length + 1 := by simp
     refine hw_skip ?_
     refine seqQ_n ?_
     refine hw_seq ?_
     refine hw_block ?_
     refine hw_draw1 (fun M => M = [.arr (.slice (some ⟨b, off, none⟩) n cap) 9 (((A ++ (D1 ++ [y])) ++ x :: (B ++ X.drop (k + 1) ++ C)).map ePlay)]) [9, 13] mixed ?_
     refine ahp 0 rfl rfl (by kernel_rfl) (by kernel_rfl) (pop_move rfl) ?_
     refine ahp 1 rfl rfl (by kernel_rfl) (by kernel_rfl) (pop_move rfl) ?_
     refine ahp 2 rfl rfl (by kernel_rfl) (by kernel_rfl) (pop_move rfl) ?_
     refine ahp 3 rfl rfl (by kernel_rfl) (by kernel_rfl) (pop_move rfl) ?_
     refine ahp 4 rfl rfl (by kernel_rfl) (by kernel_rfl) (pop_sub64 rfl rfl (by omega) (by omega)) ?_
     refine ahp 5 rfl rfl (by kernel_rfl) (by kernel_rfl) (pop_move rfl) ?_
     refine ahp 6 rfl rfl (by kernel_rfl) (by kernel_rfl) (pop_move rfl) ?_
     refine ahp 7 rfl rfl (by kernel_rfl) (by kernel_rfl) (pop_sub64 rfl rfl (by omega) (by omega)) ?_
     refine ahp 8 rfl rfl (by kernel_rfl) (by kernel_rfl) (pop_idxraw (j := (A ++ (D1 ++ [y])).length - 1) ty26 ty30 rfl rfl (by first | omega | (simp; omega)) (by first | omega | (simp; omega))) ?_
     refine ahl 9 rfl rfl (by kernel_rfl) (by kernel_rfl) (by simp) rfl (fun M hM => by subst hM; exact eop_load_elw (i := 0) (j := (A ++ (D1 ++ [y])).length - 1) ty30 rfl rfl rfl (last_get) rfl rfl rfl ⟨rfl, rfl⟩) ?_
     refine ahp 10 rfl rfl (by kernel_rfl) (by kernel_rfl) (pop_move rfl) ?_
     refine ahp 11 rfl rfl (by kernel_rfl) (by kernel_rfl) (pop_move rfl) ?_
     refine ahp 12 rfl rfl (by kernel_rfl) (by kernel_rfl) (pop_idxraw (j := (A ++ (D1 ++ [y])).length) ty26 ty30 rfl rfl (by simp) (by first | omega | (simp; omega))) ?_
     refine ahl 13 rfl rfl (by kernel_rfl) (by kernel_rfl) (by simp) rfl (fun M hM => by subst hM; exact eop_load_elw (i := 0) (j := (A ++ (D1 ++ [y])).length) ty30 rfl rfl rfl get_mid rfl rfl rfl ⟨rfl, rfl⟩) ?_
     refine ahp 14 rfl rfl (by kernel_rfl) (by kernel_rfl) (pop_idxraw (j := (A ++ (D1 ++ [y])).length) ty26 ty30 rfl rfl (by simp) (by first | omega | (simp; omega))) ?_
     refine ahe 15 rfl (by kernel_rfl) ?_
     refine hop_e0 (eop_store_elw (i := 0) (j := (A ++ (D1 ++ [y])).length) (y := x) (y' := y) ty30 rfl rfl rfl rfl get_mid rfl rfl rfl ?_)
     refine ⟨fun _ => .inr (by simp [Before, Region.binds]), ?_⟩
     refine ahp 16 rfl rfl (by kernel_rfl) (by kernel_rfl) (pop_idxraw (j := (A ++ (D1 ++ [y])).length - 1) ty26 ty30 rfl rfl (by first | omega | (simp; omega)) (by first | omega | (simp; omega))) ?_
     refine ahe 17 rfl (by kernel_rfl) ?_
     refine hop_e0 (eop_store_elw (i := 0) (j := (A ++ (D1 ++ [y])).length - 1) (y := y) (y' := x) ty30 rfl rfl rfl rfl (by rw [List.getElem?_set_ne (by simp)]; exact last_get) rfl rfl rfl ?_)
     refine ⟨fun _ => .inr (by simp [Before, Region.binds]), ?_⟩
     refine ahz (by kernel_rfl) ?_
     refine blockQ_n ?_
     refine seqQ_n ?_
     refine hw_reg1 ?_
     refine dp rfl (pop_move rfl) ?_
     refine dp rfl (pop_sub64 rfl rfl (by omega) (by omega)) ?_
     refine dp rfl (pop_assign rfl) ?_
     refine dn ?_
     exact ⟨D1, y :: B, ⟨by simp at hA ⊢; omega, ins_step hB hcx⟩, by dsimp only; omega, ⟨some_int (by omega), trivial⟩, (by repeat (first | exact keeps_refl | refine keeps_upd rfl ?_ | refine keeps_loop rfl rfl ?_)), perm_eq (by rw [← List.append_assoc, swap_mid]; simp)⟩
    ·try simp at h4
     have hins := ins_exit (l := X) (k := k) hx hB (by intro h0; have h9 := h4 (by omega); rw [last_app2 h0] at h9; omega)
     refine hw_exit ?_
     refine seqQ_x ?_
     refine loopQ2_x ?_
     refine blockQ_eq ?_
     refine blockQ_n ?_
     refine seqQ_n ?_
     refine hw_reg1 ?_
     refine dp rfl (pop_move rfl) ?_
     refine dp rfl (pop_add64 rfl rfl (by omega) (by omega)) ?_
     refine dp rfl (pop_assign rfl) ?_
     refine dn ?_
     exact ⟨k + 1, by omega, by dsimp only; omega, ⟨some_int (by omega), trivial⟩, (by repeat (first | exact keeps_refl | refine keeps_upd rfl ?_ | refine keeps_loop rfl rfl ?_)), perm_eq (by rw [ins_win hins])⟩
  ·try simp at h2
   have hend : isort c (X.take k) ++ X.drop k = isort c X := by rw [List.take_of_length_le (by omega), drop_all (by omega)]; simp
   refine hw_exit ?_
   refine seqQ_x ?_
   refine loopQ_x ?_
   refine blockQ_eq ?_
   exact ret_q rfl ⟨rfl, by rw [hend]⟩

set_option maxHeartbeats 4000000 in
/-- slices.symMergeCmpFunc[benchwarmer/api.Play] -/
theorem c_syms_api_Play [Tracks] {A X Y C : List Play} {ia im ib : Int} {N : Nat} {n b off cap : Nat} {fid : FuncId} {caps : List HVal} {c : Play → Play → Int} (hca : Callable Tryz.prog fid) (hp : ∀ x y, ConP Tryz.prog fid ([ePlay x, ePlay y] ++ caps) (.int .i64 (c x y))) (hc : Cmp c fun _ => True) (hx0 : 0 < X.length) (hy0 : 0 < Y.length) (hN : X.length + Y.length ≤ N) (hn : A.length + X.length + Y.length + C.length = n) (hia : ia = (A.length : Int)) (him : im = (A.length : Int) + X.length) (hib : ib = (A.length : Int) + X.length + Y.length) (hX : Srt c X) (hY : Srt c Y) (hl : n ≤ 1000000) (ih : ∀ {A X Y C : List Play} {ia im ib : Int}, 0 < X.length → 0 < Y.length → X.length + Y.length < N → A.length + X.length + Y.length + C.length = n → ia = (A.length : Int) → im = (A.length : Int) + X.length → ib = (A.length : Int) + X.length + Y.length → Srt c X → Srt c Y → Con Tryz.prog 91 [.raw (.slice (some ⟨b, off, none⟩) n cap), .int .i64 ia, .int .i64 im, .int .i64 ib, .fn (.func fid) [] caps] [.arr (.slice (some ⟨b, off, none⟩) n cap) 9 ((A ++ X ++ Y ++ C).map ePlay)] (fun x M' => ∃ Z : List Play, x = .tup [] ∧ (Z.Perm (X ++ Y) ∧ Srt c Z) ∧ M' = [.arr (.slice (some ⟨b, off, none⟩) n cap) 9 ((A ++ Z ++ C).map ePlay)])) : Con Tryz.prog 91 [.raw (.slice (some ⟨b, off, none⟩) n cap), .int .i64 ia, .int .i64 im, .int .i64 ib, .fn (.func fid) [] caps] [.arr (.slice (some ⟨b, off, none⟩) n cap) 9 ((A ++ X ++ Y ++ C).map ePlay)] (fun x M' => ∃ Z : List Play, x = .tup [] ∧ (Z.Perm (X ++ Y) ∧ Srt c Z) ∧ M' = [.arr (.slice (some ⟨b, off, none⟩) n cap) 9 ((A ++ Z ++ C).map ePlay)]) := by
 refine Con.of_body Tryz.func91 rfl Tryz.ntmps91 rfl rfl ?_
 refine hw_seq ?_
 refine hw_reg ?_
 refine dp rfl (pop_move rfl) ?_
 refine dp rfl (pop_move rfl) ?_
 refine dp rfl (pop_sub64 rfl rfl (by omega) (by omega)) ?_
 refine dp rfl (pop_eql rfl rfl) ?_
 refine dn ?_
 refine hw_cond rfl (fun h1 => ?_) (fun h2 => ?_)
 ·try simp at h1
  obtain ⟨x, rfl⟩ : ∃ x, X = [x] := List.length_eq_one_iff.1 (by omega)
  simp only [List.length_cons, List.length_nil, Nat.zero_add] at *
  refine hw_reg ?_
  refine dp rfl (pop_move rfl) ?_
  refine dp rfl (pop_assign rfl) ?_
  refine dn ?_
  refine hw_reg ?_
  refine dp rfl (pop_move rfl) ?_
  refine dp rfl (pop_assign rfl) ?_
  refine dn ?_
  refine hw_seq ?_
  refine hw_block ?_
  refine hw_loopw2 [10, 11, 12, 31, 32, 33, 34, 35, 36, 37, 38, 39, 40, 41, 42, 43, 44, 45, 46, 47, 48, 49, 50, 51, 52, 53] (fun (p : Nat) (q : Nat) => [(10, .int .i64 ((A.length + 1 + p : Nat) : Int)), (11, .int .i64 ((A.length + 1 + q : Nat) : Int))]) (fun (p : Nat) (q : Nat) => [.arr (.slice (some ⟨b, off, none⟩) n cap) 9 ((A ++ [x] ++ Y ++ C).map ePlay)]) (fun (p : Nat) (q : Nat) => p ≤ q ∧ q ≤ Y.length ∧ (∀ y, Y[p - 1]? = some y → 0 < p → c y x < 0) ∧ (∀ y, Y[q]? = some y → ¬ c y x < 0)) (fun (p : Nat) (q : Nat) => q - p) (0) (Y.length) ?_ ?_ ?_ ?_
  ·exact ⟨Nat.zero_le _, Nat.le_refl _, fun y _ h => absurd h (Nat.lt_irrefl _), fun y h => by have := lt_of_get h; omega⟩
  ·exact ⟨some_int (by omega), some_int (by omega), trivial⟩
  ·exact List.Perm.refl _
  ·intro p q hinv
   obtain ⟨hpq, hqY, hP, hQ⟩ := hinv
   refine hw_seq ?_
   refine hw_reg ?_
   refine dp rfl (pop_move rfl) ?_
   refine dp rfl (pop_move rfl) ?_
   refine dp rfl (pop_lss rfl rfl) ?_
   refine dn ?_
   refine hw_cond rfl (fun h3 => ?_) (fun h4 => ?_)
   ·try simp at h3
    refine hw_skip ?_
    refine seqQ_n ?_
    refine hw_block ?_
    refine hw_reg ?_
    refine dp rfl (pop_move rfl) ?_
    refine dp rfl (pop_move rfl) ?_
    refine dp rfl (pop_add64 rfl rfl (by omega) (by omega)) ?_
    refine dp rfl (pop_conv ty3 ty111 rfl) ?_
    refine dp rfl (pop_shr rfl rfl (by omega)) ?_
    refine dp rfl (pop_eq (pop_conv ty111 ty3 rfl) (mid_eq (i := A.length + 1 + p) (j := A.length + 1 + q) (by omega))) ?_
    refine dp rfl (pop_assign rfl) ?_
    refine dn ?_
    obtain ⟨r, hr⟩ : ∃ r, (A.length + 1 + p + (A.length + 1 + q)) / 2 = A.length + 1 + r := ⟨(A.length + 1 + p + (A.length + 1 + q)) / 2 - (A.length + 1), by omega⟩
    obtain ⟨y, hy⟩ : ∃ y, Y[r]? = some y := ⟨_, List.getElem?_eq_getElem (by omega)⟩
    refine hw_draw (fun M => M = [.arr (.slice (some ⟨b, off, none⟩) n cap) 9 ((A ++ [x] ++ Y ++ C).map ePlay)]) [4, 8] mixed ?_
    refine ahp 0 rfl rfl (by kernel_rfl) (by kernel_rfl) (pop_move rfl) ?_
    refine ahp 1 rfl rfl (by kernel_rfl) (by kernel_rfl) (pop_move rfl) ?_
    refine ahp 2 rfl rfl (by kernel_rfl) (by kernel_rfl) (pop_move rfl) ?_
    refine ahp 3 rfl rfl (by kernel_rfl) (by kernel_rfl) (pop_idxraw (j := A.length + [x].length + r) ty26 ty30 rfl rfl (by first | omega | (simp; omega)) (by first | omega | (simp; omega))) ?_
    refine ahl 4 rfl rfl (by kernel_rfl) (by kernel_rfl) (by simp) rfl (fun M hM => by subst hM; exact eop_load_elw (i := 0) (j := A.length + [x].length + r) ty30 rfl rfl rfl (mid_get2 hy) rfl rfl rfl ⟨rfl, rfl⟩) ?_
    refine ahp 5 rfl rfl (by kernel_rfl) (by kernel_rfl) (pop_move rfl) ?_
    refine ahp 6 rfl rfl (by kernel_rfl) (by kernel_rfl) (pop_move rfl) ?_
    refine ahp 7 rfl rfl (by kernel_rfl) (by kernel_rfl) (pop_idxraw (j := A.length + 0) ty26 ty30 rfl rfl (by first | omega | (simp; omega)) (by omega)) ?_
    refine ahl 8 rfl rfl (by kernel_rfl) (by kernel_rfl) (by simp) rfl (fun M hM => by subst hM; exact eop_load_elw (i := 0) (j := A.length + 0) ty30 rfl rfl rfl (mid_get1 (X := [x]) rfl) rfl rfl rfl ⟨rfl, rfl⟩) ?_
    refine ahp 9 rfl rfl (by kernel_rfl) (by kernel_rfl) (pop_callv hca rfl rfl (WeakL.refl _) (hp _ _)) ?_
    refine ahp 10 rfl rfl (by kernel_rfl) (by kernel_rfl) (pop_lss rfl rfl) ?_
    refine ahz (by kernel_rfl) ?_
    refine hw_cond rfl (fun h5 => ?_) (fun h6 => ?_)
    ·try simp at h5
     refine hw_reg1 ?_
     refine dp rfl (pop_move rfl) ?_
     refine dp rfl (pop_add64 rfl rfl (by omega) (by omega)) ?_
     refine dp rfl (pop_assign rfl) ?_
     refine dn ?_
     refine blockQ_n ?_
     exact ⟨r + 1, q, ⟨by omega, hqY, fun z hz _ => by rw [Nat.add_sub_cancel, hy] at hz; rw [← Option.some.inj hz]; assumption, hQ⟩, by dsimp only; omega, ⟨some_int (by omega), rfl, trivial⟩, (by repeat (first | exact keeps_refl | refine keeps_upd rfl ?_ | refine keeps_loop rfl rfl ?_)), List.Perm.refl _⟩
    ·try simp at h6
     refine hw_reg1 ?_
     refine dp rfl (pop_move rfl) ?_
     refine dp rfl (pop_assign rfl) ?_
     refine dn ?_
     refine blockQ_n ?_
     exact ⟨p, r, ⟨by omega, by omega, hP, fun z hz => by rw [hy] at hz; rw [← Option.some.inj hz]; omega⟩, by dsimp only; omega, ⟨rfl, some_int (by omega), trivial⟩, (by repeat (first | exact keeps_refl | refine keeps_upd rfl ?_ | refine keeps_loop rfl rfl ?_)), List.Perm.refl _⟩
   ·try simp at h4
    obtain rfl : p = q := by omega
    refine hw_exit ?_
    refine seqQ_x ?_
    refine loopQ2_x ?_
    refine blockQ_eq ?_
    refine seqQ_n ?_
    refine hw_seq ?_
    refine hw_reg ?_
    refine dp rfl (pop_move rfl) ?_
    refine dp rfl (pop_assign rfl) ?_
    refine dn ?_
    refine hw_block ?_
    refine hw_loopw [13, 55, 56, 57, 58, 59, 60, 61, 62, 63, 64, 65, 66, 67, 68, 69, 70, 71, 72, 73, 74, 75, 76] (fun (t : Nat) => [(13, .int .i64 ((A.length + t : Nat) : Int))]) (fun (t : Nat) => [.arr (.slice (some ⟨b, off, none⟩) n cap) 9 ((wan A Y x C t).map ePlay)]) (fun (t : Nat) => t ≤ p) (fun (t : Nat) => p - t) (0) ?_ ?_ ?_ ?_
    ·exact Nat.zero_le _
    ·exact ⟨some_int (by omega), trivial⟩
    ·exact perm_eq (by rw [wan_zero])
    ·intro t ht
     refine hw_seq ?_
     refine hw_reg ?_
     refine dp rfl (pop_move rfl) ?_
     refine dp rfl (pop_move rfl) ?_
     refine dp rfl (pop_sub64 rfl rfl (by omega) (by omega)) ?_
     refine dp rfl (pop_lss rfl rfl) ?_
     refine dn ?_
     refine hw_cond rfl (fun h7 => ?_) (fun h8 => ?_)
     ·try simp at h7
      obtain ⟨y, hy⟩ : ∃ y, Y[t]? = some y := ⟨_, List.getElem?_eq_getElem (by omega)⟩
      refine hw_skip ?_
      refine seqQ_n ?_
      refine hw_seq ?_
      refine hw_block ?_
      refine hw_draw1 (fun M => M = [.arr (.slice (some ⟨b, off, none⟩) n cap) 9 ((wan A Y x C t).map ePlay)]) [9, 13] mixed ?_
      refine ahp 0 rfl rfl (by kernel_rfl) (by kernel_rfl) (pop_move rfl) ?_
      refine ahp 1 rfl rfl (by kernel_rfl) (by kernel_rfl) (pop_move rfl) ?_
      refine ahp 2 rfl rfl (by kernel_rfl) (by kernel_rfl) (pop_move rfl) ?_
      refine ahp 3 rfl rfl (by kernel_rfl) (by kernel_rfl) (pop_move rfl) ?_
      refine ahp 4 rfl rfl (by kernel_rfl) (by kernel_rfl) (pop_add64 rfl rfl (by omega) (by omega)) ?_
      refine ahp 5 rfl rfl (by kernel_rfl) (by kernel_rfl) (pop_move rfl) ?_
      refine ahp 6 rfl rfl (by kernel_rfl) (by kernel_rfl) (pop_move rfl) ?_
      refine ahp 7 rfl rfl (by kernel_rfl) (by kernel_rfl) (pop_add64 rfl rfl (by omega) (by omega)) ?_
      refine ahp 8 rfl rfl (by kernel_rfl) (by kernel_rfl) (pop_idxraw (j := A.length + t + 1) ty26 ty30 rfl rfl (by omega) (by omega)) ?_
      refine ahl 9 rfl rfl (by kernel_rfl) (by kernel_rfl) (by simp) rfl (fun M hM => by subst hM; exact eop_load_elw (i := 0) (j := A.length + t + 1) ty30 rfl rfl rfl (wan_get2 hy) rfl rfl rfl ⟨rfl, rfl⟩) ?_
      refine ahp 10 rfl rfl (by kernel_rfl) (by kernel_rfl) (pop_move rfl) ?_
      refine ahp 11 rfl rfl (by kernel_rfl) (by kernel_rfl) (pop_move rfl) ?_
      refine ahp 12 rfl rfl (by kernel_rfl) (by kernel_rfl) (pop_idxraw (j := A.length + t) ty26 ty30 rfl rfl (by omega) (by omega)) ?_
      refine ahl 13 rfl rfl (by kernel_rfl) (by kernel_rfl) (by simp) rfl (fun M hM => by subst hM; exact eop_load_elw (i := 0) (j := A.length + t) ty30 rfl rfl rfl (wan_get1 hy) rfl rfl rfl ⟨rfl, rfl⟩) ?_
      refine ahp 14 rfl rfl (by kernel_rfl) (by kernel_rfl) (pop_idxraw (j := A.length + t) ty26 ty30 rfl rfl (by omega) (by omega)) ?_
      refine ahe 15 rfl (by kernel_rfl) ?_
      refine hop_e0 (eop_store_elw (i := 0) (j := A.length + t) (y := x) (y' := y) ty30 rfl rfl rfl rfl (wan_get1 hy) rfl rfl rfl ?_)
      refine ⟨fun _ => .inr (by simp [Before, Region.binds]), ?_⟩
      refine ahp 16 rfl rfl (by kernel_rfl) (by kernel_rfl) (pop_idxraw (j := A.length + t + 1) ty26 ty30 rfl rfl (by omega) (by omega)) ?_
      refine ahe 17 rfl (by kernel_rfl) ?_
      refine hop_e0 (eop_store_elw (i := 0) (j := A.length + t + 1) (y := y) (y' := x) ty30 rfl rfl rfl rfl (wan_get2' hy) rfl rfl rfl ?_)
      refine ⟨fun _ => .inr (by simp [Before, Region.binds]), ?_⟩
      refine ahz (by kernel_rfl) ?_
      refine blockQ_n ?_
      refine seqQ_n ?_
      refine hw_reg1 ?_
      refine dp rfl (pop_move rfl) ?_
      refine dp rfl (pop_add64 rfl rfl (by omega) (by omega)) ?_
      refine dp rfl (pop_assign rfl) ?_
      refine dn ?_
      exact ⟨t + 1, by omega, by dsimp only; omega, ⟨some_int (by omega), trivial⟩, (by repeat (first | exact keeps_refl | refine keeps_upd rfl ?_ | refine keeps_loop rfl rfl ?_)), perm_eq (by rw [wan_set hy]; rfl)⟩
     ·try simp at h8
      obtain rfl : t = p := by omega
      refine hw_exit ?_
      refine seqQ_x ?_
      refine loopQ_x ?_
      refine blockQ_eq ?_
      refine seqQ_n ?_
      refine hw_ret ?_
      first
      | exact ret_q rfl ⟨_, rfl, one_left hc hY hqY (fun y hy => by have h1 := hQ y hy; have := hc.flip y x trivial trivial; have := hc.flip x y trivial trivial; omega) (fun y hy h0 => by have := hP y hy h0; omega), by simp [wan]⟩
      | exact ret_q rfl ⟨_, rfl, one_right hc hX hqX (fun x hx h0 => by have h1 := hP x hx h0; have := hc.flip y x trivial trivial; have := hc.flip x y trivial trivial; omega) (fun x hx => by have := hQ x hx; omega), by simp [wan]⟩
      | exact ret_q rfl ⟨Z1 ++ Z2, rfl, sym_join hc hX hY (by omega) (by omega) hk1 hk2 hz1 hz3 hz2 hz4, by simp⟩
      | exact ret_q rfl ⟨Z1 ++ (X.drop (p - A.length) ++ Y.drop (d - p)), rfl, sym_join hc hX hY (by omega) (by omega) hk1 hk2 hz1 (List.Perm.refl _) hz2 (sym_right hX hY (by rcases Nat.lt_or_ge p (A.length + X.length) with q | q; (have := h8 (by omega); omega); omega)), by simp⟩
 ·try simp at h2
  refine hw_skip ?_
  refine seqQ_n ?_
  refine hw_seq ?_
  refine hw_reg ?_
  refine dp rfl (pop_move rfl) ?_
  refine dp rfl (pop_move rfl) ?_
  refine dp rfl (pop_sub64 rfl rfl (by omega) (by omega)) ?_
  refine dp rfl (pop_eql rfl rfl) ?_
  refine dn ?_
  refine hw_cond rfl (fun h9 => ?_) (fun h10 => ?_)
  ·try simp at h9
   obtain ⟨y, rfl⟩ : ∃ y, Y = [y] := List.length_eq_one_iff.1 (by omega)
   simp only [List.length_cons, List.length_nil, Nat.zero_add] at *
   refine hw_reg ?_
   refine dp rfl (pop_move rfl) ?_
   refine dp rfl (pop_assign rfl) ?_
   refine dn ?_
   refine hw_reg ?_
   refine dp rfl (pop_move rfl) ?_
   refine dp rfl (pop_assign rfl) ?_
   refine dn ?_
   refine hw_seq ?_
   refine hw_block ?_
   refine hw_loopw2 [14, 15, 16, 83, 84, 85, 86, 87, 88, 89, 90, 91, 92, 93, 94, 95, 96, 97, 98, 99, 100, 101, 102, 103, 104, 105, 106] (fun (p : Nat) (q : Nat) => [(14, .int .i64 ((A.length + p : Nat) : Int)), (15, .int .i64 ((A.length + q : Nat) : Int))]) (fun (p : Nat) (q : Nat) => [.arr (.slice (some ⟨b, off, none⟩) n cap) 9 ((A ++ X ++ [y] ++ C).map ePlay)]) (fun (p : Nat) (q : Nat) => p ≤ q ∧ q ≤ X.length ∧ (∀ x, X[p - 1]? = some x → 0 < p → ¬ c y x < 0) ∧ (∀ x, X[q]? = some x → c y x < 0)) (fun (p : Nat) (q : Nat) => q - p) (0) (X.length) ?_ ?_ ?_ ?_
   ·exact ⟨Nat.zero_le _, Nat.le_refl _, fun x _ h => absurd h (Nat.lt_irrefl _), fun x h => by have := lt_of_get h; omega⟩
   ·exact ⟨some_int (by omega), some_int (by omega), trivial⟩
   ·exact List.Perm.refl _
   ·intro p q hinv
    obtain ⟨hpq, hqX, hP, hQ⟩ := hinv
    refine hw_seq ?_
    refine hw_reg ?_
    refine dp rfl (pop_move rfl) ?_
    refine dp rfl (pop_move rfl) ?_
    refine dp rfl (pop_lss rfl rfl) ?_
    refine dn ?_
    refine hw_cond rfl (fun h11 => ?_) (fun h12 => ?_)
    ·try simp at h11
     refine hw_skip ?_
     refine seqQ_n ?_
     refine hw_block ?_
     refine hw_reg ?_
     refine dp rfl (pop_move rfl) ?_
     refine dp rfl (pop_move rfl) ?_
     refine dp rfl (pop_add64 rfl rfl (by omega) (by omega)) ?_
     refine dp rfl (pop_conv ty3 ty111 rfl) ?_
     refine dp rfl (pop_shr rfl rfl (by omega)) ?_
     refine dp rfl (pop_eq (pop_conv ty111 ty3 rfl) (mid_eq (i := A.length + p) (j := A.length + q) (by omega))) ?_
     refine dp rfl (pop_assign rfl) ?_
     refine dn ?_
     obtain ⟨r, hr⟩ : ∃ r, (A.length + p + (A.length + q)) / 2 = A.length + r := ⟨(A.length + p + (A.length + q)) / 2 - A.length, by omega⟩
     obtain ⟨x, hx⟩ : ∃ x, X[r]? = some x := ⟨_, List.getElem?_eq_getElem (by omega)⟩
     refine hw_draw (fun M => M = [.arr (.slice (some ⟨b, off, none⟩) n cap) 9 ((A ++ X ++ [y] ++ C).map ePlay)]) [4, 8] mixed ?_
     refine ahp 0 rfl rfl (by kernel_rfl) (by kernel_rfl) (pop_move rfl) ?_
     refine ahp 1 rfl rfl (by kernel_rfl) (by kernel_rfl) (pop_move rfl) ?_
     refine ahp 2 rfl rfl (by kernel_rfl) (by kernel_rfl) (pop_move rfl) ?_
     refine ahp 3 rfl rfl (by kernel_rfl) (by kernel_rfl) (pop_idxraw (j := A.length + X.length + 0) ty26 ty30 rfl rfl (by first | omega | (simp; omega)) (by simp at hn ⊢; omega)) ?_
     refine ahl 4 rfl rfl (by kernel_rfl) (by kernel_rfl) (by simp) rfl (fun M hM => by subst hM; exact eop_load_elw (i := 0) (j := A.length + X.length + 0) ty30 rfl rfl rfl (mid_get2 (Y := [y]) rfl) rfl rfl rfl ⟨rfl, rfl⟩) ?_
     refine ahp 5 rfl rfl (by kernel_rfl) (by kernel_rfl) (pop_move rfl) ?_
     refine ahp 6 rfl rfl (by kernel_rfl) (by kernel_rfl) (pop_move rfl) ?_
     refine ahp 7 rfl rfl (by kernel_rfl) (by kernel_rfl) (pop_idxraw (j := A.length + r) ty26 ty30 rfl rfl (by omega) (by omega)) ?_
     refine ahl 8 rfl rfl (by kernel_rfl) (by kernel_rfl) (by simp) rfl (fun M hM => by subst hM; exact eop_load_elw (i := 0) (j := A.length + r) ty30 rfl rfl rfl (mid_get1 hx) rfl rfl rfl ⟨rfl, rfl⟩) ?_
     refine ahp 9 rfl rfl (by kernel_rfl) (by kernel_rfl) (pop_callv hca rfl rfl (WeakL.refl _) (hp _ _)) ?_
     refine ahp 10 rfl rfl (by kernel_rfl) (by kernel_rfl) (pop_lss rfl rfl) ?_
     refine ahp 11 rfl rfl (by kernel_rfl) (by kernel_rfl) (pop_not rfl) ?_
     refine ahz (by kernel_rfl) ?_
     refine hw_cond rfl (fun h13 => ?_) (fun h14 => ?_)
     ·try simp at h13
      refine hw_reg1 ?_
      refine dp rfl (pop_move rfl) ?_
      refine dp rfl (pop_add64 rfl rfl (by omega) (by omega)) ?_
      refine dp rfl (pop_assign rfl) ?_
      refine dn ?_
      refine blockQ_n ?_
      exact ⟨r + 1, q, ⟨by omega, hqX, fun z hz _ => by rw [Nat.add_sub_cancel, hx] at hz; rw [← Option.some.inj hz]; omega, hQ⟩, by dsimp only; omega, ⟨some_int (by omega), rfl, trivial⟩, (by repeat (first | exact keeps_refl | refine keeps_upd rfl ?_ | refine keeps_loop rfl rfl ?_)), List.Perm.refl _⟩
     ·try simp at h14
      refine hw_reg1 ?_
      refine dp rfl (pop_move rfl) ?_
      refine dp rfl (pop_assign rfl) ?_
      refine dn ?_
      refine blockQ_n ?_
      exact ⟨p, r, ⟨by omega, by omega, hP, fun z hz => by rw [hx] at hz; rw [← Option.some.inj hz]; omega⟩, by dsimp only; omega, ⟨rfl, some_int (by omega), trivial⟩, (by repeat (first | exact keeps_refl | refine keeps_upd rfl ?_ | refine keeps_loop rfl rfl ?_)), List.Perm.refl _⟩
    ·try simp at h12
     obtain rfl : p = q := by omega
     refine hw_exit ?_
     refine seqQ_x ?_
     refine loopQ2_x ?_
     refine blockQ_eq ?_
     refine seqQ_n ?_
     refine hw_seq ?_
     refine hw_reg ?_
     refine dp rfl (pop_move rfl) ?_
     refine dp rfl (pop_assign rfl) ?_
     refine dn ?_
     refine hw_block ?_
     refine hw_loopw [17, 108, 109, 110, 111, 112, 113, 114, 115, 116, 117, 118, 119, 120, 121, 122, 123, 124, 125, 126, 127, 128] (fun (t : Nat) => [(17, .int .i64 ((A.length + t : Nat) : Int))]) (fun (t : Nat) => [.arr (.slice (some ⟨b, off, none⟩) n cap) 9 ((wan A X y C t).map ePlay)]) (fun (t : Nat) => p ≤ t ∧ t ≤ X.length) (fun (t : Nat) => t) (X.length) ?_ ?_ ?_ ?_
     ·exact ⟨by omega, Nat.le_refl _⟩
     ·exact ⟨some_int (by omega), trivial⟩
     ·exact perm_eq (by rw [wan_end])
     ·intro t hinv
      obtain ⟨ht, htX⟩ := hinv
      refine hw_seq ?_
      refine hw_reg ?_
      refine dp rfl (pop_move rfl) ?_
      refine dp rfl (pop_move rfl) ?_
      refine dp rfl (pop_gtr rfl rfl) ?_
      refine dn ?_
      refine hw_cond rfl (fun h15 => ?_) (fun h16 => ?_)
      ·try simp at h15
       obtain ⟨s, rfl⟩ : ∃ s, t = s + 1 := ⟨t - 1, by omega⟩
       obtain ⟨x, hx⟩ : ∃ x, X[s]? = some x := ⟨_, List.getElem?_eq_getElem (by omega)⟩
       refine hw_skip ?_
       refine seqQ_n ?_
       refine hw_seq ?_
       refine hw_block ?_
       refine hw_draw1 (fun M => M = [.arr (.slice (some ⟨b, off, none⟩) n cap) 9 ((wan A X y C (s + 1)).map ePlay)]) [9, 13] mixed ?_
       refine ahp 0 rfl rfl (by kernel_rfl) (by kernel_rfl) (pop_move rfl) ?_
       refine ahp 1 rfl rfl (by kernel_rfl) (by kernel_rfl) (pop_move rfl) ?_
       refine ahp 2 rfl rfl (by kernel_rfl) (by kernel_rfl) (pop_move rfl) ?_
       refine ahp 3 rfl rfl (by kernel_rfl) (by kernel_rfl) (pop_move rfl) ?_
       refine ahp 4 rfl rfl (by kernel_rfl) (by kernel_rfl) (pop_sub64 rfl rfl (by omega) (by omega)) ?_
       refine ahp 5 rfl rfl (by kernel_rfl) (by kernel_rfl) (pop_move rfl) ?_
       refine ahp 6 rfl rfl (by kernel_rfl) (by kernel_rfl) (pop_move rfl) ?_
       refine ahp 7 rfl rfl (by kernel_rfl) (by kernel_rfl) (pop_sub64 rfl rfl (by omega) (by omega)) ?_
       refine ahp 8 rfl rfl (by kernel_rfl) (by kernel_rfl) (pop_idxraw (j := A.length + s) ty26 ty30 rfl rfl (by omega) (by omega)) ?_
       refine ahl 9 rfl rfl (by kernel_rfl) (by kernel_rfl) (by simp) rfl (fun M hM => by subst hM; exact eop_load_elw (i := 0) (j := A.length + s) ty30 rfl rfl rfl (wan_at hx).2 rfl rfl rfl ⟨rfl, rfl⟩) ?_
       refine ahp 10 rfl rfl (by kernel_rfl) (by kernel_rfl) (pop_move rfl) ?_
       refine ahp 11 rfl rfl (by kernel_rfl) (by kernel_rfl) (pop_move rfl) ?_
       refine ahp 12 rfl rfl (by kernel_rfl) (by kernel_rfl) (pop_idxraw (j := A.length + s + 1) ty26 ty30 rfl rfl (by omega) (by omega)) ?_
       refine ahl 13 rfl rfl (by kernel_rfl) (by kernel_rfl) (by simp) rfl (fun M hM => by subst hM; exact eop_load_elw (i := 0) (j := A.length + s + 1) ty30 rfl rfl rfl (wan_at hx).1 rfl rfl rfl ⟨rfl, rfl⟩) ?_
       refine ahp 14 rfl rfl (by kernel_rfl) (by kernel_rfl) (pop_idxraw (j := A.length + s + 1) ty26 ty30 rfl rfl (by omega) (by omega)) ?_
       refine ahe 15 rfl (by kernel_rfl) ?_
       refine hop_e0 (eop_store_elw (i := 0) (j := A.length + s + 1) (y := y) (y' := x) ty30 rfl rfl rfl rfl (wan_at hx).1 rfl rfl rfl ?_)
       refine ⟨fun _ => .inr (by simp [Before, Region.binds]), ?_⟩
       refine ahp 16 rfl rfl (by kernel_rfl) (by kernel_rfl) (pop_idxraw (j := A.length + s) ty26 ty30 rfl rfl (by omega) (by omega)) ?_
       refine ahe 17 rfl (by kernel_rfl) ?_
       refine hop_e0 (eop_store_elw (i := 0) (j := A.length + s) (y := x) (y' := y) ty30 rfl rfl rfl rfl (wan_at' hx) rfl rfl rfl ?_)
       refine ⟨fun _ => .inr (by simp [Before, Region.binds]), ?_⟩
       refine ahz (by kernel_rfl) ?_
       refine blockQ_n ?_
       refine seqQ_n ?_
       refine hw_reg1 ?_
       refine dp rfl (pop_move rfl) ?_
       refine dp rfl (pop_sub64 rfl rfl (by omega) (by omega)) ?_
       refine dp rfl (pop_assign rfl) ?_
       refine dn ?_
       exact ⟨s, ⟨by omega, by omega⟩, by dsimp only; omega, ⟨some_int (by omega), trivial⟩, (by repeat (first | exact keeps_refl | refine keeps_upd rfl ?_ | refine keeps_loop rfl rfl ?_)), perm_eq (by rw [wan_back hx]; rfl)⟩
      ·try simp at h16
       obtain rfl : t = p := by omega
       refine hw_exit ?_
       refine seqQ_x ?_
       refine loopQ_x ?_
       refine blockQ_eq ?_
       refine seqQ_n ?_
       refine hw_ret ?_
       first
       | exact ret_q rfl ⟨_, rfl, one_left hc hY hqY (fun y hy => by have h1 := hQ y hy; have := hc.flip y x trivial trivial; have := hc.flip x y trivial trivial; omega) (fun y hy h0 => by have := hP y hy h0; omega), by simp [wan]⟩
       | exact ret_q rfl ⟨_, rfl, one_right hc hX hqX (fun x hx h0 => by have h1 := hP x hx h0; have := hc.flip y x trivial trivial; have := hc.flip x y trivial trivial; omega) (fun x hx => by have := hQ x hx; omega), by simp [wan]⟩
       | exact ret_q rfl ⟨Z1 ++ Z2, rfl, sym_join hc hX hY (by omega) (by omega) hk1 hk2 hz1 hz3 hz2 hz4, by simp⟩
       | exact ret_q rfl ⟨Z1 ++ (X.drop (p - A.length) ++ Y.drop (d - p)), rfl, sym_join hc hX hY (by omega) (by omega) hk1 hk2 hz1 (List.Perm.refl _) hz2 (sym_right hX hY (by rcases Nat.lt_or_ge p (A.length + X.length) with q | q; (have := h16 (by omega); omega); omega)), by simp⟩
  ·try simp at h10
   refine hw_skip ?_
   refine seqQ_n ?_
   refine hw_reg ?_
   refine dp rfl (pop_move rfl) ?_
   refine dp rfl (pop_move rfl) ?_
   refine dp rfl (pop_add64 rfl rfl (by omega) (by omega)) ?_
   refine dp rfl (pop_conv ty3 ty111 rfl) ?_
   refine dp rfl (pop_shr rfl rfl (by omega)) ?_
   refine dp rfl (pop_eq (h' := .int .i64 (((A.length + (A.length + X.length + Y.length)) / 2 : Nat) : Int)) (pop_conv ty111 ty3 rfl) (by have e9 : ia + ib = ((A.length : Nat) : Int) + ((A.length + X.length + Y.length : Nat) : Int) := (by omega); rw [e9]; exact mid_eq (by omega))) ?_
   refine dp rfl (pop_assign rfl) ?_
   refine dn ?_
   obtain ⟨d, hd⟩ : ∃ d : Nat, (A.length + (A.length + X.length + Y.length)) / 2 = d := ⟨_, rfl⟩
   rw [hd]
   refine hw_reg ?_
   refine dp rfl (pop_move rfl) ?_
   refine dp rfl (pop_move rfl) ?_
   refine dp rfl (pop_add64 rfl rfl (by omega) (by omega)) ?_
   refine dp rfl (pop_assign rfl) ?_
   refine dn ?_
   refine hw_reg ?_
   refine dp rfl (pop_assign rfl) ?_
   refine dp rfl (pop_assign rfl) ?_
   refine dn ?_
   refine hw_join [20, 21, 138, 139, 140, 141, 142, 143, 144, 145, 146] (fun (s : Nat × Nat) => [(20, .int .i64 (s.1 : Int)), (21, .int .i64 (s.2 : Int))]) (fun (s : Nat × Nat) => [.arr (.slice (some ⟨b, off, none⟩) n cap) 9 ((A ++ X ++ Y ++ C).map ePlay)]) (fun (s : Nat × Nat) => (A.length ≤ s.1 ∧ s.1 ≤ s.2 ∧ s.2 ≤ A.length + X.length ∧ s.2 ≤ d ∧ d ≤ s.1 + Y.length) ∧ (s.1 = A.length ∨ d = s.1 + Y.length) ∧ (s.2 = A.length + X.length ∨ s.2 = d)) ?_ ?_
   ·skip
    refine hw_reg ?_
    refine dp rfl (pop_move rfl) ?_
    refine dp rfl (pop_move rfl) ?_
    refine dp rfl (pop_gtr rfl rfl) ?_
    refine dn ?_
    refine hw_cond rfl (fun h17 => ?_) (fun h18 => ?_)
    ·try simp at h17
     refine hw_reg ?_
     refine dp rfl (pop_move rfl) ?_
     refine dp rfl (pop_move rfl) ?_
     refine dp rfl (pop_sub64 rfl rfl (by omega) (by omega)) ?_
     refine dp rfl (pop_assign rfl) ?_
     refine dn ?_
     refine hw_reg1 ?_
     refine dp rfl (pop_move rfl) ?_
     refine dp rfl (pop_assign rfl) ?_
     refine dn ?_
     exact ⟨(d - Y.length, d), ⟨⟨by dsimp only; omega, by dsimp only; omega, by dsimp only; omega, by dsimp only; omega, by dsimp only; omega⟩, by dsimp only; omega, by dsimp only; omega⟩, ⟨some_int (by omega), rfl, trivial⟩, (by repeat (first | exact keeps_refl | refine keeps_upd rfl ?_ | refine keeps_loop rfl rfl ?_)), List.Perm.refl _⟩
    ·try simp at h18
     refine hw_reg ?_
     refine dp rfl (pop_move rfl) ?_
     refine dp rfl (pop_assign rfl) ?_
     refine dn ?_
     refine hw_reg1 ?_
     refine dp rfl (pop_move rfl) ?_
     refine dp rfl (pop_assign rfl) ?_
     refine dn ?_
     exact ⟨(A.length, A.length + X.length), ⟨⟨by dsimp only; omega, by dsimp only; omega, by dsimp only; omega, by dsimp only; omega, by dsimp only; omega⟩, by dsimp only; omega, by dsimp only; omega⟩, ⟨some_int (by omega), some_int (by omega), trivial⟩, (by repeat (first | exact keeps_refl | refine keeps_upd rfl ?_ | refine keeps_loop rfl rfl ?_)), List.Perm.refl _⟩
   ·intro s hs
    obtain ⟨s1, s2⟩ := s
    dsimp only at hs ⊢
    obtain ⟨⟨hs3, hs4, hs5, hs6, hs7⟩, hs1, hs2⟩ := hs
    refine hw_reg ?_
    refine dp rfl (pop_move rfl) ?_
    refine dp rfl (pop_sub64 rfl rfl (by omega) (by omega)) ?_
    refine dp rfl (pop_assign rfl) ?_
    refine dn ?_
    refine hw_seq ?_
    refine hw_block ?_
    refine hw_loopw2 [20, 21, 23, 149, 150, 151, 152, 153, 154, 155, 156, 157, 158, 159, 160, 161, 162, 163, 164, 165, 166, 167, 168, 169, 170, 171, 172, 173, 174] (fun (p : Nat) (q : Nat) => [(20, .int .i64 (p : Int)), (21, .int .i64 (q : Int))]) (fun (p : Nat) (q : Nat) => [.arr (.slice (some ⟨b, off, none⟩) n cap) 9 ((A ++ X ++ Y ++ C).map ePlay)]) (fun (p : Nat) (q : Nat) => s1 ≤ p ∧ p ≤ q ∧ q ≤ s2 ∧ (∀ x y, X[p - 1 - A.length]? = some x → Y[d - p]? = some y → s1 < p → ¬ c y x < 0) ∧ (∀ x y, X[q - A.length]? = some x → Y[d - 1 - q]? = some y → q < s2 → c y x < 0)) (fun (p : Nat) (q : Nat) => q - p) (s1) (s2) ?_ ?_ ?_ ?_
    ·exact ⟨Nat.le_refl _, by omega, Nat.le_refl _, fun x y _ _ h => absurd h (Nat.lt_irrefl _), fun x y _ _ h => absurd h (Nat.lt_irrefl _)⟩
    ·exact ⟨rfl, rfl, trivial⟩
    ·exact List.Perm.refl _
    ·intro p q hinv
     obtain ⟨hsp, hpq, hqs, hP, hQ⟩ := hinv
     refine hw_seq ?_
     refine hw_reg ?_
     refine dp rfl (pop_move rfl) ?_
     refine dp rfl (pop_move rfl) ?_
     refine dp rfl (pop_lss rfl rfl) ?_
     refine dn ?_
     refine hw_cond rfl (fun h19 => ?_) (fun h20 => ?_)
     ·try simp at h19
      refine hw_skip ?_
      refine seqQ_n ?_
      refine hw_block ?_
      refine hw_reg ?_
      refine dp rfl (pop_move rfl) ?_
      refine dp rfl (pop_move rfl) ?_
      refine dp rfl (pop_add64 rfl rfl (by omega) (by omega)) ?_
      refine dp rfl (pop_conv ty3 ty111 rfl) ?_
      refine dp rfl (pop_shr rfl rfl (by omega)) ?_
      refine dp rfl (pop_eq (pop_conv ty111 ty3 rfl) (mid_eq (i := p) (j := q) (by omega))) ?_
      refine dp rfl (pop_assign rfl) ?_
      refine dn ?_
      obtain ⟨g, hg⟩ : ∃ g, (p + q) / 2 = g := ⟨_, rfl⟩
      obtain ⟨u, hu⟩ : ∃ u, g = A.length + u := ⟨g - A.length, by omega⟩
      obtain ⟨r, hr⟩ : ∃ r, d = r + 1 + g := ⟨d - 1 - g, by omega⟩
      obtain ⟨x, hx⟩ : ∃ x, X[u]? = some x := ⟨_, List.getElem?_eq_getElem (by omega)⟩
      obtain ⟨y, hy⟩ : ∃ y, Y[r]? = some y := ⟨_, List.getElem?_eq_getElem (by omega)⟩
      refine hw_draw (fun M => M = [.arr (.slice (some ⟨b, off, none⟩) n cap) 9 ((A ++ X ++ Y ++ C).map ePlay)]) [6, 10] mixed ?_
      refine ahp 0 rfl rfl (by kernel_rfl) (by kernel_rfl) (pop_move rfl) ?_
      refine ahp 1 rfl rfl (by kernel_rfl) (by kernel_rfl) (pop_move rfl) ?_
      refine ahp 2 rfl rfl (by kernel_rfl) (by kernel_rfl) (pop_move rfl) ?_
      refine ahp 3 rfl rfl (by kernel_rfl) (by kernel_rfl) (pop_move rfl) ?_
      refine ahp 4 rfl rfl (by kernel_rfl) (by kernel_rfl) (pop_sub64 rfl rfl (by omega) (by omega)) ?_
      refine ahp 5 rfl rfl (by kernel_rfl) (by kernel_rfl) (pop_idxraw (j := A.length + X.length + r) ty26 ty30 rfl rfl (by omega) (by omega)) ?_
      refine ahl 6 rfl rfl (by kernel_rfl) (by kernel_rfl) (by simp) rfl (fun M hM => by subst hM; exact eop_load_elw (i := 0) (j := A.length + X.length + r) ty30 rfl rfl rfl (mid_get2 hy) rfl rfl rfl ⟨rfl, rfl⟩) ?_
      refine ahp 7 rfl rfl (by kernel_rfl) (by kernel_rfl) (pop_move rfl) ?_
      refine ahp 8 rfl rfl (by kernel_rfl) (by kernel_rfl) (pop_move rfl) ?_
      refine ahp 9 rfl rfl (by kernel_rfl) (by kernel_rfl) (pop_idxraw (j := A.length + u) ty26 ty30 rfl rfl (by omega) (by omega)) ?_
      refine ahl 10 rfl rfl (by kernel_rfl) (by kernel_rfl) (by simp) rfl (fun M hM => by subst hM; exact eop_load_elw (i := 0) (j := A.length + u) ty30 rfl rfl rfl (mid_get1 hx) rfl rfl rfl ⟨rfl, rfl⟩) ?_
      refine ahp 11 rfl rfl (by kernel_rfl) (by kernel_rfl) (pop_callv hca rfl rfl (WeakL.refl _) (hp _ _)) ?_
      refine ahp 12 rfl rfl (by kernel_rfl) (by kernel_rfl) (pop_lss rfl rfl) ?_
      refine ahp 13 rfl rfl (by kernel_rfl) (by kernel_rfl) (pop_not rfl) ?_
      refine ahz (by kernel_rfl) ?_
      refine hw_cond rfl (fun h21 => ?_) (fun h22 => ?_)
      ·try simp at h21
       refine hw_reg1 ?_
       refine dp rfl (pop_move rfl) ?_
       refine dp rfl (pop_add64 rfl rfl (by omega) (by omega)) ?_
       refine dp rfl (pop_assign rfl) ?_
       refine dn ?_
       refine blockQ_n ?_
       exact ⟨g + 1, q, ⟨by omega, by omega, hqs, fun x2 y2 h1 h2 _ => by
        rw [show g + 1 - 1 - A.length = u by omega, hx] at h1
        rw [show d - (g + 1) = r by omega, hy] at h2
        rw [← Option.some.inj h1, ← Option.some.inj h2]; omega, hQ⟩, by dsimp only; omega, ⟨some_int (by omega), rfl, trivial⟩, (by repeat (first | exact keeps_refl | refine keeps_upd rfl ?_ | refine keeps_loop rfl rfl ?_)), List.Perm.refl _⟩
      ·try simp at h22
       refine hw_reg1 ?_
       refine dp rfl (pop_move rfl) ?_
       refine dp rfl (pop_assign rfl) ?_
       refine dn ?_
       refine blockQ_n ?_
       exact ⟨p, g, ⟨hsp, by omega, by omega, hP, fun x2 y2 h1 h2 _ => by
        rw [show g - A.length = u by omega, hx] at h1
        rw [show d - 1 - g = r by omega, hy] at h2
        rw [← Option.some.inj h1, ← Option.some.inj h2]; omega⟩, by dsimp only; omega, ⟨rfl, some_int (by omega), trivial⟩, (by repeat (first | exact keeps_refl | refine keeps_upd rfl ?_ | refine keeps_loop rfl rfl ?_)), List.Perm.refl _⟩
     ·try simp at h20
      obtain rfl : p = q := by omega
      have hpA : A.length ≤ p := by omega
      refine hw_exit ?_
      refine seqQ_x ?_
      refine loopQ2_x ?_
      refine blockQ_eq ?_
      refine seqQ_n ?_
      obtain ⟨hk1, hk2⟩ := sym_cond hc hP hQ hs1 hs2 hsp hqs hpA
      refine hw_reg ?_
      refine dp rfl (pop_move rfl) ?_
      refine dp rfl (pop_move rfl) ?_
      refine dp rfl (pop_sub64 rfl rfl (by omega) (by omega)) ?_
      refine dp rfl (pop_assign rfl) ?_
      refine dn ?_
      refine hw_join [178, 179, 180, 181, 182, 183, 184, 185, 186, 187, 188, 189, 190, 191] (fun (z : Unit) => []) (fun (z : Unit) => [.arr (.slice (some ⟨b, off, none⟩) n cap) 9 (((A ++ X.take (p - A.length)) ++ Y.take (d - p) ++ X.drop (p - A.length) ++ (Y.drop (d - p) ++ C)).map ePlay)]) (fun (z : Unit) => True) ?_ ?_
      ·skip
       refine hw_reg ?_
       refine dp rfl (pop_move rfl) ?_
       refine dp rfl (pop_move rfl) ?_
       refine dp rfl (pop_lss rfl rfl) ?_
       refine dp rfl (pop_move rfl) ?_
       refine dg rfl rfl (fun hc => ⟨_, OpenTo.refl _, pop_move rfl⟩) ?_
       refine dg rfl rfl (fun hc => ⟨_, OpenTo.refl _, pop_move rfl⟩) ?_
       refine dg rfl rfl (fun hc => ⟨_, OpenTo.upd (t := 183) rfl (by first | exact hc | simp_all) (OpenTo.upd (t := 182) rfl (by first | exact hc | simp_all) (OpenTo.refl _)), pop_lss rfl rfl⟩) ?_
       refine dp rfl (pop_picko rfl (.inr ⟨_, rfl, fun h => by simp_all⟩) (.inl rfl)) ?_
       refine dn ?_
       refine hw_cond rfl (fun h23 => ?_) (fun h24 => ?_)
       ·try simp at h23
        refine hw_ghost (Ghost.of_eq (M' := [.arr (.slice (some ⟨b, off, none⟩) n cap) 9 (((A ++ X.take (p - A.length)) ++ X.drop (p - A.length) ++ Y.take (d - p) ++ (Y.drop (d - p) ++ C)).map ePlay)]) (by rw [sym_pre (k := p - A.length) (j := d - p)])) ?_
        refine hw_reg1 ?_
        refine dp rfl (pop_move rfl) ?_
        refine dp rfl (pop_move rfl) ?_
        refine dp rfl (pop_move rfl) ?_
        refine dp rfl (pop_move rfl) ?_
        refine dp rfl (pop_move rfl) ?_
        refine de rfl (eop_callx (i := 0) ca125 rfl (WeakL.refl _) rfl (c_rotate_api_Play (P := A ++ X.take (p - A.length)) (U := X.drop (p - A.length)) (W := Y.take (d - p)) (Q := Y.drop (d - p) ++ C) (n := n) (by first | omega | (simp; omega)) (by first | omega | (simp; omega)) (by first | omega | (simp; omega)) (by first | omega | (simp; omega)) (by first | omega | (simp; omega)) (by first | omega | (simp; omega)) hl) ?_)
        rintro _ _ ⟨rfl, rfl⟩
        refine dn ?_
        exact ⟨(), trivial, trivial, (by repeat (first | exact keeps_refl | refine keeps_upd rfl ?_ | refine keeps_loop rfl rfl ?_)), List.Perm.refl _⟩
       ·try simp at h24
        refine hw_skip ?_
        exact ⟨(), trivial, trivial, (by repeat (first | exact keeps_refl | refine keeps_upd rfl ?_ | refine keeps_loop rfl rfl ?_)), perm_eq (by rw [sym_noswap (k := p - A.length) (j := d - p) (by rcases Nat.lt_or_ge p (A.length + X.length) with q | q; (have := h24 (by omega); omega); omega)])⟩
      ·intro z _
       refine hw_join [192, 193, 194, 195, 196, 197, 198, 199, 200, 201, 202, 203, 204, 205] (fun (Z1 : List Play) => []) (fun (Z1 : List Play) => [.arr (.slice (some ⟨b, off, none⟩) n cap) 9 ((A ++ Z1 ++ (X.drop (p - A.length) ++ (Y.drop (d - p) ++ C))).map ePlay)]) (fun (Z1 : List Play) => Z1.Perm (X.take (p - A.length) ++ Y.take (d - p)) ∧ Srt c Z1) ?_ ?_
       ·skip
        refine hw_reg ?_
        refine dp rfl (pop_move rfl) ?_
        refine dp rfl (pop_move rfl) ?_
        refine dp rfl (pop_lss rfl rfl) ?_
        refine dp rfl (pop_move rfl) ?_
        refine dg rfl rfl (fun hc => ⟨_, OpenTo.refl _, pop_move rfl⟩) ?_
        refine dg rfl rfl (fun hc => ⟨_, OpenTo.refl _, pop_move rfl⟩) ?_
        refine dg rfl rfl (fun hc => ⟨_, OpenTo.upd (t := 197) rfl (by first | exact hc | simp_all) (OpenTo.upd (t := 196) rfl (by first | exact hc | simp_all) (OpenTo.refl _)), pop_lss rfl rfl⟩) ?_
        refine dp rfl (pop_picko rfl (.inr ⟨_, rfl, fun h => by simp_all⟩) (.inl rfl)) ?_
        refine dn ?_
        refine hw_cond rfl (fun h25 => ?_) (fun h26 => ?_)
        ·try simp at h25
         refine hw_ghost (Ghost.of_eq (M' := [.arr (.slice (some ⟨b, off, none⟩) n cap) 9 ((A ++ X.take (p - A.length) ++ Y.take (d - p) ++ (X.drop (p - A.length) ++ (Y.drop (d - p) ++ C))).map ePlay)]) (by simp)) ?_
         refine hw_reg1 ?_
         refine dp rfl (pop_move rfl) ?_
         refine dp rfl (pop_move rfl) ?_
         refine dp rfl (pop_move rfl) ?_
         refine dp rfl (pop_move rfl) ?_
         refine dp rfl (pop_move rfl) ?_
         refine de rfl (eop_callx (i := 0) ca91 rfl (WeakL.refl _) rfl (ih (A := A) (X := X.take (p - A.length)) (Y := Y.take (d - p)) (C := X.drop (p - A.length) ++ (Y.drop (d - p) ++ C)) (by first | omega | (simp; omega)) (by first | omega | (simp; omega)) (by first | omega | (simp; omega)) (by first | omega | (simp; omega)) (by first | omega | (simp; omega)) (by first | omega | (simp; omega)) (by first | omega | (simp; omega)) (hX.take _) (hY.take _)) ?_)
         rintro _ _ ⟨Z1, rfl, ⟨hz1, hz2⟩, rfl⟩
         refine dn ?_
         exact ⟨Z1, ⟨hz1, hz2⟩, trivial, (by repeat (first | exact keeps_refl | refine keeps_upd rfl ?_ | refine keeps_loop rfl rfl ?_)), List.Perm.refl _⟩
        ·try simp at h26
         refine hw_skip ?_
         exact ⟨X.take (p - A.length) ++ Y.take (d - p), ⟨List.Perm.refl _, sym_left hX hY (by rcases Nat.lt_or_ge A.length p with q | q; (have := h26 (by omega); omega); omega)⟩, trivial, (by repeat (first | exact keeps_refl | refine keeps_upd rfl ?_ | refine keeps_loop rfl rfl ?_)), perm_eq (by simp)⟩
       ·intro Z1 hinv
        obtain ⟨hz1, hz2⟩ := hinv
        refine hw_reg ?_
        refine dp rfl (pop_move rfl) ?_
        refine dp rfl (pop_move rfl) ?_
        refine dp rfl (pop_lss rfl rfl) ?_
        refine dp rfl (pop_move rfl) ?_
        refine dg rfl rfl (fun hc => ⟨_, OpenTo.refl _, pop_move rfl⟩) ?_
        refine dg rfl rfl (fun hc => ⟨_, OpenTo.refl _, pop_move rfl⟩) ?_
        refine dg rfl rfl (fun hc => ⟨_, OpenTo.upd (t := 211) rfl (by first | exact hc | simp_all) (OpenTo.upd (t := 210) rfl (by first | exact hc | simp_all) (OpenTo.refl _)), pop_lss rfl rfl⟩) ?_
        refine dp rfl (pop_picko rfl (.inr ⟨_, rfl, fun h => by simp_all⟩) (.inl rfl)) ?_
        refine dn ?_
        refine hw_cond rfl (fun h27 => ?_) (fun h28 => ?_)
        ·try simp at h27
         have hzl := hz1.length_eq
         simp only [List.length_append, List.length_take] at hzl
         refine hw_ghost (Ghost.of_eq (M' := [.arr (.slice (some ⟨b, off, none⟩) n cap) 9 (((A ++ Z1) ++ X.drop (p - A.length) ++ Y.drop (d - p) ++ C).map ePlay)]) (by simp)) ?_
         refine hw_reg1 ?_
         refine dp rfl (pop_move rfl) ?_
         refine dp rfl (pop_move rfl) ?_
         refine dp rfl (pop_move rfl) ?_
         refine dp rfl (pop_move rfl) ?_
         refine dp rfl (pop_move rfl) ?_
         refine de rfl (eop_callx (i := 0) ca91 rfl (WeakL.refl _) rfl (ih (A := A ++ Z1) (X := X.drop (p - A.length)) (Y := Y.drop (d - p)) (C := C) (by first | omega | (simp; omega)) (by first | omega | (simp; omega)) (by first | omega | (simp; omega)) (by first | omega | (simp; omega)) (by first | omega | (simp; omega)) (by first | omega | (simp; omega)) (by first | omega | (simp; omega)) (hX.drop _) (hY.drop _)) ?_)
         rintro _ _ ⟨Z2, rfl, ⟨hz3, hz4⟩, rfl⟩
         refine dn ?_
         first
         | exact ret_q rfl ⟨_, rfl, one_left hc hY hqY (fun y hy => by have h1 := hQ y hy; have := hc.flip y x trivial trivial; have := hc.flip x y trivial trivial; omega) (fun y hy h0 => by have := hP y hy h0; omega), by simp [wan]⟩
         | exact ret_q rfl ⟨_, rfl, one_right hc hX hqX (fun x hx h0 => by have h1 := hP x hx h0; have := hc.flip y x trivial trivial; have := hc.flip x y trivial trivial; omega) (fun x hx => by have := hQ x hx; omega), by simp [wan]⟩
         | exact ret_q rfl ⟨Z1 ++ Z2, rfl, sym_join hc hX hY (by omega) (by omega) hk1 hk2 hz1 hz3 hz2 hz4, by simp⟩
         | exact ret_q rfl ⟨Z1 ++ (X.drop (p - A.length) ++ Y.drop (d - p)), rfl, sym_join hc hX hY (by omega) (by omega) hk1 hk2 hz1 (List.Perm.refl _) hz2 (sym_right hX hY (by rcases Nat.lt_or_ge p (A.length + X.length) with q | q; (have := h28 (by omega); omega); omega)), by simp⟩
        ·try simp at h28
         refine hw_skip ?_
         first
         | exact ret_q rfl ⟨_, rfl, one_left hc hY hqY (fun y hy => by have h1 := hQ y hy; have := hc.flip y x trivial trivial; have := hc.flip x y trivial trivial; omega) (fun y hy h0 => by have := hP y hy h0; omega), by simp [wan]⟩
         | exact ret_q rfl ⟨_, rfl, one_right hc hX hqX (fun x hx h0 => by have h1 := hP x hx h0; have := hc.flip y x trivial trivial; have := hc.flip x y trivial trivial; omega) (fun x hx => by have := hQ x hx; omega), by simp [wan]⟩
         | exact ret_q rfl ⟨Z1 ++ Z2, rfl, sym_join hc hX hY (by omega) (by omega) hk1 hk2 hz1 hz3 hz2 hz4, by simp⟩
         | exact ret_q rfl ⟨Z1 ++ (X.drop (p - A.length) ++ Y.drop (d - p)), rfl, sym_join hc hX hY (by omega) (by omega) hk1 hk2 hz1 (List.Perm.refl _) hz2 (sym_right hX hY (by rcases Nat.lt_or_ge p (A.length + X.length) with q | q; (have := h28 (by omega); omega); omega)), by simp⟩

theorem c_sym_api_Play [Tracks] {N : Nat} {n b off cap : Nat} {fid : FuncId} {caps : List HVal} {c : Play → Play → Int} {A X Y C : List Play} {ia im ib : Int} (hca : Callable Tryz.prog fid) (hp : ∀ x y, ConP Tryz.prog fid ([ePlay x, ePlay y] ++ caps) (.int .i64 (c x y))) (hc : Cmp c fun _ => True) (hl : n ≤ 1000000) (hx0 : 0 < X.length) (hy0 : 0 < Y.length) (hN : X.length + Y.length ≤ N) (hn : A.length + X.length + Y.length + C.length = n) (hia : ia = (A.length : Int)) (him : im = (A.length : Int) + X.length) (hib : ib = (A.length : Int) + X.length + Y.length) (hX : Srt c X) (hY : Srt c Y) : Con Tryz.prog 91 [.raw (.slice (some ⟨b, off, none⟩) n cap), .int .i64 ia, .int .i64 im, .int .i64 ib, .fn (.func fid) [] caps] [.arr (.slice (some ⟨b, off, none⟩) n cap) 9 ((A ++ X ++ Y ++ C).map ePlay)] (fun x M' => ∃ Z : List Play, x = .tup [] ∧ (Z.Perm (X ++ Y) ∧ Srt c Z) ∧ M' = [.arr (.slice (some ⟨b, off, none⟩) n cap) 9 ((A ++ Z ++ C).map ePlay)]) := by
 induction N using Nat.strongRecOn generalizing A X Y C ia im ib with
 | ind N ih =>
   exact c_syms_api_Play hca hp hc hx0 hy0 hN hn hia him hib hX hY hl (fun a1 a2 a3 a4 a5 a6 a7 a8 a9 => ih _ a3 a1 a2 (Nat.le_refl _) a4 a5 a6 a7 a8 a9)

set_option maxHeartbeats 2000000 in
/-- slices.stableCmpFunc[benchwarmer/api.Play] -/
theorem c_stable_api_Play [Tracks] {l : List Play} {n0 : Int} {n b off cap : Nat} {fid : FuncId} {caps : List HVal} {c : Play → Play → Int} (hca : Callable Tryz.prog fid) (hp : ∀ x y, ConP Tryz.prog fid ([ePlay x, ePlay y] ++ caps) (.int .i64 (c x y))) (hc : Cmp c fun _ => True) (hn : l.length = n) (hn0 : n0 = (n : Int)) (hl : n ≤ 1000000) : Con Tryz.prog 70 [.raw (.slice (some ⟨b, off, none⟩) n cap), .int .i64 n0, .fn (.func fid) [] caps] [.arr (.slice (some ⟨b, off, none⟩) n cap) 9 ((l).map ePlay)] (fun x M' => ∃ Z : List Play, x = .tup [] ∧ (Z.Perm l ∧ Srt c Z) ∧ M' = [.arr (.slice (some ⟨b, off, none⟩) n cap) 9 ((Z).map ePlay)]) := by
 refine Con.of_body Tryz.func70 rfl Tryz.ntmps70 rfl rfl ?_
 refine hw_reg ?_
 refine dp rfl (pop_assign rfl) ?_
 refine dn ?_
 refine hw_reg ?_
 refine dp rfl (pop_move rfl) ?_
 refine dp rfl (pop_assign rfl) ?_
 refine dp rfl (pop_assign rfl) ?_
 refine dn ?_
 refine hw_seq ?_
 refine hw_block ?_
 refine hw_loopw3 [7, 8, 11, 12, 13, 14, 15, 16, 17, 18, 19, 20, 21, 22] (fun (a0 : Nat) (k : Nat) (Z : List Play) => [(7, .int .i64 (a0 : Int)), (8, .int .i64 ((a0 + 20 : Nat) : Int))]) (fun (a0 : Nat) (k : Nat) (Z : List Play) => [.arr (.slice (some ⟨b, off, none⟩) n cap) 9 ((Z ++ l.drop a0).map ePlay)]) (fun (a0 : Nat) (k : Nat) (Z : List Play) => a0 = 20 * k ∧ a0 ≤ n ∧ Blk c 20 Z ∧ Z.length = a0 ∧ Z.Perm (l.take a0)) (fun (a0 : Nat) (k : Nat) (Z : List Play) => n - a0) (0) (0) ([]) ?_ ?_ ?_ ?_
 ·exact ⟨rfl, Nat.zero_le _, Blk.nil, rfl, by simp⟩
 ·exact ⟨rfl, rfl, trivial⟩
 ·exact perm_eq (by simp)
 ·intro a0 k Z hinv
  obtain ⟨ha0, ha1, hZ, hZl, hZp⟩ := hinv
  refine hw_seq ?_
  refine hw_reg ?_
  refine dp rfl (pop_move rfl) ?_
  refine dp rfl (pop_move rfl) ?_
  refine dp rfl (pop_leq rfl rfl) ?_
  refine dn ?_
  refine hw_cond rfl (fun h1 => ?_) (fun h2 => ?_)
  ·try simp at h1
   refine hw_skip ?_
   refine seqQ_n ?_
   refine hw_block ?_
   refine hw_ghost (Ghost.of_eq (M' := [.arr (.slice (some ⟨b, off, none⟩) n cap) 9 ((Z ++ (l.drop a0).take 20 ++ l.drop (a0 + 20)).map ePlay)]) (by rw [List.append_assoc Z, ← win])) ?_
   refine hw_reg ?_
   refine dp rfl (pop_move rfl) ?_
   refine dp rfl (pop_move rfl) ?_
   refine dp rfl (pop_move rfl) ?_
   refine dp rfl (pop_move rfl) ?_
   refine de rfl (eop_callx (i := 0) ca90 rfl (WeakL.refl _) rfl (c_insw_api_Play (A := Z) (X := ((l.drop a0).take 20)) (C := (l.drop (a0 + 20))) (n := n) hca hp (by first | omega | (simp; omega)) (by omega) (by first | omega | (simp; omega)) hl) ?_)
   rintro _ _ ⟨rfl, rfl⟩
   refine dn ?_
   refine hw_reg ?_
   refine dp rfl (pop_move rfl) ?_
   refine dp rfl (pop_assign rfl) ?_
   refine dn ?_
   refine hw_reg1 ?_
   refine dp rfl (pop_move rfl) ?_
   refine dp rfl (pop_move rfl) ?_
   refine dp rfl (pop_add64 rfl rfl (by omega) (by omega)) ?_
   refine dp rfl (pop_assign rfl) ?_
   refine dn ?_
   refine blockQ_n ?_
   exact ⟨a0 + 20, k + 1, Z ++ isort c ((l.drop a0).take 20), ⟨by omega, by omega, hZ.add (k := k) (by omega) (isort_srt hc _) (by rw [isort_len, List.length_take]; omega), by rw [List.length_append, isort_len, List.length_take, List.length_drop]; omega, by rw [take_add']; exact hZp.append (isort_perm c _)⟩, by dsimp only; omega, ⟨some_int (by omega), some_int (by omega), trivial⟩, (by repeat (first | exact keeps_refl | refine keeps_upd rfl ?_ | refine keeps_loop rfl rfl ?_)), List.Perm.refl _⟩
  ·try simp at h2
   refine hw_exit ?_
   refine seqQ_x ?_
   refine loopQ3_x ?_
   refine blockQ_eq ?_
   refine seqQ_n ?_
   refine hw_ghost (Ghost.of_eq (M' := [.arr (.slice (some ⟨b, off, none⟩) n cap) 9 ((Z ++ l.drop a0 ++ []).map ePlay)]) (by simp)) ?_
   refine hw_reg ?_
   refine dp rfl (pop_move rfl) ?_
   refine dp rfl (pop_move rfl) ?_
   refine dp rfl (pop_move rfl) ?_
   refine dp rfl (pop_move rfl) ?_
   refine de rfl (eop_callx (i := 0) ca90 rfl (WeakL.refl _) rfl (c_insw_api_Play (A := Z) (X := (l.drop a0)) (C := []) (n := n) hca hp (by first | omega | (simp; omega)) (by omega) (by first | omega | (simp; omega)) hl) ?_)
   rintro _ _ ⟨rfl, rfl⟩
   refine dn ?_
   refine hw_block ?_
   refine hw_loopw2 [6, 7, 8, 9, 28, 29, 30, 31, 32, 33, 34, 35, 36, 37, 38, 39, 40, 41, 42, 43, 44, 45, 46, 47, 48, 49, 50, 51, 52, 53, 54, 55, 56, 57, 58, 59, 60, 61, 62] (fun (bs : Nat) (D : List Play) => [(6, .int .i64 (bs : Int))]) (fun (bs : Nat) (D : List Play) => [.arr (.slice (some ⟨b, off, none⟩) n cap) 9 ((D).map ePlay)]) (fun (bs : Nat) (D : List Play) => 20 ≤ bs ∧ bs ≤ 2 * n + 20 ∧ Blk c bs D ∧ D.Perm l) (fun (bs : Nat) (D : List Play) => n - bs) (20) (Z ++ isort c (l.drop a0)) ?_ ?_ ?_ ?_
   ·refine ⟨Nat.le_refl _, by omega, hZ.add (k := k) (by omega) (isort_srt hc _) (by rw [isort_len, List.length_drop]; omega), ?_⟩
    have := hZp.append (isort_perm c (l.drop a0))
    rwa [List.take_append_drop] at this
   ·exact ⟨rfl, trivial⟩
   ·exact perm_eq (by simp)
   ·intro bs D hinv
    obtain ⟨hb1, hb2, hD, hDp⟩ := hinv
    have hDl : D.length = n := by rw [hDp.length_eq]; exact hn
    refine hw_seq ?_
    skip
    refine hw_reg ?_
    refine dp rfl (pop_move rfl) ?_
    refine dp rfl (pop_move rfl) ?_
    refine dp rfl (pop_lss rfl rfl) ?_
    refine dn ?_
    refine hw_cond rfl (fun h3 => ?_) (fun h4 => ?_)
    ·try simp at h3
     refine hw_skip ?_
     refine seqQ_n ?_
     refine hw_block ?_
     refine hw_reg ?_
     refine dp rfl (pop_move rfl) ?_
     refine dp rfl (pop_mul64 rfl rfl (by omega) (by omega)) ?_
     refine dp rfl (pop_assign rfl) ?_
     refine dp rfl (pop_assign rfl) ?_
     refine dn ?_
     refine hw_seq ?_
     refine hw_block ?_
     refine hw_loopw3 [7, 8, 33, 34, 35, 36, 37, 38, 39, 40, 41, 42, 43, 44, 45, 46, 47, 48] (fun (a0 : Nat) (k : Nat) (Z : List Play) => [(7, .int .i64 (a0 : Int)), (8, .int .i64 ((a0 + bs + bs : Nat) : Int))]) (fun (a0 : Nat) (k : Nat) (Z : List Play) => [.arr (.slice (some ⟨b, off, none⟩) n cap) 9 ((Z ++ D.drop a0).map ePlay)]) (fun (a0 : Nat) (k : Nat) (Z : List Play) => a0 = 2 * bs * k ∧ a0 ≤ n ∧ Blk c (bs + bs) Z ∧ Z.length = a0 ∧ Z.Perm (D.take a0)) (fun (a0 : Nat) (k : Nat) (Z : List Play) => n - a0) (0) (0) ([]) ?_ ?_ ?_ ?_
     ·exact ⟨by simp, Nat.zero_le _, Blk.nil, rfl, by simp⟩
     ·exact ⟨rfl, some_int (by omega), trivial⟩
     ·exact perm_eq (by simp)
     ·intro a0 k Z hinv
      obtain ⟨ha0, ha1, hZ, hZl, hZp⟩ := hinv
      refine hw_seq ?_
      refine hw_reg ?_
      refine dp rfl (pop_move rfl) ?_
      refine dp rfl (pop_move rfl) ?_
      refine dp rfl (pop_leq rfl rfl) ?_
      refine dn ?_
      refine hw_cond rfl (fun h5 => ?_) (fun h6 => ?_)
      ·try simp at h5
       refine hw_skip ?_
       refine seqQ_n ?_
       refine hw_block ?_
       refine hw_ghost (Ghost.of_eq (M' := [.arr (.slice (some ⟨b, off, none⟩) n cap) 9 ((Z ++ (D.drop a0).take bs ++ (D.drop (a0 + bs)).take bs ++ D.drop (a0 + bs + bs)).map ePlay)]) (by rw [List.append_assoc (Z ++ _), ← win, List.append_assoc Z, ← win])) ?_
       refine hw_reg ?_
       refine dp rfl (pop_move rfl) ?_
       refine dp rfl (pop_move rfl) ?_
       refine dp rfl (pop_move rfl) ?_
       refine dp rfl (pop_move rfl) ?_
       refine dp rfl (pop_add64 rfl rfl (by omega) (by omega)) ?_
       refine dp rfl (pop_move rfl) ?_
       refine dp rfl (pop_move rfl) ?_
       refine de rfl (eop_callx (i := 0) ca91 rfl (WeakL.refl _) rfl (c_sym_api_Play (A := Z) (X := ((D.drop a0).take bs)) (Y := ((D.drop (a0 + bs)).take bs)) (C := (D.drop (a0 + bs + bs))) (n := n) hca hp hc hl (by first | omega | (simp; omega)) (by first | omega | (simp; omega)) (Nat.le_refl _) (by first | omega | (simp; omega)) (by omega) (by first | omega | (simp; omega)) (by first | omega | (simp; omega)) (hD.at (q := 2 * k) (by rw [ha0, Nat.mul_assoc, Nat.mul_left_comm])) (hD.at (q := 2 * k + 1) (by rw [ha0, Nat.mul_add, Nat.mul_one, Nat.mul_assoc, Nat.mul_left_comm]))) ?_)
       rintro _ _ ⟨Z43, rfl, ⟨hz1, hz2⟩, rfl⟩
       refine dn ?_
       refine hw_reg ?_
       refine dp rfl (pop_move rfl) ?_
       refine dp rfl (pop_assign rfl) ?_
       refine dn ?_
       refine hw_reg1 ?_
       refine dp rfl (pop_move rfl) ?_
       refine dp rfl (pop_move rfl) ?_
       refine dp rfl (pop_mul64 rfl rfl (by omega) (by omega)) ?_
       refine dp rfl (pop_add64 rfl rfl (by omega) (by omega)) ?_
       refine dp rfl (pop_assign rfl) ?_
       refine dn ?_
       refine blockQ_n ?_
       refine ⟨a0 + bs + bs, k + 1, Z ++ Z43, ⟨?_, by omega, hZ.add (k := k) ?_ hz2 ?_, ?_, ?_⟩, by dsimp only; omega, ⟨some_int (by omega), some_int (by omega), trivial⟩, (by repeat (first | exact keeps_refl | refine keeps_upd rfl ?_ | refine keeps_loop rfl rfl ?_)), perm_eq (by simp)⟩
       ·rw [Nat.mul_add, Nat.mul_one, ← ha0]; omega
       ·rw [hZl, ha0, Nat.two_mul]
       ·rw [hz1.length_eq]; simp only [List.length_append, List.length_take]; omega
       ·rw [List.length_append, hz1.length_eq]; simp only [List.length_append, List.length_take, List.length_drop]; omega
       ·rw [Nat.add_assoc, take_add']
        refine hZp.append (hz1.trans ?_)
        rw [take_add', List.drop_drop]
      ·try simp at h6
       refine hw_exit ?_
       refine seqQ_x ?_
       refine loopQ3_x ?_
       refine blockQ_eq ?_
       refine seqQ_n ?_
       refine hw_join [9, 49, 50, 51, 52, 53, 54, 55, 56, 57, 58, 59, 60] (fun (D2 : List Play) => []) (fun (D2 : List Play) => [.arr (.slice (some ⟨b, off, none⟩) n cap) 9 ((D2).map ePlay)]) (fun (D2 : List Play) => Blk c (bs + bs) D2 ∧ D2.Perm l) ?_ ?_
       ·skip
        refine hw_reg ?_
        refine dp rfl (pop_move rfl) ?_
        refine dp rfl (pop_move rfl) ?_
        refine dp rfl (pop_add64 rfl rfl (by omega) (by omega)) ?_
        refine dp rfl (pop_assign rfl) ?_
        refine dn ?_
        refine hw_reg ?_
        refine dp rfl (pop_move rfl) ?_
        refine dp rfl (pop_move rfl) ?_
        refine dp rfl (pop_lss rfl rfl) ?_
        refine dn ?_
        refine hw_cond rfl (fun h7 => ?_) (fun h8 => ?_)
        ·try simp at h7
         refine hw_ghost (Ghost.of_eq (M' := [.arr (.slice (some ⟨b, off, none⟩) n cap) 9 ((Z ++ (D.drop a0).take bs ++ D.drop (a0 + bs) ++ []).map ePlay)]) (by rw [List.append_nil, List.append_assoc Z, ← win])) ?_
         refine hw_reg1 ?_
         refine dp rfl (pop_move rfl) ?_
         refine dp rfl (pop_move rfl) ?_
         refine dp rfl (pop_move rfl) ?_
         refine dp rfl (pop_move rfl) ?_
         refine dp rfl (pop_move rfl) ?_
         refine de rfl (eop_callx (i := 0) ca91 rfl (WeakL.refl _) rfl (c_sym_api_Play (A := Z) (X := ((D.drop a0).take bs)) (Y := (D.drop (a0 + bs))) (C := []) (n := n) hca hp hc hl (by first | omega | (simp; omega)) (by first | omega | (simp; omega)) (Nat.le_refl _) (by first | omega | (simp; omega)) (by omega) (by first | omega | (simp; omega)) (by first | omega | (simp; omega)) (hD.at (q := 2 * k) (by rw [ha0, Nat.mul_assoc, Nat.mul_left_comm])) (hD.last (q := 2 * k + 1) (by rw [ha0, Nat.mul_add, Nat.mul_one, Nat.mul_assoc, Nat.mul_left_comm]) (by omega))) ?_)
         rintro _ _ ⟨Z60, rfl, ⟨hz1, hz2⟩, rfl⟩
         refine dn ?_
         refine ⟨Z ++ Z60, ⟨hZ.add (k := k) ?_ hz2 ?_, ?_⟩, trivial, (by repeat (first | exact keeps_refl | refine keeps_upd rfl ?_ | refine keeps_loop rfl rfl ?_)), perm_eq (by simp)⟩
         ·rw [hZl, ha0, Nat.two_mul]
         ·rw [hz1.length_eq]; simp only [List.length_append, List.length_take, List.length_drop]; omega
         ·have h9 := hZp.append hz1
          rw [← win, List.take_append_drop] at h9
          exact h9.trans hDp
        ·try simp at h8
         refine hw_skip ?_
         refine ⟨Z ++ D.drop a0, ⟨hZ.add (k := k) ?_ (hD.last (q := 2 * k) (by rw [ha0, Nat.mul_assoc, Nat.mul_left_comm]) (by omega)) ?_, ?_⟩, trivial, (by repeat (first | exact keeps_refl | refine keeps_upd rfl ?_ | refine keeps_loop rfl rfl ?_)), List.Perm.refl _⟩
         ·rw [hZl, ha0, Nat.two_mul]
         ·simp only [List.length_drop]; omega
         ·have h9 := hZp.append_right (D.drop a0)
          rw [List.take_append_drop] at h9
          exact h9.trans hDp
       ·intro D2 hD2
        refine hw_reg1 ?_
        refine dp rfl (pop_move rfl) ?_
        refine dp rfl (pop_mul64 rfl rfl (by omega) (by omega)) ?_
        refine dp rfl (pop_assign rfl) ?_
        refine dn ?_
        refine blockQ_n ?_
        exact ⟨bs + bs, D2, ⟨by omega, by omega, hD2.1, hD2.2⟩, by dsimp only; omega, ⟨some_int (by omega), trivial⟩, (by repeat (first | exact keeps_refl | refine keeps_upd rfl ?_ | refine keeps_loop rfl rfl ?_)), List.Perm.refl _⟩
    ·try simp at h4
     have hDs := hD.all (by omega)
     refine hw_exit ?_
     refine seqQ_x ?_
     refine loopQ2_x ?_
     refine blockQ_eq ?_
     exact ret_q rfl ⟨D, rfl, ⟨hDp, hDs⟩, rfl⟩

/-- slices.insertionSortCmpFunc[benchwarmer/api.Play] -/
theorem c_ins0_api_Play [Tracks] {v : Value} {fid : FuncId} {caps : List HVal}  : Con Tryz.prog 90 [.raw v, .int .i64 0, .int .i64 0, .fn (.func fid) [] caps] [.arr v 9 []] (fun x M' => x = .tup [] ∧ M' = [.arr v 9 []]) := by
 refine Con.of_body Tryz.func90 rfl Tryz.ntmps90 rfl rfl ?_
 refine hw_reg ?_
 refine dp rfl (pop_move rfl) ?_
 refine dp rfl (pop_add64 rfl rfl (by omega) (by omega)) ?_
 refine dp rfl (pop_assign rfl) ?_
 refine dn ?_
 refine hw_block ?_
 refine hw_loopw [8, 9, 12, 13, 14, 15, 16, 17, 18, 19, 20, 21, 22, 23, 24, 25, 26, 27, 28, 29, 30, 31, 32, 33, 34, 35, 36, 37, 38, 39, 40, 41, 42, 43, 44, 45, 46, 47, 48, 49, 50, 51, 52] (fun (u : Unit) => [(8, .int .i64 1)]) (fun (u : Unit) => [.arr v 9 []]) (fun (u : Unit) => True) (fun (u : Unit) => 0) (()) ?_ ?_ ?_ ?_
 ·trivial
 ·exact ⟨rfl, trivial⟩
 ·exact List.Perm.refl _
 ·intro u hu
  refine hw_seq ?_
  refine hw_reg ?_
  refine dp rfl (pop_move rfl) ?_
  refine dp rfl (pop_move rfl) ?_
  refine dp rfl (pop_lss rfl rfl) ?_
  refine dn ?_
  refine hw_cond rfl (fun h1 => ?_) (fun h1 => ?_)
  ·exfalso
   try simp at h1
   all_goals omega
  ·try simp at h1
   refine hw_exit ?_
   refine seqQ_x ?_
   refine loopQ_x ?_
   refine blockQ_eq ?_
   exact ret_q rfl ⟨rfl, rfl⟩

/-- slices.stableCmpFunc[benchwarmer/api.Play] -/
theorem c_stable0_api_Play [Tracks] {v : Value} {fid : FuncId} {caps : List HVal}  : Con Tryz.prog 70 [.raw v, .int .i64 0, .fn (.func fid) [] caps] [.arr v 9 []] (fun x M' => x = .tup [] ∧ M' = [.arr v 9 []]) := by
 refine Con.of_body Tryz.func70 rfl Tryz.ntmps70 rfl rfl ?_
 refine hw_reg ?_
 refine dp rfl (pop_assign rfl) ?_
 refine dn ?_
 refine hw_reg ?_
 refine dp rfl (pop_move rfl) ?_
 refine dp rfl (pop_assign rfl) ?_
 refine dp rfl (pop_assign rfl) ?_
 refine dn ?_
 refine hw_seq ?_
 refine hw_block ?_
 refine hw_loopw [7, 8, 11, 12, 13, 14, 15, 16, 17, 18, 19, 20, 21, 22] (fun (u : Unit) => [(7, .int .i64 0), (8, .int .i64 20)]) (fun (u : Unit) => [.arr v 9 []]) (fun (u : Unit) => True) (fun (u : Unit) => 0) (()) ?_ ?_ ?_ ?_
 ·trivial
 ·exact ⟨rfl, rfl, trivial⟩
 ·exact List.Perm.refl _
 ·intro u hu
  refine hw_seq ?_
  refine hw_reg ?_
  refine dp rfl (pop_move rfl) ?_
  refine dp rfl (pop_move rfl) ?_
  refine dp rfl (pop_leq rfl rfl) ?_
  refine dn ?_
  refine hw_cond rfl (fun h1 => ?_) (fun h1 => ?_)
  ·exfalso
   try simp at h1
   all_goals omega
  ·try simp at h1
   refine hw_exit ?_
   refine seqQ_x ?_
   refine loopQ_x ?_
   refine blockQ_eq ?_
   refine seqQ_n ?_
   refine hw_reg ?_
   refine dp rfl (pop_move rfl) ?_
   refine dp rfl (pop_move rfl) ?_
   refine dp rfl (pop_move rfl) ?_
   refine dp rfl (pop_move rfl) ?_
   refine de rfl (eop_callx (i := 0) ca90 rfl (WeakL.refl _) rfl c_ins0_api_Play ?_)
   rintro _ _ ⟨rfl, rfl⟩
   refine dn ?_
   refine hw_block ?_
   refine hw_loopw [6, 7, 8, 9, 28, 29, 30, 31, 32, 33, 34, 35, 36, 37, 38, 39, 40, 41, 42, 43, 44, 45, 46, 47, 48, 49, 50, 51, 52, 53, 54, 55, 56, 57, 58, 59, 60, 61, 62] (fun (u : Unit) => [(6, .int .i64 20)]) (fun (u : Unit) => [.arr v 9 []]) (fun (u : Unit) => True) (fun (u : Unit) => 0) (()) ?_ ?_ ?_ ?_
   ·trivial
   ·exact ⟨rfl, trivial⟩
   ·exact List.Perm.refl _
   ·intro u hu
    refine hw_seq ?_
    refine hw_reg ?_
    refine dp rfl (pop_move rfl) ?_
    refine dp rfl (pop_move rfl) ?_
    refine dp rfl (pop_lss rfl rfl) ?_
    refine dn ?_
    refine hw_cond rfl (fun h2 => ?_) (fun h2 => ?_)
    ·exfalso
     try simp at h2
     all_goals omega
    ·try simp at h2
     refine hw_exit ?_
     refine seqQ_x ?_
     refine loopQ_x ?_
     refine blockQ_eq ?_
     exact ret_q rfl ⟨rfl, rfl⟩

/-- slices.SortStableFunc[[]benchwarmer/api.Play,benchwarmer/api.Play] -/
theorem c_sstable0_api_Play [Tracks] {fid : FuncId} {caps : List HVal}  : Con Tryz.prog 38 [.raw (.slice none 0 0), .fn (.func fid) [] caps] [.arr (.slice none 0 0) 9 []] (fun x M' => x = .tup [] ∧ M' = [.arr (.slice none 0 0) 9 []]) := by
 refine Con.of_body Tryz.func38 rfl Tryz.ntmps38 rfl rfl ?_
 refine hw_reg1 ?_
 refine dp rfl (pop_move rfl) ?_
 refine dp rfl (pop_move rfl) ?_
 refine dp rfl (pop_len_raw ty26 rfl) ?_
 refine dp rfl (pop_move rfl) ?_
 refine de rfl (eop_callx (i := 0) ca70 rfl (WeakL.refl _) rfl c_stable0_api_Play ?_)
 rintro _ _ ⟨rfl, rfl⟩
 refine dn ?_
 exact ret_q rfl ⟨rfl, rfl⟩

/-- slices.SortStableFunc[[]benchwarmer/api.Play,benchwarmer/api.Play] -/
theorem c_sstable1_api_Play [Tracks] {l : List Play} {n b off cap : Nat} {fid : FuncId} {caps : List HVal} {c : Play → Play → Int} (hca : Callable Tryz.prog fid) (hp : ∀ x y, ConP Tryz.prog fid ([ePlay x, ePlay y] ++ caps) (.int .i64 (c x y))) (hc : Cmp c fun _ => True) (hn : l.length = n) (hl : n ≤ 1000000) : Con Tryz.prog 38 [.raw (.slice (some ⟨b, off, none⟩) n cap), .fn (.func fid) [] caps] [.arr (.slice (some ⟨b, off, none⟩) n cap) 9 ((l).map ePlay)] (fun x M' => ∃ Z : List Play, x = .tup [] ∧ (Z.Perm l ∧ Srt c Z) ∧ M' = [.arr (.slice (some ⟨b, off, none⟩) n cap) 9 ((Z).map ePlay)]) := by
 refine Con.of_body Tryz.func38 rfl Tryz.ntmps38 rfl rfl ?_
 refine hw_reg1 ?_
 refine dp rfl (pop_move rfl) ?_
 refine dp rfl (pop_move rfl) ?_
 refine dp rfl (pop_len_raw ty26 rfl) ?_
 refine dp rfl (pop_move rfl) ?_
 refine de rfl (eop_callx (i := 0) ca70 rfl (WeakL.refl _) rfl (c_stable_api_Play hca hp hc hn rfl hl) ?_)
 rintro _ _ ⟨Z, rfl, hz, rfl⟩
 refine dn ?_
 exact ret_q rfl ⟨Z, rfl, hz, rfl⟩

theorem c_sstable_api_Play [Tracks] {l : List Play} {v : Value} {fid : FuncId} {caps : List HVal} {c : Play → Play → Int} (hca : Callable Tryz.prog fid) (hp : ∀ x y, ConP Tryz.prog fid ([ePlay x, ePlay y] ++ caps) (.int .i64 (c x y))) (hc : Cmp c fun _ => True) (hl : l.length ≤ 1000000) : Con Tryz.prog 38 [.raw v, .fn (.func fid) [] caps] [.arr v 9 (l.map ePlay)] fun x M' => ∃ Z : List Play, x = .tup [] ∧ (Z.Perm l ∧ Srt c Z) ∧ M' = [.arr v 9 (Z.map ePlay)] :=
 con_arrc (fun h1 h2 => by
  have h3 : l = [] := by simpa using h2
  subst h1 h3
  exact c_sstable0_api_Play.mono fun x M' ⟨e1, e2⟩ => ⟨[], e1, ⟨List.Perm.refl _, Srt.nil⟩, e2⟩)
  fun b off cap h1 => by
   rw [List.length_map] at h1
   subst h1
   exact c_sstable1_api_Play hca hp hc rfl hl
end Go.Proofs.YtlankmahpaenhaaGreatDoor
end
section
namespace Go.HL
section
variable {P : Program} {e : Env} {dst : Option Tmp} {ty : TypeId} {pos : String} {af : Array Edge} {g : Option (Nat × Bool)} {M : List MObj} {K : HVal → List MObj → Prop}
theorem pop_capraw [Tracks] {x : Operand} {t el : TypeId} {size bytes : Nat} {zero : Value} {p : Option Addr} {n c : Nat} (hf : Fits P t (.slice el) size bytes zero) (hx : evalO e x = some (.raw (.slice p n c))) :
 POp P e ⟨dst, .call ⟨.builtin .cap, #[x], #[t]⟩, ty, pos, af, g⟩ (.int .i64 c) :=
 POp.of_val fun I a w ho => by
  have h1 := (ho.one (x := x) (by simp [Op.operands, Call.operands]) hx).raw_inv
  exact ⟨_, by simp [execOp, resolve, invoke, builtin, Builtin.cap_, h1, run_underlying hf.slice, goInt], .int _ _⟩
theorem pop_slnil [Tracks] {x y : Operand} {t el : TypeId} {size bytes s2 b2 : Nat} {zero z2 : Value} {d : TD} (hf : Fits P t (.slice el) size bytes zero) (hel : Fits P el d s2 b2 z2) (hx : evalO e x = some (.raw (.slice none 0 0))) (hy : evalO e y = some (.int .i64 0)) :
 POp P e ⟨dst, .slice t x none (some y) none, ty, pos, af, g⟩ (.raw (.slice none 0 0)) :=
 POp.of_val fun I a w ho => by
  have h1 := (ho.one (x := x) (by simp [Op.operands]) hx).raw_inv
  have h2 := (ho.one (x := y) (by simp [Op.operands]) hy).int_inv
  exact ⟨_, by simp [execOp, h1, h2, Instr.sliceAt, Instr.slice, Instr.sliceBounds, Instr.sliceBound, asIntOf, run_underlying hf.slice, hel.run_sizeOf], .raw _ rfl⟩
/-- append(nil, make([]T, n)...). -/
theorem eop_appendmk [Tracks] {x y : Operand} {t el it : TypeId} {size bytes sz b2 s3 b3 n : Nat} {zero z2 z3 : Value} {d : TD} {q : Int}
 (hf : Fits P t (.slice el) size bytes zero) (hel : Fits P el d sz b2 z2) (hit : Fits P it (.int .i64) s3 b3 z3) (hz : z2.cells.size = sz) (hby : Nat.ble b2 100000 = true)
 (hx : evalO e x = some (.raw (.slice none 0 0))) (hy : evalO e y = some (.int .i64 q)) (hq : q = (n : Int)) (hn : n ≤ 1000000) (h0 : 0 < n)
 (hk : ∀ b nc cells, n ≤ nc → nc ≤ 9223372036854775807 → cells.size = nc * sz → K (.raw (.slice (some ⟨b, 0, none⟩) n nc)) (.obj b (.cells cells el (0, 0)) :: M)) :
 EOp P e M ⟨dst, .call ⟨.builtin .append, #[x, y], #[t, it]⟩, ty, pos, af, g⟩ K :=
 EOp.of_run fun I F a w ho hs => by
  subst hq
  have h1 := (ho.one (x := x) (by simp [Op.operands, Call.operands]) hx).raw_inv
  have h2 := (ho.one (x := y) (by simp [Op.operands, Call.operands]) hy).int_inv
  let nc := (Question.appendCap n 0 el).cut (w.tape w.drawn (.appendCap n 0 el))
  have hnc : n ≤ nc := by simp only [nc, Question.cut]; omega
  have hnm : nc ≤ 9223372036854775807 := by
   simp only [nc, Question.cut]
   have := Nat.mod_lt (w.tape w.drawn (.appendCap n 0 el)) (show 0 < 2 ^ 63 - n by omega)
   omega
  let cells : Array Value := #[] ++ Builtin.zeroCells z2.cells n ++ Builtin.zeroCells z2.cells (nc - n)
  have hcs : cells.size = nc * sz := by
   simp only [cells, Array.size_append, zeroCells_size, hz, List.size_toArray, List.length_nil]
   rw [Nat.zero_add, ← Nat.add_mul]; congr 1; omega
  have hsz0 : ¬ n * sz = 0 ∨ Builtin.zeroCells z2.cells n = #[] := by
   by_cases h : n * sz = 0
   ·right; apply Array.eq_empty_of_size_eq_zero; rw [zeroCells_size, hz, h]
   ·exact .inl h
  obtain ⟨ti, t1, t2, t3, t4⟩ := hel.typeInfo
  have hti : ∀ w1, (Go.typeInfo el).run P w1 = .ok ti w1 := fun w1 => by simp [Go.typeInfo, t1]
  have hwr : IntKind.i64.wrap (n : Int) = (n : Int) := wrap64 (by omega) (by omega)
  have hb0 : ¬ ((n : Int) * (b2 : Int) > 2 ^ 48) := by
   have e2 : b2 ≤ 100000 := Nat.le_of_ble_eq_true hby
   have : n * b2 ≤ 1000000 * 100000 := Nat.mul_le_mul hn e2
   have h9 : ((n * b2 : Nat) : Int) = (n : Int) * (b2 : Int) := Int.natCast_mul _ _
   omega
  have hb2 : ¬ ((n : Int) > IntKind.i64.max) := by
   have : IntKind.i64.max = 9223372036854775807 := by decide
   rw [this]; omega
  have hb3 : ¬ Builtin.nextslicecap n 0 * b2 > 2 ^ 48 := by
   have e1 := nextslicecap_le (need := n) (cap := 0) h0
   have e2 : b2 ≤ 100000 := Nat.le_of_ble_eq_true hby
   have : Builtin.nextslicecap n 0 * b2 ≤ (2 * 1000000 + 192) * 100000 := Nat.mul_le_mul (by omega) e2
   omega
  have hch : (choose (.appendCap n 0 el)).run P w = .ok nc { w with drawn := w.drawn + 1 } := by simp [Question.forced, nc]
  refine ⟨.slice (some ⟨w.heap.size, 0, none⟩) n nc, _, _, { w with heap := w.heap.push (.cells cells el (0, 0)), drawn := w.drawn + 1 }, I, ?_, .refl I, hk w.heap.size nc cells hnc hnm hcs, .raw _ rfl, ?_⟩
  ·have hap : ∀ w1 : World, ((if n * sz = 0 then pure #[] else do pure (Builtin.zeroCells (← zeroValue el).cells n) : Sem (Array Value))).run P w1 = .ok (Builtin.zeroCells z2.cells n) w1 := fun w1 => by
    rcases hsz0 with h | h
    ·rw [if_neg h]; simp [hel.run_zero]
    ·by_cases h' : n * sz = 0
     ·rw [if_pos h', h]; simp
     ·rw [if_neg h']; simp [hel.run_zero]
   rw [run_append]
   simp only [List.map_toArray, List.map_cons, List.map_nil, h1, h2, Builtin.append_, List.getElem?_toArray, List.getElem?_cons_zero, List.getElem?_cons_succ, Sem.run_bind, run_underlying hf.slice, run_underlying hit.intD, Result.andThen_ok,
    hel.run_sizeOf, Sem.run_pure, if_true, asInt, hwr, hti, t3]
   have hai : ∀ w1 : World, (asIntOf (Value.int IntKind.i64 (n : Int))).run P w1 = .ok (.i64, (n : Int)) w1 := fun w1 => by simp [asIntOf]
   simp only [hai, Result.andThen_ok, hwr]
   rw [if_neg (show ¬ (n : Int) < 0 by omega)]
   simp only [Sem.run_bind, hti, Result.andThen_ok, t3, Sem.run_pure]
   rw [if_neg hb0]
   simp only [Sem.run_bind, hti, Result.andThen_ok, t3, Sem.run_pure, Int.toNat_natCast, Nat.zero_add]
   rw [if_neg (show ¬ n ≤ 0 by omega)]
   simp only [Sem.run_bind, hti, Result.andThen_ok, t3, Sem.run_pure]
   rw [if_neg (fun h => hb2 h.1)]
   simp only [Sem.run_bind, hti, Result.andThen_ok, t3, Sem.run_pure]
   rw [if_neg hb3]
   simp only [Sem.run_bind, Sem.run_pure, hch, Result.andThen_ok, hti, run_askRoom, Builtin.firstCells, Bool.not_true, Bool.false_eq_true, if_false, hap, hel.run_zero, newRow, run_newObj]
   rfl
  ·have hs1 : Sat P I (M ++ F) { w with drawn := w.drawn + 1 } := hs.of_same (fun _ _ => rfl) (fun _ _ => rfl) rfl rfl rfl
   exact hs1.new_own (.cells cells el (0, 0)) (.obj w.heap.size (.cells cells el (0, 0))) rfl (by simp [MSat, push])
end
/-- New cells of which none is in use. -/
theorem Ghost.objarr [Tracks] {e : Env} {M : List MObj} {b nc sz : Nat} {cells : Array Value} {el : TypeId} (hc : cells.size = nc * sz) (hn : nc ≤ 9223372036854775807) : Ghost e (.obj b (.cells cells el (0, 0)) :: M) e (.arr (.slice (some ⟨b, 0, none⟩) 0 nc) sz [] :: M) := fun _ I F tmps w h1 hs => by
 refine ⟨I, .refl I, h1, Sat.change (m := .obj b (.cells cells el (0, 0))) hs (fun _ _ _ => rfl) (fun x hx => .inl hx) (by simp [MObj.blocks]) ?_ rfl rfl rfl⟩
 have := hs.obj (.obj b (.cells cells el (0, 0))) (by simp)
 exact .inr ⟨b, 0, nc, cells, el, (0, 0), rfl, this, Free.zero _, by simp, ⟨Nat.zero_le _, hn⟩, by omega, by simp⟩
theorem flat_take_snoc {α : Type} {LL : List (List α)} {i : Nat} {x : List α} (hx : LL[i]? = some x) : (LL.take (i + 1)).flatten.length = (LL.take i).flatten.length + x.length := by
 rw [List.take_add_one, hx]; simp
theorem flat_take_app {α : Type} {LL : List (List α)} {i : Nat} {x : List α} (hx : LL[i]? = some x) : (LL.take (i + 1)).flatten = (LL.take i).flatten ++ x := by
 rw [List.take_add_one, hx]; simp
theorem flat_take_le {α : Type} (LL : List (List α)) (i : Nat) : (LL.take i).flatten.length ≤ LL.flatten.length := by
 have := congrArg (fun q => q.flatten.length) (List.take_append_drop i LL)
 simp only [List.flatten_append, List.length_append] at this
 omega
end Go.HL
end
section
namespace Go.HL
/-! one list of statistics by name -/
structure StOk (l : List StatS) : Prop where
 nd : (l.map (·.Name)).Nodup
 nz : ∀ x ∈ l, x.Count ≠ 0
theorem StOk.nodup {l : List StatS} (h : StOk l) : l.Nodup := (List.pairwise_map.1 h.nd).imp fun h e => h (congrArg _ e)
theorem StOk.put {x : MendS} {l : List StatS} (h : StOk l) : StOk (mdPut x l) where
 nd := mdPut_names h.nd
 nz y hy := by
  unfold mdPut at hy
  rcases List.mem_append.1 hy with hy | hy
  ·exact h.nz y (List.mem_filter.1 hy).1
  ·split at hy
   ·rename_i hc; rw [List.mem_singleton.1 hy]; exact hc
   ·cases hy
theorem StOk.nil : StOk [] := ⟨List.nodup_nil, fun x h => by cases h⟩
/-! all lists by place -/
structure GSOk (G : GrS) : Prop where
 nd : ANodup G
 ok : ∀ q ∈ G, StOk q.2
theorem GSOk.get {G : GrS} (h : GSOk G) (p : Plc) : StOk ((alk p G).getD []) := by
 cases hq : alk p G with
 | none => exact StOk.nil
 | some l => exact h.ok _ (alk_of_mem hq)
theorem GSOk.step {n : Int} {G : GrS} {x : MendS} (h : GSOk G) : GSOk (mdStep n G x) := by
 unfold mdStep; split
 ·exact h
 ·refine ⟨h.nd.put, fun q hq => ?_⟩
  rcases mem_aput hq with rfl | hq
  ·exact (h.get _).put
  ·exact h.ok q hq
structure GVal (G : GrS) : Prop where
 pl : ∀ q ∈ G, key q.1.1 = true ∧ weekB q.1.2 = true
 st : ∀ q ∈ G, ∀ s ∈ q.2, key s.Name = true ∧ (-100000 ≤ s.Count ∧ s.Count ≤ 100000)
theorem GVal.step {n : Int} {G : GrS} {x : MendS} (h : GVal G) (hx : mendFault x = 0) : GVal (mdStep n G x) := by
 obtain ⟨k1, k2, k3, k4, _⟩ := mendFault_ok hx
 unfold mdStep; split
 ·exact h
 ·refine ⟨fun q hq => ?_, fun q hq s hs => ?_⟩
  ·rcases mem_aput hq with rfl | hq
   ·exact ⟨k1, k3⟩
   ·exact h.pl q hq
  ·rcases mem_aput hq with rfl | hq
   ·unfold mdPut at hs
    rcases List.mem_append.1 hs with hs | hs
    ·have h1 := (List.mem_filter.1 hs).1
     cases ha : alk (x.Player, x.Week) G with
     | none => rw [ha] at h1; cases h1
     | some l => rw [ha] at h1; exact h.st _ (alk_of_mem ha) s h1
    ·split at hs
     ·rw [List.mem_singleton.1 hs]; exact ⟨k2, k4⟩
     ·cases hs
   ·exact h.st q hq s hs
end Go.HL
end
section
namespace Go.HL
/-! mends as they are made up -/
theorem GLok.mono {α : Type} {P : α → Prop} {n n' m m' : Nat} {q : GL α} (h : GLok P n m q) (hn : n ≤ n') (hm : m ≤ m') : GLok P n' m' q := ⟨Nat.le_trans h.len hn, h.all, Nat.le_trans h.a hm⟩
/-! the lines of plays, with mends -/
end Go.HL
end
section
namespace Go.HL
structure Half (a b l : List Play) : Prop where
 sa : a.Sublist l
 sb : b.Sublist l
 all : ∀ x ∈ l, x ∈ a ∨ x ∈ b
theorem Half.nil : Half [] [] [] := ⟨List.Sublist.refl _, List.Sublist.refl _, fun x h => by cases h⟩
theorem Half.both {a b l : List Play} (h : Half a b l) (x : Play) : Half (a ++ [x]) (b ++ [x]) (l ++ [x]) :=
 ⟨h.sa.append (List.Sublist.refl _), h.sb.append (List.Sublist.refl _), fun y hy => by
  rcases List.mem_append.1 hy with hy | hy
  ·rcases h.all y hy with q | q
   ·exact .inl (List.mem_append_left _ q)
   ·exact .inr (List.mem_append_left _ q)
  ·exact .inl (List.mem_append_right _ hy)⟩
theorem Half.left {a b l : List Play} (h : Half a b l) (x : Play) : Half (a ++ [x]) b (l ++ [x]) :=
 ⟨h.sa.append (List.Sublist.refl _), h.sb.trans (List.sublist_append_left _ _), fun y hy => by
  rcases List.mem_append.1 hy with hy | hy
  ·rcases h.all y hy with q | q
   ·exact .inl (List.mem_append_left _ q)
   ·exact .inr q
  ·exact .inl (List.mem_append_right _ hy)⟩
theorem Half.right {a b l : List Play} (h : Half a b l) (x : Play) : Half a (b ++ [x]) (l ++ [x]) :=
 ⟨h.sa.trans (List.sublist_append_left _ _), h.sb.append (List.Sublist.refl _), fun y hy => by
  rcases List.mem_append.1 hy with hy | hy
  ·rcases h.all y hy with q | q
   ·exact .inl q
   ·exact .inr (List.mem_append_left _ q)
  ·exact .inr (List.mem_append_right _ hy)⟩
end Go.HL
end
section
namespace Go.HL
structure DisOk (q : DisS) (n : Nat) : Prop where
 c : ANodup q.c
 S : q.S.Nodup
 k : ∀ s ∈ q.S, s.length ≤ 40
 cl : q.c.length ≤ n
 Sl : q.S.length ≤ n
 bd : ∀ e ∈ q.c, -(100000 * (n : Int)) ≤ e.2 ∧ e.2 ≤ 100000 * (n : Int)
theorem DisOk.val {q : DisS} {n : Nat} (h : DisOk q n) (s : Str × Of2) : -(100000 * (n : Int)) ≤ (alk s q.c).getD 0 ∧ (alk s q.c).getD 0 ≤ 100000 * (n : Int) := by
 cases hq : alk s q.c with
 | none => simp; omega
 | some v => exact h.bd _ (alk_of_mem hq)
theorem DisOk.up {q : DisS} {n : Nat} (h : DisOk q n) : DisOk q (n + 1) :=
 ⟨h.c, h.S, h.k, by have := h.cl; omega, by have := h.Sl; omega, fun e he => by have := h.bd e he; omega⟩
theorem DisOk.sput {q : DisS} {n : Nat} (h : DisOk q n) {p : Play} (hp : playFault p = 0) : DisOk ⟨sadd p.Source q.S, q.c⟩ (n + 1) := by
 refine ⟨h.c, sadd_nodup h.S, fun s hs => ?_, by have := h.cl; dsimp only; omega, Nat.le_trans (sadd_le _ _) (by have := h.Sl; omega), fun e he => by have := h.bd e he; omega⟩
 rcases mem_sadd.1 hs with rfl | hs
 ·exact key_len (playFault_ok hp).1
 ·exact h.k s hs
theorem DisOk.put {q : DisS} {n : Nat} (h : DisOk q n) {p : Play} (hp : playFault p = 0) : DisOk ⟨sadd p.Source q.S, disPut q p⟩ (n + 1) := by
 have hs := h.sput hp
 obtain ⟨_, _, _, _, _, hb, _⟩ := playFault_ok hp
 have hv := h.val (disKey p)
 refine ⟨h.c.put, hs.S, hs.k, Nat.le_trans (aput_le _ _ _) (by have := h.cl; omega), hs.Sl, fun e he => ?_⟩
 rcases mem_aput he with rfl | he
 ·dsimp only; omega
 ·have := h.bd e he; omega
end Go.HL
end
section
namespace Go.HL
end Go.HL
end
section
namespace Go.HL
theorem uniqO_snoc (x : Of2) : ∀ (A : List Of2) (p : Option Of2), uniqO p (A ++ [x]) = uniqO p A ++ if (A.getLast?.or p) = some x then [] else [x]
 | [], p => by
   by_cases h : p = some x <;> simp [uniqO, h]
 | y :: A, p => by
   have ih := uniqO_snoc x A (some y)
   have e : ((y :: A).getLast?.or p) = (A.getLast?.or (some y)) := by
    cases A with
    | nil => simp
    | cons z A => simp [List.getLast?_cons_cons, List.getLast?_cons]
   simp only [List.cons_append, uniqO]
   rw [e, ih]
   split <;> simp
theorem uniqO_step {l : List Of2} {k : Nat} {x y : Of2} (hx : l[k]? = some x) (hy : l[k - 1]? = some y) (h0 : 0 < k) : uniqO none (l.take (k + 1)) = uniqO none (l.take k) ++ if x = y then [] else [x] := by
 have hk := lt_of_get hx
 rw [take_snoc' hx, uniqO_snoc]
 have e : ((l.take k).getLast?.or none) = some y := by
  rw [List.getLast?_eq_getElem?, List.length_take, Nat.min_eq_left (by omega), List.getElem?_take_of_lt (by omega), hy]; rfl
 rw [e]
 by_cases h : x = y
 ·rw [if_pos h, if_pos (by rw [h])]
 ·rw [if_neg h, if_neg (by simpa using fun q : y = x => h q.symm)]
structure CmpO (l : List Of2) (j : Nat) (D : List Of2) : Prop where
 len : D.length = l.length
 lo : D.take (uniqO none (l.take j)).length = uniqO none (l.take j)
 lt : (uniqO none (l.take j)).length < j
 hi : ∀ i, j ≤ i + 1 → D[i]? = l[i]?
theorem CmpO.start {l : List Of2} {k : Nat} {x y : Of2} (hx : l[k]? = some x) (hy : l[k - 1]? = some y) (h0 : 0 < k) (e : x = y) (h : uniqO none (l.take k) = l.take k) : CmpO l (k + 1) l ∧ (uniqO none (l.take (k + 1))).length = k := by
 have hk := lt_of_get hx
 have h1 : uniqO none (l.take (k + 1)) = l.take k := by rw [uniqO_step hx hy h0, if_pos e, h]; simp
 have h2 : (l.take k).length = k := by rw [List.length_take]; omega
 exact ⟨⟨rfl, by rw [h1, h2], by rw [h1, h2]; omega, fun _ _ => rfl⟩, by rw [h1, h2]⟩
theorem CmpO.same {l D : List Of2} {j : Nat} (h : CmpO l j D) {x y : Of2} (hx : l[j]? = some x) (hy : l[j - 1]? = some y) (e : x = y) : CmpO l (j + 1) D ∧ (uniqO none (l.take (j + 1))).length = (uniqO none (l.take j)).length := by
 have h0 := h.lt
 have h1 : uniqO none (l.take (j + 1)) = uniqO none (l.take j) := by rw [uniqO_step hx hy (by omega), if_pos e]; simp
 exact ⟨⟨h.len, by rw [h1]; exact h.lo, by rw [h1]; omega, fun i hi => h.hi i (by omega)⟩, by rw [h1]⟩
end Go.HL
end
section
namespace Go.HL
theorem eqStats_refl : ∀ l : List StatS, eqSts eStat l l = true
 | [] => rfl
 | a :: r => by simp [eqSts, eqSt, eqStats_refl r, hcells, eqHL, eqH]
def byLn (a b : LineS) : Int := orI [cmpS a.Player b.Player, cmpI a.Week b.Week]
theorem byLn_refl (x : LineS) : byLn x x = 0 := by
 unfold byLn; rw [orI2, if_neg (by simp [cmpS_zero]), cmpI_zero]
end Go.HL
end
section
namespace Go.HL
theorem und_at {l : List Play} {n : Int} {k : Nat} {x : Play} (h : l[k]? = some x) : undAt l n k = (alk (x.Source, x.No) (goneL l n)).getD false := by
 have e : l.getD k play0 = x := by rw [List.getD_eq_getElem?_getD, h]; rfl
 unfold undAt isGone; rw [e]
theorem play_any (t : Play) (l : List Play) : (l.any fun y => eqSt ePlay t y) = decide (t ∈ l) := by
 rw [Bool.eq_iff_iff, decide_eq_true_iff, List.any_eq_true]
 constructor
 ·rintro ⟨y, hy, e⟩
  rw [(eqPlay_is t y).1 e]; exact hy
 ·intro h; exact ⟨t, h, (eqPlay_is t t).2 rfl⟩
theorem GoodPl.of_half {a b l : List Play} (h : GoodPl l) (hh : Half a b l) : GoodPl a ∧ GoodPl b :=
 ⟨⟨Nat.le_trans hh.sa.length_le h.len, fun x hx => h.all x (hh.sa.subset hx)⟩, ⟨Nat.le_trans hh.sb.length_le h.len, fun x hx => h.all x (hh.sb.subset hx)⟩⟩
/-! the law of plays kept, case by case -/
def LackE (a b : List Play) : Int := orI [playsE a, playsE b]
def LackL (a b : List Play) : List Play := if orI [playsE a, playsE b] ≠ 0 then [] else lackL a b
theorem LackL_len (a b : List Play) : (LackL a b).length ≤ b.length := by
 unfold LackL; split
 ·exact Nat.zero_le _
 ·exact lack_len a b
abbrev atEnd : Int := 345686400000
def UndL (a : List Play) : List Int := if playsE a ≠ 0 then [] else undI a atEnd a.length
theorem und_good {a : List Play} (h : playsE a = 0) : UndL a = undI a atEnd a.length ∧ OneKey a := ⟨by rw [UndL, if_neg (by simp [h])], plays_one h⟩
theorem und_bad {a : List Play} (h : playsE a ≠ 0) : UndL a = [] := by rw [UndL, if_pos h]
/-! the law of feeds -/
end Go.HL
end
section
namespace Go.Proofs.YtlankmahpaenhaaGreatDoor
open Go.HL
set_option maxRecDepth 100000
set_option linter.unusedVariables false
set_option linter.unusedSimpArgs false
theorem ok30 [Tracks] : KeyOk Tryz.prog 30 ePlay := keyOk_struct (cs := fun x : Play => hcells (ePlay x)) ty30 eq30 (fun x y => ⟨rfl, ⟨_, _, _, _, ty9, rfl⟩, ⟨rfl, ⟨_, _, _, _, ty3, rfl⟩, ⟨rfl, ⟨_, _, _, _, ty3, rfl⟩, ⟨rfl, ⟨_, _, _, _, ty3, rfl⟩, ⟨rfl, ⟨_, _, _, _, ty9, rfl⟩, ⟨rfl, ⟨_, _, _, _, ty9, rfl⟩, ⟨rfl, ⟨_, _, _, _, ty9, rfl⟩, ⟨rfl, ⟨_, _, _, _, ty3, rfl⟩, ⟨rfl, ⟨_, _, _, _, ty3, rfl⟩, trivial⟩⟩⟩⟩⟩⟩⟩⟩⟩)
 (fun x y => by rw [Bool.eq_iff_iff, decide_eq_true_iff]; exact eqPlay_is x y) (fun x => rfl)

/-- slices.Grow[[]benchwarmer/api.Play,benchwarmer/api.Play] -/
theorem c_grow_Play [Tracks] {n : Nat} (hn : n ≤ 1000000) : Con Tryz.prog 69 [.raw (.slice none 0 0), .int .i64 (n : Int)] [] (fun x M' => ∃ u, x = .raw u ∧ M' = [.arr u 9 []]) := by
 refine Con.of_body Tryz.func69 rfl Tryz.ntmps69 rfl rfl ?_
 refine hw_reg ?_
 refine dp rfl (pop_assign rfl) ?_
 refine dn ?_
 refine hw_seq ?_
 refine hw_reg ?_
 refine dp rfl (pop_move rfl) ?_
 refine dp rfl (pop_lss rfl rfl) ?_
 refine dn ?_
 refine hw_cond rfl (fun h1 => ?_) (fun h1 => ?_)
 ·exfalso
  try simp at h1
  omega
 ·try simp at h1
  refine hw_skip ?_
  refine seqQ_n ?_
  refine hw_seq ?_
  refine hw_reg ?_
  refine dp rfl (pop_move rfl) ?_
  refine dp rfl (pop_move rfl) ?_
  refine dp rfl (pop_capraw ty26 rfl) ?_
  refine dp rfl (pop_move rfl) ?_
  refine dp rfl (pop_len_raw ty26 rfl) ?_
  refine dp rfl (pop_sub64 rfl rfl (by omega) (by omega)) ?_
  refine dp rfl (pop_sub64 rfl rfl (by omega) (by omega)) ?_
  refine dp rfl (pop_assign rfl) ?_
  refine dn ?_
  refine hw_reg ?_
  refine dp rfl (pop_move rfl) ?_
  refine dp rfl (pop_gtr rfl rfl) ?_
  refine dn ?_
  refine hw_cond rfl (fun h2 => ?_) (fun h3 => ?_)
  ·try simp at h2
   refine hw_reg1 ?_
   refine dp rfl (pop_move rfl) ?_
   refine dp rfl (pop_move rfl) ?_
   refine dp rfl (pop_capraw ty26 rfl) ?_
   refine dp rfl (pop_slnil ty26 ty30 rfl rfl) ?_
   refine dp rfl (pop_move rfl) ?_
   refine de rfl (eop_appendmk (n := n) ty26 ty30 ty3 rfl rfl rfl rfl (by omega) (by omega) (by omega) fun b nc cells hnc hnm hcs => ?_)
   refine dp rfl (pop_move rfl) ?_
   refine dp rfl (pop_len_raw ty26 rfl) ?_
   refine dp rfl (pop_slraw0 (h := 0) ty26 ty30 rfl ⟨_, _, rfl, rfl⟩ (by omega)) ?_
   refine dp rfl (pop_assign rfl) ?_
   refine dn ?_
   refine seqQ_n ?_
   refine hw_reg ?_
   refine dp rfl (pop_move rfl) ?_
   refine dp rfl (pop_assign rfl) ?_
   refine dn ?_
   refine hw_ret ?_
   first
   | exact ret_g (Ghost.objarr hcs hnm) rfl ⟨_, rfl, rfl⟩
   | exact ret_g (Ghost.arr_nil 9) rfl ⟨_, rfl, rfl⟩
  ·try simp at h3
   refine hw_skip ?_
   refine seqQ_n ?_
   refine hw_reg ?_
   refine dp rfl (pop_move rfl) ?_
   refine dp rfl (pop_assign rfl) ?_
   refine dn ?_
   refine hw_ret ?_
   first
   | exact ret_g (Ghost.objarr hcs hnm) rfl ⟨_, rfl, rfl⟩
   | exact ret_g (Ghost.arr_nil 9) rfl ⟨_, rfl, rfl⟩

/-- slices.Concat[[]benchwarmer/api.Play,benchwarmer/api.Play] -/
theorem c_concat_Play [Tracks] {LL : List (List Play)} (hl : LL.length ≤ 1000) (hs : LL.flatten.length ≤ 100000) : ConA Tryz.prog 37 [.slice 1 (LL.map fun l => HVal.slice 9 (l.map ePlay))] 9 (LL.flatten.map ePlay) := by
 refine Con.of_body Tryz.func37 rfl Tryz.ntmps37 rfl rfl ?_
 refine hw_reg ?_
 refine dp rfl (pop_assign rfl) ?_
 refine dn ?_
 refine hw_reg ?_
 refine dp rfl (pop_assign rfl) ?_
 refine dn ?_
 refine hw_seq ?_
 refine hw_reg ?_
 refine dp rfl (pop_move rfl) ?_
 refine dp rfl (pop_lenm (f := fun l : List Play => HVal.slice 9 (l.map ePlay)) (l := LL) ty104 rfl) ?_
 refine dp rfl (pop_move rfl) ?_
 refine dn ?_
 refine hw_block ?_
 refine hw_loopw [3, 5, 11, 12, 13, 14, 15, 16, 17, 18, 19, 20, 21, 22] (fun (i : Nat) => [(11, .int .i64 i), (3, .int .i64 ((LL.take i).flatten.length : Int))]) (fun (i : Nat) => []) (fun (i : Nat) => i ≤ LL.length ∧ (True)) (fun (i : Nat) => LL.length - i) (0) ?_ ?_ ?_ ?_
 ·exact ⟨Nat.zero_le _, trivial⟩
 ·exact ⟨rfl, rfl, trivial⟩
 ·exact List.Perm.refl _
 ·intro i hinv
  obtain ⟨hi, -⟩ := hinv
  refine hw_reg ?_
  refine dp rfl (pop_lss rfl rfl) ?_
  refine dn ?_
  refine hw_seq ?_
  refine hw_cond rfl (fun h1 => ?_) (fun h2 => ?_)
  ·try simp at h1
   obtain ⟨x, hx⟩ : ∃ x, LL[i]? = some x := ⟨_, List.getElem?_eq_getElem h1⟩
   have hdx := drop_cons hx
   refine hw_skip ?_
   refine seqQ_n ?_
   refine hw_seq ?_
   refine hw_block ?_
   refine hw_reg ?_
   refine dp rfl (pop_idx (f := fun l : List Play => HVal.slice 9 (l.map ePlay)) (l := LL) (j := i) (a := x) ty104 ty26 rfl rfl rfl hx) ?_
   refine dp rfl (pop_load ty26 rfl rfl rfl) ?_
   refine dp rfl (pop_assign rfl) ?_
   refine dn ?_
   refine hw_reg ?_
   refine dp rfl (pop_move rfl) ?_
   refine dp rfl (pop_move rfl) ?_
   refine dp rfl (pop_lenm ty26 rfl) ?_
   have hfl := flat_take_le LL (i + 1)
   have hfs := flat_take_snoc hx
   refine dp rfl (pop_add64 rfl rfl (by omega) (by omega)) ?_
   refine dp rfl (pop_assign rfl) ?_
   refine dn ?_
   refine hw_reg ?_
   refine dp rfl (pop_move rfl) ?_
   refine dp rfl (pop_lss rfl rfl) ?_
   refine dn ?_
   refine hw_cond rfl (fun h3 => ?_) (fun h3 => ?_)
   ·exfalso
    try simp at h3
    omega
   ·try simp at h3
    refine hw_skip ?_
    refine blockQ_n ?_
    refine seqQ_n ?_
    refine hw_reg1 ?_
    refine dp rfl (pop_add64 rfl rfl (by omega) (by omega)) ?_
    refine dp rfl (pop_move rfl) ?_
    refine dn ?_
    exact ⟨i + 1, ⟨by omega, trivial⟩, by dsimp only; omega, ⟨rfl, some_int (by rw [flat_take_snoc hx]; simp), trivial⟩, (by repeat (first | exact keeps_refl | refine keeps_upd rfl ?_ | refine keeps_loop rfl rfl ?_)), List.Perm.refl _⟩
  ·try simp at h2
   have hni : LL.length ≤ i := by omega
   obtain rfl : i = LL.length := by omega
   refine hw_exit ?_
   refine seqQ_x ?_
   refine loopQ_x ?_
   refine blockQ_eq ?_
   refine seqQ_n ?_
   rw [List.take_length]
   refine hw_reg ?_
   refine dp rfl (pop_move rfl) ?_
   refine de rfl (eop_callf (M1 := []) (R := []) ca69 rfl (WeakL.refl _) (List.Perm.refl _) (c_grow_Play (n := LL.flatten.length) (by omega)) ?_)
   rintro _ _ ⟨u24, rfl, rfl⟩
   refine dp rfl (pop_assign rfl) ?_
   refine dn ?_
   refine hw_seq ?_
   refine hw_reg ?_
   refine dp rfl (pop_move rfl) ?_
   refine dp rfl (pop_lenm (f := fun l : List Play => HVal.slice 9 (l.map ePlay)) (l := LL) ty104 rfl) ?_
   refine dp rfl (pop_move rfl) ?_
   refine dn ?_
   refine hw_block ?_
   refine hw_loopw2 [6, 8, 27, 28, 29, 30, 31, 32, 33, 34] (fun (j : Nat) (u : Value) => [(27, .int .i64 j), (6, .raw u)]) (fun (j : Nat) (u : Value) => [.arr u 9 ((LL.take j).flatten.map ePlay)]) (fun (j : Nat) (u : Value) => j ≤ LL.length ∧ (True)) (fun (j : Nat) (u : Value) => LL.length - j) (0) (u24) ?_ ?_ ?_ ?_
   ·exact ⟨Nat.zero_le _, trivial⟩
   ·exact ⟨rfl, rfl, trivial⟩
   ·exact List.Perm.refl _
   ·intro j u hinv
    obtain ⟨hj, -⟩ := hinv
    refine hw_reg ?_
    refine dp rfl (pop_lss rfl rfl) ?_
    refine dn ?_
    refine hw_seq ?_
    refine hw_cond rfl (fun h4 => ?_) (fun h5 => ?_)
    ·try simp at h4
     obtain ⟨y, hy⟩ : ∃ y, LL[j]? = some y := ⟨_, List.getElem?_eq_getElem h4⟩
     have hdy := drop_cons hy
     refine hw_skip ?_
     refine seqQ_n ?_
     refine hw_seq ?_
     refine hw_block ?_
     refine hw_reg ?_
     refine dp rfl (pop_idx (f := fun l : List Play => HVal.slice 9 (l.map ePlay)) (l := LL) (j := j) (a := y) ty104 ty26 rfl rfl rfl hy) ?_
     refine dp rfl (pop_load ty26 rfl rfl rfl) ?_
     refine dp rfl (pop_assign rfl) ?_
     refine dn ?_
     refine hw_reg1 ?_
     refine dp rfl (pop_move rfl) ?_
     refine dp rfl (pop_move rfl) ?_
     refine de rfl (eop_append (i := 0) ty26 ty30 rfl rfl rfl rfl rfl (by simp [flat, hcells]) (by have h1 := flat_take_le LL (j + 1); have h2 := flat_take_snoc hy; simp only [List.length_map]; omega) fun v33 => ?_)
     refine dp rfl (pop_assign rfl) ?_
     refine dn ?_
     refine blockQ_n ?_
     refine seqQ_n ?_
     refine hw_reg1 ?_
     refine dp rfl (pop_add64 rfl rfl (by omega) (by omega)) ?_
     refine dp rfl (pop_move rfl) ?_
     refine dn ?_
     exact ⟨j + 1, v33, ⟨by omega, trivial⟩, by dsimp only; omega, ⟨rfl, rfl, trivial⟩, (by repeat (first | exact keeps_refl | refine keeps_upd rfl ?_ | refine keeps_loop rfl rfl ?_)), perm_eq (by dsimp only; rw [flat_take_app hy, List.map_append]; rfl)⟩
    ·try simp at h5
     have hnj : LL.length ≤ j := by omega
     obtain rfl : j = LL.length := by omega
     refine hw_exit ?_
     refine seqQ_x ?_
     refine loopQ2_x ?_
     refine blockQ_eq ?_
     refine seqQ_n ?_
     refine hw_reg ?_
     refine dp rfl (pop_move rfl) ?_
     refine dp rfl (pop_assign rfl) ?_
     refine dn ?_
     refine hw_ret ?_
     refine ret_a rfl ?_
     rw [List.take_length]

/-- slices.SortFunc -/
theorem c_sort_Play [Tracks] {c : Play → Play → Int} (hO : Go.Sort.SWO (Go.Proofs.ltOf c)) {g : FuncId} (hg : Callable Tryz.prog g) {cap : List HVal} (hc : ∀ x y, @ConP trackOn Tryz.prog g (ePlay x :: ePlay y :: cap) (.int .i64 (c x y))) {l : List Play} (hl : l.length ≤ 1000000) {v : Value} :
 Con Tryz.prog 43 [.raw v, .fn (.func g) [] cap] [.arr v 9 (l.map ePlay)] fun x M' => ∃ l' : List Play, x = .tup [] ∧ l'.Perm l ∧ l'.Pairwise (fun a b => ¬ c b a < 0) ∧ M' = [.arr v 9 (l'.map ePlay)] :=
 con_sortf (e := ePlay) Tryz.g43 (Tryz.isAgg30) (Tryz.sizeOf30) (fun _ => rfl) (fun _ => rfl) (fun _ => rfl) hO hg hc hl

set_option maxHeartbeats 1000000 in
/-- slices.Compact[[]benchwarmer/api.Play,benchwarmer/api.Play] -/
theorem c_slices_Compact_api_Play_api_Play [Tracks] {l : List Play} {v : Value} (hl : l.length ≤ 1000000) : Con Tryz.prog 39 [.raw v] [.arr v 9 (l.map ePlay)] (fun x M' => ∃ u, x = .raw u ∧ M' = [.arr u 9 ((uniqA none l).map ePlay)]) := by
 refine Con.of_body Tryz.func39 rfl Tryz.ntmps39 rfl rfl ?_
 refine hw_reg ?_
 refine dp rfl (pop_assign rfl) ?_
 refine dn ?_
 refine hw_seq ?_
 refine hw_reg ?_
 refine dp rfl (pop_move rfl) ?_
 first
 | refine de rfl (eop_lenm (i := 0) ty26 rfl rfl ?_)
 | refine de rfl (eop_lenm (i := 1) ty26 rfl rfl ?_)
 | refine de rfl (eop_lenm (i := 2) ty26 rfl rfl ?_)
 | refine de rfl (eop_lenm (i := 3) ty26 rfl rfl ?_)
 refine dp rfl (pop_lss rfl rfl) ?_
 refine dn ?_
 refine hw_cond rfl (fun h1 => ?_) (fun h2 => ?_)
 ·try simp at h1
  refine hw_reg ?_
  refine dp rfl (pop_move rfl) ?_
  refine dp rfl (pop_assign rfl) ?_
  refine dn ?_
  refine hw_ret ?_
  first
  | (refine ret_q rfl ⟨_, rfl, ?_⟩
     rw [uniqA_one (by omega)])
  | (refine ret_q rfl ⟨_, rfl, ?_⟩
     have hlo := hD.lo
     rw [hkl, List.take_length] at hlo ⊢
     rw [← List.map_take, hlo]; rfl)
  | (refine ret_q rfl ⟨_, rfl, ?_⟩
     rw [hu])
 ·try simp at h2
  refine hw_skip ?_
  refine seqQ_n ?_
  refine hw_seq ?_
  refine hw_arrc (i := 0) rfl (fun h0 he => ?_) (fun b off cap hv hcap => ?_)
  ·exfalso; have := congrArg List.length he; simp at this; subst this; simp at h2
  rw [List.length_map] at hv hcap
  subst hv
  refine hw_reg ?_
  refine dp rfl (pop_assign rfl) ?_
  refine dn ?_
  refine hw_block ?_
  refine hw_loopw [2, 3, 4, 5, 10, 11, 12, 13, 14, 15, 16, 17, 18, 19, 20, 21, 22, 23, 24, 25, 26, 27, 28, 29, 30, 31, 32, 33, 34, 35, 36, 37, 38, 39, 40, 41, 42, 43, 44, 45, 46, 47, 48, 49, 50, 51, 52, 53, 54, 55, 56, 57, 58, 59] (fun (k : Nat) => [(3, .int .i64 (k : Int))]) (fun (k : Nat) => [.arr (.slice (some ⟨b, off, none⟩) l.length cap) 9 (l.map ePlay)]) (fun (k : Nat) => (1 ≤ k ∧ k ≤ l.length) ∧ uniqA none (l.take k) = l.take k) (fun (k : Nat) => l.length - k) (1) ?_ ?_ ?_ ?_
  ·exact ⟨⟨by omega, by omega⟩, uniqA_one (by simp; omega)⟩
  ·exact ⟨rfl, trivial⟩
  ·exact List.Perm.refl _
  ·intro k hinv
   obtain ⟨⟨hk1, hk⟩, hu⟩ := hinv
   refine hw_seq ?_
   refine hw_reg ?_
   refine dp rfl (pop_move rfl) ?_
   refine dp rfl (pop_move rfl) ?_
   first
   | refine de rfl (eop_lenm (i := 0) ty26 rfl rfl ?_)
   | refine de rfl (eop_lenm (i := 1) ty26 rfl rfl ?_)
   | refine de rfl (eop_lenm (i := 2) ty26 rfl rfl ?_)
   | refine de rfl (eop_lenm (i := 3) ty26 rfl rfl ?_)
   refine dp rfl (pop_lss rfl rfl) ?_
   refine dn ?_
   refine hw_cond rfl (fun h3 => ?_) (fun h4 => ?_)
   ·try simp at h3
    obtain ⟨x, hx⟩ : ∃ x, l[k]? = some x := ⟨_, List.getElem?_eq_getElem (by omega)⟩
    obtain ⟨y, hy⟩ : ∃ y, l[k - 1]? = some y := ⟨_, List.getElem?_eq_getElem (by omega)⟩
    refine hw_skip ?_
    refine seqQ_n ?_
    refine hw_seq ?_
    refine hw_block ?_
    refine hw_draw (fun M => M = [.arr (.slice (some ⟨b, off, none⟩) l.length cap) 9 (l.map ePlay)]) [3, 8] mixed ?_
    refine ahp 0 rfl rfl (by kernel_rfl) (by kernel_rfl) (pop_move rfl) ?_
    refine ahp 1 rfl rfl (by kernel_rfl) (by kernel_rfl) (pop_move rfl) ?_
    refine ahp 2 rfl rfl (by kernel_rfl) (by kernel_rfl) (pop_idxraw (j := k) ty26 ty30 rfl rfl rfl (by omega)) ?_
    refine ahl 3 rfl rfl (by kernel_rfl) (by kernel_rfl) (by simp) rfl (fun M hM => by subst hM; exact eop_load_elw (i := 0) (j := k) ty30 rfl (by omega) rfl hx rfl rfl rfl ⟨rfl, rfl⟩) ?_
    refine ahp 4 rfl rfl (by kernel_rfl) (by kernel_rfl) (pop_move rfl) ?_
    refine ahp 5 rfl rfl (by kernel_rfl) (by kernel_rfl) (pop_move rfl) ?_
    refine ahp 6 rfl rfl (by kernel_rfl) (by kernel_rfl) (pop_sub64 rfl rfl (by omega) (by omega)) ?_
    refine ahp 7 rfl rfl (by kernel_rfl) (by kernel_rfl) (pop_idxraw (j := k - 1) ty26 ty30 rfl rfl (by omega) (by omega)) ?_
    refine ahl 8 rfl rfl (by kernel_rfl) (by kernel_rfl) (by simp) rfl (fun M hM => by subst hM; exact eop_load_elw (i := 0) (j := k - 1) ty30 rfl (by omega) rfl hy rfl rfl rfl ⟨rfl, rfl⟩) ?_
    refine ahp 9 rfl rfl (by kernel_rfl) (by kernel_rfl) (pop_eqst ty30 eq30 rfl rfl ⟨rfl, ⟨_, _, _, _, ty9, rfl⟩, ⟨rfl, ⟨_, _, _, _, ty3, rfl⟩, ⟨rfl, ⟨_, _, _, _, ty3, rfl⟩, ⟨rfl, ⟨_, _, _, _, ty3, rfl⟩, ⟨rfl, ⟨_, _, _, _, ty9, rfl⟩, ⟨rfl, ⟨_, _, _, _, ty9, rfl⟩, ⟨rfl, ⟨_, _, _, _, ty9, rfl⟩, ⟨rfl, ⟨_, _, _, _, ty3, rfl⟩, ⟨rfl, ⟨_, _, _, _, ty3, rfl⟩, trivial⟩⟩⟩⟩⟩⟩⟩⟩⟩) ?_
    refine ahz (by kernel_rfl) ?_
    refine hw_cond rfl (fun h5 => ?_) (fun h6 => ?_)
    ·try simp at h5
     have hxy : x = y := (eqPlay_is _ _).1 (by simpa using h5)
     obtain ⟨hC0, hU0⟩ := CmpA.start hx hy (by omega) hxy hu
     refine hw_reg ?_
     refine dp rfl (pop_move rfl) ?_
     refine dp rfl (pop_move rfl) ?_
     refine dp rfl (pop_slraw (l := k) (h := l.length) ty26 ty30 rfl ⟨_, _, rfl, rfl⟩ rfl (by omega) (by omega) hcap) ?_
     refine dp rfl (pop_assign rfl) ?_
     refine dn ?_
     rw [slOff_lt2 (by omega)]
     refine hw_seq ?_
     refine hw_reg ?_
     refine dp rfl (pop_assign rfl) ?_
     refine dn ?_
     refine hw_block ?_
     refine hw_loopw2 [3, 5, 29, 30, 31, 32, 33, 34, 35, 36, 37, 38, 39, 40, 41, 42, 43, 44, 45, 46, 47, 48, 49, 50, 51, 52, 53] (fun (k2 : Nat) (D : List Play) => [(5, .int .i64 (k2 : Int)), (3, .int .i64 ((uniqA none (l.take (k + k2))).length : Int))]) (fun (k2 : Nat) (D : List Play) => [.arr (.slice (some ⟨b, off, none⟩) l.length cap) 9 (D.map ePlay)]) (fun (k2 : Nat) (D : List Play) => (1 ≤ k2 ∧ k + k2 ≤ l.length) ∧ CmpA l (k + k2) D) (fun (k2 : Nat) (D : List Play) => l.length - k2) (1) (l) ?_ ?_ ?_ ?_
     ·exact ⟨⟨by omega, by have := lt_of_get hx; omega⟩, hC0⟩
     ·exact ⟨rfl, some_int (by rw [hU0]), trivial⟩
     ·exact List.Perm.refl _
     ·intro k2 D hinv
      obtain ⟨⟨hk2, hkk⟩, hD⟩ := hinv
      have hlt0 := hD.lt
      have hle0 := hD.len
      refine hw_seq ?_
      refine hw_reg ?_
      refine dp rfl (pop_move rfl) ?_
      refine dp rfl (pop_move rfl) ?_
      refine dp rfl (pop_len_raw ty26 rfl) ?_
      refine dp rfl (pop_lss rfl rfl) ?_
      refine dn ?_
      refine hw_cond rfl (fun h7 => ?_) (fun h8 => ?_)
      ·try simp at h7
       obtain ⟨x2, hx2⟩ : ∃ x, l[k + k2]? = some x := ⟨_, List.getElem?_eq_getElem (by omega)⟩
       obtain ⟨y2, hy2⟩ : ∃ y, l[k + k2 - 1]? = some y := ⟨_, List.getElem?_eq_getElem (by omega)⟩
       have hDx : D[k + k2]? = some x2 := by rw [hD.hi _ (by omega), hx2]
       have hDy : D[k + k2 - 1]? = some y2 := by rw [hD.hi _ (by omega), hy2]
       refine hw_skip ?_
       refine seqQ_n ?_
       refine hw_seq ?_
       refine hw_block ?_
       refine hw_draw (fun M => M = [.arr (.slice (some ⟨b, off, none⟩) l.length cap) 9 (D.map ePlay)]) [3, 8] mixed ?_
       refine ahp 0 rfl rfl (by kernel_rfl) (by kernel_rfl) (pop_move rfl) ?_
       refine ahp 1 rfl rfl (by kernel_rfl) (by kernel_rfl) (pop_move rfl) ?_
       refine ahp 2 rfl rfl (by kernel_rfl) (by kernel_rfl) (pop_idxraw (j := k2) ty26 ty30 rfl rfl rfl (by omega)) ?_
       refine ahl 3 rfl rfl (by kernel_rfl) (by kernel_rfl) (by simp) rfl (fun M hM => by subst hM; exact eop_load_elw (i := 0) (j := (k + k2)) ty30 rfl (by omega) rfl hDx rfl rfl rfl ⟨rfl, rfl⟩) ?_
       refine ahp 4 rfl rfl (by kernel_rfl) (by kernel_rfl) (pop_move rfl) ?_
       refine ahp 5 rfl rfl (by kernel_rfl) (by kernel_rfl) (pop_move rfl) ?_
       refine ahp 6 rfl rfl (by kernel_rfl) (by kernel_rfl) (pop_sub64 rfl rfl (by omega) (by omega)) ?_
       refine ahp 7 rfl rfl (by kernel_rfl) (by kernel_rfl) (pop_idxraw (j := k2 - 1) ty26 ty30 rfl rfl (by omega) (by omega)) ?_
       refine ahl 8 rfl rfl (by kernel_rfl) (by kernel_rfl) (by simp) rfl (fun M hM => by subst hM; exact eop_load_elw (i := 0) (j := (k + k2 - 1)) ty30 rfl (by omega) rfl hDy rfl rfl rfl ⟨rfl, rfl⟩) ?_
       refine ahp 9 rfl rfl (by kernel_rfl) (by kernel_rfl) (pop_neqst ty30 eq30 rfl rfl ⟨rfl, ⟨_, _, _, _, ty9, rfl⟩, ⟨rfl, ⟨_, _, _, _, ty3, rfl⟩, ⟨rfl, ⟨_, _, _, _, ty3, rfl⟩, ⟨rfl, ⟨_, _, _, _, ty3, rfl⟩, ⟨rfl, ⟨_, _, _, _, ty9, rfl⟩, ⟨rfl, ⟨_, _, _, _, ty9, rfl⟩, ⟨rfl, ⟨_, _, _, _, ty9, rfl⟩, ⟨rfl, ⟨_, _, _, _, ty3, rfl⟩, ⟨rfl, ⟨_, _, _, _, ty3, rfl⟩, trivial⟩⟩⟩⟩⟩⟩⟩⟩⟩) ?_
       refine ahz (by kernel_rfl) ?_
       refine hw_cond rfl (fun h9 => ?_) (fun h10 => ?_)
       ·try simp at h9
        refine hw_reg ?_
        refine dp rfl (pop_move rfl) ?_
        refine dp rfl (pop_move rfl) ?_
        refine dp rfl (pop_move rfl) ?_
        refine dp rfl (pop_move rfl) ?_
        refine dp rfl (pop_idxraw (j := k2) ty26 ty30 rfl rfl rfl (by omega)) ?_
        refine de rfl (eop_load_elw (i := 0) (j := (k + k2)) ty30 rfl (by omega) rfl hDx rfl rfl rfl ?_)
        refine dp rfl (pop_idxraw (j := (uniqA none (l.take (k + k2))).length) ty26 ty30 rfl rfl rfl (by omega)) ?_
        refine de0 (eop_store_elw (i := 0) (j := (uniqA none (l.take (k + k2))).length) (y := D[(uniqA none (l.take (k + k2))).length]'(by omega)) (y' := x2) ty30 rfl rfl rfl rfl (List.getElem?_eq_getElem _) rfl rfl rfl ?_)
        refine dn ?_
        refine hw_reg1 ?_
        refine dp rfl (pop_move rfl) ?_
        refine dp rfl (pop_add64 rfl rfl (by omega) (by omega)) ?_
        refine dp rfl (pop_assign rfl) ?_
        refine dn ?_
        refine blockQ_n ?_
        refine seqQ_n ?_
        refine hw_reg1 ?_
        refine dp rfl (pop_move rfl) ?_
        refine dp rfl (pop_add64 rfl rfl (by omega) (by omega)) ?_
        refine dp rfl (pop_assign rfl) ?_
        refine dn ?_
        have hxy : x2 ≠ y2 := fun q => by have q2 := (eqPlay_is _ _).2 q; simp_all
        obtain ⟨hC1, hU1⟩ := hD.more hx2 hy2 hxy
        exact ⟨k2 + 1, _, ⟨⟨by omega, by omega⟩, hC1⟩, by dsimp only; omega, ⟨rfl, some_int (by rw [← Nat.add_assoc, hU1]; rfl), trivial⟩, (by repeat (first | exact keeps_refl | refine keeps_upd rfl ?_ | refine keeps_loop rfl rfl ?_)), List.Perm.refl _⟩
       ·try simp at h10
        refine hw_skip ?_
        refine blockQ_n ?_
        refine seqQ_n ?_
        refine hw_reg1 ?_
        refine dp rfl (pop_move rfl) ?_
        refine dp rfl (pop_add64 rfl rfl (by omega) (by omega)) ?_
        refine dp rfl (pop_assign rfl) ?_
        refine dn ?_
        have hxy : x2 = y2 := (eqPlay_is _ _).1 (by simpa using h10)
        obtain ⟨hC1, hU1⟩ := hD.same hx2 hy2 hxy
        exact ⟨k2 + 1, D, ⟨⟨by omega, by omega⟩, hC1⟩, by dsimp only; omega, ⟨rfl, some_int (by rw [← Nat.add_assoc, hU1]), trivial⟩, (by repeat (first | exact keeps_refl | refine keeps_upd rfl ?_ | refine keeps_loop rfl rfl ?_)), List.Perm.refl _⟩
      ·try simp at h8
       have hkl : k + k2 = l.length := by omega
       refine hw_exit ?_
       refine seqQ_x ?_
       refine loopQ2_x ?_
       refine blockQ_eq ?_
       refine seqQ_n ?_
       refine hw_reg ?_
       refine dp rfl (pop_move rfl) ?_
       refine dp rfl (pop_move rfl) ?_
       refine dp rfl (pop_slraw (l := (uniqA none (l.take (k + k2))).length) (h := l.length) ty26 ty30 rfl ⟨_, _, rfl, rfl⟩ rfl (by omega) (by omega) hcap) ?_
       refine de0 (eop_clear_at (i := 0) (m := (uniqA none (l.take (k + k2))).length) ((uniqA none (l.take (k + k2))).length) ty26 ty30 rfl rfl rfl (slOff_or (by omega) hcap) rfl (by omega) (Nat.le_refl _) (by rw [List.length_map, hD.len]; omega) ?_)
       refine dn ?_
       refine hw_reg ?_
       refine dp rfl (pop_move rfl) ?_
       refine dp rfl (pop_move rfl) ?_
       refine dp rfl (pop_slraw0 (h := (uniqA none (l.take (k + k2))).length) ty26 ty30 rfl ⟨_, _, rfl, rfl⟩ (by omega)) ?_
       refine dp rfl (pop_assign rfl) ?_
       refine dn ?_
       refine hw_ret ?_
       first
       | (refine ret_q rfl ⟨_, rfl, ?_⟩
          rw [uniqA_one (by omega)])
       | (refine ret_q rfl ⟨_, rfl, ?_⟩
          have hlo := hD.lo
          rw [hkl, List.take_length] at hlo ⊢
          rw [← List.map_take, hlo]; rfl)
       | (refine ret_q rfl ⟨_, rfl, ?_⟩
          rw [hu])
    ·try simp at h6
     refine hw_skip ?_
     refine blockQ_n ?_
     refine seqQ_n ?_
     refine hw_reg1 ?_
     refine dp rfl (pop_move rfl) ?_
     refine dp rfl (pop_add64 rfl rfl (by omega) (by omega)) ?_
     refine dp rfl (pop_assign rfl) ?_
     refine dn ?_
     have hxy : x ≠ y := fun q => by have q2 := (eqPlay_is _ _).2 q; simp_all
     exact ⟨k + 1, ⟨⟨by omega, by omega⟩, by rw [uniqA_step hx hy (by omega), if_neg hxy, hu, take_snoc' hx]⟩, by dsimp only; omega, ⟨rfl, trivial⟩, (by repeat (first | exact keeps_refl | refine keeps_upd rfl ?_ | refine keeps_loop rfl rfl ?_)), List.Perm.refl _⟩
   ·try simp at h4
    have hkl : k = l.length := by omega
    rw [hkl, List.take_length] at hu
    refine hw_exit ?_
    refine seqQ_x ?_
    refine loopQ_x ?_
    refine blockQ_eq ?_
    refine seqQ_n ?_
    refine hw_reg ?_
    refine dp rfl (pop_move rfl) ?_
    refine dp rfl (pop_assign rfl) ?_
    refine dn ?_
    refine hw_ret ?_
    first
    | (refine ret_q rfl ⟨_, rfl, ?_⟩
       rw [uniqA_one (by omega)])
    | (refine ret_q rfl ⟨_, rfl, ?_⟩
       have hlo := hD.lo
       rw [hkl, List.take_length] at hlo ⊢
       rw [← List.map_take, hlo]; rfl)
    | (refine ret_q rfl ⟨_, rfl, ?_⟩
       rw [hu])

/-- slices.Clone[[]benchwarmer/api.Play,benchwarmer/api.Play] -/
theorem c_slices_Clone_api_Play_api_Play [Tracks] {l : List Play} (hl : l.length ≤ 1000000) : ConA Tryz.prog 6 [.slice 9 (l.map ePlay)] 9 (l.map ePlay) := by
 refine Con.of_body Tryz.func6 rfl Tryz.ntmps6 rfl rfl ?_
 refine hw_reg ?_
 refine dp rfl (pop_assign rfl) ?_
 refine dn ?_
 refine hw_seq ?_
 refine hw_reg ?_
 refine dp rfl (pop_move rfl) ?_
 refine de rfl (eop_eqnil ty26 rfl rfl fun b4 hb4 => ?_)
 refine dn ?_
 refine hw_cond rfl (fun h1 => ?_) (fun h2 => ?_)
 ·try simp at h1
  refine hw_reg ?_
  refine dp rfl (pop_assign rfl) ?_
  refine dn ?_
  refine hw_ret ?_
  first | exact ret_a rfl rfl | exact ret_g (Ghost.arr_nil 9) rfl ⟨_, rfl, by simp_all⟩
 ·try simp at h2
  refine hw_skip ?_
  refine seqQ_n ?_
  refine hw_reg ?_
  refine de rfl (eop_mk0 ty26 ty30 fun v5 => ?_)
  refine dp rfl (pop_move rfl) ?_
  refine de rfl (eop_append (i := 0) ty26 ty30 rfl rfl rfl rfl rfl (by simp [flat, hcells]) (by first | omega | (simp; omega)) fun v7 => ?_)
  refine dp rfl (pop_assign rfl) ?_
  refine dn ?_
  refine hw_ret ?_
  first | exact ret_a rfl rfl | exact ret_g (Ghost.arr_nil 9) rfl ⟨_, rfl, by simp_all⟩

/-- slices.DeleteFunc[[]benchwarmer/api.Play,benchwarmer/api.Play] -/
theorem c_slices_DeleteFunc_api_Play_api_Play [Tracks] {l : List Play} {fid : FuncId} {caps : List HVal} {p : Play → Bool} {v : Value} (hca : Callable Tryz.prog fid) (hp : ∀ x, ConP Tryz.prog fid ([ePlay x] ++ caps) (.bool (p x))) (hl : l.length ≤ 1000000) : Con Tryz.prog 44 [.raw v, .fn (.func fid) [] caps] [.arr v 9 (l.map ePlay)] (fun x M' => ∃ u, x = .raw u ∧ M' = [.arr u 9 ((l.filter (fun x => !p x)).map ePlay)]) := by
 refine Con.of_body Tryz.func44 rfl Tryz.ntmps44 rfl rfl ?_
 refine hw_reg ?_
 refine dp rfl (pop_assign rfl) ?_
 refine dn ?_
 refine hw_reg ?_
 refine dp rfl (pop_move rfl) ?_
 refine dp rfl (pop_move rfl) ?_
 refine de rfl (eop_callb (hs' := [.slice 9 (l.map ePlay), .fn (.func fid) [] caps]) ca41 rfl ⟨.arr (i := 0) rfl, .weak (Weak.refl _), trivial⟩ (c_slices_IndexFunc_api_Play_api_Play (p := p) hca hp hl) rfl ?_)
 refine dp rfl (pop_assign rfl) ?_
 refine dn ?_
 refine hw_seq ?_
 refine hw_reg ?_
 refine dp rfl (pop_move rfl) ?_
 refine dp rfl (pop_eql rfl rfl) ?_
 refine dn ?_
 refine hw_cond rfl (fun h1 => ?_) (fun h2 => ?_)
 ·try simp at h1
  refine hw_reg ?_
  refine dp rfl (pop_move rfl) ?_
  refine dp rfl (pop_assign rfl) ?_
  refine dn ?_
  refine hw_ret ?_
  first
  | (refine ret_q rfl ⟨_, rfl, ?_⟩
     rw [idxF_none p l 0 (by omega) h1]
     done)
  | (refine ret_q rfl ⟨_, rfl, ?_⟩
     rw [List.take_length, ← List.map_take, hend]; rfl)
 ·try simp at h2
  refine hw_skip ?_
  refine seqQ_n ?_
  refine hw_seq ?_
  obtain ⟨i0, hi0, hil, ⟨x0, hx0, hp0⟩, hb0⟩ := idxF_found p l 0 (by omega) h2
  rw [Int.zero_add] at hi0
  obtain ⟨hD0, hn0⟩ := DelInv.start (p := p) hil hx0 hp0 hb0
  refine hw_arrc (i := 0) rfl (fun h0 he => ?_) (fun b off cap hv hcap => ?_)
  ·exfalso; have := congrArg List.length he; simp at this; subst this; simp at hil
  rw [List.length_map] at hv hcap
  subst hv
  refine hw_reg ?_
  refine dp rfl (pop_move rfl) ?_
  refine dp rfl (pop_eq (pop_add64 rfl rfl (by rw [hi0]; omega) (by rw [hi0]; omega)) (congrArg _ (by rw [hi0]))) ?_
  refine dp rfl (pop_assign rfl) ?_
  refine dn ?_
  refine hw_block ?_
  refine hw_loopw2 [5, 6, 7, 16, 17, 18, 19, 20, 21, 22, 23, 24, 25, 26, 27, 28, 29, 30, 31, 32, 33, 34, 35] (fun (j : Nat) (D : List Play) => [(6, .int .i64 (j : Int)), (5, .int .i64 (((l.take j).filter (fun x => !p x)).length : Int))]) (fun (j : Nat) (D : List Play) => [.arr (.slice (some ⟨b, off, none⟩) l.length cap) 9 (D.map ePlay)]) (fun (j : Nat) (D : List Play) => DelInv p l j D) (fun (j : Nat) (D : List Play) => l.length - j) (i0 + 1) (l) ?_ ?_ ?_ ?_
  ·exact hD0
  ·exact ⟨rfl, some_int (by rw [hn0, hi0]), trivial⟩
  ·exact List.Perm.refl _
  ·intro j D hD
   have hlt0 := hD.lt
   have hle0 := hD.len
   refine hw_seq ?_
   refine hw_reg ?_
   refine dp rfl (pop_move rfl) ?_
   refine dp rfl (pop_move rfl) ?_
   first
   | refine de rfl (eop_lenm (i := 0) ty26 rfl rfl ?_)
   | refine de rfl (eop_lenm (i := 1) ty26 rfl rfl ?_)
   | refine de rfl (eop_lenm (i := 2) ty26 rfl rfl ?_)
   | refine de rfl (eop_lenm (i := 3) ty26 rfl rfl ?_)
   refine dp rfl (pop_lss rfl rfl) ?_
   refine dn ?_
   refine hw_cond rfl (fun h3 => ?_) (fun h4 => ?_)
   ·try simp at h3
    obtain ⟨x, hx⟩ : ∃ x, l[j]? = some x := ⟨_, List.getElem?_eq_getElem (by omega)⟩
    refine hw_skip ?_
    refine seqQ_n ?_
    refine hw_seq ?_
    refine hw_block ?_
    refine hw_reg ?_
    refine dp rfl (pop_move rfl) ?_
    refine dp rfl (pop_move rfl) ?_
    refine dp rfl (pop_idxraw (j := j) ty26 ty30 rfl rfl rfl (by omega)) ?_
    refine de rfl (eop_load_elw (i := 0) (j := j) ty30 rfl rfl rfl (hD.get hx) rfl rfl rfl ?_)
    refine de rfl (eop_alloc ty30 rfl fun b7 => ?_)
    refine de0 (eop_storew ty30 rfl rfl rfl rfl rfl ?_)
    refine dn ?_
    refine hw_ghost (Ghost.fc0 7 rfl) ?_
    refine hw_reg ?_
    refine dp rfl (pop_move rfl) ?_
    refine dp rfl (pop_loadw ty30 rfl rfl rfl rfl) ?_
    refine dp rfl (pop_callv hca rfl rfl (WeakL.refl _) (hp _)) ?_
    refine dp rfl (pop_not rfl) ?_
    refine dn ?_
    refine hw_cond rfl (fun h5 => ?_) (fun h6 => ?_)
    ·try simp at h5
     refine hw_reg ?_
     refine dp rfl (pop_move rfl) ?_
     refine dp rfl (pop_move rfl) ?_
     refine dp rfl (pop_loadw ty30 rfl rfl rfl rfl) ?_
     refine dp rfl (pop_idxraw (j := ((l.take j).filter (fun x => !p x)).length) ty26 ty30 rfl rfl rfl (by have := hD.lt; omega)) ?_
     refine de0 (eop_store_elw (i := 0) (j := ((l.take j).filter (fun x => !p x)).length) (y := D[((l.take j).filter (fun x => !p x)).length]'(by have := hD.lt; have := hD.len; omega)) (y' := x) ty30 rfl rfl rfl rfl (List.getElem?_eq_getElem _) rfl rfl rfl ?_)
     refine dn ?_
     refine hw_reg1 ?_
     refine dp rfl (pop_move rfl) ?_
     refine dp rfl (pop_add64 rfl rfl (by omega) (by have := hD.lt; omega)) ?_
     refine dp rfl (pop_assign rfl) ?_
     refine dn ?_
     refine blockQ_n ?_
     refine seqQ_n ?_
     refine hw_reg1 ?_
     refine dp rfl (pop_move rfl) ?_
     refine dp rfl (pop_add64 rfl rfl (by omega) (by omega)) ?_
     refine dp rfl (pop_assign rfl) ?_
     refine dn ?_
     first
     | exact ⟨j + 1, _, (hD.keep hx (by simp_all)).1, by dsimp only; omega, ⟨rfl, some_int (by rw [(hD.keep hx (by simp_all)).2]; rfl), trivial⟩, (by repeat (first | exact keeps_refl | refine keeps_upd rfl ?_ | refine keeps_loop rfl rfl ?_)), List.Perm.refl _⟩
     | exact ⟨j + 1, _, (hD.skip hx (by simp_all)).1, by dsimp only; omega, ⟨rfl, some_int (by rw [(hD.skip hx (by simp_all)).2]), trivial⟩, (by repeat (first | exact keeps_refl | refine keeps_upd rfl ?_ | refine keeps_loop rfl rfl ?_)), List.Perm.refl _⟩
    ·try simp at h6
     refine hw_skip ?_
     refine blockQ_n ?_
     refine seqQ_n ?_
     refine hw_reg1 ?_
     refine dp rfl (pop_move rfl) ?_
     refine dp rfl (pop_add64 rfl rfl (by omega) (by omega)) ?_
     refine dp rfl (pop_assign rfl) ?_
     refine dn ?_
     first
     | exact ⟨j + 1, _, (hD.keep hx (by simp_all)).1, by dsimp only; omega, ⟨rfl, some_int (by rw [(hD.keep hx (by simp_all)).2]; rfl), trivial⟩, (by repeat (first | exact keeps_refl | refine keeps_upd rfl ?_ | refine keeps_loop rfl rfl ?_)), List.Perm.refl _⟩
     | exact ⟨j + 1, _, (hD.skip hx (by simp_all)).1, by dsimp only; omega, ⟨rfl, some_int (by rw [(hD.skip hx (by simp_all)).2]), trivial⟩, (by repeat (first | exact keeps_refl | refine keeps_upd rfl ?_ | refine keeps_loop rfl rfl ?_)), List.Perm.refl _⟩
   ·try simp at h4
    obtain rfl : j = l.length := by have := hD.jle; omega
    have hend := hD.done
    refine hw_exit ?_
    refine seqQ_x ?_
    refine loopQ2_x ?_
    refine blockQ_eq ?_
    refine seqQ_n ?_
    refine hw_reg ?_
    refine dp rfl (pop_move rfl) ?_
    refine dp rfl (pop_move rfl) ?_
    refine dp rfl (pop_slraw (l := ((l.take l.length).filter (fun x => !p x)).length) ty26 ty30 rfl ⟨_, _, rfl, rfl⟩ rfl (by omega) (by omega) hcap) ?_
    refine de0 (eop_clear_at (i := 0) (m := ((l.take l.length).filter (fun x => !p x)).length) (((l.take l.length).filter (fun x => !p x)).length) ty26 ty30 rfl rfl rfl (slOff_or (by omega) hcap) rfl (by omega) (Nat.le_refl _) (by rw [List.length_map, hD.len]; omega) ?_)
    refine dn ?_
    refine hw_reg ?_
    refine dp rfl (pop_move rfl) ?_
    refine dp rfl (pop_move rfl) ?_
    refine dp rfl (pop_slraw0 (h := ((l.take l.length).filter (fun x => !p x)).length) ty26 ty30 rfl ⟨_, _, rfl, rfl⟩ (by omega)) ?_
    refine dp rfl (pop_assign rfl) ?_
    refine dn ?_
    refine hw_ret ?_
    first
    | (refine ret_q rfl ⟨_, rfl, ?_⟩
       rw [idxF_none p l 0 (by omega) h1]
       done)
    | (refine ret_q rfl ⟨_, rfl, ?_⟩
       rw [List.take_length, ← List.map_take, hend]; rfl)

/-- slices.Index[[]benchwarmer/api.Play,benchwarmer/api.Play] -/
theorem c_slices_Index_api_Play_api_Play [Tracks] {l : List Play} {y : Play} (hl : l.length ≤ 1000000) : ConP Tryz.prog 73 [ePlays l, ePlay y] (.int .i64 (idxF (fun z => eqSt ePlay y z) l 0)) := by
 refine Con.of_body Tryz.func73 rfl Tryz.ntmps73 rfl rfl ?_
 refine hw_reg ?_
 refine dp rfl (pop_box rfl rfl) ?_
 refine dp rfl (pop_assign rfl) ?_
 refine dn ?_
 refine hw_seq ?_
 refine hw_reg ?_
 refine dp rfl (pop_move rfl) ?_
 refine dp rfl (pop_lenm ty26 rfl) ?_
 refine dp rfl (pop_move rfl) ?_
 refine dn ?_
 refine hw_block ?_
 refine hw_loopw [4, 5, 8, 9, 10, 11, 12, 13, 14, 15, 16, 17, 18] (fun (k : Nat) => [(8, .int .i64 k)]) (fun (k : Nat) => []) (fun (k : Nat) => k ≤ l.length ∧ (idxF (fun z => eqSt ePlay y z) l 0 = idxF (fun z => eqSt ePlay y z) (l.drop k) k)) (fun (k : Nat) => l.length - k) (0) ?_ ?_ ?_ ?_
 ·exact ⟨Nat.zero_le _, rfl⟩
 ·exact ⟨rfl, trivial⟩
 ·exact List.Perm.refl _
 ·intro k hinv
  obtain ⟨hk, hg⟩ := hinv
  refine hw_reg ?_
  refine dp rfl (pop_lss rfl rfl) ?_
  refine dn ?_
  refine hw_seq ?_
  refine hw_cond rfl (fun h1 => ?_) (fun h2 => ?_)
  ·try simp at h1
   obtain ⟨x, hx⟩ : ∃ x, l[k]? = some x := ⟨_, List.getElem?_eq_getElem h1⟩
   have hdx := drop_cons hx
   rw [hdx] at hg
   refine hw_skip ?_
   refine seqQ_n ?_
   refine hw_seq ?_
   refine hw_block ?_
   refine hw_reg ?_
   refine dp rfl (pop_move rfl) ?_
   refine dp rfl (pop_assign rfl) ?_
   refine dn ?_
   refine hw_draw (fun _ => True) [] mixed ?_
   refine ahp 0 rfl rfl (by kernel_rfl) (by kernel_rfl) (pop_loadw ty30 rfl rfl rfl rfl) ?_
   refine ahp 1 rfl rfl (by kernel_rfl) (by kernel_rfl) (pop_move rfl) ?_
   refine ahp 2 rfl rfl (by kernel_rfl) (by kernel_rfl) (pop_move rfl) ?_
   refine ahp 3 rfl rfl (by kernel_rfl) (by kernel_rfl) (pop_idx ty26 ty30 rfl rfl rfl (by first | assumption | simp_all)) ?_
   refine ahp 4 rfl rfl (by kernel_rfl) (by kernel_rfl) (pop_loadw ty30 rfl rfl rfl rfl) ?_
   refine ahp 5 rfl rfl (by kernel_rfl) (by kernel_rfl) (pop_eqst ty30 eq30 rfl rfl ⟨rfl, ⟨_, _, _, _, ty9, rfl⟩, ⟨rfl, ⟨_, _, _, _, ty3, rfl⟩, ⟨rfl, ⟨_, _, _, _, ty3, rfl⟩, ⟨rfl, ⟨_, _, _, _, ty3, rfl⟩, ⟨rfl, ⟨_, _, _, _, ty9, rfl⟩, ⟨rfl, ⟨_, _, _, _, ty9, rfl⟩, ⟨rfl, ⟨_, _, _, _, ty9, rfl⟩, ⟨rfl, ⟨_, _, _, _, ty3, rfl⟩, ⟨rfl, ⟨_, _, _, _, ty3, rfl⟩, trivial⟩⟩⟩⟩⟩⟩⟩⟩⟩) ?_
   refine ahz (by kernel_rfl) ?_
   refine hw_cond rfl (fun h3 => ?_) (fun h4 => ?_)
   ·try simp at h3
    refine hw_reg ?_
    refine dp rfl (pop_move rfl) ?_
    refine dp rfl (pop_assign rfl) ?_
    refine dn ?_
    refine hw_ret ?_
    refine ret_p rfl ?_
    show HVal.int .i64 _ = _
    first | (rw [hg]; rfl) | (rw [hg, idxF, if_pos (show eqSt ePlay y x = true from h3)])
   ·try simp at h4
    refine hw_skip ?_
    refine blockQ_n ?_
    refine seqQ_n ?_
    refine hw_reg1 ?_
    refine dp rfl (pop_add64 rfl rfl (by omega) (by omega)) ?_
    refine dp rfl (pop_move rfl) ?_
    refine dn ?_
    refine ⟨k + 1, ?_, ?_, ⟨rfl, trivial⟩, (by repeat (first | exact keeps_refl | refine keeps_upd rfl ?_ | refine keeps_loop rfl rfl ?_)), List.Perm.refl _⟩
    ·refine ⟨by omega, ?_⟩
     rw [hg, idxF, if_neg (by rw [show eqSt ePlay y x = false from h4]; simp)]; rfl
    ·dsimp only; omega
  ·try simp at h2
   have hnk : l.length ≤ k := by omega
   obtain rfl : k = l.length := by omega
   rw [drop_all (Nat.le_refl _)] at hg
   refine hw_exit ?_
   refine seqQ_x ?_
   refine loopQ_x ?_
   refine blockQ_eq ?_
   refine seqQ_n ?_
   refine hw_reg ?_
   refine dp rfl (pop_assign rfl) ?_
   refine dn ?_
   refine hw_ret ?_
   refine ret_p rfl ?_
   show HVal.int .i64 _ = _
   first | (rw [hg]; rfl) | (rw [hg, idxF, if_pos (show eqSt ePlay y x = true from h3)])

/-- slices.Contains[[]benchwarmer/api.Play,benchwarmer/api.Play] -/
theorem c_slices_Contains_api_Play_api_Play [Tracks] {l : List Play} {y : Play} (hl : l.length ≤ 1000000) : ConP Tryz.prog 46 [ePlays l, ePlay y] (.bool (decide (y ∈ l))) := by
 refine Con.of_body Tryz.func46 rfl Tryz.ntmps46 rfl rfl ?_
 refine hw_reg ?_
 refine dp rfl (pop_box rfl rfl) ?_
 refine dp rfl (pop_assign rfl) ?_
 refine dn ?_
 refine hw_reg ?_
 refine dp rfl (pop_move rfl) ?_
 refine dp rfl (pop_loadw ty30 rfl rfl rfl rfl) ?_
 refine dp rfl (pop_call ca73 rfl (WeakL.refl _) (c_slices_Index_api_Play_api_Play (by first | assumption | omega | (simp; omega) | simp_all))) ?_
 refine dp rfl (pop_geq rfl rfl) ?_
 refine dp rfl (pop_assign rfl) ?_
 refine dn ?_
 refine hw_ret ?_
 refine ret_p rfl ?_
 show HVal.bool _ = _
 rw [← play_any, ← idxF_nonneg _ l 0 (by omega)]

set_option maxHeartbeats 1000000 in
/-- benchwarmer/play.Merge -/
theorem c_play_Merge [Tracks] {a b : List Play} (ha : a.length ≤ 100) (hb : b.length ≤ 100) : ConP Tryz.prog 12 [ePlays a, ePlays b] (.tup [ePlays (MergePL a b), .int .i64 (MergePE a b)]) := by
 refine Con.of_body Tryz.func12 rfl Tryz.ntmps12 rfl rfl ?_
 refine hw_reg ?_
 refine dp rfl (pop_assign rfl) ?_
 refine dp rfl (pop_assign rfl) ?_
 refine dn ?_
 refine hw_seq ?_
 refine hw_reg ?_
 refine dp rfl (pop_move rfl) ?_
 refine dp rfl (pop_call ca11 rfl (WeakL.refl _) (c_play_CheckPlays (l := a) (by omega))) ?_
 refine dp rfl (pop_move rfl) ?_
 refine dp rfl (pop_call ca11 rfl (WeakL.refl _) (c_play_CheckPlays (l := b) (by omega))) ?_
 refine dp rfl (pop_buildSlice (hs := [_, _]) ty67 ty34 rfl rfl (by decide) (by decide) rfl) ?_
 refine dp rfl (pop_call ca36 rfl (WeakL.refl _) (c_base_First (l := [_, _]) (by simp))) ?_
 refine dp rfl (pop_assign rfl) ?_
 refine dn ?_
 refine hw_reg ?_
 refine dp rfl (pop_move rfl) ?_
 refine dp rfl (pop_neq rfl rfl) ?_
 refine dn ?_
 refine hw_cond rfl (fun h1 => ?_) (fun h2 => ?_)
 ·try simp at h1
  refine hw_reg ?_
  refine dp rfl (pop_move rfl) ?_
  refine dp rfl (pop_assign rfl) ?_
  refine dp rfl (pop_assign rfl) ?_
  refine dn ?_
  refine hw_ret ?_
  first
  | exact ret_w rfl (weak_tup2 (by rw [MergePL, if_pos (by simpa using h1)]; exact weak_nil 9) (by rw [MergePE, if_pos (by simpa using h1)]; exact Weak.refl _))
  | (have hcf := mer_some byNo_cmp hms hns hz3 hz2 hx (by rw [show k - 1 + 1 = k by omega]; exact hy) (by assumption)
     exact ret_w rfl (weak_tup2 (by rw [MergePL, if_neg (by simpa using h2), if_pos hcf]; exact weak_nil 9) (by rw [MergePE, if_neg (by simpa using h2), if_pos hcf]; exact Weak.refl _)))
  | (have h9 := h7
     exact ret_w rfl (weak_tup2 (by rw [MergePL, if_neg (by simpa using h2), if_neg (by simp [hcf]), if_pos (by simpa using h9)]; exact weak_nil 9) (by rw [MergePE, if_neg (by simpa using h2), if_neg (by simp [hcf])]; exact Weak.refl _)))
  | (have h9 : playsE (merS byNo a b) = 0 := by simpa using h8
     refine ret_p rfl ?_
     rw [MergePL, MergePE, if_neg (by simpa using h2), if_neg (by simp [hcf]), if_neg (by simp [h9]), if_neg (by simpa using h2), if_neg (by simp [hcf]), h9]; rfl)
 ·try simp at h2
  refine hw_skip ?_
  refine seqQ_n ?_
  obtain ⟨ha0, hb0⟩ := or2z h2
  have hms := plays_rise ha0
  have hns := plays_rise hb0
  refine hw_reg ?_
  refine dp rfl (pop_move rfl) ?_
  refine dp rfl (pop_move rfl) ?_
  refine dp rfl (pop_buildSlice (hs := [_, _]) ty104 ty26 rfl rfl (by decide) (by decide) rfl) ?_
  refine de rfl (eop_calla ca37 rfl (WeakL.refl _) (c_concat_Play (LL := [a, b]) (by simp) (by simp; omega)) fun v22 => ?_)
  refine dp rfl (pop_assign rfl) ?_
  refine dn ?_
  refine hw_reg ?_
  refine dp rfl (pop_move rfl) ?_
  refine de rfl (eop_callx (i := 0) ca38 rfl (WeakL.refl _) rfl (c_sstable_api_Play (l := [a, b].flatten) (c := byNo) ca35 (fun _ _ => c_play_byNo) byNo_cmp (by simp; omega)) ?_)
  rintro _ _ ⟨Z, rfl, ⟨hz1, hz2⟩, rfl⟩
  have hz3 : Z.Perm (a ++ b) := by simpa using hz1
  have hzl := hz3.length_eq
  rw [List.length_append] at hzl
  refine dn ?_
  refine hw_reg ?_
  refine dp rfl (pop_move rfl) ?_
  refine de rfl (eop_callx (i := 0) ca39 rfl (WeakL.refl _) rfl (c_slices_Compact_api_Play_api_Play (l := Z) (by omega)) ?_)
  rintro _ _ ⟨u26, rfl, rfl⟩
  refine dp rfl (pop_assign rfl) ?_
  refine dn ?_
  refine hw_seq ?_
  refine hw_ghost (Ghost.fa 7 (i := 0) rfl rfl) ?_
  have hul := uniqA_len Z none
  refine hw_reg ?_
  refine dp rfl (pop_assign rfl) ?_
  refine dn ?_
  refine hw_block ?_
  refine hw_loopw [4, 5, 8, 27, 28, 29, 30, 31, 32, 33, 34, 35, 36, 37, 38, 39, 40, 41, 42, 43] (fun (k : Nat) => [(8, .int .i64 (k : Int))]) (fun (k : Nat) => []) (fun (k : Nat) => 1 ≤ k ∧ ∀ (i : Nat) (x y : Play), i + 1 < k → (uniqA none Z)[i]? = some x → (uniqA none Z)[i + 1]? = some y → byNo x y ≠ 0) (fun (k : Nat) => (uniqA none Z).length - k) (1) ?_ ?_ ?_ ?_
  ·exact ⟨Nat.le_refl _, fun i x y h => by omega⟩
  ·exact ⟨rfl, trivial⟩
  ·exact perm_eq rfl
  ·intro k hinv
   obtain ⟨hk, hadj⟩ := hinv
   refine hw_seq ?_
   refine hw_reg ?_
   refine dp rfl (pop_move rfl) ?_
   refine dp rfl (pop_move rfl) ?_
   refine dp rfl (pop_lenm (f := ePlay) (l := (uniqA none Z)) ty26 rfl) ?_
   refine dp rfl (pop_lss rfl rfl) ?_
   refine dn ?_
   refine hw_cond rfl (fun h3 => ?_) (fun h4 => ?_)
   ·try simp at h3
    obtain ⟨x, hx⟩ : ∃ x, (uniqA none Z)[k - 1]? = some x := ⟨_, List.getElem?_eq_getElem (by omega)⟩
    obtain ⟨y, hy⟩ : ∃ y, (uniqA none Z)[k]? = some y := ⟨_, List.getElem?_eq_getElem (by omega)⟩
    refine hw_skip ?_
    refine seqQ_n ?_
    refine hw_seq ?_
    refine hw_block ?_
    refine hw_draw (fun _ => True) [] mixed ?_
    refine ahp 0 rfl rfl (by kernel_rfl) (by kernel_rfl) (pop_move rfl) ?_
    refine ahp 1 rfl rfl (by kernel_rfl) (by kernel_rfl) (pop_move rfl) ?_
    refine ahp 2 rfl rfl (by kernel_rfl) (by kernel_rfl) (pop_sub64 rfl rfl (by omega) (by omega)) ?_
    refine ahp 3 rfl rfl (by kernel_rfl) (by kernel_rfl) (pop_idx (j := k - 1) (a := x) ty26 ty30 rfl rfl (by omega) hx) ?_
    refine ahp 4 rfl rfl (by kernel_rfl) (by kernel_rfl) (pop_loadw ty30 rfl rfl rfl rfl) ?_
    refine ahp 5 rfl rfl (by kernel_rfl) (by kernel_rfl) (pop_move rfl) ?_
    refine ahp 6 rfl rfl (by kernel_rfl) (by kernel_rfl) (pop_move rfl) ?_
    refine ahp 7 rfl rfl (by kernel_rfl) (by kernel_rfl) (pop_idx (j := k) (a := y) ty26 ty30 rfl rfl rfl hy) ?_
    refine ahp 8 rfl rfl (by kernel_rfl) (by kernel_rfl) (pop_loadw ty30 rfl rfl rfl rfl) ?_
    refine ahp 9 rfl rfl (by kernel_rfl) (by kernel_rfl) (pop_call ca35 rfl (WeakL.refl _) c_play_byNo) ?_
    refine ahp 10 rfl rfl (by kernel_rfl) (by kernel_rfl) (pop_eql rfl rfl) ?_
    refine ahz (by kernel_rfl) ?_
    refine hw_cond rfl (fun h5 => ?_) (fun h6 => ?_)
    ·try simp at h5
     refine hw_reg ?_
     refine dp rfl (pop_assign rfl) ?_
     refine dp rfl (pop_assign rfl) ?_
     refine dn ?_
     refine hw_ret ?_
     first
     | exact ret_w rfl (weak_tup2 (by rw [MergePL, if_pos (by simpa using h1)]; exact weak_nil 9) (by rw [MergePE, if_pos (by simpa using h1)]; exact Weak.refl _))
     | (have hcf := mer_some byNo_cmp hms hns hz3 hz2 hx (by rw [show k - 1 + 1 = k by omega]; exact hy) (by assumption)
        exact ret_w rfl (weak_tup2 (by rw [MergePL, if_neg (by simpa using h2), if_pos hcf]; exact weak_nil 9) (by rw [MergePE, if_neg (by simpa using h2), if_pos hcf]; exact Weak.refl _)))
     | (have h9 := h7
        exact ret_w rfl (weak_tup2 (by rw [MergePL, if_neg (by simpa using h2), if_neg (by simp [hcf]), if_pos (by simpa using h9)]; exact weak_nil 9) (by rw [MergePE, if_neg (by simpa using h2), if_neg (by simp [hcf])]; exact Weak.refl _)))
     | (have h9 : playsE (merS byNo a b) = 0 := by simpa using h8
        refine ret_p rfl ?_
        rw [MergePL, MergePE, if_neg (by simpa using h2), if_neg (by simp [hcf]), if_neg (by simp [h9]), if_neg (by simpa using h2), if_neg (by simp [hcf]), h9]; rfl)
    ·try simp at h6
     refine hw_skip ?_
     refine blockQ_n ?_
     refine seqQ_n ?_
     refine hw_reg1 ?_
     refine dp rfl (pop_move rfl) ?_
     refine dp rfl (pop_add64 rfl rfl (by omega) (by omega)) ?_
     refine dp rfl (pop_assign rfl) ?_
     refine dn ?_
     exact ⟨k + 1, ⟨by omega, fun i x2 y2 h3 h4 h5 => by
      rcases Nat.lt_or_ge (i + 1) k with q | q
      ·exact hadj i x2 y2 q h4 h5
      ·obtain rfl : i = k - 1 := by omega
       rw [hx] at h4; rw [show k - 1 + 1 = k by omega, hy] at h5
       rw [← Option.some.inj h4, ← Option.some.inj h5]; assumption⟩, by dsimp only; omega, ⟨rfl, trivial⟩, (by repeat (first | exact keeps_refl | refine keeps_upd rfl ?_ | refine keeps_loop rfl rfl ?_)), List.Perm.refl _⟩
   ·try simp at h4
    obtain ⟨hcf, hme⟩ := mer_none byNo_cmp hms hns hz3 hz2 (fun i x y h1 h2 => hadj i x y (by have := lt_of_get h2; omega) h1 h2)
    refine hw_exit ?_
    refine seqQ_x ?_
    refine loopQ_x ?_
    refine blockQ_eq ?_
    refine seqQ_n ?_
    refine hw_seq ?_
    rw [hme]
    refine hw_reg ?_
    refine dp rfl (pop_move rfl) ?_
    refine dp rfl (pop_call ca11 rfl (WeakL.refl _) (c_play_CheckPlays (l := (merS byNo a b)) (Nat.le_trans (merS_len _ _ _) (by omega)))) ?_
    refine dp rfl (pop_assign rfl) ?_
    refine dn ?_
    refine hw_reg ?_
    refine dp rfl (pop_move rfl) ?_
    refine dp rfl (pop_neq rfl rfl) ?_
    refine dn ?_
    refine hw_cond rfl (fun h7 => ?_) (fun h8 => ?_)
    ·try simp at h7
     refine hw_reg ?_
     refine dp rfl (pop_move rfl) ?_
     refine dp rfl (pop_assign rfl) ?_
     refine dp rfl (pop_assign rfl) ?_
     refine dn ?_
     refine hw_ret ?_
     first
     | exact ret_w rfl (weak_tup2 (by rw [MergePL, if_pos (by simpa using h1)]; exact weak_nil 9) (by rw [MergePE, if_pos (by simpa using h1)]; exact Weak.refl _))
     | (have hcf := mer_some byNo_cmp hms hns hz3 hz2 hx (by rw [show k - 1 + 1 = k by omega]; exact hy) (by assumption)
        exact ret_w rfl (weak_tup2 (by rw [MergePL, if_neg (by simpa using h2), if_pos hcf]; exact weak_nil 9) (by rw [MergePE, if_neg (by simpa using h2), if_pos hcf]; exact Weak.refl _)))
     | (have h9 := h7
        exact ret_w rfl (weak_tup2 (by rw [MergePL, if_neg (by simpa using h2), if_neg (by simp [hcf]), if_pos (by simpa using h9)]; exact weak_nil 9) (by rw [MergePE, if_neg (by simpa using h2), if_neg (by simp [hcf])]; exact Weak.refl _)))
     | (have h9 : playsE (merS byNo a b) = 0 := by simpa using h8
        refine ret_p rfl ?_
        rw [MergePL, MergePE, if_neg (by simpa using h2), if_neg (by simp [hcf]), if_neg (by simp [h9]), if_neg (by simpa using h2), if_neg (by simp [hcf]), h9]; rfl)
    ·try simp at h8
     refine hw_skip ?_
     refine seqQ_n ?_
     refine hw_reg ?_
     refine dp rfl (pop_move rfl) ?_
     refine dp rfl (pop_assign rfl) ?_
     refine dp rfl (pop_assign rfl) ?_
     refine dn ?_
     refine hw_ret ?_
     first
     | exact ret_w rfl (weak_tup2 (by rw [MergePL, if_pos (by simpa using h1)]; exact weak_nil 9) (by rw [MergePE, if_pos (by simpa using h1)]; exact Weak.refl _))
     | (have hcf := mer_some byNo_cmp hms hns hz3 hz2 hx (by rw [show k - 1 + 1 = k by omega]; exact hy) (by assumption)
        exact ret_w rfl (weak_tup2 (by rw [MergePL, if_neg (by simpa using h2), if_pos hcf]; exact weak_nil 9) (by rw [MergePE, if_neg (by simpa using h2), if_pos hcf]; exact Weak.refl _)))
     | (have h9 := h7
        exact ret_w rfl (weak_tup2 (by rw [MergePL, if_neg (by simpa using h2), if_neg (by simp [hcf]), if_pos (by simpa using h9)]; exact weak_nil 9) (by rw [MergePE, if_neg (by simpa using h2), if_neg (by simp [hcf])]; exact Weak.refl _)))
     | (have h9 : playsE (merS byNo a b) = 0 := by simpa using h8
        refine ret_p rfl ?_
        rw [MergePL, MergePE, if_neg (by simpa using h2), if_neg (by simp [hcf]), if_neg (by simp [h9]), if_neg (by simpa using h2), if_neg (by simp [hcf]), h9]; rfl)

set_option maxHeartbeats 1000000 in
/-- benchwarmer/play.Lacks -/
theorem c_play_Lacks [Tracks] {a b : List Play} (ha : a.length ≤ 100) (hb : b.length ≤ 100) : ConP Tryz.prog 13 [ePlays a, ePlays b] (.tup [ePlays (LackL a b), .int .i64 (LackE a b)]) := by
 refine Con.of_body Tryz.func13 rfl Tryz.ntmps13 rfl rfl ?_
 refine hw_reg ?_
 refine dp rfl (pop_assign rfl) ?_
 refine dp rfl (pop_assign rfl) ?_
 refine dn ?_
 refine hw_seq ?_
 refine hw_reg ?_
 refine dp rfl (pop_move rfl) ?_
 refine dp rfl (pop_call ca11 rfl (WeakL.refl _) (c_play_CheckPlays (l := a) (by omega))) ?_
 refine dp rfl (pop_move rfl) ?_
 refine dp rfl (pop_call ca11 rfl (WeakL.refl _) (c_play_CheckPlays (l := b) (by omega))) ?_
 refine dp rfl (pop_buildSlice (hs := [_, _]) ty67 ty34 rfl rfl (by decide) (by decide) rfl) ?_
 refine dp rfl (pop_call ca36 rfl (WeakL.refl _) (c_base_First (l := [_, _]) (by simp))) ?_
 refine dp rfl (pop_assign rfl) ?_
 refine dn ?_
 refine hw_reg ?_
 refine dp rfl (pop_move rfl) ?_
 refine dp rfl (pop_neq rfl rfl) ?_
 refine dn ?_
 refine hw_cond rfl (fun h1 => ?_) (fun h2 => ?_)
 ·try simp at h1
  refine hw_reg ?_
  refine dp rfl (pop_move rfl) ?_
  refine dp rfl (pop_assign rfl) ?_
  refine dp rfl (pop_assign rfl) ?_
  refine dn ?_
  refine hw_ret ?_
  first
  | exact ret_w rfl (weak_tup2 (by rw [LackL, if_pos (by simpa using h1)]; exact weak_nil 9) (Weak.refl _))
  | (refine ret_fa (M := []) 4 rfl rfl ?_
     have hz9 : LackE a b = 0 := by simpa [LackE] using h2
     rw [LackL, if_neg (by simpa using h2), hz9]; rfl)
 ·try simp at h2
  refine hw_skip ?_
  refine seqQ_n ?_
  refine hw_reg ?_
  refine de rfl (eop_makeMap fun m22 => ?_)
  refine dp rfl (pop_assign rfl) ?_
  refine dn ?_
  refine hw_seq ?_
  refine hw_reg ?_
  refine dp rfl (pop_move rfl) ?_
  refine dp rfl (pop_lenm ty26 rfl) ?_
  refine dp rfl (pop_move rfl) ?_
  refine dn ?_
  refine hw_block ?_
  refine hw_loopw [9, 25, 26, 27, 28, 29, 30, 31] (fun (k : Nat) => [(25, .int .i64 k)]) (fun (k : Nat) => [.map m22 (kk ePlay (em HVal.bool (lkM (a.take k))))]) (fun (k : Nat) => k ≤ a.length ∧ (True)) (fun (k : Nat) => a.length - k) (0) ?_ ?_ ?_ ?_
  ·exact ⟨Nat.zero_le _, trivial⟩
  ·exact ⟨rfl, trivial⟩
  ·exact perm_eq rfl
  ·intro k hinv
   obtain ⟨hk, -⟩ := hinv
   refine hw_reg ?_
   refine dp rfl (pop_lss rfl rfl) ?_
   refine dn ?_
   refine hw_seq ?_
   refine hw_cond rfl (fun h3 => ?_) (fun h4 => ?_)
   ·try simp at h3
    obtain ⟨x, hx⟩ : ∃ x, a[k]? = some x := ⟨_, List.getElem?_eq_getElem h3⟩
    have hdx := drop_cons hx
    refine hw_skip ?_
    refine seqQ_n ?_
    refine hw_seq ?_
    refine hw_block ?_
    refine hw_reg ?_
    refine dp rfl (pop_idx ty26 ty30 rfl rfl rfl (by first | assumption | simp_all)) ?_
    refine dp rfl (pop_loadw ty30 rfl rfl rfl rfl) ?_
    refine de rfl (eop_alloc ty30 rfl fun b9 => ?_)
    refine de0 (eop_storew ty30 rfl rfl rfl rfl rfl ?_)
    refine dn ?_
    refine hw_ghost (Ghost.fc0 9 rfl) ?_
    refine hw_reg1 ?_
    refine dp rfl (pop_move rfl) ?_
    refine dp rfl (pop_loadw ty30 rfl rfl rfl rfl) ?_
    refine de0 (eop_updatekA (i := 0) (s := x) (v := true) ty71 ok30 rfl rfl rfl rfl ?_)
    refine dn ?_
    refine blockQ_n ?_
    refine seqQ_n ?_
    refine hw_reg1 ?_
    refine dp rfl (pop_add64 rfl rfl (by omega) (by omega)) ?_
    refine dp rfl (pop_move rfl) ?_
    refine dn ?_
    exact ⟨k + 1, ⟨by omega, trivial⟩, by dsimp only; omega, ⟨rfl, trivial⟩, (by repeat (first | exact keeps_refl | refine keeps_upd rfl ?_ | refine keeps_loop rfl rfl ?_)), perm_eq (by dsimp only; rw [lkM_snoc hx]; rfl)⟩
   ·try simp at h4
    have hnk : a.length ≤ k := by omega
    obtain rfl : k = a.length := by omega
    rw [List.take_length]
    refine hw_exit ?_
    refine seqQ_x ?_
    refine loopQ_x ?_
    refine blockQ_eq ?_
    refine seqQ_n ?_
    refine hw_reg ?_
    refine dp rfl (pop_assign rfl) ?_
    refine dn ?_
    refine hw_ghost (Ghost.arr_nil 9) ?_
    refine hw_seq ?_
    refine hw_reg ?_
    refine dp rfl (pop_move rfl) ?_
    refine dp rfl (pop_lenm ty26 rfl) ?_
    refine dp rfl (pop_move rfl) ?_
    refine dn ?_
    refine hw_block ?_
    refine hw_loopw2 [10, 12, 34, 35, 36, 37, 38, 39, 40, 41, 42, 43, 44, 45, 46] (fun (k : Nat) (u : Value) => [(34, .int .i64 k), (10, .raw u)]) (fun (k : Nat) (u : Value) => [.arr u 9 ((lackL a (b.take k)).map ePlay), .map m22 (kk ePlay (em HVal.bool (lkM a)))]) (fun (k : Nat) (u : Value) => k ≤ b.length ∧ (True)) (fun (k : Nat) (u : Value) => b.length - k) (0) (.slice none 0 0) ?_ ?_ ?_ ?_
    ·exact ⟨Nat.zero_le _, trivial⟩
    ·exact ⟨rfl, rfl, trivial⟩
    ·exact perm_eq rfl
    ·intro k u hinv
     obtain ⟨hk, -⟩ := hinv
     refine hw_reg ?_
     refine dp rfl (pop_lss rfl rfl) ?_
     refine dn ?_
     refine hw_seq ?_
     refine hw_cond rfl (fun h5 => ?_) (fun h6 => ?_)
     ·try simp at h5
      obtain ⟨x, hx⟩ : ∃ x, b[k]? = some x := ⟨_, List.getElem?_eq_getElem h5⟩
      have hdx := drop_cons hx
      refine hw_skip ?_
      refine seqQ_n ?_
      refine hw_seq ?_
      refine hw_block ?_
      refine hw_reg ?_
      refine dp rfl (pop_idx ty26 ty30 rfl rfl rfl (by first | assumption | simp_all)) ?_
      refine dp rfl (pop_loadw ty30 rfl rfl rfl rfl) ?_
      refine de rfl (eop_alloc ty30 rfl fun b12 => ?_)
      refine de0 (eop_storew ty30 rfl rfl rfl rfl rfl ?_)
      refine dn ?_
      refine hw_ghost (Ghost.fc0 12 rfl) ?_
      refine hw_reg ?_
      refine dp rfl (pop_move rfl) ?_
      refine dp rfl (pop_loadw ty30 rfl rfl rfl rfl) ?_
      refine de rfl (eop_lookupkA (i := 1) (s := x) (z0 := false) (f := HVal.bool) ty71 ok30 ty4 rfl rfl rfl rfl ?_)
      rw [lk_is]
      refine dp rfl (pop_not rfl) ?_
      refine dn ?_
      refine hw_cond rfl (fun h7 => ?_) (fun h8 => ?_)
      ·try simp at h7
       refine hw_reg1 ?_
       refine dp rfl (pop_move rfl) ?_
       refine dp rfl (pop_loadw ty30 rfl rfl rfl rfl) ?_
       refine dp rfl (pop_buildSlice (hs := [_]) ty26 ty30 rfl rfl (by decide) (by decide) rfl) ?_
       refine de rfl (eop_append (i := 0) ty26 ty30 rfl rfl rfl rfl rfl (by simp [flat, hcells]) (by have := lack_len a (b.take k); simp only [List.length_map, List.length_cons, List.length_nil, List.length_take] at *; omega) fun v45 => ?_)
       refine dp rfl (pop_assign rfl) ?_
       refine dn ?_
       refine blockQ_n ?_
       refine seqQ_n ?_
       refine hw_reg1 ?_
       refine dp rfl (pop_add64 rfl rfl (by omega) (by omega)) ?_
       refine dp rfl (pop_move rfl) ?_
       refine dn ?_
       exact ⟨k + 1, v45, ⟨by omega, trivial⟩, by dsimp only; omega, ⟨rfl, rfl, trivial⟩, (by repeat (first | exact keeps_refl | refine keeps_upd rfl ?_ | refine keeps_loop rfl rfl ?_)), perm_eq (by dsimp only; rw [lack_yes hx (by simp_all), List.map_append]; rfl)⟩
      ·try simp at h8
       refine hw_skip ?_
       refine blockQ_n ?_
       refine seqQ_n ?_
       refine hw_reg1 ?_
       refine dp rfl (pop_add64 rfl rfl (by omega) (by omega)) ?_
       refine dp rfl (pop_move rfl) ?_
       refine dn ?_
       exact ⟨k + 1, u, ⟨by omega, trivial⟩, by dsimp only; omega, ⟨rfl, rfl, trivial⟩, (by repeat (first | exact keeps_refl | refine keeps_upd rfl ?_ | refine keeps_loop rfl rfl ?_)), perm_eq (by dsimp only; rw [lack_no hx (by simp_all)])⟩
     ·try simp at h6
      have hnk : b.length ≤ k := by omega
      obtain rfl : k = b.length := by omega
      refine hw_exit ?_
      refine seqQ_x ?_
      refine loopQ2_x ?_
      refine blockQ_eq ?_
      refine seqQ_n ?_
      rw [List.take_length]
      refine hw_ghost (Ghost.only (i := 0) rfl) ?_
      refine hw_reg ?_
      refine dp rfl (pop_move rfl) ?_
      refine dp rfl (pop_assign rfl) ?_
      refine dp rfl (pop_assign rfl) ?_
      refine dn ?_
      refine hw_ret ?_
      first
      | exact ret_w rfl (weak_tup2 (by rw [LackL, if_pos (by simpa using h1)]; exact weak_nil 9) (Weak.refl _))
      | (refine ret_fa (M := []) 4 rfl rfl ?_
         have hz9 : LackE a b = 0 := by simpa [LackE] using h2
         rw [LackL, if_neg (by simpa using h2), hz9]; rfl)

set_option maxHeartbeats 1000000 in
/-- benchwarmer/play.Undone -/
theorem c_play_Undone [Tracks] {l : List Play} (hl : l.length ≤ 1000) : ConP Tryz.prog 14 [ePlays l] (.tup [.slice 1 ((UndL l).map (.int .i64)), .int .i64 (playsE l)]) := by
 refine Con.of_body Tryz.func14 rfl Tryz.ntmps14 rfl rfl ?_
 refine hw_reg ?_
 refine dp rfl (pop_assign rfl) ?_
 refine dp rfl (pop_assign rfl) ?_
 refine dn ?_
 refine hw_seq ?_
 refine hw_reg ?_
 refine dp rfl (pop_move rfl) ?_
 refine dp rfl (pop_call ca11 rfl (WeakL.refl _) (c_play_CheckPlays (l := l) (by omega))) ?_
 refine dp rfl (pop_assign rfl) ?_
 refine dn ?_
 refine hw_reg ?_
 refine dp rfl (pop_move rfl) ?_
 refine dp rfl (pop_neq rfl rfl) ?_
 refine dn ?_
 refine hw_cond rfl (fun h1 => ?_) (fun h2 => ?_)
 ·try simp at h1
  refine hw_reg ?_
  refine dp rfl (pop_move rfl) ?_
  refine dp rfl (pop_assign rfl) ?_
  refine dp rfl (pop_assign rfl) ?_
  refine dn ?_
  refine hw_ret ?_
  first
  | exact ret_w rfl (weak_tup2 (by rw [und_bad (by simpa using h1)]; exact weak_nil 1) (Weak.refl _))
  | (refine ret_fa (M := []) 2 rfl rfl ?_
     have hz9 : playsE l = 0 := by simpa using h2
     rw [(und_good hz9).1, hz9]; rfl)
 ·try simp at h2
  refine hw_skip ?_
  refine seqQ_n ?_
  refine hw_reg ?_
  refine dp rfl (pop_move rfl) ?_
  refine de rfl (eop_callf (M1 := []) (R := []) ca40 rfl (WeakL.refl _) (List.Perm.refl _) (c_play_undone (l := l) (n := 345686400000) (by omega)) ?_)
  rintro _ _ ⟨b15, rfl, rfl⟩
  refine dp rfl (pop_assign rfl) ?_
  refine dn ?_
  refine hw_reg ?_
  refine dp rfl (pop_assign rfl) ?_
  refine dn ?_
  refine hw_ghost (Ghost.arr_nil 1) ?_
  refine hw_seq ?_
  refine hw_reg ?_
  refine dp rfl (pop_move rfl) ?_
  refine dp rfl (pop_lenm ty26 rfl) ?_
  refine dp rfl (pop_move rfl) ?_
  refine dn ?_
  refine hw_block ?_
  refine hw_loopw2 [6, 7, 8, 18, 19, 20, 21, 22, 23, 24, 25, 26, 27, 28, 29, 30, 31, 32, 33, 34] (fun (k : Nat) (u : Value) => [(18, .int .i64 k), (6, .raw u)]) (fun (k : Nat) (u : Value) => [.arr u 1 ((undI l 345686400000 k).map (.int .i64)), .map b15 (kk eNum (em HVal.bool (goneL l 345686400000)))]) (fun (k : Nat) (u : Value) => k ≤ l.length ∧ (True)) (fun (k : Nat) (u : Value) => l.length - k) (0) (.slice none 0 0) ?_ ?_ ?_ ?_
  ·exact ⟨Nat.zero_le _, trivial⟩
  ·exact ⟨rfl, rfl, trivial⟩
  ·exact perm_eq rfl
  ·intro k u hinv
   obtain ⟨hk, -⟩ := hinv
   refine hw_reg ?_
   refine dp rfl (pop_lss rfl rfl) ?_
   refine dn ?_
   refine hw_seq ?_
   refine hw_cond rfl (fun h3 => ?_) (fun h4 => ?_)
   ·try simp at h3
    obtain ⟨x, hx⟩ : ∃ x, l[k]? = some x := ⟨_, List.getElem?_eq_getElem h3⟩
    have hdx := drop_cons hx
    refine hw_skip ?_
    refine seqQ_n ?_
    refine hw_seq ?_
    refine hw_block ?_
    refine hw_reg ?_
    refine dp rfl (pop_move rfl) ?_
    refine dp rfl (pop_idx ty26 ty30 rfl rfl rfl (by first | assumption | simp_all)) ?_
    refine dp rfl (pop_loadw ty30 rfl rfl rfl rfl) ?_
    refine de rfl (eop_alloc ty30 rfl fun b8 => ?_)
    refine dp rfl (pop_assign rfl) ?_
    refine de0 (eop_storew ty30 rfl rfl rfl rfl rfl ?_)
    refine dn ?_
    refine hw_ghost (Ghost.fc0 8 rfl) ?_
    refine hw_reg ?_
    refine dp rfl (pop_move rfl) ?_
    refine dp rfl ((by first | exact pop_fieldAddr ty30 rfl ty9 (by decide) rfl | exact pop_fieldAddr_raw ty30 rfl ty9 (by decide) rfl)) ?_
    refine dp rfl (pop_load ty9 rfl rfl rfl) ?_
    refine dp rfl ((by first | exact pop_fieldAddr ty30 rfl ty3 (by decide) rfl | exact pop_fieldAddr_raw ty30 rfl ty3 (by decide) rfl)) ?_
    refine dp rfl (pop_load ty3 rfl rfl rfl) ?_
    refine dp rfl (pop_build (cs := [_, _]) ty75 pl75 rfl) ?_
    refine de rfl (eop_lookupkA (i := 1) (s := (x.Source, x.No)) (z0 := false) (f := HVal.bool) ty72 ok75 ty4 rfl rfl rfl rfl ?_)
    rw [← und_at hx]
    refine dn ?_
    refine hw_cond rfl (fun h5 => ?_) (fun h6 => ?_)
    ·try simp at h5
     refine hw_reg1 ?_
     refine dp rfl (pop_move rfl) ?_
     refine dp rfl (pop_move rfl) ?_
     refine dp rfl (pop_buildSlice (hs := [_]) ty22 ty3 rfl rfl (by decide) (by decide) rfl) ?_
     refine de rfl (eop_append (i := 0) ty22 ty3 rfl rfl rfl rfl rfl (by simp [flat, hcells]) (by have := undI_len l 345686400000 k; simp only [List.length_map, List.length_cons, List.length_nil]; omega) fun v33 => ?_)
     refine dp rfl (pop_assign rfl) ?_
     refine dn ?_
     refine blockQ_n ?_
     refine seqQ_n ?_
     refine hw_reg1 ?_
     refine dp rfl (pop_add64 rfl rfl (by omega) (by omega)) ?_
     refine dp rfl (pop_move rfl) ?_
     refine dn ?_
     exact ⟨k + 1, v33, ⟨by omega, trivial⟩, by dsimp only; omega, ⟨rfl, rfl, trivial⟩, (by repeat (first | exact keeps_refl | refine keeps_upd rfl ?_ | refine keeps_loop rfl rfl ?_)), perm_eq (by dsimp only; rw [undI_yes (by assumption), List.map_append]; rfl)⟩
    ·try simp at h6
     refine hw_skip ?_
     refine blockQ_n ?_
     refine seqQ_n ?_
     refine hw_reg1 ?_
     refine dp rfl (pop_add64 rfl rfl (by omega) (by omega)) ?_
     refine dp rfl (pop_move rfl) ?_
     refine dn ?_
     exact ⟨k + 1, u, ⟨by omega, trivial⟩, by dsimp only; omega, ⟨rfl, rfl, trivial⟩, (by repeat (first | exact keeps_refl | refine keeps_upd rfl ?_ | refine keeps_loop rfl rfl ?_)), perm_eq (by dsimp only; rw [undI_no (by assumption)])⟩
   ·try simp at h4
    have hnk : l.length ≤ k := by omega
    obtain rfl : k = l.length := by omega
    refine hw_exit ?_
    refine seqQ_x ?_
    refine loopQ2_x ?_
    refine blockQ_eq ?_
    refine seqQ_n ?_
    refine hw_ghost (Ghost.only (i := 0) rfl) ?_
    refine hw_reg ?_
    refine dp rfl (pop_move rfl) ?_
    refine dp rfl (pop_assign rfl) ?_
    refine dp rfl (pop_assign rfl) ?_
    refine dn ?_
    refine hw_ret ?_
    first
    | exact ret_w rfl (weak_tup2 (by rw [und_bad (by simpa using h1)]; exact weak_nil 1) (Weak.refl _))
    | (refine ret_fa (M := []) 2 rfl rfl ?_
       have hz9 : playsE l = 0 := by simpa using h2
       rw [(und_good hz9).1, hz9]; rfl)

/-- benchwarmer/benchref1.PlaysMerged$1 -/
theorem c_benchref1_PlaysMerged_1 [Tracks] {y x : Play}  : ConP Tryz.prog 42 [ePlay y, .vptr (hcells (ePlay x)) 0] (.bool (decide (byNo x y = 0))) := by
 refine Con.of_body Tryz.func42 rfl Tryz.ntmps42 rfl rfl ?_
 refine hw_reg ?_
 refine dp rfl (pop_box rfl rfl) ?_
 refine dp rfl (pop_assign rfl) ?_
 refine dn ?_
 refine hw_reg ?_
 refine dp rfl (pop_loadw ty30 rfl rfl rfl rfl) ?_
 refine dp rfl (pop_loadw ty30 rfl rfl rfl rfl) ?_
 refine dp rfl (pop_call ca33 rfl (WeakL.refl _) c_benchref1_byPlay) ?_
 refine dp rfl (pop_eql rfl rfl) ?_
 refine dp rfl (pop_assign rfl) ?_
 refine dn ?_
 refine hw_ret ?_
 refine ret_p rfl ?_
 show HVal.bool _ = _
 first | rfl | (simp; rfl)

set_option maxHeartbeats 1000000 in
/-- benchwarmer/benchref1.PlaysMerged -/
theorem c_benchref1_PlaysMerged [Tracks] {a b : List Play} (ha : a.length ≤ 100) (hb : b.length ≤ 100) (hms : a.Pairwise fun x y => byNo x y < 0) (hns : b.Pairwise fun x y => byNo x y < 0) (hga : ∀ x ∈ a, GoodPl1 x) (hgb : ∀ x ∈ b, GoodPl1 x) : ConP Tryz.prog 15 [ePlays a, ePlays b] (.tup [ePlays (mpL a b), .int .i64 (mpE a b)]) := by
 refine Con.of_body Tryz.func15 rfl Tryz.ntmps15 rfl rfl ?_
 refine hw_reg ?_
 refine dp rfl (pop_assign rfl) ?_
 refine dp rfl (pop_assign rfl) ?_
 refine dn ?_
 refine hw_reg ?_
 refine dp rfl (pop_move rfl) ?_
 refine de rfl (eop_calla ca6 rfl (WeakL.refl _) (c_slices_Clone_api_Play_api_Play (l := a) (by omega)) fun v12 => ?_)
 refine dp rfl (pop_assign rfl) ?_
 refine dn ?_
 refine hw_seq ?_
 refine hw_reg ?_
 refine dp rfl (pop_move rfl) ?_
 refine dp rfl (pop_lenm ty26 rfl) ?_
 refine dp rfl (pop_move rfl) ?_
 refine dn ?_
 refine hw_block ?_
 refine hw_loopw2 [4, 5, 6, 8, 9, 15, 16, 17, 18, 19, 20, 21, 22, 23, 24, 25, 26, 27, 28, 29, 30, 31, 32, 33, 34, 35, 36] (fun (k : Nat) (u : Value) => [(15, .int .i64 k), (6, .raw u)]) (fun (k : Nat) (u : Value) => [.arr u 9 ((addA byNo a (b.take k)).map ePlay)]) (fun (k : Nat) (u : Value) => k ≤ b.length ∧ (cflA byNo a (b.take k) = false)) (fun (k : Nat) (u : Value) => b.length - k) (0) (v12) ?_ ?_ ?_ ?_
 ·exact ⟨Nat.zero_le _, by simp [cflA]⟩
 ·exact ⟨rfl, rfl, trivial⟩
 ·exact perm_eq (by simp [addA])
 ·intro k u hinv
  obtain ⟨hk, hcf⟩ := hinv
  refine hw_reg ?_
  refine dp rfl (pop_lss rfl rfl) ?_
  refine dn ?_
  refine hw_seq ?_
  refine hw_cond rfl (fun h1 => ?_) (fun h2 => ?_)
  ·try simp at h1
   obtain ⟨x, hx⟩ : ∃ x, b[k]? = some x := ⟨_, List.getElem?_eq_getElem h1⟩
   have hdx := drop_cons hx
   refine hw_skip ?_
   refine seqQ_n ?_
   refine hw_seq ?_
   refine hw_block ?_
   refine hw_reg ?_
   refine dp rfl (pop_idx ty26 ty30 rfl rfl rfl (by first | assumption | simp_all)) ?_
   refine dp rfl (pop_loadw ty30 rfl rfl rfl rfl) ?_
   refine de rfl (eop_alloc ty30 rfl fun b8 => ?_)
   refine de0 (eop_storew ty30 rfl rfl rfl rfl rfl ?_)
   refine dn ?_
   refine hw_ghost (Ghost.fc0 8 rfl) ?_
   refine hw_reg ?_
   refine dp rfl (pop_move rfl) ?_
   refine dp rfl (pop_makeFunc rfl rfl) ?_
   refine dp rfl (pop_call ca41 rfl (WeakL.refl _) (c_slices_IndexFunc_api_Play_api_Play (l := a) (p := fun y => decide (byNo x y = 0)) ca42 (fun _ => c_benchref1_PlaysMerged_1) (by omega))) ?_
   refine dp rfl (pop_assign rfl) ?_
   refine dn ?_
   refine hw_block ?_
   refine hw_reg ?_
   refine dp rfl (pop_move rfl) ?_
   refine dp rfl (pop_lss rfl rfl) ?_
   refine dp rfl (pop_assign rfl) ?_
   refine dn ?_
   refine hw_cond rfl (fun h3 => ?_) (fun h4 => ?_)
   ·try simp at h3
    have hnone : (a.any fun y => decide (byNo x y = 0)) = false := by rw [← idxF_nonneg _ a 0 (by omega)]; simp; omega
    refine hw_reg1 ?_
    refine dp rfl (pop_move rfl) ?_
    refine dp rfl (pop_loadw ty30 rfl rfl rfl rfl) ?_
    refine dp rfl (pop_buildSlice (hs := [_]) ty26 ty30 rfl rfl (by decide) (by decide) rfl) ?_
    refine de rfl (eop_append (i := 0) ty26 ty30 rfl rfl rfl rfl rfl (by simp [flat, hcells]) (by have := addA_len byNo a (b.take k); simp only [List.length_map, List.length_cons, List.length_nil, List.length_take] at *; omega) fun v28 => ?_)
    refine dp rfl (pop_assign rfl) ?_
    refine dn ?_
    refine blockQ_n ?_
    refine blockQ_n ?_
    refine seqQ_n ?_
    refine hw_reg1 ?_
    refine dp rfl (pop_add64 rfl rfl (by omega) (by omega)) ?_
    refine dp rfl (pop_move rfl) ?_
    refine dn ?_
    exact ⟨k + 1, v28, ⟨by omega, cfl_none hx hnone hcf⟩, by dsimp only; omega, ⟨rfl, rfl, trivial⟩, (by repeat (first | exact keeps_refl | refine keeps_upd rfl ?_ | refine keeps_loop rfl rfl ?_)), perm_eq (by dsimp only; rw [addA_yes hx hnone, List.map_append]; rfl)⟩
   ·try simp at h4
    obtain ⟨i0, hi0, hil, ⟨z, hz, hpz⟩, _⟩ := idxF_found (fun y => decide (byNo x y = 0)) a 0 (by omega) (by omega)
    rw [Int.zero_add] at hi0
    have hpz2 : byNo x z = 0 := by simpa using hpz
    have hzm := List.mem_of_getElem? hz
    have hany : (a.any fun y => decide (byNo x y = 0)) = true := List.any_eq_true.2 ⟨z, hzm, hpz⟩
    refine hw_draw (fun _ => True) [] mixed ?_
    refine ahp 0 rfl rfl (by kernel_rfl) (by kernel_rfl) (pop_move rfl) ?_
    refine ahp 1 rfl rfl (by kernel_rfl) (by kernel_rfl) (pop_move rfl) ?_
    refine ahp 2 rfl rfl (by kernel_rfl) (by kernel_rfl) (pop_idx (j := i0) (a := z) ty26 ty30 rfl rfl (by rw [hi0]) hz) ?_
    refine ahp 3 rfl rfl (by kernel_rfl) (by kernel_rfl) (pop_loadw ty30 rfl rfl rfl rfl) ?_
    refine ahp 4 rfl rfl (by kernel_rfl) (by kernel_rfl) (pop_loadw ty30 rfl rfl rfl rfl) ?_
    refine ahp 5 rfl rfl (by kernel_rfl) (by kernel_rfl) (pop_neqst ty30 eq30 rfl rfl ⟨rfl, ⟨_, _, _, _, ty9, rfl⟩, ⟨rfl, ⟨_, _, _, _, ty3, rfl⟩, ⟨rfl, ⟨_, _, _, _, ty3, rfl⟩, ⟨rfl, ⟨_, _, _, _, ty3, rfl⟩, ⟨rfl, ⟨_, _, _, _, ty9, rfl⟩, ⟨rfl, ⟨_, _, _, _, ty9, rfl⟩, ⟨rfl, ⟨_, _, _, _, ty9, rfl⟩, ⟨rfl, ⟨_, _, _, _, ty3, rfl⟩, ⟨rfl, ⟨_, _, _, _, ty3, rfl⟩, trivial⟩⟩⟩⟩⟩⟩⟩⟩⟩) ?_
    refine ahp 6 rfl rfl (by kernel_rfl) (by kernel_rfl) (pop_assign rfl) ?_
    refine ahz (by kernel_rfl) ?_
    refine hw_cond rfl (fun h5 => ?_) (fun h6 => ?_)
    ·try simp at h5
     refine hw_reg ?_
     refine dp rfl (pop_assign rfl) ?_
     refine dp rfl (pop_assign rfl) ?_
     refine dn ?_
     refine hw_ret ?_
     first
     | (have hzx : x ≠ z := fun q => by have q2 := (eqPlay_is _ _).2 q.symm; simp_all
        have hc1 := cflA_at (List.mem_of_getElem? hx) hzm hpz2 hzx
        exact ⟨_, [], Ghost.clear, _, _, rfl, weak_tup2 (by rw [mpL, if_pos hc1]; exact weak_nil 9) (by rw [mpE, if_pos hc1]; exact Weak.refl _), rfl, rfl⟩)
     | (refine ret_w rfl (weak_tup2 ?_ ?_)
        ·rw [mpL, if_neg (by simp [hcf]), if_pos (by assumption)]; exact weak_nil 9
        ·rw [mpE, if_neg (by simp [hcf])]; exact Weak.refl _)
     | (refine ret_p rfl ?_
        have h9 : playsE (merS byNo a b) = 0 := by assumption
        rw [mpL, mpE, if_neg (by simp [hcf]), if_neg (by simp [h9]), if_neg (by simp [hcf]), h9]; rfl)
    ·try simp at h6
     refine hw_skip ?_
     refine blockQ_n ?_
     refine blockQ_n ?_
     refine seqQ_n ?_
     refine hw_reg1 ?_
     refine dp rfl (pop_add64 rfl rfl (by omega) (by omega)) ?_
     refine dp rfl (pop_move rfl) ?_
     refine dn ?_
     have hzx : z = x := by
      refine (eqPlay_is _ _).1 ?_
      simp_all
     exact ⟨k + 1, u, ⟨by omega, cfl_same byNo_cmp hms hx hzm hpz2 hzx.symm hcf⟩, by dsimp only; omega, ⟨rfl, rfl, trivial⟩, (by repeat (first | exact keeps_refl | refine keeps_upd rfl ?_ | refine keeps_loop rfl rfl ?_)), perm_eq (by dsimp only; rw [addA_no hx hany])⟩
  ·try simp at h2
   have hnk : b.length ≤ k := by omega
   obtain rfl : k = b.length := by omega
   rw [List.take_length] at hcf
   rw [List.take_length]
   refine hw_exit ?_
   refine seqQ_x ?_
   refine loopQ2_x ?_
   refine blockQ_eq ?_
   refine seqQ_n ?_
   have hal := addA_len byNo a b
   refine hw_reg ?_
   refine dp rfl (pop_move rfl) ?_
   refine de rfl (eop_callx (i := 0) ca43 rfl (WeakL.refl _) rfl (c_sort_Play (c := byNo) (swo_cmp byNo_cmp) ca33 (fun _ _ => @c_benchref1_byPlay trackOn _ _) (l := addA byNo a b) (by omega)) ?_)
   rintro _ _ ⟨l', rfl, hp', hw', rfl⟩
   obtain rfl := mer_sorted byNo_cmp hms hns hp' hw'
   refine dn ?_
   refine hw_seq ?_
   refine hw_ghost (Ghost.fa 6 (i := 0) rfl rfl) ?_
   refine hw_reg ?_
   refine dp rfl (pop_move rfl) ?_
   refine dp rfl (pop_call ca9 rfl (WeakL.refl _) (c_benchref1_PlaysFault (l := (merS byNo a b)) (Nat.le_trans (merS_len _ _ _) (by omega)) (fun x hx => (merS_mem hx).elim (hga x) (hgb x)))) ?_
   refine dp rfl (pop_assign rfl) ?_
   refine dn ?_
   refine hw_reg ?_
   refine dp rfl (pop_move rfl) ?_
   refine dp rfl (pop_neq rfl rfl) ?_
   refine dn ?_
   refine hw_cond rfl (fun h7 => ?_) (fun h8 => ?_)
   ·try simp at h7
    refine hw_reg ?_
    refine dp rfl (pop_move rfl) ?_
    refine dp rfl (pop_assign rfl) ?_
    refine dp rfl (pop_assign rfl) ?_
    refine dn ?_
    refine hw_ret ?_
    first
    | (have hzx : x ≠ z := fun q => by have q2 := (eqPlay_is _ _).2 q.symm; simp_all
       have hc1 := cflA_at (List.mem_of_getElem? hx) hzm hpz2 hzx
       exact ⟨_, [], Ghost.clear, _, _, rfl, weak_tup2 (by rw [mpL, if_pos hc1]; exact weak_nil 9) (by rw [mpE, if_pos hc1]; exact Weak.refl _), rfl, rfl⟩)
    | (refine ret_w rfl (weak_tup2 ?_ ?_)
       ·rw [mpL, if_neg (by simp [hcf]), if_pos (by assumption)]; exact weak_nil 9
       ·rw [mpE, if_neg (by simp [hcf])]; exact Weak.refl _)
    | (refine ret_p rfl ?_
       have h9 : playsE (merS byNo a b) = 0 := by assumption
       rw [mpL, mpE, if_neg (by simp [hcf]), if_neg (by simp [h9]), if_neg (by simp [hcf]), h9]; rfl)
   ·try simp at h8
    refine hw_skip ?_
    refine seqQ_n ?_
    refine hw_reg ?_
    refine dp rfl (pop_move rfl) ?_
    refine dp rfl (pop_assign rfl) ?_
    refine dp rfl (pop_assign rfl) ?_
    refine dn ?_
    refine hw_ret ?_
    first
    | (have hzx : x ≠ z := fun q => by have q2 := (eqPlay_is _ _).2 q.symm; simp_all
       have hc1 := cflA_at (List.mem_of_getElem? hx) hzm hpz2 hzx
       exact ⟨_, [], Ghost.clear, _, _, rfl, weak_tup2 (by rw [mpL, if_pos hc1]; exact weak_nil 9) (by rw [mpE, if_pos hc1]; exact Weak.refl _), rfl, rfl⟩)
    | (refine ret_w rfl (weak_tup2 ?_ ?_)
       ·rw [mpL, if_neg (by simp [hcf]), if_pos (by assumption)]; exact weak_nil 9
       ·rw [mpE, if_neg (by simp [hcf])]; exact Weak.refl _)
    | (refine ret_p rfl ?_
       have h9 : playsE (merS byNo a b) = 0 := by assumption
       rw [mpL, mpE, if_neg (by simp [hcf]), if_neg (by simp [h9]), if_neg (by simp [hcf]), h9]; rfl)

/-- benchwarmer/benchref1.PlaysLacking$1 -/
theorem c_benchref1_PlaysLacking_1 [Tracks] {x : Play} {l : List Play} (hl : l.length ≤ 1000000) : ConP Tryz.prog 45 [ePlay x, .vptr [ePlays l] 0] (.bool (decide (x ∈ l))) := by
 refine Con.of_body Tryz.func45 rfl Tryz.ntmps45 rfl rfl ?_
 refine hw_reg ?_
 refine dp rfl (pop_box rfl rfl) ?_
 refine dp rfl (pop_assign rfl) ?_
 refine dn ?_
 refine hw_reg ?_
 refine dp rfl (pop_load ty26 rfl rfl rfl) ?_
 refine dp rfl (pop_loadw ty30 rfl rfl rfl rfl) ?_
 refine dp rfl (pop_call ca46 rfl (WeakL.refl _) (c_slices_Contains_api_Play_api_Play (l := l) (y := x) hl)) ?_
 refine dp rfl (pop_assign rfl) ?_
 refine dn ?_
 refine hw_ret ?_
 refine ret_p rfl ?_
 rfl

/-- benchwarmer/benchref1.PlaysLacking -/
theorem c_benchref1_PlaysLacking [Tracks] {a b : List Play} (ha : a.length ≤ 1000000) (hb : b.length ≤ 1000000) : ConP Tryz.prog 17 [ePlays a, ePlays b] (ePlays (lackL a b)) := by
 refine Con.of_body Tryz.func17 rfl Tryz.ntmps17 rfl rfl ?_
 refine hw_reg ?_
 refine dp rfl (pop_box rfl rfl) ?_
 refine dp rfl (pop_assign rfl) ?_
 refine dn ?_
 refine hw_reg ?_
 refine dp rfl (pop_move rfl) ?_
 refine de rfl (eop_calla ca6 rfl (WeakL.refl _) (c_slices_Clone_api_Play_api_Play (l := b) (by omega)) fun v6 => ?_)
 refine dp rfl (pop_makeFunc rfl rfl) ?_
 refine de rfl (eop_callx (i := 0) ca44 rfl (WeakL.refl _) rfl (c_slices_DeleteFunc_api_Play_api_Play (l := b) (p := fun x => decide (x ∈ a)) ca45 (fun _ => c_benchref1_PlaysLacking_1 ha) (by omega)) ?_)
 rintro _ _ ⟨u8, rfl, rfl⟩
 refine dp rfl (pop_assign rfl) ?_
 refine dn ?_
 refine hw_ret ?_
 exact ret_fa (M := []) 4 rfl rfl rfl

/-- benchwarmer/benchref1.undoneBy -/
theorem c_undoneBy_x [Tracks] {l : List Play} {n : Int} (hl : l.length ≤ 1000000) : Con Tryz.prog 47 [ePlays l, .int .i64 n] [] (fun x M' => x = .slice 1 ((Lib.compact (sortI (undR l n l))).map (.int .i64)) ∧ M' = []) := by
 refine Con.of_body Tryz.func47 rfl Tryz.ntmps47 rfl rfl ?_
 refine hw_reg ?_
 refine dp rfl (pop_assign rfl) ?_
 refine dn ?_
 refine hw_reg ?_
 refine dp rfl (pop_assign rfl) ?_
 refine dn ?_
 refine hw_ghost (Ghost.arr_nil 1) ?_
 refine hw_seq ?_
 refine hw_reg ?_
 refine dp rfl (pop_move rfl) ?_
 refine dp rfl (pop_lenm ty26 rfl) ?_
 refine dp rfl (pop_move rfl) ?_
 refine dn ?_
 refine hw_block ?_
 refine hw_loopw2 [5, 6, 7, 10, 11, 12, 13, 14, 15, 16, 17, 18, 19, 20, 21, 22, 23] (fun (k : Nat) (u : Value) => [(10, .int .i64 k), (5, .raw u)]) (fun (k : Nat) (u : Value) => [.arr u 1 ((undR l n (l.take k)).map (.int .i64))]) (fun (k : Nat) (u : Value) => k ≤ l.length ∧ (True)) (fun (k : Nat) (u : Value) => l.length - k) (0) (.slice none 0 0) ?_ ?_ ?_ ?_
 ·exact ⟨Nat.zero_le _, trivial⟩
 ·exact ⟨rfl, rfl, trivial⟩
 ·exact List.Perm.refl _
 ·intro k u hinv
  obtain ⟨hk, -⟩ := hinv
  refine hw_reg ?_
  refine dp rfl (pop_lss rfl rfl) ?_
  refine dn ?_
  refine hw_seq ?_
  refine hw_cond rfl (fun h1 => ?_) (fun h2 => ?_)
  ·try simp at h1
   obtain ⟨x, hx⟩ : ∃ x, l[k]? = some x := ⟨_, List.getElem?_eq_getElem h1⟩
   have hdx := drop_cons hx
   have hul : (undR l n (l.take k)).length ≤ k := Nat.le_trans (undR_len _ _ _) (by simp; omega)
   refine hw_skip ?_
   refine seqQ_n ?_
   refine hw_seq ?_
   refine hw_block ?_
   refine hw_reg ?_
   refine dp rfl (pop_move rfl) ?_
   refine dp rfl (pop_assign rfl) ?_
   refine dn ?_
   refine hw_reg ?_
   refine dp rfl (pop_move rfl) ?_
   refine dp rfl (pop_move rfl) ?_
   refine dp rfl (pop_move rfl) ?_
   refine dp rfl (pop_call ca74 rfl (WeakL.refl _) (c_benchref1_takes hl hx)) ?_
   refine dp rfl (pop_assign rfl) ?_
   refine dn ?_
   refine hw_reg ?_
   refine dp rfl (pop_move rfl) ?_
   refine dp rfl (pop_geq rfl rfl) ?_
   refine dn ?_
   refine hw_cond rfl (fun h3 => ?_) (fun h4 => ?_)
   ·try simp at h3
    refine hw_reg1 ?_
    refine dp rfl (pop_move rfl) ?_
    refine dp rfl (pop_move rfl) ?_
    refine dp rfl (pop_buildSlice (hs := [_]) ty22 ty3 rfl rfl (by decide) (by decide) rfl) ?_
    first
    | refine de rfl (eop_append (i := 0) ty22 ty3 rfl rfl rfl rfl rfl (by simp [flat, hcells]) (by first | omega | (simp; omega)) fun v22 => ?_)
    | refine de rfl (eop_append (i := 1) ty22 ty3 rfl rfl rfl rfl rfl (by simp [flat, hcells]) (by first | omega | (simp; omega)) fun v22 => ?_)
    | refine de rfl (eop_append (i := 2) ty22 ty3 rfl rfl rfl rfl rfl (by simp [flat, hcells]) (by first | omega | (simp; omega)) fun v22 => ?_)
    | refine de rfl (eop_append (i := 3) ty22 ty3 rfl rfl rfl rfl rfl (by simp [flat, hcells]) (by first | omega | (simp; omega)) fun v22 => ?_)
    refine dp rfl (pop_assign rfl) ?_
    refine dn ?_
    refine blockQ_n ?_
    refine seqQ_n ?_
    refine hw_reg1 ?_
    refine dp rfl (pop_add64 rfl rfl (by omega) (by omega)) ?_
    refine dp rfl (pop_move rfl) ?_
    refine dn ?_
    exact ⟨k + 1, v22, ⟨by omega, trivial⟩, by dsimp only; omega, ⟨rfl, rfl, trivial⟩, (by repeat (first | exact keeps_refl | refine keeps_upd rfl ?_ | refine keeps_loop rfl rfl ?_)), perm_eq (by dsimp only; rw [undR_yes hx (by simpa using h3)]; simp)⟩
   ·try simp at h4
    refine hw_skip ?_
    refine blockQ_n ?_
    refine seqQ_n ?_
    refine hw_reg1 ?_
    refine dp rfl (pop_add64 rfl rfl (by omega) (by omega)) ?_
    refine dp rfl (pop_move rfl) ?_
    refine dn ?_
    exact ⟨k + 1, u, ⟨by omega, trivial⟩, by dsimp only; omega, ⟨rfl, rfl, trivial⟩, (by repeat (first | exact keeps_refl | refine keeps_upd rfl ?_ | refine keeps_loop rfl rfl ?_)), perm_eq (by dsimp only; rw [undR_no hx (by simpa using h4)])⟩
  ·try simp at h2
   have hnk : l.length ≤ k := by omega
   obtain rfl : k = l.length := by omega
   refine hw_exit ?_
   refine seqQ_x ?_
   refine loopQ2_x ?_
   refine blockQ_eq ?_
   refine seqQ_n ?_
   rw [List.take_length]
   have hul := undR_len l l n
   refine hw_reg ?_
   refine dp rfl (pop_move rfl) ?_
   refine de rfl (eop_callx (i := 0) ca75 rfl (WeakL.refl _) rfl (c_slices_SortI (l := undR l n l) (by omega)) ?_)
   rintro _ _ ⟨rfl, rfl⟩
   refine dn ?_
   refine hw_reg ?_
   refine dp rfl (pop_move rfl) ?_
   refine de rfl (eop_callx (i := 0) ca76 rfl (WeakL.refl _) rfl (c_slices_CompactI (l := sortI (undR l n l)) (by rw [sortI_len]; omega)) ?_)
   rintro _ _ ⟨u27, rfl, rfl⟩
   refine dp rfl (pop_assign rfl) ?_
   refine dn ?_
   refine hw_ret ?_
   exact ret_g (Ghost.fa 4 (i := 0) rfl rfl) rfl ⟨rfl, rfl⟩

/-- benchwarmer/benchref1.UndoneOf -/
theorem c_benchref1_UndoneOf [Tracks] {l : List Play} (hl : l.length ≤ 1000000) (h1 : OneKey l) : ConP Tryz.prog 20 [ePlays l] (.slice 1 ((undI l 345686400000 l.length).map (.int .i64))) := by
 refine Con.of_body Tryz.func20 rfl Tryz.ntmps20 rfl rfl ?_
 refine hw_reg ?_
 refine dp rfl (pop_assign rfl) ?_
 refine dn ?_
 refine hw_reg ?_
 refine dp rfl (pop_move rfl) ?_
 refine de rfl (eop_callf (M1 := []) (R := []) ca47 rfl (WeakL.refl _) (List.Perm.refl _) (c_undoneBy_x (l := l) (n := 345686400000) hl) ?_)
 rintro _ _ ⟨rfl, rfl⟩
 rw [undI_is h1]
 refine dp rfl (pop_assign rfl) ?_
 refine dn ?_
 refine hw_ret ?_
 refine ret_p rfl ?_
 rfl
end Go.Proofs.YtlankmahpaenhaaGreatDoor
end
section
namespace Go.Proofs.YtlankmahpaenhaaGreatDoor
open Go.HL
set_option maxRecDepth 100000
set_option linter.unusedVariables false
set_option linter.unusedSimpArgs false
end Go.Proofs.YtlankmahpaenhaaGreatDoor
end
section
namespace Go.Proofs.YtlankmahpaenhaaGreatDoor
open Go.HL
set_option maxRecDepth 100000
set_option linter.unusedVariables false
set_option linter.unusedSimpArgs false
set_option maxHeartbeats 1000000 in
/-- benchwarmer/benchmake.halves[benchwarmer/api.Play] -/
theorem c_benchmake_halves_api_Play [Tracks] {b : Nat} {l : List Int} {a : Nat} {L : List Play} (ha : a ≤ 700000) (hL : L.length ≤ 100) : Con Tryz.prog 31 [pAt b, ePlays L] [St b l a] (fun x M' => ∃ u A B, x = .tup [ePlays A, .raw u] ∧ Half A B L ∧ M' = [St b l (a + L.length), .arr u 9 (B.map ePlay)]) := by
 refine Con.of_body Tryz.func31 rfl Tryz.ntmps31 rfl rfl ?_
 refine hw_reg ?_
 refine dp rfl (pop_assign rfl) ?_
 refine dp rfl (pop_assign rfl) ?_
 refine dn ?_
 refine hw_ghost (Ghost.arr_nil 9) ?_
 refine hw_ghost (Ghost.arr_nil 9) ?_
 refine hw_seq ?_
 refine hw_reg ?_
 refine dp rfl (pop_move rfl) ?_
 refine dp rfl (pop_lenm ty26 rfl) ?_
 refine dp rfl (pop_move rfl) ?_
 refine dn ?_
 refine hw_block ?_
 refine hw_loopw2 [4, 5, 7, 8, 11, 12, 13, 14, 15, 16, 17, 18, 19, 20, 21, 22, 23, 24, 25, 26, 27, 28, 29] (fun (k : Nat) (q : (Value × List Play) × (Value × List Play)) => [(11, .int .i64 k), (4, .raw q.1.1), (5, .raw q.2.1)]) (fun (k : Nat) (q : (Value × List Play) × (Value × List Play)) => [St b l (a + k), .arr q.1.1 9 (q.1.2.map ePlay), .arr q.2.1 9 (q.2.2.map ePlay)]) (fun (k : Nat) (q : (Value × List Play) × (Value × List Play)) => k ≤ L.length ∧ (Half q.1.2 q.2.2 (L.take k))) (fun (k : Nat) (q : (Value × List Play) × (Value × List Play)) => L.length - k) (0) (((.slice none 0 0, []), (.slice none 0 0, []))) ?_ ?_ ?_ ?_
 ·exact ⟨Nat.zero_le _, Half.nil⟩
 ·exact ⟨rfl, rfl, rfl, trivial⟩
 ·exact by exact (List.Perm.swap _ _ _).trans ((List.Perm.cons _ (List.Perm.swap _ _ _)).trans (List.Perm.swap _ _ _))
 ·intro k q hinv
  obtain ⟨hk, hh⟩ := hinv
  obtain ⟨⟨ua, A⟩, ⟨ub, B0⟩⟩ := q
  dsimp only at hh ⊢
  refine hw_reg ?_
  refine dp rfl (pop_lss rfl rfl) ?_
  refine dn ?_
  refine hw_seq ?_
  refine hw_cond rfl (fun h1 => ?_) (fun h2 => ?_)
  ·try simp at h1
   obtain ⟨x, hx⟩ : ∃ x, L[k]? = some x := ⟨_, List.getElem?_eq_getElem h1⟩
   have hdx := drop_cons hx
   refine hw_skip ?_
   refine seqQ_n ?_
   refine hw_seq ?_
   refine hw_block ?_
   refine hw_reg ?_
   refine dp rfl (pop_idx ty26 ty30 rfl rfl rfl (by first | assumption | simp_all)) ?_
   refine dp rfl (pop_loadw ty30 rfl rfl rfl rfl) ?_
   refine de rfl (eop_alloc ty30 rfl fun b7 => ?_)
   refine de0 (eop_storew ty30 rfl rfl rfl rfl rfl ?_)
   refine dn ?_
   refine hw_ghost (Ghost.fc0 7 rfl) ?_
   refine hw_reg ?_
   refine dp rfl (pop_move rfl) ?_
   first
   | refine de rfl (eop_callx (i := 0) ca29 rfl (WeakL.refl _) rfl (c_benchmake_Stream_Next (by first | assumption | omega | (simp; omega) | simp_all) (by first | assumption | omega | (simp; omega) | simp_all)) ?_)
   | refine de rfl (eop_callx (i := 1) ca29 rfl (WeakL.refl _) rfl (c_benchmake_Stream_Next (by first | assumption | omega | (simp; omega) | simp_all) (by first | assumption | omega | (simp; omega) | simp_all)) ?_)
   | refine de rfl (eop_callx (i := 2) ca29 rfl (WeakL.refl _) rfl (c_benchmake_Stream_Next (by first | assumption | omega | (simp; omega) | simp_all) (by first | assumption | omega | (simp; omega) | simp_all)) ?_)
   | refine de rfl (eop_callx (i := 3) ca29 rfl (WeakL.refl _) rfl (c_benchmake_Stream_Next (by first | assumption | omega | (simp; omega) | simp_all) (by first | assumption | omega | (simp; omega) | simp_all)) ?_)
   rintro _ _ ⟨y16, rfl, hy16, rfl⟩
   refine dp rfl (pop_assign rfl) ?_
   refine dn ?_
   refine hw_seq ?_
   refine hw_reg ?_
   refine dp rfl (pop_move rfl) ?_
   refine dp rfl (pop_neq rfl rfl) ?_
   refine dn ?_
   refine hw_cond rfl (fun h3 => ?_) (fun h4 => ?_)
   ·try simp at h3
    refine hw_reg1 ?_
    refine dp rfl (pop_move rfl) ?_
    refine dp rfl (pop_loadw ty30 rfl rfl rfl rfl) ?_
    refine dp rfl (pop_buildSlice (hs := [_]) ty26 ty30 rfl rfl (by decide) (by decide) rfl) ?_
    refine de rfl (eop_append (i := 1) ty26 ty30 rfl rfl rfl rfl rfl (by simp [flat, hcells]) (by have := hh.sa.length_le; have := hh.sb.length_le; simp only [List.length_map, List.length_cons, List.length_nil, List.length_take] at *; omega) fun v22 => ?_)
    refine dp rfl (pop_assign rfl) ?_
    refine dn ?_
    refine seqQ_n ?_
    refine hw_reg ?_
    refine dp rfl (pop_move rfl) ?_
    refine dp rfl (pop_neq rfl rfl) ?_
    refine dn ?_
    refine hw_cond rfl (fun h5 => ?_) (fun h6 => ?_)
    ·try simp at h5
     refine hw_reg1 ?_
     refine dp rfl (pop_move rfl) ?_
     refine dp rfl (pop_loadw ty30 rfl rfl rfl rfl) ?_
     refine dp rfl (pop_buildSlice (hs := [_]) ty26 ty30 rfl rfl (by decide) (by decide) rfl) ?_
     refine de rfl (eop_append (i := 2) ty26 ty30 rfl rfl rfl rfl rfl (by simp [flat, hcells]) (by have := hh.sa.length_le; have := hh.sb.length_le; simp only [List.length_map, List.length_cons, List.length_nil, List.length_take] at *; omega) fun v28 => ?_)
     refine dp rfl (pop_assign rfl) ?_
     refine dn ?_
     refine blockQ_n ?_
     refine seqQ_n ?_
     refine hw_reg1 ?_
     refine dp rfl (pop_add64 rfl rfl (by omega) (by omega)) ?_
     refine dp rfl (pop_move rfl) ?_
     refine dn ?_
     exact ⟨k + 1, ((v22, A ++ [x]), (v28, B0 ++ [x])), ⟨by omega, by rw [take_snoc' hx]; exact hh.both x⟩, by dsimp only; omega, ⟨rfl, rfl, rfl, trivial⟩, (by repeat (first | exact keeps_refl | refine keeps_upd rfl ?_ | refine keeps_loop rfl rfl ?_)), perm_eq (by dsimp only; simp only [List.map_append, List.map_cons, List.map_nil]; rfl)⟩
    ·try simp at h6
     refine hw_skip ?_
     refine blockQ_n ?_
     refine seqQ_n ?_
     refine hw_reg1 ?_
     refine dp rfl (pop_add64 rfl rfl (by omega) (by omega)) ?_
     refine dp rfl (pop_move rfl) ?_
     refine dn ?_
     exact ⟨k + 1, ((v22, A ++ [x]), (ub, B0)), ⟨by omega, by rw [take_snoc' hx]; exact hh.left x⟩, by dsimp only; omega, ⟨rfl, rfl, rfl, trivial⟩, (by repeat (first | exact keeps_refl | refine keeps_upd rfl ?_ | refine keeps_loop rfl rfl ?_)), perm_eq (by dsimp only; simp only [List.map_append, List.map_cons, List.map_nil]; rfl)⟩
   ·try simp at h4
    refine hw_skip ?_
    refine seqQ_n ?_
    refine hw_reg ?_
    refine dp rfl (pop_move rfl) ?_
    refine dp rfl (pop_neq rfl rfl) ?_
    refine dn ?_
    refine hw_cond rfl (fun h7 => ?_) (fun h8 => ?_)
    ·try simp at h7
     refine hw_reg1 ?_
     refine dp rfl (pop_move rfl) ?_
     refine dp rfl (pop_loadw ty30 rfl rfl rfl rfl) ?_
     refine dp rfl (pop_buildSlice (hs := [_]) ty26 ty30 rfl rfl (by decide) (by decide) rfl) ?_
     refine de rfl (eop_append (i := 2) ty26 ty30 rfl rfl rfl rfl rfl (by simp [flat, hcells]) (by have := hh.sa.length_le; have := hh.sb.length_le; simp only [List.length_map, List.length_cons, List.length_nil, List.length_take] at *; omega) fun v28 => ?_)
     refine dp rfl (pop_assign rfl) ?_
     refine dn ?_
     refine blockQ_n ?_
     refine seqQ_n ?_
     refine hw_reg1 ?_
     refine dp rfl (pop_add64 rfl rfl (by omega) (by omega)) ?_
     refine dp rfl (pop_move rfl) ?_
     refine dn ?_
     exact ⟨k + 1, ((ua, A), (v28, B0 ++ [x])), ⟨by omega, by rw [take_snoc' hx]; exact hh.right x⟩, by dsimp only; omega, ⟨rfl, rfl, rfl, trivial⟩, (by repeat (first | exact keeps_refl | refine keeps_upd rfl ?_ | refine keeps_loop rfl rfl ?_)), perm_eq (by dsimp only; simp only [List.map_append, List.map_cons, List.map_nil]; rfl)⟩
    ·try simp at h8
     refine hw_skip ?_
     refine blockQ_n ?_
     refine seqQ_n ?_
     refine hw_reg1 ?_
     refine dp rfl (pop_add64 rfl rfl (by omega) (by omega)) ?_
     refine dp rfl (pop_move rfl) ?_
     refine dn ?_
     exfalso
     omega
  ·try simp at h2
   have hnk : L.length ≤ k := by omega
   obtain rfl : k = L.length := by omega
   rw [List.take_length] at hh
   refine hw_exit ?_
   refine seqQ_x ?_
   refine loopQ2_x ?_
   refine blockQ_eq ?_
   refine seqQ_n ?_
   refine hw_reg ?_
   refine dp rfl (pop_move rfl) ?_
   refine dp rfl (pop_move rfl) ?_
   refine dp rfl (pop_assign rfl) ?_
   refine dp rfl (pop_assign rfl) ?_
   refine dn ?_
   refine hw_ret ?_
   exact ret_g (Ghost.fa 4 (i := 1) rfl rfl) rfl ⟨ub, A, B0, rfl, hh, rfl⟩

/-- (*benchwarmer/benchmake.Stream).HalfTold -/
theorem c_benchmake_Stream_HalfTold [Tracks] {b : Nat} {l : List Int} {a : Nat} {L : List Play} (ha : a ≤ 700000) (hL : L.length ≤ 100) : Con Tryz.prog 8 [pAt b, ePlays L] [St b l a] (fun x M' => ∃ u A B, x = .tup [ePlays A, .raw u] ∧ Half A B L ∧ M' = [St b l (a + L.length), .arr u 9 (B.map ePlay)]) := by
 refine Con.of_body Tryz.func8 rfl Tryz.ntmps8 rfl rfl ?_
 refine hw_reg ?_
 refine dp rfl (pop_assign rfl) ?_
 refine dp rfl (pop_assign rfl) ?_
 refine dn ?_
 refine hw_reg ?_
 refine dp rfl (pop_move rfl) ?_
 refine dp rfl (pop_move rfl) ?_
 refine de rfl (eop_callx (i := 0) ca31 rfl (WeakL.refl _) rfl (c_benchmake_halves_api_Play ha hL) ?_)
 rintro _ _ ⟨u8, A8, B8, rfl, hh8, rfl⟩
 refine dp rfl (pop_extract rfl rfl) ?_
 refine dp rfl (pop_extract rfl rfl) ?_
 refine dp rfl (pop_assign rfl) ?_
 refine dp rfl (pop_assign rfl) ?_
 refine dn ?_
 refine hw_ret ?_
 exact ret_q rfl ⟨u8, A8, B8, rfl, hh8, rfl⟩
end Go.Proofs.YtlankmahpaenhaaGreatDoor
end
