/- The statement is proved: the card of the law, out of its function's contract; no conditions. -/
import Derived.Test.YtfkobanmdpbjkaaGreatDoorPOffersChecked4
import Derived.Ground.Names2Prog
import Derived.Ground.SlsfProg
import Derived.KernelRfl
import Derived.LaidMore
import Derived.Lay
import Derived.OpenShut
import Derived.ProofKit
import Derived.SevenTiedAt
import Derived.Shelf.SlSortCmp.NoneTotal
import Derived.Shelf.Slices.CompactS
import Derived.Shelf.Slices.Delete
import Derived.Shelf.Sort.Plain
import Derived.Shelf.Strconv.Atoi
import Derived.Shelf.Strconv.Itoa3
import Derived.Shelf.Strings.Prefix
import Derived.Stop.Joined
import Derived.Test.YtfkobanmdpbjkaaGreatDoorCards
import Derived.Test.YtfkobanmdpbjkaaGreatDoorProg
import Derived.Test.YtfkobanmdpbjkaaGreatDoorTie
set_option linter.unusedVariables false
set_option linter.unusedSimpArgs false
section
namespace Go.Proofs.YtfkobanmdpbjkaaGreatDoor
open Go.HL
set_option maxRecDepth 100000
set_option linter.unusedVariables false
set_option linter.unusedSimpArgs false
set_option maxHeartbeats 1000000 in
/-- slices.swapRangeCmpFunc[benchwarmer/api.Answer] -/
theorem c_swap_api_Answer [Tracks] {A X B Y C : List ReplyS} {ia ib k0 : Int} {n b off cap : Nat} {f : HVal} (hxy : X.length = Y.length) (hn : A.length + X.length + B.length + Y.length + C.length = n) (hia : ia = (A.length : Int)) (hib : ib = (A.length : Int) + X.length + B.length) (hk0 : k0 = (X.length : Int)) (hl : n ≤ 1000000) : Con Tryz.prog 215 [.raw (.slice (some ⟨b, off, none⟩) n cap), .int .i64 ia, .int .i64 ib, .int .i64 k0, f] [.arr (.slice (some ⟨b, off, none⟩) n cap) 4 ((A ++ X ++ B ++ Y ++ C).map eReply)] (fun x M' => x = .tup [] ∧ M' = [.arr (.slice (some ⟨b, off, none⟩) n cap) 4 ((A ++ Y ++ B ++ X ++ C).map eReply)]) := by
 refine Con.of_body Tryz.func215 rfl Tryz.ntmps215 rfl rfl ?_
 refine hw_reg ?_
 refine dp rfl (pop_assign rfl) ?_
 refine dn ?_
 refine hw_block ?_
 refine hw_loopw [10, 11, 12, 13, 14, 15, 16, 17, 18, 19, 20, 21, 22, 23, 24, 25, 26, 27, 28, 29, 30, 31, 32, 33, 34, 35, 36, 37] (fun (k : Nat) => [(10, .int .i64 (k : Int))]) (fun (k : Nat) => [.arr (.slice (some ⟨b, off, none⟩) n cap) 4 ((swR A X B Y C k).map eReply)]) (fun (k : Nat) => k ≤ X.length) (fun (k : Nat) => X.length - k) (0) ?_ ?_ ?_ ?_
 ·exact Nat.zero_le _
 ·exact ⟨rfl, trivial⟩
 ·exact perm_eq (by rw [swR_zero])
 ·intro k hk
  refine hw_seq ?_
  refine hw_reg ?_
  refine dp rfl (pop_move rfl) ?_
  refine dp rfl (pop_move rfl) ?_
  refine dp rfl (pop_lss rfl rfl) ?_
  refine dn ?_
  refine hw_cond rfl (fun h1 => ?_) (fun h2 => ?_)
  ·try simp at h1
   obtain ⟨x, hx⟩ : ∃ x, X[k]? = some x := ⟨_, List.getElem?_eq_getElem (by omega)⟩
   obtain ⟨y, hy⟩ : ∃ y, Y[k]? = some y := ⟨_, List.getElem?_eq_getElem (by omega)⟩
   refine hw_skip ?_
   refine seqQ_n ?_
   refine hw_seq ?_
   refine hw_block ?_
   refine hw_draw1 (fun M => M = [.arr (.slice (some ⟨b, off, none⟩) n cap) 4 ((swR A X B Y C k).map eReply)]) [13, 19] mixed ?_
   refine ahp 0 rfl rfl (by kernel_rfl) (by kernel_rfl) (pop_move rfl) ?_
   refine ahp 1 rfl rfl (by kernel_rfl) (by kernel_rfl) (pop_move rfl) ?_
   refine ahp 2 rfl rfl (by kernel_rfl) (by kernel_rfl) (pop_move rfl) ?_
   refine ahp 3 rfl rfl (by kernel_rfl) (by kernel_rfl) (pop_add64 rfl rfl (by omega) (by omega)) ?_
   refine ahp 4 rfl rfl (by kernel_rfl) (by kernel_rfl) (pop_move rfl) ?_
   refine ahp 5 rfl rfl (by kernel_rfl) (by kernel_rfl) (pop_move rfl) ?_
   refine ahp 6 rfl rfl (by kernel_rfl) (by kernel_rfl) (pop_move rfl) ?_
   refine ahp 7 rfl rfl (by kernel_rfl) (by kernel_rfl) (pop_add64 rfl rfl (by omega) (by omega)) ?_
   refine ahp 8 rfl rfl (by kernel_rfl) (by kernel_rfl) (pop_move rfl) ?_
   refine ahp 9 rfl rfl (by kernel_rfl) (by kernel_rfl) (pop_move rfl) ?_
   refine ahp 10 rfl rfl (by kernel_rfl) (by kernel_rfl) (pop_move rfl) ?_
   refine ahp 11 rfl rfl (by kernel_rfl) (by kernel_rfl) (pop_add64 rfl rfl (by omega) (by omega)) ?_
   refine ahp 12 rfl rfl (by kernel_rfl) (by kernel_rfl) (pop_idxraw (j := A.length + X.length + B.length + k) ty34 ty75 rfl rfl (by omega) (by omega)) ?_
   refine ahl 13 rfl rfl (by kernel_rfl) (by kernel_rfl) (by simp) rfl (fun M hM => by subst hM; exact eop_load_elw (i := 0) (j := A.length + X.length + B.length + k) ty75 rfl rfl rfl (swR_get2 hx hy) rfl rfl rfl ⟨rfl, rfl⟩) ?_
   refine ahp 14 rfl rfl (by kernel_rfl) (by kernel_rfl) (pop_move rfl) ?_
   refine ahp 15 rfl rfl (by kernel_rfl) (by kernel_rfl) (pop_move rfl) ?_
   refine ahp 16 rfl rfl (by kernel_rfl) (by kernel_rfl) (pop_move rfl) ?_
   refine ahp 17 rfl rfl (by kernel_rfl) (by kernel_rfl) (pop_add64 rfl rfl (by omega) (by omega)) ?_
   refine ahp 18 rfl rfl (by kernel_rfl) (by kernel_rfl) (pop_idxraw (j := A.length + k) ty34 ty75 rfl rfl (by omega) (by omega)) ?_
   refine ahl 19 rfl rfl (by kernel_rfl) (by kernel_rfl) (by simp) rfl (fun M hM => by subst hM; exact eop_load_elw (i := 0) (j := A.length + k) ty75 rfl rfl rfl (swR_get1 hx hy) rfl rfl rfl ⟨rfl, rfl⟩) ?_
   refine ahp 20 rfl rfl (by kernel_rfl) (by kernel_rfl) (pop_idxraw (j := A.length + k) ty34 ty75 rfl rfl (by omega) (by omega)) ?_
   refine ahe 21 rfl (by kernel_rfl) ?_
   refine hop_e0 (eop_store_elw (i := 0) (j := A.length + k) (y := x) (y' := y) ty75 rfl rfl rfl rfl (swR_get1 hx hy) rfl rfl rfl ?_)
   refine ⟨fun _ => .inr (by simp [Before, Region.binds]), ?_⟩
   refine ahp 22 rfl rfl (by kernel_rfl) (by kernel_rfl) (pop_idxraw (j := A.length + X.length + B.length + k) ty34 ty75 rfl rfl (by omega) (by omega)) ?_
   refine ahe 23 rfl (by kernel_rfl) ?_
   refine hop_e0 (eop_store_elw (i := 0) (j := A.length + X.length + B.length + k) (y := y) (y' := x) ty75 rfl rfl rfl rfl (swR_get2' hx hy) rfl rfl rfl ?_)
   refine ⟨fun _ => .inr (by simp [Before, Region.binds]), ?_⟩
   refine ahz (by kernel_rfl) ?_
   refine blockQ_n ?_
   refine seqQ_n ?_
   refine hw_reg1 ?_
   refine dp rfl (pop_move rfl) ?_
   refine dp rfl (pop_add64 rfl rfl (by omega) (by omega)) ?_
   refine dp rfl (pop_assign rfl) ?_
   refine dn ?_
   exact ⟨k + 1, by omega, by dsimp only; omega, ⟨rfl, trivial⟩, (by repeat (first | exact keeps_refl | refine keeps_upd rfl ?_ | refine keeps_loop rfl rfl ?_)), perm_eq (by rw [swR_set hx hy]; rfl)⟩
  ·try simp at h2
   obtain rfl : k = X.length := by omega
   rw [swR_end hxy]
   refine hw_exit ?_
   refine seqQ_x ?_
   refine loopQ_x ?_
   refine blockQ_eq ?_
   exact ret_q rfl ⟨rfl, rfl⟩

set_option maxHeartbeats 1000000 in
/-- slices.rotateCmpFunc[benchwarmer/api.Answer] -/
theorem c_rotate_api_Answer [Tracks] {P U W Q : List ReplyS} {ia im ib : Int} {n b off cap : Nat} {f : HVal} (hu : 0 < U.length) (hw : 0 < W.length) (hn : P.length + U.length + W.length + Q.length = n) (hia : ia = (P.length : Int)) (him : im = (P.length : Int) + U.length) (hib : ib = (P.length : Int) + U.length + W.length) (hl : n ≤ 1000000) : Con Tryz.prog 186 [.raw (.slice (some ⟨b, off, none⟩) n cap), .int .i64 ia, .int .i64 im, .int .i64 ib, f] [.arr (.slice (some ⟨b, off, none⟩) n cap) 4 ((P ++ U ++ W ++ Q).map eReply)] (fun x M' => x = .tup [] ∧ M' = [.arr (.slice (some ⟨b, off, none⟩) n cap) 4 ((P ++ W ++ U ++ Q).map eReply)]) := by
 refine Con.of_body Tryz.func186 rfl Tryz.ntmps186 rfl rfl ?_
 refine hw_reg ?_
 refine dp rfl (pop_move rfl) ?_
 refine dp rfl (pop_move rfl) ?_
 refine dp rfl (pop_sub64 rfl rfl (by omega) (by omega)) ?_
 refine dp rfl (pop_assign rfl) ?_
 refine dn ?_
 refine hw_reg ?_
 refine dp rfl (pop_move rfl) ?_
 refine dp rfl (pop_move rfl) ?_
 refine dp rfl (pop_sub64 rfl rfl (by omega) (by omega)) ?_
 refine dp rfl (pop_assign rfl) ?_
 refine dn ?_
 refine hw_seq ?_
 refine hw_block ?_
 refine hw_loopw4 [10, 11, 18, 19, 20, 21, 22, 23, 24, 25, 26, 27, 28, 29, 30, 31, 32, 33, 34, 35, 36, 37, 38, 39, 40, 41, 42, 43, 44, 45, 46, 47, 48, 49] (fun (P1 : List ReplyS) (U1 : List ReplyS) (W1 : List ReplyS) (Q1 : List ReplyS) => [(10, .int .i64 (U1.length : Int)), (11, .int .i64 (W1.length : Int))]) (fun (P1 : List ReplyS) (U1 : List ReplyS) (W1 : List ReplyS) (Q1 : List ReplyS) => [.arr (.slice (some ⟨b, off, none⟩) n cap) 4 ((P1 ++ U1 ++ W1 ++ Q1).map eReply)]) (fun (P1 : List ReplyS) (U1 : List ReplyS) (W1 : List ReplyS) (Q1 : List ReplyS) => P1 ++ W1 ++ U1 ++ Q1 = P ++ W ++ U ++ Q ∧ P1.length + U1.length = P.length + U.length ∧ 0 < U1.length ∧ 0 < W1.length ∧ P1.length + U1.length + W1.length + Q1.length = n) (fun (P1 : List ReplyS) (U1 : List ReplyS) (W1 : List ReplyS) (Q1 : List ReplyS) => U1.length + W1.length) (P) (U) (W) (Q) ?_ ?_ ?_ ?_
 ·exact ⟨rfl, rfl, hu, hw, hn⟩
 ·exact ⟨some_int (by omega), some_int (by omega), trivial⟩
 ·exact List.Perm.refl _
 ·intro P1 U1 W1 Q1 hinv
  obtain ⟨hf, hpu, hu1, hw1, hn1⟩ := hinv
  refine hw_seq ?_
  refine hw_reg ?_
  refine dp rfl (pop_move rfl) ?_
  refine dp rfl (pop_move rfl) ?_
  refine dp rfl (pop_neq rfl rfl) ?_
  refine dn ?_
  refine hw_cond rfl (fun h1 => ?_) (fun h2 => ?_)
  ·try simp at h1
   refine hw_skip ?_
   refine seqQ_n ?_
   refine hw_block ?_
   refine hw_reg ?_
   refine dp rfl (pop_move rfl) ?_
   refine dp rfl (pop_move rfl) ?_
   refine dp rfl (pop_gtr rfl rfl) ?_
   refine dn ?_
   refine hw_cond rfl (fun h3 => ?_) (fun h4 => ?_)
   ·try simp at h3
    obtain ⟨Ua, Ub, rfl, hUa⟩ : ∃ Ua Ub, U1 = Ua ++ Ub ∧ Ua.length = W1.length := ⟨U1.take W1.length, U1.drop W1.length, (List.take_append_drop _ _).symm, by rw [List.length_take]; omega⟩
    rw [List.length_append] at *
    refine hw_ghost (Ghost.of_eq (M' := [.arr (.slice (some ⟨b, off, none⟩) n cap) 4 ((P1 ++ Ua ++ Ub ++ W1 ++ Q1).map eReply)]) (by simp)) ?_
    refine hw_reg ?_
    refine dp rfl (pop_move rfl) ?_
    refine dp rfl (pop_move rfl) ?_
    refine dp rfl (pop_move rfl) ?_
    refine dp rfl (pop_sub64 rfl rfl (by omega) (by omega)) ?_
    refine dp rfl (pop_move rfl) ?_
    refine dp rfl (pop_move rfl) ?_
    refine dp rfl (pop_move rfl) ?_
    refine de rfl (eop_callx (i := 0) ca215 rfl (WeakL.refl _) rfl (c_swap_api_Answer (A := P1) (X := Ua) (B := Ub) (Y := W1) (C := Q1) (n := n) (by omega) (by first | omega | (simp only [List.length_nil]; omega)) (by first | omega | (simp only [List.length_nil]; omega)) (by first | omega | (simp only [List.length_nil]; omega)) (by first | omega | (simp only [List.length_nil]; omega)) hl) ?_)
    rintro _ _ ⟨rfl, rfl⟩
    refine dn ?_
    refine hw_reg1 ?_
    refine dp rfl (pop_move rfl) ?_
    refine dp rfl (pop_move rfl) ?_
    refine dp rfl (pop_sub64 rfl rfl (by omega) (by omega)) ?_
    refine dp rfl (pop_assign rfl) ?_
    refine dn ?_
    refine blockQ_n ?_
    exact ⟨P1 ++ W1, Ub, Ua, Q1, ⟨by rw [← hf]; simp, by simp only [List.length_append] at *; omega, by omega, by omega, by simp only [List.length_append] at *; omega⟩, by dsimp only; simp only [List.length_append] at *; omega, ⟨some_int (by omega), some_int (by omega), trivial⟩, (by repeat (first | exact keeps_refl | refine keeps_upd rfl ?_ | refine keeps_loop rfl rfl ?_)), List.Perm.refl _⟩
   ·try simp at h4
    obtain ⟨Wa, Wb, rfl, hWb⟩ : ∃ Wa Wb, W1 = Wa ++ Wb ∧ Wb.length = U1.length := ⟨W1.take (W1.length - U1.length), W1.drop (W1.length - U1.length), (List.take_append_drop _ _).symm, by rw [List.length_drop]; omega⟩
    rw [List.length_append] at *
    refine hw_ghost (Ghost.of_eq (M' := [.arr (.slice (some ⟨b, off, none⟩) n cap) 4 ((P1 ++ U1 ++ Wa ++ Wb ++ Q1).map eReply)]) (by simp)) ?_
    refine hw_reg ?_
    refine dp rfl (pop_move rfl) ?_
    refine dp rfl (pop_move rfl) ?_
    refine dp rfl (pop_move rfl) ?_
    refine dp rfl (pop_sub64 rfl rfl (by omega) (by omega)) ?_
    refine dp rfl (pop_move rfl) ?_
    refine dp rfl (pop_move rfl) ?_
    refine dp rfl (pop_add64 rfl rfl (by omega) (by omega)) ?_
    refine dp rfl (pop_move rfl) ?_
    refine dp rfl (pop_sub64 rfl rfl (by omega) (by omega)) ?_
    refine dp rfl (pop_move rfl) ?_
    refine dp rfl (pop_move rfl) ?_
    refine de rfl (eop_callx (i := 0) ca215 rfl (WeakL.refl _) rfl (c_swap_api_Answer (A := P1) (X := U1) (B := Wa) (Y := Wb) (C := Q1) (n := n) (by omega) (by first | omega | (simp only [List.length_nil]; omega)) (by first | omega | (simp only [List.length_nil]; omega)) (by first | omega | (simp only [List.length_nil]; omega)) (by first | omega | (simp only [List.length_nil]; omega)) hl) ?_)
    rintro _ _ ⟨rfl, rfl⟩
    refine dn ?_
    refine hw_reg1 ?_
    refine dp rfl (pop_move rfl) ?_
    refine dp rfl (pop_move rfl) ?_
    refine dp rfl (pop_sub64 rfl rfl (by omega) (by omega)) ?_
    refine dp rfl (pop_assign rfl) ?_
    refine dn ?_
    refine blockQ_n ?_
    exact ⟨P1, Wb, Wa, U1 ++ Q1, ⟨by rw [← hf]; simp, by omega, by omega, by omega, by simp only [List.length_append] at *; omega⟩, by dsimp only; simp only [List.length_append] at *; omega, ⟨some_int (by omega), some_int (by omega), trivial⟩, (by repeat (first | exact keeps_refl | refine keeps_upd rfl ?_ | refine keeps_loop rfl rfl ?_)), perm_eq (by simp)⟩
  ·try simp at h2
   refine hw_exit ?_
   refine seqQ_x ?_
   refine loopQ4_x ?_
   refine blockQ_eq ?_
   refine seqQ_n ?_
   refine hw_ghost (Ghost.of_eq (M' := [.arr (.slice (some ⟨b, off, none⟩) n cap) 4 ((P1 ++ U1 ++ [] ++ W1 ++ Q1).map eReply)]) (by simp)) ?_
   refine hw_reg1 ?_
   refine dp rfl (pop_move rfl) ?_
   refine dp rfl (pop_move rfl) ?_
   refine dp rfl (pop_move rfl) ?_
   refine dp rfl (pop_sub64 rfl rfl (by omega) (by omega)) ?_
   refine dp rfl (pop_move rfl) ?_
   refine dp rfl (pop_move rfl) ?_
   refine dp rfl (pop_move rfl) ?_
   refine de rfl (eop_callx (i := 0) ca215 rfl (WeakL.refl _) rfl (c_swap_api_Answer (A := P1) (X := U1) (B := []) (Y := W1) (C := Q1) (n := n) (by omega) (by first | omega | (simp only [List.length_nil]; omega)) (by first | omega | (simp only [List.length_nil]; omega)) (by first | omega | (simp only [List.length_nil]; omega)) (by first | omega | (simp only [List.length_nil]; omega)) hl) ?_)
   rintro _ _ ⟨rfl, rfl⟩
   refine dn ?_
   exact ret_q rfl ⟨rfl, by simp only [List.append_nil] at *; rw [← hf]; rfl⟩

set_option maxHeartbeats 1000000 in
/-- slices.insertionSortCmpFunc[benchwarmer/api.Answer] -/
theorem c_insw_api_Answer [Tracks] {A X C : List ReplyS} {ia ib : Int} {n b off cap : Nat} {fid : FuncId} {caps : List HVal} {c : ReplyS → ReplyS → Int} (hca : Callable Tryz.prog fid) (hp : ∀ x y, ConP Tryz.prog fid ([eReply x, eReply y] ++ caps) (.int .i64 (c x y))) (hn : A.length + X.length + C.length = n) (hia : ia = (A.length : Int)) (hib : ib = (A.length : Int) + X.length) (hl : n ≤ 1000000) : Con Tryz.prog 159 [.raw (.slice (some ⟨b, off, none⟩) n cap), .int .i64 ia, .int .i64 ib, .fn (.func fid) [] caps] [.arr (.slice (some ⟨b, off, none⟩) n cap) 4 ((A ++ X ++ C).map eReply)] (fun x M' => x = .tup [] ∧ M' = [.arr (.slice (some ⟨b, off, none⟩) n cap) 4 ((A ++ isort c X ++ C).map eReply)]) := by
 refine Con.of_body Tryz.func159 rfl Tryz.ntmps159 rfl rfl ?_
 refine hw_reg ?_
 refine dp rfl (pop_move rfl) ?_
 refine dp rfl (pop_add64 rfl rfl (by omega) (by omega)) ?_
 refine dp rfl (pop_assign rfl) ?_
 refine dn ?_
 refine hw_block ?_
 refine hw_loopw [8, 9, 12, 13, 14, 15, 16, 17, 18, 19, 20, 21, 22, 23, 24, 25, 26, 27, 28, 29, 30, 31, 32, 33, 34, 35, 36, 37, 38, 39, 40, 41, 42, 43, 44, 45, 46, 47, 48, 49, 50, 51, 52] (fun (k : Nat) => [(8, .int .i64 ((A.length + k : Nat) : Int))]) (fun (k : Nat) => [.arr (.slice (some ⟨b, off, none⟩) n cap) 4 ((A ++ (isort c (X.take k) ++ X.drop k) ++ C).map eReply)]) (fun (k : Nat) => 1 ≤ k) (fun (k : Nat) => X.length - k) (1) ?_ ?_ ?_ ?_
 ·exact Nat.le_refl _
 ·exact ⟨some_int (by omega), trivial⟩
 ·exact perm_eq (by rw [isort_take1])
 ·intro k hk
  refine hw_seq ?_
  refine hw_reg ?_
  refine dp rfl (pop_move rfl) ?_
  refine dp rfl (pop_move rfl) ?_
  refine dp rfl (pop_lss rfl rfl) ?_
  refine dn ?_
  refine hw_cond rfl (fun h1 => ?_) (fun h2 => ?_)
  ·try simp at h1
   obtain ⟨x, hx⟩ : ∃ x, X[k]? = some x := ⟨_, List.getElem?_eq_getElem (by omega)⟩
   refine hw_skip ?_
   refine seqQ_n ?_
   refine hw_seq ?_
   refine hw_block ?_
   refine hw_reg ?_
   refine dp rfl (pop_move rfl) ?_
   refine dp rfl (pop_assign rfl) ?_
   refine dn ?_
   refine hw_block ?_
   refine hw_loopw2 [9, 18, 19, 20, 21, 22, 23, 24, 25, 26, 27, 28, 29, 30, 31, 32, 33, 34, 35, 36, 37, 38, 39, 40, 41, 42, 43, 44, 45, 46, 47, 48, 49, 50, 51, 52] (fun (D : List ReplyS) (B : List ReplyS) => [(9, .int .i64 ((A.length + D.length : Nat) : Int))]) (fun (D : List ReplyS) (B : List ReplyS) => [.arr (.slice (some ⟨b, off, none⟩) n cap) 4 (((A ++ D) ++ x :: (B ++ X.drop (k + 1) ++ C)).map eReply)]) (fun (D : List ReplyS) (B : List ReplyS) => D.length + B.length = k ∧ insB c x (isort c (X.take k)) = insB c x D ++ B) (fun (D : List ReplyS) (B : List ReplyS) => D.length) (isort c (X.take k)) ([]) ?_ ?_ ?_ ?_
   ·exact ⟨by simp [isort_len]; omega, by simp⟩
   ·exact ⟨some_int (by simp [isort_len]; omega), trivial⟩
   ·exact perm_eq (by rw [drop_cons hx]; simp)
   ·intro D B hinv
    obtain ⟨hA, hB⟩ := hinv
    have hlA : D.length < X.length := by omega
    refine hw_seq ?_
    refine hw_draw (fun M => M = [.arr (.slice (some ⟨b, off, none⟩) n cap) 4 (((A ++ D) ++ x :: (B ++ X.drop (k + 1) ++ C)).map eReply)]) [8, 13] mixed ?_
    refine ahp 0 rfl rfl (by kernel_rfl) (by kernel_rfl) (pop_move rfl) ?_
    refine ahp 1 rfl rfl (by kernel_rfl) (by kernel_rfl) (pop_move rfl) ?_
    refine ahp 2 rfl rfl (by kernel_rfl) (by kernel_rfl) (pop_gtr rfl rfl) ?_
    refine ahp 3 rfl rfl (by kernel_rfl) (by kernel_rfl) (pop_move rfl) ?_
    refine ahg 4 rfl rfl (by kernel_rfl) (by kernel_rfl) rfl (fun hc => ⟨_, OpenTo.refl _, pop_move rfl⟩) ?_
    refine ahg 5 rfl rfl (by kernel_rfl) (by kernel_rfl) rfl (fun hc => ⟨_, OpenTo.refl _, pop_move rfl⟩) ?_
    refine ahg 6 rfl rfl (by kernel_rfl) (by kernel_rfl) rfl (fun hc => ⟨_, OpenTo.refl _, pop_move rfl⟩) ?_
    refine ahg 7 rfl rfl (by kernel_rfl) (by kernel_rfl) rfl (fun hc => by
     have hq : 0 < D.length := by simp at hc; omega
     exact ⟨_, OpenTo.upd (t := 24) rfl (by first | exact hc | simp_all) (OpenTo.upd (t := 23) rfl (by first | exact hc | simp_all) (OpenTo.refl _)), pop_idxraw (j := (A ++ D).length) ty34 ty75 rfl rfl (by simp) (by first | omega | (simp; omega))⟩) ?_
    refine ahgl 8 rfl rfl (by kernel_rfl) (by kernel_rfl) (by simp) rfl rfl (fun hc => ⟨_, OpenTo.upd (t := 25) rfl (by first | exact hc | simp_all) (OpenTo.refl _), fun M hM => by
     subst hM; exact eop_load_elw (i := 0) (j := (A ++ D).length) ty75 rfl rfl rfl get_mid rfl rfl rfl ⟨rfl, rfl⟩
     ⟩) ?_
    refine ahg 9 rfl rfl (by kernel_rfl) (by kernel_rfl) rfl (fun hc => ⟨_, OpenTo.refl _, pop_move rfl⟩) ?_
    refine ahg 10 rfl rfl (by kernel_rfl) (by kernel_rfl) rfl (fun hc => ⟨_, OpenTo.refl _, pop_move rfl⟩) ?_
    refine ahg 11 rfl rfl (by kernel_rfl) (by kernel_rfl) rfl (fun hc => by
     have hq : 0 < D.length := by simp at hc; omega
     exact ⟨_, OpenTo.upd (t := 28) rfl (by first | exact hc | simp_all) (OpenTo.refl _), pop_sub64 rfl rfl (by omega) (by omega)⟩) ?_
    refine ahg 12 rfl rfl (by kernel_rfl) (by kernel_rfl) rfl (fun hc => by
     have hq : 0 < D.length := by simp at hc; omega
     exact ⟨_, OpenTo.upd (t := 29) rfl (by first | exact hc | simp_all) (OpenTo.upd (t := 27) rfl (by first | exact hc | simp_all) (OpenTo.refl _)), pop_idxraw (j := (A ++ D).length - 1) ty34 ty75 rfl rfl (by first | omega | (simp; omega)) (by first | omega | (simp; omega))⟩) ?_
    refine ahgl 13 rfl rfl (by kernel_rfl) (by kernel_rfl) (by simp) rfl rfl (fun hc => ⟨_, OpenTo.upd (t := 30) rfl (by first | exact hc | simp_all) (OpenTo.refl _), fun M hM => by
     have hq : 0 < D.length := by simp at hc; omega
     subst hM; exact eop_load_elw (i := 0) (j := (A ++ D).length - 1) ty75 rfl rfl rfl (get_before (by first | omega | (simp; omega))) rfl rfl rfl ⟨rfl, rfl⟩
     ⟩) ?_
    refine ahg 14 rfl rfl (by kernel_rfl) (by kernel_rfl) rfl (fun hc => ⟨_, OpenTo.upd (t := 31) rfl (by first | exact hc | simp_all) (OpenTo.upd (t := 26) rfl (by first | exact hc | simp_all) (OpenTo.upd (t := 22) rfl (by first | exact hc | simp_all) (OpenTo.refl _))), pop_callv hca rfl rfl (WeakL.refl _) (hp _ _)⟩) ?_
    refine ahg 15 rfl rfl (by kernel_rfl) (by kernel_rfl) rfl (fun hc => ⟨_, OpenTo.upd (t := 32) rfl (by first | exact hc | simp_all) (OpenTo.refl _), pop_lss rfl rfl⟩) ?_
    refine ahp 16 rfl rfl (by kernel_rfl) (by kernel_rfl) (pop_picko rfl (.inr ⟨_, rfl, fun h => by simp_all⟩) (.inl rfl)) ?_
    refine ahz (by kernel_rfl) ?_
    refine hw_cond rfl (fun h3 => ?_) (fun h4 => ?_)
    ·try simp at h3
     obtain ⟨hA0, hcx⟩ := h3
     obtain ⟨D1, y, rfl⟩ := snoc_of (A := D) (by omega)
     rw [last_idx] at hcx
     have hD1 : (D1 ++ [y]).length = D1.length + 1 := by simp
     refine hw_skip ?_
     refine seqQ_n ?_
     refine hw_seq ?_
     refine hw_block ?_
     refine hw_draw1 (fun M => M = [.arr (.slice (some ⟨b, off, none⟩) n cap) 4 (((A ++ (D1 ++ [y])) ++ x :: (B ++ X.drop (k + 1) ++ C)).map eReply)]) [9, 13] mixed ?_
     refine ahp 0 rfl rfl (by kernel_rfl) (by kernel_rfl) (pop_move rfl) ?_
     refine ahp 1 rfl rfl (by kernel_rfl) (by kernel_rfl) (pop_move rfl) ?_
     refine ahp 2 rfl rfl (by kernel_rfl) (by kernel_rfl) (pop_move rfl) ?_
     refine ahp 3 rfl rfl (by kernel_rfl) (by kernel_rfl) (pop_move rfl) ?_
     refine ahp 4 rfl rfl (by kernel_rfl) (by kernel_rfl) (pop_sub64 rfl rfl (by omega) (by omega)) ?_
     refine ahp 5 rfl rfl (by kernel_rfl) (by kernel_rfl) (pop_move rfl) ?_
     refine ahp 6 rfl rfl (by kernel_rfl) (by kernel_rfl) (pop_move rfl) ?_
     refine ahp 7 rfl rfl (by kernel_rfl) (by kernel_rfl) (pop_sub64 rfl rfl (by omega) (by omega)) ?_
     refine ahp 8 rfl rfl (by kernel_rfl) (by kernel_rfl) (pop_idxraw (j := (A ++ (D1 ++ [y])).length - 1) ty34 ty75 rfl rfl (by first | omega | (simp; omega)) (by first | omega | (simp; omega))) ?_
     refine ahl 9 rfl rfl (by kernel_rfl) (by kernel_rfl) (by simp) rfl (fun M hM => by subst hM; exact eop_load_elw (i := 0) (j := (A ++ (D1 ++ [y])).length - 1) ty75 rfl rfl rfl (last_get) rfl rfl rfl ⟨rfl, rfl⟩) ?_
     refine ahp 10 rfl rfl (by kernel_rfl) (by kernel_rfl) (pop_move rfl) ?_
     refine ahp 11 rfl rfl (by kernel_rfl) (by kernel_rfl) (pop_move rfl) ?_
     refine ahp 12 rfl rfl (by kernel_rfl) (by kernel_rfl) (pop_idxraw (j := (A ++ (D1 ++ [y])).length) ty34 ty75 rfl rfl (by simp) (by first | omega | (simp; omega))) ?_
     refine ahl 13 rfl rfl (by kernel_rfl) (by kernel_rfl) (by simp) rfl (fun M hM => by subst hM; exact eop_load_elw (i := 0) (j := (A ++ (D1 ++ [y])).length) ty75 rfl rfl rfl get_mid rfl rfl rfl ⟨rfl, rfl⟩) ?_
     refine ahp 14 rfl rfl (by kernel_rfl) (by kernel_rfl) (pop_idxraw (j := (A ++ (D1 ++ [y])).length) ty34 ty75 rfl rfl (by simp) (by first | omega | (simp; omega))) ?_
     refine ahe 15 rfl (by kernel_rfl) ?_
     refine hop_e0 (eop_store_elw (i := 0) (j := (A ++ (D1 ++ [y])).length) (y := x) (y' := y) ty75 rfl rfl rfl rfl get_mid rfl rfl rfl ?_)
     refine ⟨fun _ => .inr (by simp [Before, Region.binds]), ?_⟩
     refine ahp 16 rfl rfl (by kernel_rfl) (by kernel_rfl) (pop_idxraw (j := (A ++ (D1 ++ [y])).length - 1) ty34 ty75 rfl rfl (by first | omega | (simp; omega)) (by first | omega | (simp; omega))) ?_
     refine ahe 17 rfl (by kernel_rfl) ?_
     refine hop_e0 (eop_store_elw (i := 0) (j := (A ++ (D1 ++ [y])).length - 1) (y := y) (y' := x) ty75 rfl rfl rfl rfl (by rw [List.getElem?_set_ne (by simp)]; exact last_get) rfl rfl rfl ?_)
     refine ⟨fun _ => .inr (by simp [Before, Region.binds]), ?_⟩
     refine ahz (by kernel_rfl) ?_
     refine blockQ_n ?_
     refine seqQ_n ?_
     refine hw_reg1 ?_
     refine dp rfl (pop_move rfl) ?_
     refine dp rfl (pop_sub64 rfl rfl (by omega) (by omega)) ?_
     refine dp rfl (pop_assign rfl) ?_
     refine dn ?_
     exact ⟨D1, y :: B, ⟨by simp at hA ⊢; omega, ins_step hB hcx⟩, by dsimp only; omega, ⟨some_int (by omega), trivial⟩, (by repeat (first | exact keeps_refl | refine keeps_upd rfl ?_ | refine keeps_loop rfl rfl ?_)), perm_eq (by rw [← List.append_assoc, swap_mid]; simp)⟩
    ·try simp at h4
     have hins := ins_exit (l := X) (k := k) hx hB (by intro h0; have h9 := h4 (by omega); rw [last_app2 h0] at h9; omega)
     refine hw_exit ?_
     refine seqQ_x ?_
     refine loopQ2_x ?_
     refine blockQ_eq ?_
     refine blockQ_n ?_
     refine seqQ_n ?_
     refine hw_reg1 ?_
     refine dp rfl (pop_move rfl) ?_
     refine dp rfl (pop_add64 rfl rfl (by omega) (by omega)) ?_
     refine dp rfl (pop_assign rfl) ?_
     refine dn ?_
     exact ⟨k + 1, by omega, by dsimp only; omega, ⟨some_int (by omega), trivial⟩, (by repeat (first | exact keeps_refl | refine keeps_upd rfl ?_ | refine keeps_loop rfl rfl ?_)), perm_eq (by rw [ins_win hins])⟩
  ·try simp at h2
   have hend : isort c (X.take k) ++ X.drop k = isort c X := by rw [List.take_of_length_le (by omega), drop_all (by omega)]; simp
   refine hw_exit ?_
   refine seqQ_x ?_
   refine loopQ_x ?_
   refine blockQ_eq ?_
   exact ret_q rfl ⟨rfl, by rw [hend]⟩

set_option maxHeartbeats 4000000 in
/-- slices.symMergeCmpFunc[benchwarmer/api.Answer] -/
theorem c_syms_api_Answer [Tracks] {A X Y C : List ReplyS} {ia im ib : Int} {N : Nat} {n b off cap : Nat} {fid : FuncId} {caps : List HVal} {c : ReplyS → ReplyS → Int} (hca : Callable Tryz.prog fid) (hp : ∀ x y, ConP Tryz.prog fid ([eReply x, eReply y] ++ caps) (.int .i64 (c x y))) (hc : Cmp c fun _ => True) (hx0 : 0 < X.length) (hy0 : 0 < Y.length) (hN : X.length + Y.length ≤ N) (hn : A.length + X.length + Y.length + C.length = n) (hia : ia = (A.length : Int)) (him : im = (A.length : Int) + X.length) (hib : ib = (A.length : Int) + X.length + Y.length) (hX : Srt c X) (hY : Srt c Y) (hl : n ≤ 1000000) (ih : ∀ {A X Y C : List ReplyS} {ia im ib : Int}, 0 < X.length → 0 < Y.length → X.length + Y.length < N → A.length + X.length + Y.length + C.length = n → ia = (A.length : Int) → im = (A.length : Int) + X.length → ib = (A.length : Int) + X.length + Y.length → Srt c X → Srt c Y → Con Tryz.prog 160 [.raw (.slice (some ⟨b, off, none⟩) n cap), .int .i64 ia, .int .i64 im, .int .i64 ib, .fn (.func fid) [] caps] [.arr (.slice (some ⟨b, off, none⟩) n cap) 4 ((A ++ X ++ Y ++ C).map eReply)] (fun x M' => ∃ Z : List ReplyS, x = .tup [] ∧ (Z.Perm (X ++ Y) ∧ Srt c Z) ∧ M' = [.arr (.slice (some ⟨b, off, none⟩) n cap) 4 ((A ++ Z ++ C).map eReply)])) : Con Tryz.prog 160 [.raw (.slice (some ⟨b, off, none⟩) n cap), .int .i64 ia, .int .i64 im, .int .i64 ib, .fn (.func fid) [] caps] [.arr (.slice (some ⟨b, off, none⟩) n cap) 4 ((A ++ X ++ Y ++ C).map eReply)] (fun x M' => ∃ Z : List ReplyS, x = .tup [] ∧ (Z.Perm (X ++ Y) ∧ Srt c Z) ∧ M' = [.arr (.slice (some ⟨b, off, none⟩) n cap) 4 ((A ++ Z ++ C).map eReply)]) := by
 refine Con.of_body Tryz.func160 rfl Tryz.ntmps160 rfl rfl ?_
 refine hw_seq ?_
 refine hw_reg ?_
 refine dp rfl (pop_move rfl) ?_
 refine dp rfl (pop_move rfl) ?_
 refine dp rfl (pop_sub64 rfl rfl (by omega) (by omega)) ?_
 refine dp rfl (pop_eql rfl rfl) ?_
 refine dn ?_
 refine hw_cond rfl (fun h1 => ?_) (fun h2 => ?_)
 ·try simp at h1
  obtain ⟨x, rfl⟩ : ∃ x, X = [x] := List.length_eq_one_iff.1 (by omega)
  simp only [List.length_cons, List.length_nil, Nat.zero_add] at *
  refine hw_reg ?_
  refine dp rfl (pop_move rfl) ?_
  refine dp rfl (pop_assign rfl) ?_
  refine dn ?_
  refine hw_reg ?_
  refine dp rfl (pop_move rfl) ?_
  refine dp rfl (pop_assign rfl) ?_
  refine dn ?_
  refine hw_seq ?_
  refine hw_block ?_
  refine hw_loopw2 [10, 11, 12, 31, 32, 33, 34, 35, 36, 37, 38, 39, 40, 41, 42, 43, 44, 45, 46, 47, 48, 49, 50, 51, 52, 53] (fun (p : Nat) (q : Nat) => [(10, .int .i64 ((A.length + 1 + p : Nat) : Int)), (11, .int .i64 ((A.length + 1 + q : Nat) : Int))]) (fun (p : Nat) (q : Nat) => [.arr (.slice (some ⟨b, off, none⟩) n cap) 4 ((A ++ [x] ++ Y ++ C).map eReply)]) (fun (p : Nat) (q : Nat) => p ≤ q ∧ q ≤ Y.length ∧ (∀ y, Y[p - 1]? = some y → 0 < p → c y x < 0) ∧ (∀ y, Y[q]? = some y → ¬ c y x < 0)) (fun (p : Nat) (q : Nat) => q - p) (0) (Y.length) ?_ ?_ ?_ ?_
  ·exact ⟨Nat.zero_le _, Nat.le_refl _, fun y _ h => absurd h (Nat.lt_irrefl _), fun y h => by have := lt_of_get h; omega⟩
  ·exact ⟨some_int (by omega), some_int (by omega), trivial⟩
  ·exact List.Perm.refl _
  ·intro p q hinv
   obtain ⟨hpq, hqY, hP, hQ⟩ := hinv
   refine hw_seq ?_
   refine hw_reg ?_
   refine dp rfl (pop_move rfl) ?_
   refine dp rfl (pop_move rfl) ?_
   refine dp rfl (pop_lss rfl rfl) ?_
   refine dn ?_
   refine hw_cond rfl (fun h3 => ?_) (fun h4 => ?_)
   ·try simp at h3
    refine hw_skip ?_
    refine seqQ_n ?_
    refine hw_block ?_
    refine hw_reg ?_
    refine dp rfl (pop_move rfl) ?_
    refine dp rfl (pop_move rfl) ?_
    refine dp rfl (pop_add64 rfl rfl (by omega) (by omega)) ?_
    refine dp rfl (pop_conv ty3 ty150 rfl) ?_
    refine dp rfl (pop_shr rfl rfl (by omega)) ?_
    refine dp rfl (pop_eq (pop_conv ty150 ty3 rfl) (mid_eq (i := A.length + 1 + p) (j := A.length + 1 + q) (by omega))) ?_
    refine dp rfl (pop_assign rfl) ?_
    refine dn ?_
    obtain ⟨r, hr⟩ : ∃ r, (A.length + 1 + p + (A.length + 1 + q)) / 2 = A.length + 1 + r := ⟨(A.length + 1 + p + (A.length + 1 + q)) / 2 - (A.length + 1), by omega⟩
    obtain ⟨y, hy⟩ : ∃ y, Y[r]? = some y := ⟨_, List.getElem?_eq_getElem (by omega)⟩
    refine hw_draw (fun M => M = [.arr (.slice (some ⟨b, off, none⟩) n cap) 4 ((A ++ [x] ++ Y ++ C).map eReply)]) [4, 8] mixed ?_
    refine ahp 0 rfl rfl (by kernel_rfl) (by kernel_rfl) (pop_move rfl) ?_
    refine ahp 1 rfl rfl (by kernel_rfl) (by kernel_rfl) (pop_move rfl) ?_
    refine ahp 2 rfl rfl (by kernel_rfl) (by kernel_rfl) (pop_move rfl) ?_
    refine ahp 3 rfl rfl (by kernel_rfl) (by kernel_rfl) (pop_idxraw (j := A.length + [x].length + r) ty34 ty75 rfl rfl (by first | omega | (simp; omega)) (by first | omega | (simp; omega))) ?_
    refine ahl 4 rfl rfl (by kernel_rfl) (by kernel_rfl) (by simp) rfl (fun M hM => by subst hM; exact eop_load_elw (i := 0) (j := A.length + [x].length + r) ty75 rfl rfl rfl (mid_get2 hy) rfl rfl rfl ⟨rfl, rfl⟩) ?_
    refine ahp 5 rfl rfl (by kernel_rfl) (by kernel_rfl) (pop_move rfl) ?_
    refine ahp 6 rfl rfl (by kernel_rfl) (by kernel_rfl) (pop_move rfl) ?_
    refine ahp 7 rfl rfl (by kernel_rfl) (by kernel_rfl) (pop_idxraw (j := A.length + 0) ty34 ty75 rfl rfl (by first | omega | (simp; omega)) (by omega)) ?_
    refine ahl 8 rfl rfl (by kernel_rfl) (by kernel_rfl) (by simp) rfl (fun M hM => by subst hM; exact eop_load_elw (i := 0) (j := A.length + 0) ty75 rfl rfl rfl (mid_get1 (X := [x]) rfl) rfl rfl rfl ⟨rfl, rfl⟩) ?_
    refine ahp 9 rfl rfl (by kernel_rfl) (by kernel_rfl) (pop_callv hca rfl rfl (WeakL.refl _) (hp _ _)) ?_
    refine ahp 10 rfl rfl (by kernel_rfl) (by kernel_rfl) (pop_lss rfl rfl) ?_
    refine ahz (by kernel_rfl) ?_
    refine hw_cond rfl (fun h5 => ?_) (fun h6 => ?_)
    ·try simp at h5
     refine hw_reg1 ?_
     refine dp rfl (pop_move rfl) ?_
     refine dp rfl (pop_add64 rfl rfl (by omega) (by omega)) ?_
     refine dp rfl (pop_assign rfl) ?_
     refine dn ?_
     refine blockQ_n ?_
     exact ⟨r + 1, q, ⟨by omega, hqY, fun z hz _ => by rw [Nat.add_sub_cancel, hy] at hz; rw [← Option.some.inj hz]; assumption, hQ⟩, by dsimp only; omega, ⟨some_int (by omega), rfl, trivial⟩, (by repeat (first | exact keeps_refl | refine keeps_upd rfl ?_ | refine keeps_loop rfl rfl ?_)), List.Perm.refl _⟩
    ·try simp at h6
     refine hw_reg1 ?_
     refine dp rfl (pop_move rfl) ?_
     refine dp rfl (pop_assign rfl) ?_
     refine dn ?_
     refine blockQ_n ?_
     exact ⟨p, r, ⟨by omega, by omega, hP, fun z hz => by rw [hy] at hz; rw [← Option.some.inj hz]; omega⟩, by dsimp only; omega, ⟨rfl, some_int (by omega), trivial⟩, (by repeat (first | exact keeps_refl | refine keeps_upd rfl ?_ | refine keeps_loop rfl rfl ?_)), List.Perm.refl _⟩
   ·try simp at h4
    obtain rfl : p = q := by omega
    refine hw_exit ?_
    refine seqQ_x ?_
    refine loopQ2_x ?_
    refine blockQ_eq ?_
    refine seqQ_n ?_
    refine hw_seq ?_
    refine hw_reg ?_
    refine dp rfl (pop_move rfl) ?_
    refine dp rfl (pop_assign rfl) ?_
    refine dn ?_
    refine hw_block ?_
    refine hw_loopw [13, 55, 56, 57, 58, 59, 60, 61, 62, 63, 64, 65, 66, 67, 68, 69, 70, 71, 72, 73, 74, 75, 76] (fun (t : Nat) => [(13, .int .i64 ((A.length + t : Nat) : Int))]) (fun (t : Nat) => [.arr (.slice (some ⟨b, off, none⟩) n cap) 4 ((wan A Y x C t).map eReply)]) (fun (t : Nat) => t ≤ p) (fun (t : Nat) => p - t) (0) ?_ ?_ ?_ ?_
    ·exact Nat.zero_le _
    ·exact ⟨some_int (by omega), trivial⟩
    ·exact perm_eq (by rw [wan_zero])
    ·intro t ht
     refine hw_seq ?_
     refine hw_reg ?_
     refine dp rfl (pop_move rfl) ?_
     refine dp rfl (pop_move rfl) ?_
     refine dp rfl (pop_sub64 rfl rfl (by omega) (by omega)) ?_
     refine dp rfl (pop_lss rfl rfl) ?_
     refine dn ?_
     refine hw_cond rfl (fun h7 => ?_) (fun h8 => ?_)
     ·try simp at h7
      obtain ⟨y, hy⟩ : ∃ y, Y[t]? = some y := ⟨_, List.getElem?_eq_getElem (by omega)⟩
      refine hw_skip ?_
      refine seqQ_n ?_
      refine hw_seq ?_
      refine hw_block ?_
      refine hw_draw1 (fun M => M = [.arr (.slice (some ⟨b, off, none⟩) n cap) 4 ((wan A Y x C t).map eReply)]) [9, 13] mixed ?_
      refine ahp 0 rfl rfl (by kernel_rfl) (by kernel_rfl) (pop_move rfl) ?_
      refine ahp 1 rfl rfl (by kernel_rfl) (by kernel_rfl) (pop_move rfl) ?_
      refine ahp 2 rfl rfl (by kernel_rfl) (by kernel_rfl) (pop_move rfl) ?_
      refine ahp 3 rfl rfl (by kernel_rfl) (by kernel_rfl) (pop_move rfl) ?_
      refine ahp 4 rfl rfl (by kernel_rfl) (by kernel_rfl) (pop_add64 rfl rfl (by omega) (by omega)) ?_
      refine ahp 5 rfl rfl (by kernel_rfl) (by kernel_rfl) (pop_move rfl) ?_
      refine ahp 6 rfl rfl (by kernel_rfl) (by kernel_rfl) (pop_move rfl) ?_
      refine ahp 7 rfl rfl (by kernel_rfl) (by kernel_rfl) (pop_add64 rfl rfl (by omega) (by omega)) ?_
      refine ahp 8 rfl rfl (by kernel_rfl) (by kernel_rfl) (pop_idxraw (j := A.length + t + 1) ty34 ty75 rfl rfl (by omega) (by omega)) ?_
      refine ahl 9 rfl rfl (by kernel_rfl) (by kernel_rfl) (by simp) rfl (fun M hM => by subst hM; exact eop_load_elw (i := 0) (j := A.length + t + 1) ty75 rfl rfl rfl (wan_get2 hy) rfl rfl rfl ⟨rfl, rfl⟩) ?_
      refine ahp 10 rfl rfl (by kernel_rfl) (by kernel_rfl) (pop_move rfl) ?_
      refine ahp 11 rfl rfl (by kernel_rfl) (by kernel_rfl) (pop_move rfl) ?_
      refine ahp 12 rfl rfl (by kernel_rfl) (by kernel_rfl) (pop_idxraw (j := A.length + t) ty34 ty75 rfl rfl (by omega) (by omega)) ?_
      refine ahl 13 rfl rfl (by kernel_rfl) (by kernel_rfl) (by simp) rfl (fun M hM => by subst hM; exact eop_load_elw (i := 0) (j := A.length + t) ty75 rfl rfl rfl (wan_get1 hy) rfl rfl rfl ⟨rfl, rfl⟩) ?_
      refine ahp 14 rfl rfl (by kernel_rfl) (by kernel_rfl) (pop_idxraw (j := A.length + t) ty34 ty75 rfl rfl (by omega) (by omega)) ?_
      refine ahe 15 rfl (by kernel_rfl) ?_
      refine hop_e0 (eop_store_elw (i := 0) (j := A.length + t) (y := x) (y' := y) ty75 rfl rfl rfl rfl (wan_get1 hy) rfl rfl rfl ?_)
      refine ⟨fun _ => .inr (by simp [Before, Region.binds]), ?_⟩
      refine ahp 16 rfl rfl (by kernel_rfl) (by kernel_rfl) (pop_idxraw (j := A.length + t + 1) ty34 ty75 rfl rfl (by omega) (by omega)) ?_
      refine ahe 17 rfl (by kernel_rfl) ?_
      refine hop_e0 (eop_store_elw (i := 0) (j := A.length + t + 1) (y := y) (y' := x) ty75 rfl rfl rfl rfl (wan_get2' hy) rfl rfl rfl ?_)
      refine ⟨fun _ => .inr (by simp [Before, Region.binds]), ?_⟩
      refine ahz (by kernel_rfl) ?_
      refine blockQ_n ?_
      refine seqQ_n ?_
      refine hw_reg1 ?_
      refine dp rfl (pop_move rfl) ?_
      refine dp rfl (pop_add64 rfl rfl (by omega) (by omega)) ?_
      refine dp rfl (pop_assign rfl) ?_
      refine dn ?_
      exact ⟨t + 1, by omega, by dsimp only; omega, ⟨some_int (by omega), trivial⟩, (by repeat (first | exact keeps_refl | refine keeps_upd rfl ?_ | refine keeps_loop rfl rfl ?_)), perm_eq (by rw [wan_set hy]; rfl)⟩
     ·try simp at h8
      obtain rfl : t = p := by omega
      refine hw_exit ?_
      refine seqQ_x ?_
      refine loopQ_x ?_
      refine blockQ_eq ?_
      refine seqQ_n ?_
      refine hw_ret ?_
      first
      | exact ret_q rfl ⟨_, rfl, one_left hc hY hqY (fun y hy => by have h1 := hQ y hy; have := hc.flip y x trivial trivial; have := hc.flip x y trivial trivial; omega) (fun y hy h0 => by have := hP y hy h0; omega), by simp [wan]⟩
      | exact ret_q rfl ⟨_, rfl, one_right hc hX hqX (fun x hx h0 => by have h1 := hP x hx h0; have := hc.flip y x trivial trivial; have := hc.flip x y trivial trivial; omega) (fun x hx => by have := hQ x hx; omega), by simp [wan]⟩
      | exact ret_q rfl ⟨Z1 ++ Z2, rfl, sym_join hc hX hY (by omega) (by omega) hk1 hk2 hz1 hz3 hz2 hz4, by simp⟩
      | exact ret_q rfl ⟨Z1 ++ (X.drop (p - A.length) ++ Y.drop (d - p)), rfl, sym_join hc hX hY (by omega) (by omega) hk1 hk2 hz1 (List.Perm.refl _) hz2 (sym_right hX hY (by rcases Nat.lt_or_ge p (A.length + X.length) with q | q; (have := h8 (by omega); omega); omega)), by simp⟩
 ·try simp at h2
  refine hw_skip ?_
  refine seqQ_n ?_
  refine hw_seq ?_
  refine hw_reg ?_
  refine dp rfl (pop_move rfl) ?_
  refine dp rfl (pop_move rfl) ?_
  refine dp rfl (pop_sub64 rfl rfl (by omega) (by omega)) ?_
  refine dp rfl (pop_eql rfl rfl) ?_
  refine dn ?_
  refine hw_cond rfl (fun h9 => ?_) (fun h10 => ?_)
  ·try simp at h9
   obtain ⟨y, rfl⟩ : ∃ y, Y = [y] := List.length_eq_one_iff.1 (by omega)
   simp only [List.length_cons, List.length_nil, Nat.zero_add] at *
   refine hw_reg ?_
   refine dp rfl (pop_move rfl) ?_
   refine dp rfl (pop_assign rfl) ?_
   refine dn ?_
   refine hw_reg ?_
   refine dp rfl (pop_move rfl) ?_
   refine dp rfl (pop_assign rfl) ?_
   refine dn ?_
   refine hw_seq ?_
   refine hw_block ?_
   refine hw_loopw2 [14, 15, 16, 83, 84, 85, 86, 87, 88, 89, 90, 91, 92, 93, 94, 95, 96, 97, 98, 99, 100, 101, 102, 103, 104, 105, 106] (fun (p : Nat) (q : Nat) => [(14, .int .i64 ((A.length + p : Nat) : Int)), (15, .int .i64 ((A.length + q : Nat) : Int))]) (fun (p : Nat) (q : Nat) => [.arr (.slice (some ⟨b, off, none⟩) n cap) 4 ((A ++ X ++ [y] ++ C).map eReply)]) (fun (p : Nat) (q : Nat) => p ≤ q ∧ q ≤ X.length ∧ (∀ x, X[p - 1]? = some x → 0 < p → ¬ c y x < 0) ∧ (∀ x, X[q]? = some x → c y x < 0)) (fun (p : Nat) (q : Nat) => q - p) (0) (X.length) ?_ ?_ ?_ ?_
   ·exact ⟨Nat.zero_le _, Nat.le_refl _, fun x _ h => absurd h (Nat.lt_irrefl _), fun x h => by have := lt_of_get h; omega⟩
   ·exact ⟨some_int (by omega), some_int (by omega), trivial⟩
   ·exact List.Perm.refl _
   ·intro p q hinv
    obtain ⟨hpq, hqX, hP, hQ⟩ := hinv
    refine hw_seq ?_
    refine hw_reg ?_
    refine dp rfl (pop_move rfl) ?_
    refine dp rfl (pop_move rfl) ?_
    refine dp rfl (pop_lss rfl rfl) ?_
    refine dn ?_
    refine hw_cond rfl (fun h11 => ?_) (fun h12 => ?_)
    ·try simp at h11
     refine hw_skip ?_
     refine seqQ_n ?_
     refine hw_block ?_
     refine hw_reg ?_
     refine dp rfl (pop_move rfl) ?_
     refine dp rfl (pop_move rfl) ?_
     refine dp rfl (pop_add64 rfl rfl (by omega) (by omega)) ?_
     refine dp rfl (pop_conv ty3 ty150 rfl) ?_
     refine dp rfl (pop_shr rfl rfl (by omega)) ?_
     refine dp rfl (pop_eq (pop_conv ty150 ty3 rfl) (mid_eq (i := A.length + p) (j := A.length + q) (by omega))) ?_
     refine dp rfl (pop_assign rfl) ?_
     refine dn ?_
     obtain ⟨r, hr⟩ : ∃ r, (A.length + p + (A.length + q)) / 2 = A.length + r := ⟨(A.length + p + (A.length + q)) / 2 - A.length, by omega⟩
     obtain ⟨x, hx⟩ : ∃ x, X[r]? = some x := ⟨_, List.getElem?_eq_getElem (by omega)⟩
     refine hw_draw (fun M => M = [.arr (.slice (some ⟨b, off, none⟩) n cap) 4 ((A ++ X ++ [y] ++ C).map eReply)]) [4, 8] mixed ?_
     refine ahp 0 rfl rfl (by kernel_rfl) (by kernel_rfl) (pop_move rfl) ?_
     refine ahp 1 rfl rfl (by kernel_rfl) (by kernel_rfl) (pop_move rfl) ?_
     refine ahp 2 rfl rfl (by kernel_rfl) (by kernel_rfl) (pop_move rfl) ?_
     refine ahp 3 rfl rfl (by kernel_rfl) (by kernel_rfl) (pop_idxraw (j := A.length + X.length + 0) ty34 ty75 rfl rfl (by first | omega | (simp; omega)) (by simp at hn ⊢; omega)) ?_
     refine ahl 4 rfl rfl (by kernel_rfl) (by kernel_rfl) (by simp) rfl (fun M hM => by subst hM; exact eop_load_elw (i := 0) (j := A.length + X.length + 0) ty75 rfl rfl rfl (mid_get2 (Y := [y]) rfl) rfl rfl rfl ⟨rfl, rfl⟩) ?_
     refine ahp 5 rfl rfl (by kernel_rfl) (by kernel_rfl) (pop_move rfl) ?_
     refine ahp 6 rfl rfl (by kernel_rfl) (by kernel_rfl) (pop_move rfl) ?_
     refine ahp 7 rfl rfl (by kernel_rfl) (by kernel_rfl) (pop_idxraw (j := A.length + r) ty34 ty75 rfl rfl (by omega) (by omega)) ?_
     refine ahl 8 rfl rfl (by kernel_rfl) (by kernel_rfl) (by simp) rfl (fun M hM => by subst hM; exact eop_load_elw (i := 0) (j := A.length + r) ty75 rfl rfl rfl (mid_get1 hx) rfl rfl rfl ⟨rfl, rfl⟩) ?_
     refine ahp 9 rfl rfl (by kernel_rfl) (by kernel_rfl) (pop_callv hca rfl rfl (WeakL.refl _) (hp _ _)) ?_
     refine ahp 10 rfl rfl (by kernel_rfl) (by kernel_rfl) (pop_lss rfl rfl) ?_
     refine ahp 11 rfl rfl (by kernel_rfl) (by kernel_rfl) (pop_not rfl) ?_
     refine ahz (by kernel_rfl) ?_
     refine hw_cond rfl (fun h13 => ?_) (fun h14 => ?_)
     ·try simp at h13
      refine hw_reg1 ?_
      refine dp rfl (pop_move rfl) ?_
      refine dp rfl (pop_add64 rfl rfl (by omega) (by omega)) ?_
      refine dp rfl (pop_assign rfl) ?_
      refine dn ?_
      refine blockQ_n ?_
      exact ⟨r + 1, q, ⟨by omega, hqX, fun z hz _ => by rw [Nat.add_sub_cancel, hx] at hz; rw [← Option.some.inj hz]; omega, hQ⟩, by dsimp only; omega, ⟨some_int (by omega), rfl, trivial⟩, (by repeat (first | exact keeps_refl | refine keeps_upd rfl ?_ | refine keeps_loop rfl rfl ?_)), List.Perm.refl _⟩
     ·try simp at h14
      refine hw_reg1 ?_
      refine dp rfl (pop_move rfl) ?_
      refine dp rfl (pop_assign rfl) ?_
      refine dn ?_
      refine blockQ_n ?_
      exact ⟨p, r, ⟨by omega, by omega, hP, fun z hz => by rw [hx] at hz; rw [← Option.some.inj hz]; omega⟩, by dsimp only; omega, ⟨rfl, some_int (by omega), trivial⟩, (by repeat (first | exact keeps_refl | refine keeps_upd rfl ?_ | refine keeps_loop rfl rfl ?_)), List.Perm.refl _⟩
    ·try simp at h12
     obtain rfl : p = q := by omega
     refine hw_exit ?_
     refine seqQ_x ?_
     refine loopQ2_x ?_
     refine blockQ_eq ?_
     refine seqQ_n ?_
     refine hw_seq ?_
     refine hw_reg ?_
     refine dp rfl (pop_move rfl) ?_
     refine dp rfl (pop_assign rfl) ?_
     refine dn ?_
     refine hw_block ?_
     refine hw_loopw [17, 108, 109, 110, 111, 112, 113, 114, 115, 116, 117, 118, 119, 120, 121, 122, 123, 124, 125, 126, 127, 128] (fun (t : Nat) => [(17, .int .i64 ((A.length + t : Nat) : Int))]) (fun (t : Nat) => [.arr (.slice (some ⟨b, off, none⟩) n cap) 4 ((wan A X y C t).map eReply)]) (fun (t : Nat) => p ≤ t ∧ t ≤ X.length) (fun (t : Nat) => t) (X.length) ?_ ?_ ?_ ?_
     ·exact ⟨by omega, Nat.le_refl _⟩
     ·exact ⟨some_int (by omega), trivial⟩
     ·exact perm_eq (by rw [wan_end])
     ·intro t hinv
      obtain ⟨ht, htX⟩ := hinv
      refine hw_seq ?_
      refine hw_reg ?_
      refine dp rfl (pop_move rfl) ?_
      refine dp rfl (pop_move rfl) ?_
      refine dp rfl (pop_gtr rfl rfl) ?_
      refine dn ?_
      refine hw_cond rfl (fun h15 => ?_) (fun h16 => ?_)
      ·try simp at h15
       obtain ⟨s, rfl⟩ : ∃ s, t = s + 1 := ⟨t - 1, by omega⟩
       obtain ⟨x, hx⟩ : ∃ x, X[s]? = some x := ⟨_, List.getElem?_eq_getElem (by omega)⟩
       refine hw_skip ?_
       refine seqQ_n ?_
       refine hw_seq ?_
       refine hw_block ?_
       refine hw_draw1 (fun M => M = [.arr (.slice (some ⟨b, off, none⟩) n cap) 4 ((wan A X y C (s + 1)).map eReply)]) [9, 13] mixed ?_
       refine ahp 0 rfl rfl (by kernel_rfl) (by kernel_rfl) (pop_move rfl) ?_
       refine ahp 1 rfl rfl (by kernel_rfl) (by kernel_rfl) (pop_move rfl) ?_
       refine ahp 2 rfl rfl (by kernel_rfl) (by kernel_rfl) (pop_move rfl) ?_
       refine ahp 3 rfl rfl (by kernel_rfl) (by kernel_rfl) (pop_move rfl) ?_
       refine ahp 4 rfl rfl (by kernel_rfl) (by kernel_rfl) (pop_sub64 rfl rfl (by omega) (by omega)) ?_
       refine ahp 5 rfl rfl (by kernel_rfl) (by kernel_rfl) (pop_move rfl) ?_
       refine ahp 6 rfl rfl (by kernel_rfl) (by kernel_rfl) (pop_move rfl) ?_
       refine ahp 7 rfl rfl (by kernel_rfl) (by kernel_rfl) (pop_sub64 rfl rfl (by omega) (by omega)) ?_
       refine ahp 8 rfl rfl (by kernel_rfl) (by kernel_rfl) (pop_idxraw (j := A.length + s) ty34 ty75 rfl rfl (by omega) (by omega)) ?_
       refine ahl 9 rfl rfl (by kernel_rfl) (by kernel_rfl) (by simp) rfl (fun M hM => by subst hM; exact eop_load_elw (i := 0) (j := A.length + s) ty75 rfl rfl rfl (wan_at hx).2 rfl rfl rfl ⟨rfl, rfl⟩) ?_
       refine ahp 10 rfl rfl (by kernel_rfl) (by kernel_rfl) (pop_move rfl) ?_
       refine ahp 11 rfl rfl (by kernel_rfl) (by kernel_rfl) (pop_move rfl) ?_
       refine ahp 12 rfl rfl (by kernel_rfl) (by kernel_rfl) (pop_idxraw (j := A.length + s + 1) ty34 ty75 rfl rfl (by omega) (by omega)) ?_
       refine ahl 13 rfl rfl (by kernel_rfl) (by kernel_rfl) (by simp) rfl (fun M hM => by subst hM; exact eop_load_elw (i := 0) (j := A.length + s + 1) ty75 rfl rfl rfl (wan_at hx).1 rfl rfl rfl ⟨rfl, rfl⟩) ?_
       refine ahp 14 rfl rfl (by kernel_rfl) (by kernel_rfl) (pop_idxraw (j := A.length + s + 1) ty34 ty75 rfl rfl (by omega) (by omega)) ?_
       refine ahe 15 rfl (by kernel_rfl) ?_
       refine hop_e0 (eop_store_elw (i := 0) (j := A.length + s + 1) (y := y) (y' := x) ty75 rfl rfl rfl rfl (wan_at hx).1 rfl rfl rfl ?_)
       refine ⟨fun _ => .inr (by simp [Before, Region.binds]), ?_⟩
       refine ahp 16 rfl rfl (by kernel_rfl) (by kernel_rfl) (pop_idxraw (j := A.length + s) ty34 ty75 rfl rfl (by omega) (by omega)) ?_
       refine ahe 17 rfl (by kernel_rfl) ?_
       refine hop_e0 (eop_store_elw (i := 0) (j := A.length + s) (y := x) (y' := y) ty75 rfl rfl rfl rfl (wan_at' hx) rfl rfl rfl ?_)
       refine ⟨fun _ => .inr (by simp [Before, Region.binds]), ?_⟩
       refine ahz (by kernel_rfl) ?_
       refine blockQ_n ?_
       refine seqQ_n ?_
       refine hw_reg1 ?_
       refine dp rfl (pop_move rfl) ?_
       refine dp rfl (pop_sub64 rfl rfl (by omega) (by omega)) ?_
       refine dp rfl (pop_assign rfl) ?_
       refine dn ?_
       exact ⟨s, ⟨by omega, by omega⟩, by dsimp only; omega, ⟨some_int (by omega), trivial⟩, (by repeat (first | exact keeps_refl | refine keeps_upd rfl ?_ | refine keeps_loop rfl rfl ?_)), perm_eq (by rw [wan_back hx]; rfl)⟩
      ·try simp at h16
       obtain rfl : t = p := by omega
       refine hw_exit ?_
       refine seqQ_x ?_
       refine loopQ_x ?_
       refine blockQ_eq ?_
       refine seqQ_n ?_
       refine hw_ret ?_
       first
       | exact ret_q rfl ⟨_, rfl, one_left hc hY hqY (fun y hy => by have h1 := hQ y hy; have := hc.flip y x trivial trivial; have := hc.flip x y trivial trivial; omega) (fun y hy h0 => by have := hP y hy h0; omega), by simp [wan]⟩
       | exact ret_q rfl ⟨_, rfl, one_right hc hX hqX (fun x hx h0 => by have h1 := hP x hx h0; have := hc.flip y x trivial trivial; have := hc.flip x y trivial trivial; omega) (fun x hx => by have := hQ x hx; omega), by simp [wan]⟩
       | exact ret_q rfl ⟨Z1 ++ Z2, rfl, sym_join hc hX hY (by omega) (by omega) hk1 hk2 hz1 hz3 hz2 hz4, by simp⟩
       | exact ret_q rfl ⟨Z1 ++ (X.drop (p - A.length) ++ Y.drop (d - p)), rfl, sym_join hc hX hY (by omega) (by omega) hk1 hk2 hz1 (List.Perm.refl _) hz2 (sym_right hX hY (by rcases Nat.lt_or_ge p (A.length + X.length) with q | q; (have := h16 (by omega); omega); omega)), by simp⟩
  ·try simp at h10
   refine hw_skip ?_
   refine seqQ_n ?_
   refine hw_reg ?_
   refine dp rfl (pop_move rfl) ?_
   refine dp rfl (pop_move rfl) ?_
   refine dp rfl (pop_add64 rfl rfl (by omega) (by omega)) ?_
   refine dp rfl (pop_conv ty3 ty150 rfl) ?_
   refine dp rfl (pop_shr rfl rfl (by omega)) ?_
   refine dp rfl (pop_eq (h' := .int .i64 (((A.length + (A.length + X.length + Y.length)) / 2 : Nat) : Int)) (pop_conv ty150 ty3 rfl) (by have e9 : ia + ib = ((A.length : Nat) : Int) + ((A.length + X.length + Y.length : Nat) : Int) := (by omega); rw [e9]; exact mid_eq (by omega))) ?_
   refine dp rfl (pop_assign rfl) ?_
   refine dn ?_
   obtain ⟨d, hd⟩ : ∃ d : Nat, (A.length + (A.length + X.length + Y.length)) / 2 = d := ⟨_, rfl⟩
   rw [hd]
   refine hw_reg ?_
   refine dp rfl (pop_move rfl) ?_
   refine dp rfl (pop_move rfl) ?_
   refine dp rfl (pop_add64 rfl rfl (by omega) (by omega)) ?_
   refine dp rfl (pop_assign rfl) ?_
   refine dn ?_
   refine hw_reg ?_
   refine dp rfl (pop_assign rfl) ?_
   refine dp rfl (pop_assign rfl) ?_
   refine dn ?_
   refine hw_join [20, 21, 138, 139, 140, 141, 142, 143, 144, 145, 146] (fun (s : Nat × Nat) => [(20, .int .i64 (s.1 : Int)), (21, .int .i64 (s.2 : Int))]) (fun (s : Nat × Nat) => [.arr (.slice (some ⟨b, off, none⟩) n cap) 4 ((A ++ X ++ Y ++ C).map eReply)]) (fun (s : Nat × Nat) => (A.length ≤ s.1 ∧ s.1 ≤ s.2 ∧ s.2 ≤ A.length + X.length ∧ s.2 ≤ d ∧ d ≤ s.1 + Y.length) ∧ (s.1 = A.length ∨ d = s.1 + Y.length) ∧ (s.2 = A.length + X.length ∨ s.2 = d)) ?_ ?_
   ·skip
    refine hw_reg ?_
    refine dp rfl (pop_move rfl) ?_
    refine dp rfl (pop_move rfl) ?_
    refine dp rfl (pop_gtr rfl rfl) ?_
    refine dn ?_
    refine hw_cond rfl (fun h17 => ?_) (fun h18 => ?_)
    ·try simp at h17
     refine hw_reg ?_
     refine dp rfl (pop_move rfl) ?_
     refine dp rfl (pop_move rfl) ?_
     refine dp rfl (pop_sub64 rfl rfl (by omega) (by omega)) ?_
     refine dp rfl (pop_assign rfl) ?_
     refine dn ?_
     refine hw_reg1 ?_
     refine dp rfl (pop_move rfl) ?_
     refine dp rfl (pop_assign rfl) ?_
     refine dn ?_
     exact ⟨(d - Y.length, d), ⟨⟨by dsimp only; omega, by dsimp only; omega, by dsimp only; omega, by dsimp only; omega, by dsimp only; omega⟩, by dsimp only; omega, by dsimp only; omega⟩, ⟨some_int (by omega), rfl, trivial⟩, (by repeat (first | exact keeps_refl | refine keeps_upd rfl ?_ | refine keeps_loop rfl rfl ?_)), List.Perm.refl _⟩
    ·try simp at h18
     refine hw_reg ?_
     refine dp rfl (pop_move rfl) ?_
     refine dp rfl (pop_assign rfl) ?_
     refine dn ?_
     refine hw_reg1 ?_
     refine dp rfl (pop_move rfl) ?_
     refine dp rfl (pop_assign rfl) ?_
     refine dn ?_
     exact ⟨(A.length, A.length + X.length), ⟨⟨by dsimp only; omega, by dsimp only; omega, by dsimp only; omega, by dsimp only; omega, by dsimp only; omega⟩, by dsimp only; omega, by dsimp only; omega⟩, ⟨some_int (by omega), some_int (by omega), trivial⟩, (by repeat (first | exact keeps_refl | refine keeps_upd rfl ?_ | refine keeps_loop rfl rfl ?_)), List.Perm.refl _⟩
   ·intro s hs
    obtain ⟨s1, s2⟩ := s
    dsimp only at hs ⊢
    obtain ⟨⟨hs3, hs4, hs5, hs6, hs7⟩, hs1, hs2⟩ := hs
    refine hw_reg ?_
    refine dp rfl (pop_move rfl) ?_
    refine dp rfl (pop_sub64 rfl rfl (by omega) (by omega)) ?_
    refine dp rfl (pop_assign rfl) ?_
    refine dn ?_
    refine hw_seq ?_
    refine hw_block ?_
    refine hw_loopw2 [20, 21, 23, 149, 150, 151, 152, 153, 154, 155, 156, 157, 158, 159, 160, 161, 162, 163, 164, 165, 166, 167, 168, 169, 170, 171, 172, 173, 174] (fun (p : Nat) (q : Nat) => [(20, .int .i64 (p : Int)), (21, .int .i64 (q : Int))]) (fun (p : Nat) (q : Nat) => [.arr (.slice (some ⟨b, off, none⟩) n cap) 4 ((A ++ X ++ Y ++ C).map eReply)]) (fun (p : Nat) (q : Nat) => s1 ≤ p ∧ p ≤ q ∧ q ≤ s2 ∧ (∀ x y, X[p - 1 - A.length]? = some x → Y[d - p]? = some y → s1 < p → ¬ c y x < 0) ∧ (∀ x y, X[q - A.length]? = some x → Y[d - 1 - q]? = some y → q < s2 → c y x < 0)) (fun (p : Nat) (q : Nat) => q - p) (s1) (s2) ?_ ?_ ?_ ?_
    ·exact ⟨Nat.le_refl _, by omega, Nat.le_refl _, fun x y _ _ h => absurd h (Nat.lt_irrefl _), fun x y _ _ h => absurd h (Nat.lt_irrefl _)⟩
    ·exact ⟨rfl, rfl, trivial⟩
    ·exact List.Perm.refl _
    ·intro p q hinv
     obtain ⟨hsp, hpq, hqs, hP, hQ⟩ := hinv
     refine hw_seq ?_
     refine hw_reg ?_
     refine dp rfl (pop_move rfl) ?_
     refine dp rfl (pop_move rfl) ?_
     refine dp rfl (pop_lss rfl rfl) ?_
     refine dn ?_
     refine hw_cond rfl (fun h19 => ?_) (fun h20 => ?_)
     ·try simp at h19
      refine hw_skip ?_
      refine seqQ_n ?_
      refine hw_block ?_
      refine hw_reg ?_
      refine dp rfl (pop_move rfl) ?_
      refine dp rfl (pop_move rfl) ?_
      refine dp rfl (pop_add64 rfl rfl (by omega) (by omega)) ?_
      refine dp rfl (pop_conv ty3 ty150 rfl) ?_
      refine dp rfl (pop_shr rfl rfl (by omega)) ?_
      refine dp rfl (pop_eq (pop_conv ty150 ty3 rfl) (mid_eq (i := p) (j := q) (by omega))) ?_
      refine dp rfl (pop_assign rfl) ?_
      refine dn ?_
      obtain ⟨g, hg⟩ : ∃ g, (p + q) / 2 = g := ⟨_, rfl⟩
      obtain ⟨u, hu⟩ : ∃ u, g = A.length + u := ⟨g - A.length, by omega⟩
      obtain ⟨r, hr⟩ : ∃ r, d = r + 1 + g := ⟨d - 1 - g, by omega⟩
      obtain ⟨x, hx⟩ : ∃ x, X[u]? = some x := ⟨_, List.getElem?_eq_getElem (by omega)⟩
      obtain ⟨y, hy⟩ : ∃ y, Y[r]? = some y := ⟨_, List.getElem?_eq_getElem (by omega)⟩
      refine hw_draw (fun M => M = [.arr (.slice (some ⟨b, off, none⟩) n cap) 4 ((A ++ X ++ Y ++ C).map eReply)]) [6, 10] mixed ?_
      refine ahp 0 rfl rfl (by kernel_rfl) (by kernel_rfl) (pop_move rfl) ?_
      refine ahp 1 rfl rfl (by kernel_rfl) (by kernel_rfl) (pop_move rfl) ?_
      refine ahp 2 rfl rfl (by kernel_rfl) (by kernel_rfl) (pop_move rfl) ?_
      refine ahp 3 rfl rfl (by kernel_rfl) (by kernel_rfl) (pop_move rfl) ?_
      refine ahp 4 rfl rfl (by kernel_rfl) (by kernel_rfl) (pop_sub64 rfl rfl (by omega) (by omega)) ?_
      refine ahp 5 rfl rfl (by kernel_rfl) (by kernel_rfl) (pop_idxraw (j := A.length + X.length + r) ty34 ty75 rfl rfl (by omega) (by omega)) ?_
      refine ahl 6 rfl rfl (by kernel_rfl) (by kernel_rfl) (by simp) rfl (fun M hM => by subst hM; exact eop_load_elw (i := 0) (j := A.length + X.length + r) ty75 rfl rfl rfl (mid_get2 hy) rfl rfl rfl ⟨rfl, rfl⟩) ?_
      refine ahp 7 rfl rfl (by kernel_rfl) (by kernel_rfl) (pop_move rfl) ?_
      refine ahp 8 rfl rfl (by kernel_rfl) (by kernel_rfl) (pop_move rfl) ?_
      refine ahp 9 rfl rfl (by kernel_rfl) (by kernel_rfl) (pop_idxraw (j := A.length + u) ty34 ty75 rfl rfl (by omega) (by omega)) ?_
      refine ahl 10 rfl rfl (by kernel_rfl) (by kernel_rfl) (by simp) rfl (fun M hM => by subst hM; exact eop_load_elw (i := 0) (j := A.length + u) ty75 rfl rfl rfl (mid_get1 hx) rfl rfl rfl ⟨rfl, rfl⟩) ?_
      refine ahp 11 rfl rfl (by kernel_rfl) (by kernel_rfl) (pop_callv hca rfl rfl (WeakL.refl _) (hp _ _)) ?_
      refine ahp 12 rfl rfl (by kernel_rfl) (by kernel_rfl) (pop_lss rfl rfl) ?_
      refine ahp 13 rfl rfl (by kernel_rfl) (by kernel_rfl) (pop_not rfl) ?_
      refine ahz (by kernel_rfl) ?_
      refine hw_cond rfl (fun h21 => ?_) (fun h22 => ?_)
      ·try simp at h21
       refine hw_reg1 ?_
       refine dp rfl (pop_move rfl) ?_
       refine dp rfl (pop_add64 rfl rfl (by omega) (by omega)) ?_
       refine dp rfl (pop_assign rfl) ?_
       refine dn ?_
       refine blockQ_n ?_
       exact ⟨g + 1, q, ⟨by omega, by omega, hqs, fun x2 y2 h1 h2 _ => by
        rw [show g + 1 - 1 - A.length = u by omega, hx] at h1
        rw [show d - (g + 1) = r by omega, hy] at h2
        rw [← Option.some.inj h1, ← Option.some.inj h2]; omega, hQ⟩, by dsimp only; omega, ⟨some_int (by omega), rfl, trivial⟩, (by repeat (first | exact keeps_refl | refine keeps_upd rfl ?_ | refine keeps_loop rfl rfl ?_)), List.Perm.refl _⟩
      ·try simp at h22
       refine hw_reg1 ?_
       refine dp rfl (pop_move rfl) ?_
       refine dp rfl (pop_assign rfl) ?_
       refine dn ?_
       refine blockQ_n ?_
       exact ⟨p, g, ⟨hsp, by omega, by omega, hP, fun x2 y2 h1 h2 _ => by
        rw [show g - A.length = u by omega, hx] at h1
        rw [show d - 1 - g = r by omega, hy] at h2
        rw [← Option.some.inj h1, ← Option.some.inj h2]; omega⟩, by dsimp only; omega, ⟨rfl, some_int (by omega), trivial⟩, (by repeat (first | exact keeps_refl | refine keeps_upd rfl ?_ | refine keeps_loop rfl rfl ?_)), List.Perm.refl _⟩
     ·try simp at h20
      obtain rfl : p = q := by omega
      have hpA : A.length ≤ p := by omega
      refine hw_exit ?_
      refine seqQ_x ?_
      refine loopQ2_x ?_
      refine blockQ_eq ?_
      refine seqQ_n ?_
      obtain ⟨hk1, hk2⟩ := sym_cond hc hP hQ hs1 hs2 hsp hqs hpA
      refine hw_reg ?_
      refine dp rfl (pop_move rfl) ?_
      refine dp rfl (pop_move rfl) ?_
      refine dp rfl (pop_sub64 rfl rfl (by omega) (by omega)) ?_
      refine dp rfl (pop_assign rfl) ?_
      refine dn ?_
      refine hw_join [178, 179, 180, 181, 182, 183, 184, 185, 186, 187, 188, 189, 190, 191] (fun (z : Unit) => []) (fun (z : Unit) => [.arr (.slice (some ⟨b, off, none⟩) n cap) 4 (((A ++ X.take (p - A.length)) ++ Y.take (d - p) ++ X.drop (p - A.length) ++ (Y.drop (d - p) ++ C)).map eReply)]) (fun (z : Unit) => True) ?_ ?_
      ·skip
       refine hw_reg ?_
       refine dp rfl (pop_move rfl) ?_
       refine dp rfl (pop_move rfl) ?_
       refine dp rfl (pop_lss rfl rfl) ?_
       refine dp rfl (pop_move rfl) ?_
       refine dg rfl rfl (fun hc => ⟨_, OpenTo.refl _, pop_move rfl⟩) ?_
       refine dg rfl rfl (fun hc => ⟨_, OpenTo.refl _, pop_move rfl⟩) ?_
       refine dg rfl rfl (fun hc => ⟨_, OpenTo.upd (t := 183) rfl (by first | exact hc | simp_all) (OpenTo.upd (t := 182) rfl (by first | exact hc | simp_all) (OpenTo.refl _)), pop_lss rfl rfl⟩) ?_
       refine dp rfl (pop_picko rfl (.inr ⟨_, rfl, fun h => by simp_all⟩) (.inl rfl)) ?_
       refine dn ?_
       refine hw_cond rfl (fun h23 => ?_) (fun h24 => ?_)
       ·try simp at h23
        refine hw_ghost (Ghost.of_eq (M' := [.arr (.slice (some ⟨b, off, none⟩) n cap) 4 (((A ++ X.take (p - A.length)) ++ X.drop (p - A.length) ++ Y.take (d - p) ++ (Y.drop (d - p) ++ C)).map eReply)]) (by rw [sym_pre (k := p - A.length) (j := d - p)])) ?_
        refine hw_reg1 ?_
        refine dp rfl (pop_move rfl) ?_
        refine dp rfl (pop_move rfl) ?_
        refine dp rfl (pop_move rfl) ?_
        refine dp rfl (pop_move rfl) ?_
        refine dp rfl (pop_move rfl) ?_
        refine de rfl (eop_callx (i := 0) ca186 rfl (WeakL.refl _) rfl (c_rotate_api_Answer (P := A ++ X.take (p - A.length)) (U := X.drop (p - A.length)) (W := Y.take (d - p)) (Q := Y.drop (d - p) ++ C) (n := n) (by first | omega | (simp; omega)) (by first | omega | (simp; omega)) (by first | omega | (simp; omega)) (by first | omega | (simp; omega)) (by first | omega | (simp; omega)) (by first | omega | (simp; omega)) hl) ?_)
        rintro _ _ ⟨rfl, rfl⟩
        refine dn ?_
        exact ⟨(), trivial, trivial, (by repeat (first | exact keeps_refl | refine keeps_upd rfl ?_ | refine keeps_loop rfl rfl ?_)), List.Perm.refl _⟩
       ·try simp at h24
        refine hw_skip ?_
        exact ⟨(), trivial, trivial, (by repeat (first | exact keeps_refl | refine keeps_upd rfl ?_ | refine keeps_loop rfl rfl ?_)), perm_eq (by rw [sym_noswap (k := p - A.length) (j := d - p) (by rcases Nat.lt_or_ge p (A.length + X.length) with q | q; (have := h24 (by omega); omega); omega)])⟩
      ·intro z _
       refine hw_join [192, 193, 194, 195, 196, 197, 198, 199, 200, 201, 202, 203, 204, 205] (fun (Z1 : List ReplyS) => []) (fun (Z1 : List ReplyS) => [.arr (.slice (some ⟨b, off, none⟩) n cap) 4 ((A ++ Z1 ++ (X.drop (p - A.length) ++ (Y.drop (d - p) ++ C))).map eReply)]) (fun (Z1 : List ReplyS) => Z1.Perm (X.take (p - A.length) ++ Y.take (d - p)) ∧ Srt c Z1) ?_ ?_
       ·skip
        refine hw_reg ?_
        refine dp rfl (pop_move rfl) ?_
        refine dp rfl (pop_move rfl) ?_
        refine dp rfl (pop_lss rfl rfl) ?_
        refine dp rfl (pop_move rfl) ?_
        refine dg rfl rfl (fun hc => ⟨_, OpenTo.refl _, pop_move rfl⟩) ?_
        refine dg rfl rfl (fun hc => ⟨_, OpenTo.refl _, pop_move rfl⟩) ?_
        refine dg rfl rfl (fun hc => ⟨_, OpenTo.upd (t := 197) rfl (by first | exact hc | simp_all) (OpenTo.upd (t := 196) rfl (by first | exact hc | simp_all) (OpenTo.refl _)), pop_lss rfl rfl⟩) ?_
        refine dp rfl (pop_picko rfl (.inr ⟨_, rfl, fun h => by simp_all⟩) (.inl rfl)) ?_
        refine dn ?_
        refine hw_cond rfl (fun h25 => ?_) (fun h26 => ?_)
        ·try simp at h25
         refine hw_ghost (Ghost.of_eq (M' := [.arr (.slice (some ⟨b, off, none⟩) n cap) 4 ((A ++ X.take (p - A.length) ++ Y.take (d - p) ++ (X.drop (p - A.length) ++ (Y.drop (d - p) ++ C))).map eReply)]) (by simp)) ?_
         refine hw_reg1 ?_
         refine dp rfl (pop_move rfl) ?_
         refine dp rfl (pop_move rfl) ?_
         refine dp rfl (pop_move rfl) ?_
         refine dp rfl (pop_move rfl) ?_
         refine dp rfl (pop_move rfl) ?_
         refine de rfl (eop_callx (i := 0) ca160 rfl (WeakL.refl _) rfl (ih (A := A) (X := X.take (p - A.length)) (Y := Y.take (d - p)) (C := X.drop (p - A.length) ++ (Y.drop (d - p) ++ C)) (by first | omega | (simp; omega)) (by first | omega | (simp; omega)) (by first | omega | (simp; omega)) (by first | omega | (simp; omega)) (by first | omega | (simp; omega)) (by first | omega | (simp; omega)) (by first | omega | (simp; omega)) (hX.take _) (hY.take _)) ?_)
         rintro _ _ ⟨Z1, rfl, ⟨hz1, hz2⟩, rfl⟩
         refine dn ?_
         exact ⟨Z1, ⟨hz1, hz2⟩, trivial, (by repeat (first | exact keeps_refl | refine keeps_upd rfl ?_ | refine keeps_loop rfl rfl ?_)), List.Perm.refl _⟩
        ·try simp at h26
         refine hw_skip ?_
         exact ⟨X.take (p - A.length) ++ Y.take (d - p), ⟨List.Perm.refl _, sym_left hX hY (by rcases Nat.lt_or_ge A.length p with q | q; (have := h26 (by omega); omega); omega)⟩, trivial, (by repeat (first | exact keeps_refl | refine keeps_upd rfl ?_ | refine keeps_loop rfl rfl ?_)), perm_eq (by simp)⟩
       ·intro Z1 hinv
        obtain ⟨hz1, hz2⟩ := hinv
        refine hw_reg ?_
        refine dp rfl (pop_move rfl) ?_
        refine dp rfl (pop_move rfl) ?_
        refine dp rfl (pop_lss rfl rfl) ?_
        refine dp rfl (pop_move rfl) ?_
        refine dg rfl rfl (fun hc => ⟨_, OpenTo.refl _, pop_move rfl⟩) ?_
        refine dg rfl rfl (fun hc => ⟨_, OpenTo.refl _, pop_move rfl⟩) ?_
        refine dg rfl rfl (fun hc => ⟨_, OpenTo.upd (t := 211) rfl (by first | exact hc | simp_all) (OpenTo.upd (t := 210) rfl (by first | exact hc | simp_all) (OpenTo.refl _)), pop_lss rfl rfl⟩) ?_
        refine dp rfl (pop_picko rfl (.inr ⟨_, rfl, fun h => by simp_all⟩) (.inl rfl)) ?_
        refine dn ?_
        refine hw_cond rfl (fun h27 => ?_) (fun h28 => ?_)
        ·try simp at h27
         have hzl := hz1.length_eq
         simp only [List.length_append, List.length_take] at hzl
         refine hw_ghost (Ghost.of_eq (M' := [.arr (.slice (some ⟨b, off, none⟩) n cap) 4 (((A ++ Z1) ++ X.drop (p - A.length) ++ Y.drop (d - p) ++ C).map eReply)]) (by simp)) ?_
         refine hw_reg1 ?_
         refine dp rfl (pop_move rfl) ?_
         refine dp rfl (pop_move rfl) ?_
         refine dp rfl (pop_move rfl) ?_
         refine dp rfl (pop_move rfl) ?_
         refine dp rfl (pop_move rfl) ?_
         refine de rfl (eop_callx (i := 0) ca160 rfl (WeakL.refl _) rfl (ih (A := A ++ Z1) (X := X.drop (p - A.length)) (Y := Y.drop (d - p)) (C := C) (by first | omega | (simp; omega)) (by first | omega | (simp; omega)) (by first | omega | (simp; omega)) (by first | omega | (simp; omega)) (by first | omega | (simp; omega)) (by first | omega | (simp; omega)) (by first | omega | (simp; omega)) (hX.drop _) (hY.drop _)) ?_)
         rintro _ _ ⟨Z2, rfl, ⟨hz3, hz4⟩, rfl⟩
         refine dn ?_
         first
         | exact ret_q rfl ⟨_, rfl, one_left hc hY hqY (fun y hy => by have h1 := hQ y hy; have := hc.flip y x trivial trivial; have := hc.flip x y trivial trivial; omega) (fun y hy h0 => by have := hP y hy h0; omega), by simp [wan]⟩
         | exact ret_q rfl ⟨_, rfl, one_right hc hX hqX (fun x hx h0 => by have h1 := hP x hx h0; have := hc.flip y x trivial trivial; have := hc.flip x y trivial trivial; omega) (fun x hx => by have := hQ x hx; omega), by simp [wan]⟩
         | exact ret_q rfl ⟨Z1 ++ Z2, rfl, sym_join hc hX hY (by omega) (by omega) hk1 hk2 hz1 hz3 hz2 hz4, by simp⟩
         | exact ret_q rfl ⟨Z1 ++ (X.drop (p - A.length) ++ Y.drop (d - p)), rfl, sym_join hc hX hY (by omega) (by omega) hk1 hk2 hz1 (List.Perm.refl _) hz2 (sym_right hX hY (by rcases Nat.lt_or_ge p (A.length + X.length) with q | q; (have := h28 (by omega); omega); omega)), by simp⟩
        ·try simp at h28
         refine hw_skip ?_
         first
         | exact ret_q rfl ⟨_, rfl, one_left hc hY hqY (fun y hy => by have h1 := hQ y hy; have := hc.flip y x trivial trivial; have := hc.flip x y trivial trivial; omega) (fun y hy h0 => by have := hP y hy h0; omega), by simp [wan]⟩
         | exact ret_q rfl ⟨_, rfl, one_right hc hX hqX (fun x hx h0 => by have h1 := hP x hx h0; have := hc.flip y x trivial trivial; have := hc.flip x y trivial trivial; omega) (fun x hx => by have := hQ x hx; omega), by simp [wan]⟩
         | exact ret_q rfl ⟨Z1 ++ Z2, rfl, sym_join hc hX hY (by omega) (by omega) hk1 hk2 hz1 hz3 hz2 hz4, by simp⟩
         | exact ret_q rfl ⟨Z1 ++ (X.drop (p - A.length) ++ Y.drop (d - p)), rfl, sym_join hc hX hY (by omega) (by omega) hk1 hk2 hz1 (List.Perm.refl _) hz2 (sym_right hX hY (by rcases Nat.lt_or_ge p (A.length + X.length) with q | q; (have := h28 (by omega); omega); omega)), by simp⟩

theorem c_sym_api_Answer [Tracks] {N : Nat} {n b off cap : Nat} {fid : FuncId} {caps : List HVal} {c : ReplyS → ReplyS → Int} {A X Y C : List ReplyS} {ia im ib : Int} (hca : Callable Tryz.prog fid) (hp : ∀ x y, ConP Tryz.prog fid ([eReply x, eReply y] ++ caps) (.int .i64 (c x y))) (hc : Cmp c fun _ => True) (hl : n ≤ 1000000) (hx0 : 0 < X.length) (hy0 : 0 < Y.length) (hN : X.length + Y.length ≤ N) (hn : A.length + X.length + Y.length + C.length = n) (hia : ia = (A.length : Int)) (him : im = (A.length : Int) + X.length) (hib : ib = (A.length : Int) + X.length + Y.length) (hX : Srt c X) (hY : Srt c Y) : Con Tryz.prog 160 [.raw (.slice (some ⟨b, off, none⟩) n cap), .int .i64 ia, .int .i64 im, .int .i64 ib, .fn (.func fid) [] caps] [.arr (.slice (some ⟨b, off, none⟩) n cap) 4 ((A ++ X ++ Y ++ C).map eReply)] (fun x M' => ∃ Z : List ReplyS, x = .tup [] ∧ (Z.Perm (X ++ Y) ∧ Srt c Z) ∧ M' = [.arr (.slice (some ⟨b, off, none⟩) n cap) 4 ((A ++ Z ++ C).map eReply)]) := by
 induction N using Nat.strongRecOn generalizing A X Y C ia im ib with
 | ind N ih =>
   exact c_syms_api_Answer hca hp hc hx0 hy0 hN hn hia him hib hX hY hl (fun a1 a2 a3 a4 a5 a6 a7 a8 a9 => ih _ a3 a1 a2 (Nat.le_refl _) a4 a5 a6 a7 a8 a9)

set_option maxHeartbeats 2000000 in
/-- slices.stableCmpFunc[benchwarmer/api.Answer] -/
theorem c_stable_api_Answer [Tracks] {l : List ReplyS} {n0 : Int} {n b off cap : Nat} {fid : FuncId} {caps : List HVal} {c : ReplyS → ReplyS → Int} (hca : Callable Tryz.prog fid) (hp : ∀ x y, ConP Tryz.prog fid ([eReply x, eReply y] ++ caps) (.int .i64 (c x y))) (hc : Cmp c fun _ => True) (hn : l.length = n) (hn0 : n0 = (n : Int)) (hl : n ≤ 1000000) : Con Tryz.prog 119 [.raw (.slice (some ⟨b, off, none⟩) n cap), .int .i64 n0, .fn (.func fid) [] caps] [.arr (.slice (some ⟨b, off, none⟩) n cap) 4 ((l).map eReply)] (fun x M' => ∃ Z : List ReplyS, x = .tup [] ∧ (Z.Perm l ∧ Srt c Z) ∧ M' = [.arr (.slice (some ⟨b, off, none⟩) n cap) 4 ((Z).map eReply)]) := by
 refine Con.of_body Tryz.func119 rfl Tryz.ntmps119 rfl rfl ?_
 refine hw_reg ?_
 refine dp rfl (pop_assign rfl) ?_
 refine dn ?_
 refine hw_reg ?_
 refine dp rfl (pop_move rfl) ?_
 refine dp rfl (pop_assign rfl) ?_
 refine dp rfl (pop_assign rfl) ?_
 refine dn ?_
 refine hw_seq ?_
 refine hw_block ?_
 refine hw_loopw3 [7, 8, 11, 12, 13, 14, 15, 16, 17, 18, 19, 20, 21, 22] (fun (a0 : Nat) (k : Nat) (Z : List ReplyS) => [(7, .int .i64 (a0 : Int)), (8, .int .i64 ((a0 + 20 : Nat) : Int))]) (fun (a0 : Nat) (k : Nat) (Z : List ReplyS) => [.arr (.slice (some ⟨b, off, none⟩) n cap) 4 ((Z ++ l.drop a0).map eReply)]) (fun (a0 : Nat) (k : Nat) (Z : List ReplyS) => a0 = 20 * k ∧ a0 ≤ n ∧ Blk c 20 Z ∧ Z.length = a0 ∧ Z.Perm (l.take a0)) (fun (a0 : Nat) (k : Nat) (Z : List ReplyS) => n - a0) (0) (0) ([]) ?_ ?_ ?_ ?_
 ·exact ⟨rfl, Nat.zero_le _, Blk.nil, rfl, by simp⟩
 ·exact ⟨rfl, rfl, trivial⟩
 ·exact perm_eq (by simp)
 ·intro a0 k Z hinv
  obtain ⟨ha0, ha1, hZ, hZl, hZp⟩ := hinv
  refine hw_seq ?_
  refine hw_reg ?_
  refine dp rfl (pop_move rfl) ?_
  refine dp rfl (pop_move rfl) ?_
  refine dp rfl (pop_leq rfl rfl) ?_
  refine dn ?_
  refine hw_cond rfl (fun h1 => ?_) (fun h2 => ?_)
  ·try simp at h1
   refine hw_skip ?_
   refine seqQ_n ?_
   refine hw_block ?_
   refine hw_ghost (Ghost.of_eq (M' := [.arr (.slice (some ⟨b, off, none⟩) n cap) 4 ((Z ++ (l.drop a0).take 20 ++ l.drop (a0 + 20)).map eReply)]) (by rw [List.append_assoc Z, ← win])) ?_
   refine hw_reg ?_
   refine dp rfl (pop_move rfl) ?_
   refine dp rfl (pop_move rfl) ?_
   refine dp rfl (pop_move rfl) ?_
   refine dp rfl (pop_move rfl) ?_
   refine de rfl (eop_callx (i := 0) ca159 rfl (WeakL.refl _) rfl (c_insw_api_Answer (A := Z) (X := ((l.drop a0).take 20)) (C := (l.drop (a0 + 20))) (n := n) hca hp (by first | omega | (simp; omega)) (by omega) (by first | omega | (simp; omega)) hl) ?_)
   rintro _ _ ⟨rfl, rfl⟩
   refine dn ?_
   refine hw_reg ?_
   refine dp rfl (pop_move rfl) ?_
   refine dp rfl (pop_assign rfl) ?_
   refine dn ?_
   refine hw_reg1 ?_
   refine dp rfl (pop_move rfl) ?_
   refine dp rfl (pop_move rfl) ?_
   refine dp rfl (pop_add64 rfl rfl (by omega) (by omega)) ?_
   refine dp rfl (pop_assign rfl) ?_
   refine dn ?_
   refine blockQ_n ?_
   exact ⟨a0 + 20, k + 1, Z ++ isort c ((l.drop a0).take 20), ⟨by omega, by omega, hZ.add (k := k) (by omega) (isort_srt hc _) (by rw [isort_len, List.length_take]; omega), by rw [List.length_append, isort_len, List.length_take, List.length_drop]; omega, by rw [take_add']; exact hZp.append (isort_perm c _)⟩, by dsimp only; omega, ⟨some_int (by omega), some_int (by omega), trivial⟩, (by repeat (first | exact keeps_refl | refine keeps_upd rfl ?_ | refine keeps_loop rfl rfl ?_)), List.Perm.refl _⟩
  ·try simp at h2
   refine hw_exit ?_
   refine seqQ_x ?_
   refine loopQ3_x ?_
   refine blockQ_eq ?_
   refine seqQ_n ?_
   refine hw_ghost (Ghost.of_eq (M' := [.arr (.slice (some ⟨b, off, none⟩) n cap) 4 ((Z ++ l.drop a0 ++ []).map eReply)]) (by simp)) ?_
   refine hw_reg ?_
   refine dp rfl (pop_move rfl) ?_
   refine dp rfl (pop_move rfl) ?_
   refine dp rfl (pop_move rfl) ?_
   refine dp rfl (pop_move rfl) ?_
   refine de rfl (eop_callx (i := 0) ca159 rfl (WeakL.refl _) rfl (c_insw_api_Answer (A := Z) (X := (l.drop a0)) (C := []) (n := n) hca hp (by first | omega | (simp; omega)) (by omega) (by first | omega | (simp; omega)) hl) ?_)
   rintro _ _ ⟨rfl, rfl⟩
   refine dn ?_
   refine hw_block ?_
   refine hw_loopw2 [6, 7, 8, 9, 28, 29, 30, 31, 32, 33, 34, 35, 36, 37, 38, 39, 40, 41, 42, 43, 44, 45, 46, 47, 48, 49, 50, 51, 52, 53, 54, 55, 56, 57, 58, 59, 60, 61, 62] (fun (bs : Nat) (D : List ReplyS) => [(6, .int .i64 (bs : Int))]) (fun (bs : Nat) (D : List ReplyS) => [.arr (.slice (some ⟨b, off, none⟩) n cap) 4 ((D).map eReply)]) (fun (bs : Nat) (D : List ReplyS) => 20 ≤ bs ∧ bs ≤ 2 * n + 20 ∧ Blk c bs D ∧ D.Perm l) (fun (bs : Nat) (D : List ReplyS) => n - bs) (20) (Z ++ isort c (l.drop a0)) ?_ ?_ ?_ ?_
   ·refine ⟨Nat.le_refl _, by omega, hZ.add (k := k) (by omega) (isort_srt hc _) (by rw [isort_len, List.length_drop]; omega), ?_⟩
    have := hZp.append (isort_perm c (l.drop a0))
    rwa [List.take_append_drop] at this
   ·exact ⟨rfl, trivial⟩
   ·exact perm_eq (by simp)
   ·intro bs D hinv
    obtain ⟨hb1, hb2, hD, hDp⟩ := hinv
    have hDl : D.length = n := by rw [hDp.length_eq]; exact hn
    refine hw_seq ?_
    skip
    refine hw_reg ?_
    refine dp rfl (pop_move rfl) ?_
    refine dp rfl (pop_move rfl) ?_
    refine dp rfl (pop_lss rfl rfl) ?_
    refine dn ?_
    refine hw_cond rfl (fun h3 => ?_) (fun h4 => ?_)
    ·try simp at h3
     refine hw_skip ?_
     refine seqQ_n ?_
     refine hw_block ?_
     refine hw_reg ?_
     refine dp rfl (pop_move rfl) ?_
     refine dp rfl (pop_mul64 rfl rfl (by omega) (by omega)) ?_
     refine dp rfl (pop_assign rfl) ?_
     refine dp rfl (pop_assign rfl) ?_
     refine dn ?_
     refine hw_seq ?_
     refine hw_block ?_
     refine hw_loopw3 [7, 8, 33, 34, 35, 36, 37, 38, 39, 40, 41, 42, 43, 44, 45, 46, 47, 48] (fun (a0 : Nat) (k : Nat) (Z : List ReplyS) => [(7, .int .i64 (a0 : Int)), (8, .int .i64 ((a0 + bs + bs : Nat) : Int))]) (fun (a0 : Nat) (k : Nat) (Z : List ReplyS) => [.arr (.slice (some ⟨b, off, none⟩) n cap) 4 ((Z ++ D.drop a0).map eReply)]) (fun (a0 : Nat) (k : Nat) (Z : List ReplyS) => a0 = 2 * bs * k ∧ a0 ≤ n ∧ Blk c (bs + bs) Z ∧ Z.length = a0 ∧ Z.Perm (D.take a0)) (fun (a0 : Nat) (k : Nat) (Z : List ReplyS) => n - a0) (0) (0) ([]) ?_ ?_ ?_ ?_
     ·exact ⟨by simp, Nat.zero_le _, Blk.nil, rfl, by simp⟩
     ·exact ⟨rfl, some_int (by omega), trivial⟩
     ·exact perm_eq (by simp)
     ·intro a0 k Z hinv
      obtain ⟨ha0, ha1, hZ, hZl, hZp⟩ := hinv
      refine hw_seq ?_
      refine hw_reg ?_
      refine dp rfl (pop_move rfl) ?_
      refine dp rfl (pop_move rfl) ?_
      refine dp rfl (pop_leq rfl rfl) ?_
      refine dn ?_
      refine hw_cond rfl (fun h5 => ?_) (fun h6 => ?_)
      ·try simp at h5
       refine hw_skip ?_
       refine seqQ_n ?_
       refine hw_block ?_
       refine hw_ghost (Ghost.of_eq (M' := [.arr (.slice (some ⟨b, off, none⟩) n cap) 4 ((Z ++ (D.drop a0).take bs ++ (D.drop (a0 + bs)).take bs ++ D.drop (a0 + bs + bs)).map eReply)]) (by rw [List.append_assoc (Z ++ _), ← win, List.append_assoc Z, ← win])) ?_
       refine hw_reg ?_
       refine dp rfl (pop_move rfl) ?_
       refine dp rfl (pop_move rfl) ?_
       refine dp rfl (pop_move rfl) ?_
       refine dp rfl (pop_move rfl) ?_
       refine dp rfl (pop_add64 rfl rfl (by omega) (by omega)) ?_
       refine dp rfl (pop_move rfl) ?_
       refine dp rfl (pop_move rfl) ?_
       refine de rfl (eop_callx (i := 0) ca160 rfl (WeakL.refl _) rfl (c_sym_api_Answer (A := Z) (X := ((D.drop a0).take bs)) (Y := ((D.drop (a0 + bs)).take bs)) (C := (D.drop (a0 + bs + bs))) (n := n) hca hp hc hl (by first | omega | (simp; omega)) (by first | omega | (simp; omega)) (Nat.le_refl _) (by first | omega | (simp; omega)) (by omega) (by first | omega | (simp; omega)) (by first | omega | (simp; omega)) (hD.at (q := 2 * k) (by rw [ha0, Nat.mul_assoc, Nat.mul_left_comm])) (hD.at (q := 2 * k + 1) (by rw [ha0, Nat.mul_add, Nat.mul_one, Nat.mul_assoc, Nat.mul_left_comm]))) ?_)
       rintro _ _ ⟨Z43, rfl, ⟨hz1, hz2⟩, rfl⟩
       refine dn ?_
       refine hw_reg ?_
       refine dp rfl (pop_move rfl) ?_
       refine dp rfl (pop_assign rfl) ?_
       refine dn ?_
       refine hw_reg1 ?_
       refine dp rfl (pop_move rfl) ?_
       refine dp rfl (pop_move rfl) ?_
       refine dp rfl (pop_mul64 rfl rfl (by omega) (by omega)) ?_
       refine dp rfl (pop_add64 rfl rfl (by omega) (by omega)) ?_
       refine dp rfl (pop_assign rfl) ?_
       refine dn ?_
       refine blockQ_n ?_
       refine ⟨a0 + bs + bs, k + 1, Z ++ Z43, ⟨?_, by omega, hZ.add (k := k) ?_ hz2 ?_, ?_, ?_⟩, by dsimp only; omega, ⟨some_int (by omega), some_int (by omega), trivial⟩, (by repeat (first | exact keeps_refl | refine keeps_upd rfl ?_ | refine keeps_loop rfl rfl ?_)), perm_eq (by simp)⟩
       ·rw [Nat.mul_add, Nat.mul_one, ← ha0]; omega
       ·rw [hZl, ha0, Nat.two_mul]
       ·rw [hz1.length_eq]; simp only [List.length_append, List.length_take]; omega
       ·rw [List.length_append, hz1.length_eq]; simp only [List.length_append, List.length_take, List.length_drop]; omega
       ·rw [Nat.add_assoc, take_add']
        refine hZp.append (hz1.trans ?_)
        rw [take_add', List.drop_drop]
      ·try simp at h6
       refine hw_exit ?_
       refine seqQ_x ?_
       refine loopQ3_x ?_
       refine blockQ_eq ?_
       refine seqQ_n ?_
       refine hw_join [9, 49, 50, 51, 52, 53, 54, 55, 56, 57, 58, 59, 60] (fun (D2 : List ReplyS) => []) (fun (D2 : List ReplyS) => [.arr (.slice (some ⟨b, off, none⟩) n cap) 4 ((D2).map eReply)]) (fun (D2 : List ReplyS) => Blk c (bs + bs) D2 ∧ D2.Perm l) ?_ ?_
       ·skip
        refine hw_reg ?_
        refine dp rfl (pop_move rfl) ?_
        refine dp rfl (pop_move rfl) ?_
        refine dp rfl (pop_add64 rfl rfl (by omega) (by omega)) ?_
        refine dp rfl (pop_assign rfl) ?_
        refine dn ?_
        refine hw_reg ?_
        refine dp rfl (pop_move rfl) ?_
        refine dp rfl (pop_move rfl) ?_
        refine dp rfl (pop_lss rfl rfl) ?_
        refine dn ?_
        refine hw_cond rfl (fun h7 => ?_) (fun h8 => ?_)
        ·try simp at h7
         refine hw_ghost (Ghost.of_eq (M' := [.arr (.slice (some ⟨b, off, none⟩) n cap) 4 ((Z ++ (D.drop a0).take bs ++ D.drop (a0 + bs) ++ []).map eReply)]) (by rw [List.append_nil, List.append_assoc Z, ← win])) ?_
         refine hw_reg1 ?_
         refine dp rfl (pop_move rfl) ?_
         refine dp rfl (pop_move rfl) ?_
         refine dp rfl (pop_move rfl) ?_
         refine dp rfl (pop_move rfl) ?_
         refine dp rfl (pop_move rfl) ?_
         refine de rfl (eop_callx (i := 0) ca160 rfl (WeakL.refl _) rfl (c_sym_api_Answer (A := Z) (X := ((D.drop a0).take bs)) (Y := (D.drop (a0 + bs))) (C := []) (n := n) hca hp hc hl (by first | omega | (simp; omega)) (by first | omega | (simp; omega)) (Nat.le_refl _) (by first | omega | (simp; omega)) (by omega) (by first | omega | (simp; omega)) (by first | omega | (simp; omega)) (hD.at (q := 2 * k) (by rw [ha0, Nat.mul_assoc, Nat.mul_left_comm])) (hD.last (q := 2 * k + 1) (by rw [ha0, Nat.mul_add, Nat.mul_one, Nat.mul_assoc, Nat.mul_left_comm]) (by omega))) ?_)
         rintro _ _ ⟨Z60, rfl, ⟨hz1, hz2⟩, rfl⟩
         refine dn ?_
         refine ⟨Z ++ Z60, ⟨hZ.add (k := k) ?_ hz2 ?_, ?_⟩, trivial, (by repeat (first | exact keeps_refl | refine keeps_upd rfl ?_ | refine keeps_loop rfl rfl ?_)), perm_eq (by simp)⟩
         ·rw [hZl, ha0, Nat.two_mul]
         ·rw [hz1.length_eq]; simp only [List.length_append, List.length_take, List.length_drop]; omega
         ·have h9 := hZp.append hz1
          rw [← win, List.take_append_drop] at h9
          exact h9.trans hDp
        ·try simp at h8
         refine hw_skip ?_
         refine ⟨Z ++ D.drop a0, ⟨hZ.add (k := k) ?_ (hD.last (q := 2 * k) (by rw [ha0, Nat.mul_assoc, Nat.mul_left_comm]) (by omega)) ?_, ?_⟩, trivial, (by repeat (first | exact keeps_refl | refine keeps_upd rfl ?_ | refine keeps_loop rfl rfl ?_)), List.Perm.refl _⟩
         ·rw [hZl, ha0, Nat.two_mul]
         ·simp only [List.length_drop]; omega
         ·have h9 := hZp.append_right (D.drop a0)
          rw [List.take_append_drop] at h9
          exact h9.trans hDp
       ·intro D2 hD2
        refine hw_reg1 ?_
        refine dp rfl (pop_move rfl) ?_
        refine dp rfl (pop_mul64 rfl rfl (by omega) (by omega)) ?_
        refine dp rfl (pop_assign rfl) ?_
        refine dn ?_
        refine blockQ_n ?_
        exact ⟨bs + bs, D2, ⟨by omega, by omega, hD2.1, hD2.2⟩, by dsimp only; omega, ⟨some_int (by omega), trivial⟩, (by repeat (first | exact keeps_refl | refine keeps_upd rfl ?_ | refine keeps_loop rfl rfl ?_)), List.Perm.refl _⟩
    ·try simp at h4
     have hDs := hD.all (by omega)
     refine hw_exit ?_
     refine seqQ_x ?_
     refine loopQ2_x ?_
     refine blockQ_eq ?_
     exact ret_q rfl ⟨D, rfl, ⟨hDp, hDs⟩, rfl⟩

/-- slices.insertionSortCmpFunc[benchwarmer/api.Answer] -/
theorem c_ins0_api_Answer [Tracks] {v : Value} {fid : FuncId} {caps : List HVal}  : Con Tryz.prog 159 [.raw v, .int .i64 0, .int .i64 0, .fn (.func fid) [] caps] [.arr v 4 []] (fun x M' => x = .tup [] ∧ M' = [.arr v 4 []]) := by
 refine Con.of_body Tryz.func159 rfl Tryz.ntmps159 rfl rfl ?_
 refine hw_reg ?_
 refine dp rfl (pop_move rfl) ?_
 refine dp rfl (pop_add64 rfl rfl (by omega) (by omega)) ?_
 refine dp rfl (pop_assign rfl) ?_
 refine dn ?_
 refine hw_block ?_
 refine hw_loopw [8, 9, 12, 13, 14, 15, 16, 17, 18, 19, 20, 21, 22, 23, 24, 25, 26, 27, 28, 29, 30, 31, 32, 33, 34, 35, 36, 37, 38, 39, 40, 41, 42, 43, 44, 45, 46, 47, 48, 49, 50, 51, 52] (fun (u : Unit) => [(8, .int .i64 1)]) (fun (u : Unit) => [.arr v 4 []]) (fun (u : Unit) => True) (fun (u : Unit) => 0) (()) ?_ ?_ ?_ ?_
 ·trivial
 ·exact ⟨rfl, trivial⟩
 ·exact List.Perm.refl _
 ·intro u hu
  refine hw_seq ?_
  refine hw_reg ?_
  refine dp rfl (pop_move rfl) ?_
  refine dp rfl (pop_move rfl) ?_
  refine dp rfl (pop_lss rfl rfl) ?_
  refine dn ?_
  refine hw_cond rfl (fun h1 => ?_) (fun h1 => ?_)
  ·exfalso
   try simp at h1
   all_goals omega
  ·try simp at h1
   refine hw_exit ?_
   refine seqQ_x ?_
   refine loopQ_x ?_
   refine blockQ_eq ?_
   exact ret_q rfl ⟨rfl, rfl⟩

/-- slices.stableCmpFunc[benchwarmer/api.Answer] -/
theorem c_stable0_api_Answer [Tracks] {v : Value} {fid : FuncId} {caps : List HVal}  : Con Tryz.prog 119 [.raw v, .int .i64 0, .fn (.func fid) [] caps] [.arr v 4 []] (fun x M' => x = .tup [] ∧ M' = [.arr v 4 []]) := by
 refine Con.of_body Tryz.func119 rfl Tryz.ntmps119 rfl rfl ?_
 refine hw_reg ?_
 refine dp rfl (pop_assign rfl) ?_
 refine dn ?_
 refine hw_reg ?_
 refine dp rfl (pop_move rfl) ?_
 refine dp rfl (pop_assign rfl) ?_
 refine dp rfl (pop_assign rfl) ?_
 refine dn ?_
 refine hw_seq ?_
 refine hw_block ?_
 refine hw_loopw [7, 8, 11, 12, 13, 14, 15, 16, 17, 18, 19, 20, 21, 22] (fun (u : Unit) => [(7, .int .i64 0), (8, .int .i64 20)]) (fun (u : Unit) => [.arr v 4 []]) (fun (u : Unit) => True) (fun (u : Unit) => 0) (()) ?_ ?_ ?_ ?_
 ·trivial
 ·exact ⟨rfl, rfl, trivial⟩
 ·exact List.Perm.refl _
 ·intro u hu
  refine hw_seq ?_
  refine hw_reg ?_
  refine dp rfl (pop_move rfl) ?_
  refine dp rfl (pop_move rfl) ?_
  refine dp rfl (pop_leq rfl rfl) ?_
  refine dn ?_
  refine hw_cond rfl (fun h1 => ?_) (fun h1 => ?_)
  ·exfalso
   try simp at h1
   all_goals omega
  ·try simp at h1
   refine hw_exit ?_
   refine seqQ_x ?_
   refine loopQ_x ?_
   refine blockQ_eq ?_
   refine seqQ_n ?_
   refine hw_reg ?_
   refine dp rfl (pop_move rfl) ?_
   refine dp rfl (pop_move rfl) ?_
   refine dp rfl (pop_move rfl) ?_
   refine dp rfl (pop_move rfl) ?_
   refine de rfl (eop_callx (i := 0) ca159 rfl (WeakL.refl _) rfl c_ins0_api_Answer ?_)
   rintro _ _ ⟨rfl, rfl⟩
   refine dn ?_
   refine hw_block ?_
   refine hw_loopw [6, 7, 8, 9, 28, 29, 30, 31, 32, 33, 34, 35, 36, 37, 38, 39, 40, 41, 42, 43, 44, 45, 46, 47, 48, 49, 50, 51, 52, 53, 54, 55, 56, 57, 58, 59, 60, 61, 62] (fun (u : Unit) => [(6, .int .i64 20)]) (fun (u : Unit) => [.arr v 4 []]) (fun (u : Unit) => True) (fun (u : Unit) => 0) (()) ?_ ?_ ?_ ?_
   ·trivial
   ·exact ⟨rfl, trivial⟩
   ·exact List.Perm.refl _
   ·intro u hu
    refine hw_seq ?_
    refine hw_reg ?_
    refine dp rfl (pop_move rfl) ?_
    refine dp rfl (pop_move rfl) ?_
    refine dp rfl (pop_lss rfl rfl) ?_
    refine dn ?_
    refine hw_cond rfl (fun h2 => ?_) (fun h2 => ?_)
    ·exfalso
     try simp at h2
     all_goals omega
    ·try simp at h2
     refine hw_exit ?_
     refine seqQ_x ?_
     refine loopQ_x ?_
     refine blockQ_eq ?_
     exact ret_q rfl ⟨rfl, rfl⟩

/-- slices.SortStableFunc[[]benchwarmer/api.Answer,benchwarmer/api.Answer] -/
theorem c_sstable0_api_Answer [Tracks] {fid : FuncId} {caps : List HVal}  : Con Tryz.prog 83 [.raw (.slice none 0 0), .fn (.func fid) [] caps] [.arr (.slice none 0 0) 4 []] (fun x M' => x = .tup [] ∧ M' = [.arr (.slice none 0 0) 4 []]) := by
 refine Con.of_body Tryz.func83 rfl Tryz.ntmps83 rfl rfl ?_
 refine hw_reg1 ?_
 refine dp rfl (pop_move rfl) ?_
 refine dp rfl (pop_move rfl) ?_
 refine dp rfl (pop_len_raw ty34 rfl) ?_
 refine dp rfl (pop_move rfl) ?_
 refine de rfl (eop_callx (i := 0) ca119 rfl (WeakL.refl _) rfl c_stable0_api_Answer ?_)
 rintro _ _ ⟨rfl, rfl⟩
 refine dn ?_
 exact ret_q rfl ⟨rfl, rfl⟩

/-- slices.SortStableFunc[[]benchwarmer/api.Answer,benchwarmer/api.Answer] -/
theorem c_sstable1_api_Answer [Tracks] {l : List ReplyS} {n b off cap : Nat} {fid : FuncId} {caps : List HVal} {c : ReplyS → ReplyS → Int} (hca : Callable Tryz.prog fid) (hp : ∀ x y, ConP Tryz.prog fid ([eReply x, eReply y] ++ caps) (.int .i64 (c x y))) (hc : Cmp c fun _ => True) (hn : l.length = n) (hl : n ≤ 1000000) : Con Tryz.prog 83 [.raw (.slice (some ⟨b, off, none⟩) n cap), .fn (.func fid) [] caps] [.arr (.slice (some ⟨b, off, none⟩) n cap) 4 ((l).map eReply)] (fun x M' => ∃ Z : List ReplyS, x = .tup [] ∧ (Z.Perm l ∧ Srt c Z) ∧ M' = [.arr (.slice (some ⟨b, off, none⟩) n cap) 4 ((Z).map eReply)]) := by
 refine Con.of_body Tryz.func83 rfl Tryz.ntmps83 rfl rfl ?_
 refine hw_reg1 ?_
 refine dp rfl (pop_move rfl) ?_
 refine dp rfl (pop_move rfl) ?_
 refine dp rfl (pop_len_raw ty34 rfl) ?_
 refine dp rfl (pop_move rfl) ?_
 refine de rfl (eop_callx (i := 0) ca119 rfl (WeakL.refl _) rfl (c_stable_api_Answer hca hp hc hn rfl hl) ?_)
 rintro _ _ ⟨Z, rfl, hz, rfl⟩
 refine dn ?_
 exact ret_q rfl ⟨Z, rfl, hz, rfl⟩

theorem c_sstable_api_Answer [Tracks] {l : List ReplyS} {v : Value} {fid : FuncId} {caps : List HVal} {c : ReplyS → ReplyS → Int} (hca : Callable Tryz.prog fid) (hp : ∀ x y, ConP Tryz.prog fid ([eReply x, eReply y] ++ caps) (.int .i64 (c x y))) (hc : Cmp c fun _ => True) (hl : l.length ≤ 1000000) : Con Tryz.prog 83 [.raw v, .fn (.func fid) [] caps] [.arr v 4 (l.map eReply)] fun x M' => ∃ Z : List ReplyS, x = .tup [] ∧ (Z.Perm l ∧ Srt c Z) ∧ M' = [.arr v 4 (Z.map eReply)] :=
 con_arrc (fun h1 h2 => by
  have h3 : l = [] := by simpa using h2
  subst h1 h3
  exact c_sstable0_api_Answer.mono fun x M' ⟨e1, e2⟩ => ⟨[], e1, ⟨List.Perm.refl _, Srt.nil⟩, e2⟩)
  fun b off cap h1 => by
   rw [List.length_map] at h1
   subst h1
   exact c_sstable1_api_Answer hca hp hc rfl hl
end Go.Proofs.YtfkobanmdpbjkaaGreatDoor
end
section
namespace Go.Proofs
open Go.Shelf
def Tryz.g88_ren : Go.Shelf.Ren := ⟨fun | 6 => 88 | 15 => 98 | 14 => 120 | 28 => 134 | 29 => 135 | 20 => 159 | 21 => 161 | 22 => 162 | 23 => 163 | 24 => 164 | 25 => 165 | 26 => 166 | 27 => 167 | 46 => 187 | 47 => 174 | 48 => 175 | 49 => 188 | 50 => 189 | 57 => 216 | n => n, fun | 22 => 34 | 24 => 75 | 25 => 135 | 3 => 3 | 39 => 150 | 0 => 0 | 53 => 180 | 55 => 182 | 4 => 4 | 46 => 174 | 45 => 173 | 50 => 151 | 5 => 5 | 9 => 9 | 66 => 211 | 70 => 215 | 76 => 233 | 77 => 234 | n => n, fun | n => n⟩
theorem Tryz.g88 : Go.Proofs.SlLaysF0.n6 Tryz.prog Tryz.g88_ren := {
 mixed := by kernel_rfl
 f6 := ⟨Tryz.f88.name, by decide, Tryz.func88.trans (congrArg some (by kernel_rfl))⟩
 f14 := ⟨Tryz.f120.name, by decide, Tryz.func120.trans (congrArg some (by kernel_rfl))⟩
 f15 := Tryz.func98.trans (congrArg some (by kernel_rfl))
 f20 := ⟨Tryz.f159.name, by decide, Tryz.func159.trans (congrArg some (by kernel_rfl))⟩
 f21 := ⟨Tryz.f161.name, by decide, Tryz.func161.trans (congrArg some (by kernel_rfl))⟩
 f22 := ⟨Tryz.f162.name, by decide, Tryz.func162.trans (congrArg some (by kernel_rfl))⟩
 f23 := ⟨Tryz.f163.name, by decide, Tryz.func163.trans (congrArg some (by kernel_rfl))⟩
 f24 := ⟨Tryz.f164.name, by decide, Tryz.func164.trans (congrArg some (by kernel_rfl))⟩
 f25 := ⟨Tryz.f165.name, by decide, Tryz.func165.trans (congrArg some (by kernel_rfl))⟩
 f26 := ⟨Tryz.f166.name, by decide, Tryz.func166.trans (congrArg some (by kernel_rfl))⟩
 f27 := ⟨Tryz.f167.name, by decide, Tryz.func167.trans (congrArg some (by kernel_rfl))⟩
 f28 := Tryz.func134.trans (congrArg some (by kernel_rfl))
 f29 := Tryz.func135.trans (congrArg some (by kernel_rfl))
 f46 := ⟨Tryz.f187.name, by decide, Tryz.func187.trans (congrArg some (by kernel_rfl))⟩
 f47 := Tryz.func174.trans (congrArg some (by kernel_rfl))
 f48 := Tryz.func175.trans (congrArg some (by kernel_rfl))
 f49 := ⟨Tryz.f188.name, by decide, Tryz.func188.trans (congrArg some (by kernel_rfl))⟩
 f50 := ⟨Tryz.f189.name, by decide, Tryz.func189.trans (congrArg some (by kernel_rfl))⟩
 f57 := ⟨Tryz.f216.name, by decide, Tryz.func216.trans (congrArg some (by kernel_rfl))⟩
 t0 := Tryz.underlying0
 a0 := Tryz.isAgg0
 z0 := Tryz.sizeOf0
 v0 := Tryz.zeroValue0
 t3 := Tryz.underlying3
 a3 := Tryz.isAgg3
 z3 := Tryz.sizeOf3
 v3 := Tryz.zeroValue3
 t4 := Tryz.underlying4
 a4 := Tryz.isAgg4
 z4 := Tryz.sizeOf4
 v4 := Tryz.zeroValue4
 t5 := Tryz.underlying5
 a5 := Tryz.isAgg5
 z5 := Tryz.sizeOf5
 v5 := Tryz.zeroValue5
 t9 := Tryz.underlying9
 a9 := Tryz.isAgg9
 z9 := Tryz.sizeOf9
 v9 := Tryz.zeroValue9
 t22 := Tryz.underlying34
 a22 := Tryz.isAgg34
 z22 := Tryz.sizeOf34
 v22 := Tryz.zeroValue34
 t25 := Tryz.underlying135
 a25 := Tryz.isAgg135
 z25 := Tryz.sizeOf135
 v25 := Tryz.zeroValue135
 t39 := Tryz.underlying150
 a39 := Tryz.isAgg150
 z39 := Tryz.sizeOf150
 v39 := Tryz.zeroValue150
 t45 := Tryz.underlying173
 a45 := Tryz.isAgg173
 z45 := Tryz.sizeOf173
 v45 := Tryz.zeroValue173
 t46 := Tryz.underlying174
 a46 := Tryz.isAgg174
 z46 := Tryz.sizeOf174
 v46 := Tryz.zeroValue174
 t50 := Tryz.underlying151
 a50 := Tryz.isAgg151
 z50 := Tryz.sizeOf151
 v50 := Tryz.zeroValue151
 t53 := Tryz.underlying180
 a53 := Tryz.isAgg180
 z53 := Tryz.sizeOf180
 v53 := Tryz.zeroValue180
 t55 := Tryz.underlying182
 a55 := Tryz.isAgg182
 z55 := Tryz.sizeOf182
 v55 := Tryz.zeroValue182
 t66 := Tryz.underlying211
 a66 := Tryz.isAgg211
 z66 := Tryz.sizeOf211
 v66 := Tryz.zeroValue211
 t70 := Tryz.underlying215
 a70 := Tryz.isAgg215
 z70 := Tryz.sizeOf215
 v70 := Tryz.zeroValue215
 t76 := Tryz.underlying233
 a76 := Tryz.isAgg233
 z76 := Tryz.sizeOf233
 v76 := Tryz.zeroValue233
 t77 := Tryz.underlying234
 a77 := Tryz.isAgg234
 z77 := Tryz.sizeOf234
 v77 := Tryz.zeroValue234 }
end Go.Proofs
end
section
namespace Go.HL
variable {P : Program}
open Go.Sort Go.Proofs Go.Shelf Go.RowKit
theorem grown_of_sat [Tracks] {w w' : World} {J : Imm} {M : List MObj} (hT : Tracks.on = true) (hl : Le (allI w) J) (hs : Sat P J M w') : ∃ q os, w' = grow (w.drewN q) os := by
 have hb := below_of_sat hl hs
 have hd : w.drawn ≤ w'.drawn := Nat.le_trans (hl.low hT) (hs.low hT)
 refine ⟨w'.drawn - w.drawn, w'.heap.extract w.heap.size w'.heap.size, ?_⟩
 have hh : w'.heap = w.heap ++ w'.heap.extract w.heap.size w'.heap.size := by
  apply Array.ext_getElem?
  intro i
  by_cases hi : i < w.heap.size
  ·rw [Array.getElem?_append_left hi]; exact hb.block i hi
  ·rw [Array.getElem?_append_right (by omega), Array.getElem?_extract]
   have := hb.size
   split
   ·congr 1; omega
   ·rw [Array.getElem?_eq_none (by omega)]
 have h1 := hb.os
 have h2 := hb.tape
 have h3 := hb.output
 obtain ⟨a1, a2, a3, a4, a5⟩ := w'
 obtain ⟨b1, b2, b3, b4, b5⟩ := w
 simp only at h1 h2 h3 hd hh
 subst h1 h2 h3
 simp only [grow, World.drewN, World.mk.injEq]
 exact ⟨hh, trivial, by omega, trivial, trivial⟩
theorem ConP.calls [Tracks] {f : FuncId} {hargs : List HVal} {h : HVal} (hT : Tracks.on = true) (hc : ConP P f hargs h) {w : World} (ht : TabI P (allI w)) {args : List Value} (ha : VL (allI w) hargs args) :
 Calls P f args.toArray w fun e w' => ∃ v, e = .returned v ∧ V (allI w') h v ∧ ∃ q os, w' = grow (w.drewN q) os := by
 refine (hc (allI w) [] w args ha (sat_now ht)).mono ?_
 rintro e w' ⟨v, x, M', J, rfl, hle, ⟨rfl, rfl⟩, hV, hs⟩
 exact ⟨v, rfl, hV.mono hs.le_all, grown_of_sat hT hle hs⟩
@[reducible] def trackOn : Tracks := ⟨true⟩
/-- A row of cells that reads as an element. -/
abbrev RowT {A : Type} (I : Imm) (e : A → HVal) (k : Nat) : Type := { p : A × List Value // p.2.length = k ∧ (∀ v ∈ p.2, v.oneCell' = true) ∧ VL I (hcells (e p.1)) p.2 }
theorem rows_ex [Tracks] {A : Type} {I : Imm} {e : A → HVal} {k : Nat} (hk : ∀ x, (hcells (e x)).length = k) (hf : ∀ x, flat (hcells (e x)) = true) {rc : Array Value} : ∀ (l : List A) (off : Nat), off + l.length * k ≤ rc.size →
 (∀ (i j : Nat) (x : A) (c : HVal) (v : Value), l[i]? = some x → (hcells (e x))[j]? = some c → rc[off + i * k + j]? = some v → V I c v) →
 ∃ d : List (RowT I e k), d.map (·.1.1) = l ∧ ∀ (i j : Nat) (p : RowT I e k), d[i]? = some p → j < k → rc[off + i * k + j]? = p.1.2[j]?
 | [], off, _, _ => ⟨[], rfl, fun i j p h => by simp at h⟩
 | x :: l, off, hb, hV => by
   have hb' : off + k + l.length * k ≤ rc.size := by simp [Nat.add_mul] at hb; omega
   obtain ⟨d, h1, h2⟩ := rows_ex hk hf l (off + k) hb' fun i j y c v a1 a2 a3 => hV (i + 1) j y c v (by simpa using a1) a2 (by rw [Nat.add_mul, Nat.one_mul]; rw [show off + (i * k + k) + j = off + k + i * k + j by omega]; exact a3)
   have hlen : (rc.extract off (off + k)).toList.length = k := by simp; omega
   have hg : ∀ j, j < k → (rc.extract off (off + k)).toList[j]? = rc[off + j]? := fun j hj => by
    rw [Array.getElem?_toList, Array.getElem?_extract, if_pos (by omega)]
   have hvl : VL I (hcells (e x)) (rc.extract off (off + k)).toList := ⟨by rw [hlen, hk], fun j c v a1 a2 => by
    have hj : j < k := by have := lt_of_get a1; rw [hk] at this; exact this
    rw [hg j hj] at a2
    exact hV 0 j x c v rfl a1 (by simpa using a2)⟩
   refine ⟨⟨(x, (rc.extract off (off + k)).toList), hlen, flat_one hvl (hf x), hvl⟩ :: d, by simp [h1], fun i j p hp hj => ?_⟩
   cases i with
   | zero =>
     simp only [List.getElem?_cons_zero, Option.some.injEq] at hp
     subst hp
     simp only [Nat.zero_mul, Nat.add_zero]
     exact (hg j hj).symm
   | succ i =>
     simp only [List.getElem?_cons_succ] at hp
     rw [← h2 i j p hp hj, Nat.add_mul, Nat.one_mul]
     congr 1; omega
section
variable {A : Type} {e : A → HVal} {k : Nat}
theorem sortW_get {α : Type} [Inhabited α] {enc : α → List Value} {w : World} {b off m : Nat} {dk : Array α} {os : Array Obj} {c : Nat} (hc : c < w.heap.size) (hb : c ≠ b) : (sortWorldK enc k w b off m dk os).heap[c]? = w.heap[c]? := by
 simp only [sortWorldK, grow, putRowK, putRow, mapBlock, Sort.ahead]
 rw [Array.getElem?_append_left (by simpa using hc), Array.getElem?_modify, if_neg (Ne.symm hb)]
theorem sortW_blk {α : Type} [Inhabited α] {enc : α → List Value} {w : World} {b off m : Nat} {dk : Array α} {os : Array Obj} {rc : Array Value} {el : TypeId} {fr : Nat × Nat} (hb : w.heap[b]? = some (.cells rc el fr)) :
 (sortWorldK enc k w b off m dk os).heap[b]? = some (.cells (putCells id off (flatK enc k dk) rc) el fr) := by
 have hlt : b < w.heap.size := lt_of_get' hb
 simp only [sortWorldK, grow, putRowK, putRow, mapBlock, Sort.ahead]
 rw [Array.getElem?_append_left (by simpa using hlt), Array.getElem?_modify, if_pos rfl, hb]
 rfl
where
 lt_of_get' {α : Type} {a : Array α} {i : Nat} {x : α} (h : a[i]? = some x) : i < a.size := by
  rcases Nat.lt_or_ge i a.size with h' | h'
  ·exact h'
  ·simp [Array.getElem?_eq_none h'] at h
theorem flatK_get {α : Type} [Inhabited α] {enc : α → List Value} (hk : ∀ x, (enc x).length = k) {dk : Array α} {i j : Nat} {x : α} (hx : dk[i]? = some x) (hj : j < k) : some ((flatK enc k dk)[i * k + j]!) = (enc x)[j]? := by
 have hi : i < dk.size := by
  rcases Nat.lt_or_ge i dk.size with h' | h'
  ·exact h'
  ·simp [Array.getElem?_eq_none h'] at hx
 have hle : (i + 1) * k ≤ dk.size * k := Nat.mul_le_mul_right _ hi
 rw [Nat.add_mul, Nat.one_mul] at hle
 rw [get_flatK enc k dk _ (by omega)]
 have e1 : (i * k + j) / k = i := by rw [Nat.mul_comm, Nat.mul_add_div (by omega), Nat.div_eq_of_lt hj]; rfl
 have e2 : (i * k + j) % k = j := by rw [Nat.mul_comm, Nat.mul_add_mod, Nat.mod_eq_of_lt hj]
 rw [e1, e2]
 have e3 : dk[i]! = x := by rw [getElem!_pos dk i hi]; rw [Array.getElem?_eq_getElem hi] at hx; exact Option.some.inj hx
 rw [e3]
 have hjl : j < (enc x).length := by rw [hk]; exact hj
 rw [List.getElem?_eq_getElem hjl, getElem!_pos (enc x) j hjl]
set_option maxHeartbeats 1000000 in
/-- slices.SortFunc: a permutation that is sorted. -/
theorem con_sortf [Tracks] {ρ : Ren} (L : SlLaysF0.n6 P ρ) (aE : ∀ w, (isAgg (ρ.t 24)).run P w = .ok true w) (zE : ∀ w, (Go.sizeOf (ρ.t 24)).run P w = .ok k w) (hk : ∀ x, (hcells (e x)).length = k) (ha : ∀ x, e x = .agg (hcells (e x))) (hf : ∀ x, flat (hcells (e x)) = true)
 {c : A → A → Int} (hO : SWO (ltOf c)) {g : FuncId} (hg : Callable P g) {cap : List HVal} (hc : ∀ x y, @ConP trackOn P g (e x :: e y :: cap) (.int .i64 (c x y))) {l : List A} (hl : l.length ≤ 1000000) {v : Value} :
 Con P (ρ.f 6) [.raw v, .fn (.func g) [] cap] [.arr v k (l.map e)] fun x M' => ∃ l' : List A, x = .tup [] ∧ l'.Perm l ∧ l'.Pairwise (fun a b => ¬ c b a < 0) ∧ M' = [.arr v k (l'.map e)] := by
 intro I F w args hargs hs
 obtain ⟨n1, n2⟩ := hargs
 match args, n1, n2 with
 | [u, fv], _, n2 =>
   obtain rfl : u = v := (n2 0 _ _ rfl rfl).raw_inv
   obtain ⟨f1, cb, rfl, f2, f3⟩ := (n2 1 _ _ rfl rfl).fn_inv
   have hf1 : f1 = #[] := by have := f2.1; simp at this; exact this
   subst hf1
   by_cases h0 : l = []
   ·subst h0
    have hu : ∃ p cp, u = .slice p 0 cp := by
     rcases hs.obj (.arr u k (([] : List A).map e)) (by simp) with ⟨rfl, _⟩ | ⟨b, off, cp, rc, el, fr, rfl, _⟩
     ·exact ⟨_, _, rfl⟩
     ·exact ⟨_, _, rfl⟩
    obtain ⟨p, cp, rfl⟩ := hu
    refine (AnyF.slices_SortFunc_none L p cp _ w).mono ?_
    rintro _ _ ⟨rfl, rfl⟩
    exact ⟨_, .tup [], _, I, rfl, .refl I, ⟨[], rfl, .refl _, .nil, rfl⟩, .tup (by simp) (fun j c v h _ => by simp at h), hs⟩
   ·rcases hs.obj (.arr u k (l.map e)) (by simp) with ⟨_, hn⟩ | ⟨b, off, cp, rc, el, fr, rfl, _⟩
    ·simp at hn; exact absurd hn h0
    ·rw [List.length_map] at hs ⊢
     obtain ⟨_, rc, el, fr, h2, h3, h4, h5, h6, h7⟩ := arr_some hs
     rw [List.length_map] at h5
     have hblt : b < w.heap.size := sortW_blk.lt_of_get' h2
     have hsz : off + l.length * k ≤ rc.size := by
      have : l.length * k ≤ cp * k := Nat.mul_le_mul_right _ h5.1
      omega
     obtain ⟨d, d1, d2⟩ := rows_ex (I := I) (e := e) hk hf (rc := rc) l off hsz fun i j x c v a1 a2 a3 => h7 i j (e x) c v (by simp [a1]) a2 a3
     have dl : d.length = l.length := by rw [← d1]; simp
     obtain ⟨p0, hp0⟩ : ∃ p, d[0]? = some p := ⟨_, List.getElem?_eq_getElem (by have := List.length_pos_iff.2 h0; omega)⟩
     haveI : Inhabited (RowT I e k) := ⟨p0⟩
     have hkr : ∀ x : RowT I e k, (x.1.2).length = k := fun x => x.2.1
     have hH : HoldsK (fun x : RowT I e k => x.1.2) k w b off d.toArray := fun j hj => by
      simp only [size_flatK, List.size_toArray, dl] at hj
      have hk0 : 0 < k := by rcases Nat.eq_zero_or_pos k with h | h; (subst h; simp at hj); exact h
      have hi : j / k < d.length := by rw [dl]; exact Nat.div_lt_of_lt_mul (by rw [Nat.mul_comm]; exact hj)
      have hjk := Nat.mod_lt j hk0
      have hdj : j / k * k + j % k = j := by rw [Nat.mul_comm]; exact Nat.div_add_mod j k
      have hg1 := d2 (j / k) (j % k) d[j / k] (List.getElem?_eq_getElem hi) hjk
      have hg2 := flatK_get (enc := fun x : RowT I e k => x.1.2) (k := k) hkr (dk := d.toArray) (i := j / k) (j := j % k) (x := d[j / k]) (by simp [hi]) hjk
      rw [hdj] at hg2
      constructor
      ·rw [cell_of h2]
       rw [show off + j = off + j / k * k + j % k by omega, hg1, ← hg2]; rfl
      ·simp only [World.frozen?, h2]
       have := h3 (off + j) (by omega)
       simpa using this
     have hle : ∀ (m : Nat) (dk : Array (RowT I e k)) (os : Array Obj), Le I (allI (sortWorldK (fun x : RowT I e k => x.1.2) k w b off m dk os)) := fun m dk os =>
      ⟨fun c o ho => by
       have hcb : c ≠ b := fun hh => by
        subst hh
        have := hs.apart c (by simp [blocks, MObj.blocks])
        rw [this] at ho; cases ho
       have h9 := hs.imm c o ho
       show (sortWorldK _ k w b off m dk os).heap[c]? = some o
       rw [sortW_get (sortW_blk.lt_of_get' h9) hcb]; exact h9, hs.os, hs.output, hs.tape, fun ht => Nat.le_trans (hs.low ht) (Nat.le_add_right _ _)⟩
     have hcmp : CmpLays P g cb (fun x : RowT I e k => x.1.2) k (fun x y => c x.1.1 y.1.1) b off d.toArray.size w := fun m os dk _ x y => by
      have hI := hle m dk os
      have hxa : ∀ z : RowT I e k, V (allI (sortWorldK (fun x : RowT I e k => x.1.2) k w b off m dk os)) (e z.1.1) (.agg z.1.2.toArray) := fun z => by
       rw [ha]; exact V.mk_agg (by simpa using z.2.2.2.mono hI)
      have e9 : (#[Value.agg x.1.2.toArray, .agg y.1.2.toArray] ++ cb) = (Value.agg x.1.2.toArray :: .agg y.1.2.toArray :: cb.toList).toArray := by simp
      rw [e9]
      refine (@ConP.calls P trackOn g _ _ rfl (hc x.1.1 y.1.1) _ (hs.tab.mono hI) _ (VL.cons (hxa x) (VL.cons (hxa y) (f3.mono hI)))).mono ?_
      rintro _ w' ⟨u, rfl, hu, q, os', rfl⟩
      exact ⟨by rw [hu.int_inv], q, os', rfl⟩
     have hO' : SWO (ltOf fun x y : RowT I e k => c x.1.1 y.1.1) := ⟨fun x => hO.irrefl x.1.1, fun x y z => hO.trans x.1.1 y.1.1 z.1.1, fun x y z => hO.ntrans x.1.1 y.1.1 z.1.1⟩
     have hrun := AnyQ.slices_SortFunc L k aE zE (fun x : RowT I e k => x.1.2) hkr (fun x => x.2.2.1) (fun x y => c x.1.1 y.1.1) hO' g cb b off cp d.toArray w (run_callFunc hg) hcmp hH hblt (by simp; omega)
     rw [List.size_toArray, dl] at hrun
     refine hrun.mono ?_
     rintro _ w' ⟨rfl, d', m, os, ⟨q1, _, q3⟩, q4, rfl⟩
     simp only [List.size_toArray, dl] at q1
     have q3' : d'.toList.Perm d := by
      have e1 : (d'.extract 0 l.length) = d' := by rw [← q1]; exact Array.extract_size
      have e2 : (d.toArray.extract 0 l.length) = d.toArray := by have := Array.extract_size (xs := d.toArray); rw [List.size_toArray, dl] at this; exact this
      rw [e1, e2] at q3; simpa using q3
     refine ⟨_, .tup [], [.arr (.slice (some ⟨b, off, none⟩) l.length cp) k ((d'.toList.map (·.1.1)).map e)], I, rfl, .refl I, ⟨d'.toList.map (·.1.1), rfl, by rw [← d1]; exact q3'.map _, ?_, rfl⟩, .tup (by simp) (fun j c v h _ => by simp at h), ?_⟩
     ·refine List.pairwise_iff_getElem.2 fun i j hi hj hij => ?_
      simp only [List.length_map, Array.length_toList] at hi hj
      have := q4 i j (Nat.zero_le _) hij (by omega)
      rw [getElem!_pos d' i hi, getElem!_pos d' j hj] at this
      simp only [ltOf, decide_eq_false_iff_not] at this
      simpa using this
     ·have hchg : ∀ x, x < w.heap.size → x ∉ (MObj.arr (.slice (some ⟨b, off, none⟩) l.length cp) k (l.map e)).blocks → (sortWorldK (fun x : RowT I e k => x.1.2) k w b off m d' os).heap[x]? = w.heap[x]? := fun x hx hnx => sortW_get hx fun hh => hnx (by rw [hh]; simp [MObj.blocks])
      refine hs.change (m' := .arr (.slice (some ⟨b, off, none⟩) l.length cp) k ((d'.toList.map (·.1.1)).map e)) hchg (fun x hx => .inl hx) (by simp [MObj.blocks]) ?_ rfl rfl rfl (fun _ => Nat.le_add_right _ _)
      refine .inr ⟨b, off, cp, putCells id off (flatK (fun x : RowT I e k => x.1.2) k d') rc, el, fr, by simp [q1], sortW_blk h2, by simpa [putCells] using h3, ?_, by simp [q1]; exact h5, by simpa [putCells] using h6, ?_⟩
      ·intro y hy; obtain ⟨z, _, rfl⟩ := List.mem_map.1 hy; exact hk z
      ·intro i j y z v a1 a2 a3
       rw [List.map_map, List.getElem?_map] at a1
       cases hq : d'.toList[i]? with
       | none => rw [hq] at a1; simp at a1
       | some r =>
         rw [hq] at a1
         simp only [Option.map_some, Function.comp_apply, Option.some.injEq] at a1
         subst a1
         have hj : j < k := by have := lt_of_get a2; rw [hk] at this; exact this
         have hi : i < l.length := by have := lt_of_get hq; simp at this; omega
         have hle : (i + 1) * k ≤ l.length * k := Nat.mul_le_mul_right _ hi
         rw [Nat.add_mul, Nat.one_mul] at hle
         have hr : off + i * k + j < rc.size := by omega
         rw [putCells, Array.getElem?_mapIdx, Array.getElem?_eq_getElem hr, Option.map_some, if_pos ⟨by omega, by rw [size_flatK, q1]; omega⟩] at a3
         rw [show off + i * k + j - off = i * k + j by omega] at a3
         have hg2 := flatK_get (enc := fun x : RowT I e k => x.1.2) (k := k) hkr (dk := d') (i := i) (j := j) (x := r) (by simpa using hq) hj
         rw [show (id (flatK (fun x : RowT I e k => x.1.2) k d')[i * k + j]!) = (flatK (fun x : RowT I e k => x.1.2) k d')[i * k + j]! from rfl, hg2] at a3
         exact r.2.2.2.2 j z v a2 a3
end
end Go.HL
end
section
namespace Go.HL
section
variable {P : Program} {e : Env} {dst : Option Tmp} {ty : TypeId} {pos : String} {af : Array Edge} {g : Option (Nat × Bool)} {M : List MObj} {K : HVal → List MObj → Prop}
theorem pop_capraw [Tracks] {x : Operand} {t el : TypeId} {size bytes : Nat} {zero : Value} {p : Option Addr} {n c : Nat} (hf : Fits P t (.slice el) size bytes zero) (hx : evalO e x = some (.raw (.slice p n c))) :
 POp P e ⟨dst, .call ⟨.builtin .cap, #[x], #[t]⟩, ty, pos, af, g⟩ (.int .i64 c) :=
 POp.of_val fun I a w ho => by
  have h1 := (ho.one (x := x) (by simp [Op.operands, Call.operands]) hx).raw_inv
  exact ⟨_, by simp [execOp, resolve, invoke, builtin, Builtin.cap_, h1, run_underlying hf.slice, goInt], .int _ _⟩
theorem pop_slnil [Tracks] {x y : Operand} {t el : TypeId} {size bytes s2 b2 : Nat} {zero z2 : Value} {d : TD} (hf : Fits P t (.slice el) size bytes zero) (hel : Fits P el d s2 b2 z2) (hx : evalO e x = some (.raw (.slice none 0 0))) (hy : evalO e y = some (.int .i64 0)) :
 POp P e ⟨dst, .slice t x none (some y) none, ty, pos, af, g⟩ (.raw (.slice none 0 0)) :=
 POp.of_val fun I a w ho => by
  have h1 := (ho.one (x := x) (by simp [Op.operands]) hx).raw_inv
  have h2 := (ho.one (x := y) (by simp [Op.operands]) hy).int_inv
  exact ⟨_, by simp [execOp, h1, h2, Instr.sliceAt, Instr.slice, Instr.sliceBounds, Instr.sliceBound, asIntOf, run_underlying hf.slice, hel.run_sizeOf], .raw _ rfl⟩
/-- append(nil, make([]T, n)...). -/
theorem eop_appendmk [Tracks] {x y : Operand} {t el it : TypeId} {size bytes sz b2 s3 b3 n : Nat} {zero z2 z3 : Value} {d : TD} {q : Int}
 (hf : Fits P t (.slice el) size bytes zero) (hel : Fits P el d sz b2 z2) (hit : Fits P it (.int .i64) s3 b3 z3) (hz : z2.cells.size = sz) (hby : Nat.ble b2 100000 = true)
 (hx : evalO e x = some (.raw (.slice none 0 0))) (hy : evalO e y = some (.int .i64 q)) (hq : q = (n : Int)) (hn : n ≤ 1000000) (h0 : 0 < n)
 (hk : ∀ b nc cells, n ≤ nc → nc ≤ 9223372036854775807 → cells.size = nc * sz → K (.raw (.slice (some ⟨b, 0, none⟩) n nc)) (.obj b (.cells cells el (0, 0)) :: M)) :
 EOp P e M ⟨dst, .call ⟨.builtin .append, #[x, y], #[t, it]⟩, ty, pos, af, g⟩ K :=
 EOp.of_run fun I F a w ho hs => by
  subst hq
  have h1 := (ho.one (x := x) (by simp [Op.operands, Call.operands]) hx).raw_inv
  have h2 := (ho.one (x := y) (by simp [Op.operands, Call.operands]) hy).int_inv
  let nc := (Question.appendCap n 0 el).cut (w.tape w.drawn (.appendCap n 0 el))
  have hnc : n ≤ nc := by simp only [nc, Question.cut]; omega
  have hnm : nc ≤ 9223372036854775807 := by
   simp only [nc, Question.cut]
   have := Nat.mod_lt (w.tape w.drawn (.appendCap n 0 el)) (show 0 < 2 ^ 63 - n by omega)
   omega
  let cells : Array Value := #[] ++ Builtin.zeroCells z2.cells n ++ Builtin.zeroCells z2.cells (nc - n)
  have hcs : cells.size = nc * sz := by
   simp only [cells, Array.size_append, zeroCells_size, hz, List.size_toArray, List.length_nil]
   rw [Nat.zero_add, ← Nat.add_mul]; congr 1; omega
  have hsz0 : ¬ n * sz = 0 ∨ Builtin.zeroCells z2.cells n = #[] := by
   by_cases h : n * sz = 0
   ·right; apply Array.eq_empty_of_size_eq_zero; rw [zeroCells_size, hz, h]
   ·exact .inl h
  obtain ⟨ti, t1, t2, t3, t4⟩ := hel.typeInfo
  have hti : ∀ w1, (Go.typeInfo el).run P w1 = .ok ti w1 := fun w1 => by simp [Go.typeInfo, t1]
  have hwr : IntKind.i64.wrap (n : Int) = (n : Int) := wrap64 (by omega) (by omega)
  have hb0 : ¬ ((n : Int) * (b2 : Int) > 2 ^ 48) := by
   have e2 : b2 ≤ 100000 := Nat.le_of_ble_eq_true hby
   have : n * b2 ≤ 1000000 * 100000 := Nat.mul_le_mul hn e2
   have h9 : ((n * b2 : Nat) : Int) = (n : Int) * (b2 : Int) := Int.natCast_mul _ _
   omega
  have hb2 : ¬ ((n : Int) > IntKind.i64.max) := by
   have : IntKind.i64.max = 9223372036854775807 := by decide
   rw [this]; omega
  have hb3 : ¬ Builtin.nextslicecap n 0 * b2 > 2 ^ 48 := by
   have e1 := nextslicecap_le (need := n) (cap := 0) h0
   have e2 : b2 ≤ 100000 := Nat.le_of_ble_eq_true hby
   have : Builtin.nextslicecap n 0 * b2 ≤ (2 * 1000000 + 192) * 100000 := Nat.mul_le_mul (by omega) e2
   omega
  have hch : (choose (.appendCap n 0 el)).run P w = .ok nc { w with drawn := w.drawn + 1 } := by simp [Question.forced, nc]
  refine ⟨.slice (some ⟨w.heap.size, 0, none⟩) n nc, _, _, { w with heap := w.heap.push (.cells cells el (0, 0)), drawn := w.drawn + 1 }, I, ?_, .refl I, hk w.heap.size nc cells hnc hnm hcs, .raw _ rfl, ?_⟩
  ·have hap : ∀ w1 : World, ((if n * sz = 0 then pure #[] else do pure (Builtin.zeroCells (← zeroValue el).cells n) : Sem (Array Value))).run P w1 = .ok (Builtin.zeroCells z2.cells n) w1 := fun w1 => by
    rcases hsz0 with h | h
    ·rw [if_neg h]; simp [hel.run_zero]
    ·by_cases h' : n * sz = 0
     ·rw [if_pos h', h]; simp
     ·rw [if_neg h']; simp [hel.run_zero]
   rw [run_append]
   simp only [List.map_toArray, List.map_cons, List.map_nil, h1, h2, Builtin.append_, List.getElem?_toArray, List.getElem?_cons_zero, List.getElem?_cons_succ, Sem.run_bind, run_underlying hf.slice, run_underlying hit.intD, Result.andThen_ok,
    hel.run_sizeOf, Sem.run_pure, if_true, asInt, hwr, hti, t3]
   have hai : ∀ w1 : World, (asIntOf (Value.int IntKind.i64 (n : Int))).run P w1 = .ok (.i64, (n : Int)) w1 := fun w1 => by simp [asIntOf]
   simp only [hai, Result.andThen_ok, hwr]
   rw [if_neg (show ¬ (n : Int) < 0 by omega)]
   simp only [Sem.run_bind, hti, Result.andThen_ok, t3, Sem.run_pure]
   rw [if_neg hb0]
   simp only [Sem.run_bind, hti, Result.andThen_ok, t3, Sem.run_pure, Int.toNat_natCast, Nat.zero_add]
   rw [if_neg (show ¬ n ≤ 0 by omega)]
   simp only [Sem.run_bind, hti, Result.andThen_ok, t3, Sem.run_pure]
   rw [if_neg (fun h => hb2 h.1)]
   simp only [Sem.run_bind, hti, Result.andThen_ok, t3, Sem.run_pure]
   rw [if_neg hb3]
   simp only [Sem.run_bind, Sem.run_pure, hch, Result.andThen_ok, hti, run_askRoom, Builtin.firstCells, Bool.not_true, Bool.false_eq_true, if_false, hap, hel.run_zero, newRow, run_newObj]
   rfl
  ·have hs1 : Sat P I (M ++ F) { w with drawn := w.drawn + 1 } := hs.of_same (fun _ _ => rfl) (fun _ _ => rfl) rfl rfl rfl
   exact hs1.new_own (.cells cells el (0, 0)) (.obj w.heap.size (.cells cells el (0, 0))) rfl (by simp [MSat, push])
end
/-- New cells of which none is in use. -/
theorem Ghost.objarr [Tracks] {e : Env} {M : List MObj} {b nc sz : Nat} {cells : Array Value} {el : TypeId} (hc : cells.size = nc * sz) (hn : nc ≤ 9223372036854775807) : Ghost e (.obj b (.cells cells el (0, 0)) :: M) e (.arr (.slice (some ⟨b, 0, none⟩) 0 nc) sz [] :: M) := fun _ I F tmps w h1 hs => by
 refine ⟨I, .refl I, h1, Sat.change (m := .obj b (.cells cells el (0, 0))) hs (fun _ _ _ => rfl) (fun x hx => .inl hx) (by simp [MObj.blocks]) ?_ rfl rfl rfl⟩
 have := hs.obj (.obj b (.cells cells el (0, 0))) (by simp)
 exact .inr ⟨b, 0, nc, cells, el, (0, 0), rfl, this, Free.zero _, by simp, ⟨Nat.zero_le _, hn⟩, by omega, by simp⟩
theorem flat_take_snoc {α : Type} {LL : List (List α)} {i : Nat} {x : List α} (hx : LL[i]? = some x) : (LL.take (i + 1)).flatten.length = (LL.take i).flatten.length + x.length := by
 rw [List.take_add_one, hx]; simp
theorem flat_take_app {α : Type} {LL : List (List α)} {i : Nat} {x : List α} (hx : LL[i]? = some x) : (LL.take (i + 1)).flatten = (LL.take i).flatten ++ x := by
 rw [List.take_add_one, hx]; simp
theorem flat_take_le {α : Type} (LL : List (List α)) (i : Nat) : (LL.take i).flatten.length ≤ LL.flatten.length := by
 have := congrArg (fun q => q.flatten.length) (List.take_append_drop i LL)
 simp only [List.flatten_append, List.length_append] at this
 omega
end Go.HL
end
section
namespace Go.Proofs.YtfkobanmdpbjkaaGreatDoor
open Go.HL
set_option maxRecDepth 100000
set_option linter.unusedVariables false
set_option linter.unusedSimpArgs false
/-- slices.Grow[[]benchwarmer/api.Answer,benchwarmer/api.Answer] -/
theorem c_grow_Answer [Tracks] {n : Nat} (hn : n ≤ 1000000) : Con Tryz.prog 118 [.raw (.slice none 0 0), .int .i64 (n : Int)] [] (fun x M' => ∃ u, x = .raw u ∧ M' = [.arr u 4 []]) := by
 refine Con.of_body Tryz.func118 rfl Tryz.ntmps118 rfl rfl ?_
 refine hw_reg ?_
 refine dp rfl (pop_assign rfl) ?_
 refine dn ?_
 refine hw_seq ?_
 refine hw_reg ?_
 refine dp rfl (pop_move rfl) ?_
 refine dp rfl (pop_lss rfl rfl) ?_
 refine dn ?_
 refine hw_cond rfl (fun h1 => ?_) (fun h1 => ?_)
 ·exfalso
  try simp at h1
  omega
 ·try simp at h1
  refine hw_skip ?_
  refine seqQ_n ?_
  refine hw_seq ?_
  refine hw_reg ?_
  refine dp rfl (pop_move rfl) ?_
  refine dp rfl (pop_move rfl) ?_
  refine dp rfl (pop_capraw ty34 rfl) ?_
  refine dp rfl (pop_move rfl) ?_
  refine dp rfl (pop_len_raw ty34 rfl) ?_
  refine dp rfl (pop_sub64 rfl rfl (by omega) (by omega)) ?_
  refine dp rfl (pop_sub64 rfl rfl (by omega) (by omega)) ?_
  refine dp rfl (pop_assign rfl) ?_
  refine dn ?_
  refine hw_reg ?_
  refine dp rfl (pop_move rfl) ?_
  refine dp rfl (pop_gtr rfl rfl) ?_
  refine dn ?_
  refine hw_cond rfl (fun h2 => ?_) (fun h3 => ?_)
  ·try simp at h2
   refine hw_reg1 ?_
   refine dp rfl (pop_move rfl) ?_
   refine dp rfl (pop_move rfl) ?_
   refine dp rfl (pop_capraw ty34 rfl) ?_
   refine dp rfl (pop_slnil ty34 ty75 rfl rfl) ?_
   refine dp rfl (pop_move rfl) ?_
   refine de rfl (eop_appendmk (n := n) ty34 ty75 ty3 rfl rfl rfl rfl (by omega) (by omega) (by omega) fun b nc cells hnc hnm hcs => ?_)
   refine dp rfl (pop_move rfl) ?_
   refine dp rfl (pop_len_raw ty34 rfl) ?_
   refine dp rfl (pop_slraw0 (h := 0) ty34 ty75 rfl ⟨_, _, rfl, rfl⟩ (by omega)) ?_
   refine dp rfl (pop_assign rfl) ?_
   refine dn ?_
   refine seqQ_n ?_
   refine hw_reg ?_
   refine dp rfl (pop_move rfl) ?_
   refine dp rfl (pop_assign rfl) ?_
   refine dn ?_
   refine hw_ret ?_
   first
   | exact ret_g (Ghost.objarr hcs hnm) rfl ⟨_, rfl, rfl⟩
   | exact ret_g (Ghost.arr_nil 4) rfl ⟨_, rfl, rfl⟩
  ·try simp at h3
   refine hw_skip ?_
   refine seqQ_n ?_
   refine hw_reg ?_
   refine dp rfl (pop_move rfl) ?_
   refine dp rfl (pop_assign rfl) ?_
   refine dn ?_
   refine hw_ret ?_
   first
   | exact ret_g (Ghost.objarr hcs hnm) rfl ⟨_, rfl, rfl⟩
   | exact ret_g (Ghost.arr_nil 4) rfl ⟨_, rfl, rfl⟩

/-- slices.Concat[[]benchwarmer/api.Answer,benchwarmer/api.Answer] -/
theorem c_concat_Answer [Tracks] {LL : List (List ReplyS)} (hl : LL.length ≤ 1000) (hs : LL.flatten.length ≤ 100000) : ConA Tryz.prog 82 [.slice 1 (LL.map fun l => HVal.slice 4 (l.map eReply))] 4 (LL.flatten.map eReply) := by
 refine Con.of_body Tryz.func82 rfl Tryz.ntmps82 rfl rfl ?_
 refine hw_reg ?_
 refine dp rfl (pop_assign rfl) ?_
 refine dn ?_
 refine hw_reg ?_
 refine dp rfl (pop_assign rfl) ?_
 refine dn ?_
 refine hw_seq ?_
 refine hw_reg ?_
 refine dp rfl (pop_move rfl) ?_
 refine dp rfl (pop_lenm (f := fun l : List ReplyS => HVal.slice 4 (l.map eReply)) (l := LL) ty164 rfl) ?_
 refine dp rfl (pop_move rfl) ?_
 refine dn ?_
 refine hw_block ?_
 refine hw_loopw [3, 5, 11, 12, 13, 14, 15, 16, 17, 18, 19, 20, 21, 22] (fun (i : Nat) => [(11, .int .i64 i), (3, .int .i64 ((LL.take i).flatten.length : Int))]) (fun (i : Nat) => []) (fun (i : Nat) => i ≤ LL.length ∧ (True)) (fun (i : Nat) => LL.length - i) (0) ?_ ?_ ?_ ?_
 ·exact ⟨Nat.zero_le _, trivial⟩
 ·exact ⟨rfl, rfl, trivial⟩
 ·exact List.Perm.refl _
 ·intro i hinv
  obtain ⟨hi, -⟩ := hinv
  refine hw_reg ?_
  refine dp rfl (pop_lss rfl rfl) ?_
  refine dn ?_
  refine hw_seq ?_
  refine hw_cond rfl (fun h1 => ?_) (fun h2 => ?_)
  ·try simp at h1
   obtain ⟨x, hx⟩ : ∃ x, LL[i]? = some x := ⟨_, List.getElem?_eq_getElem h1⟩
   have hdx := drop_cons hx
   refine hw_skip ?_
   refine seqQ_n ?_
   refine hw_seq ?_
   refine hw_block ?_
   refine hw_reg ?_
   refine dp rfl (pop_idx (f := fun l : List ReplyS => HVal.slice 4 (l.map eReply)) (l := LL) (j := i) (a := x) ty164 ty34 rfl rfl rfl hx) ?_
   refine dp rfl (pop_load ty34 rfl rfl rfl) ?_
   refine dp rfl (pop_assign rfl) ?_
   refine dn ?_
   refine hw_reg ?_
   refine dp rfl (pop_move rfl) ?_
   refine dp rfl (pop_move rfl) ?_
   refine dp rfl (pop_lenm ty34 rfl) ?_
   have hfl := flat_take_le LL (i + 1)
   have hfs := flat_take_snoc hx
   refine dp rfl (pop_add64 rfl rfl (by omega) (by omega)) ?_
   refine dp rfl (pop_assign rfl) ?_
   refine dn ?_
   refine hw_reg ?_
   refine dp rfl (pop_move rfl) ?_
   refine dp rfl (pop_lss rfl rfl) ?_
   refine dn ?_
   refine hw_cond rfl (fun h3 => ?_) (fun h3 => ?_)
   ·exfalso
    try simp at h3
    omega
   ·try simp at h3
    refine hw_skip ?_
    refine blockQ_n ?_
    refine seqQ_n ?_
    refine hw_reg1 ?_
    refine dp rfl (pop_add64 rfl rfl (by omega) (by omega)) ?_
    refine dp rfl (pop_move rfl) ?_
    refine dn ?_
    exact ⟨i + 1, ⟨by omega, trivial⟩, by dsimp only; omega, ⟨rfl, some_int (by rw [flat_take_snoc hx]; simp), trivial⟩, (by repeat (first | exact keeps_refl | refine keeps_upd rfl ?_ | refine keeps_loop rfl rfl ?_)), List.Perm.refl _⟩
  ·try simp at h2
   have hni : LL.length ≤ i := by omega
   obtain rfl : i = LL.length := by omega
   refine hw_exit ?_
   refine seqQ_x ?_
   refine loopQ_x ?_
   refine blockQ_eq ?_
   refine seqQ_n ?_
   rw [List.take_length]
   refine hw_reg ?_
   refine dp rfl (pop_move rfl) ?_
   refine de rfl (eop_callf (M1 := []) (R := []) ca118 rfl (WeakL.refl _) (List.Perm.refl _) (c_grow_Answer (n := LL.flatten.length) (by omega)) ?_)
   rintro _ _ ⟨u24, rfl, rfl⟩
   refine dp rfl (pop_assign rfl) ?_
   refine dn ?_
   refine hw_seq ?_
   refine hw_reg ?_
   refine dp rfl (pop_move rfl) ?_
   refine dp rfl (pop_lenm (f := fun l : List ReplyS => HVal.slice 4 (l.map eReply)) (l := LL) ty164 rfl) ?_
   refine dp rfl (pop_move rfl) ?_
   refine dn ?_
   refine hw_block ?_
   refine hw_loopw2 [6, 8, 27, 28, 29, 30, 31, 32, 33, 34] (fun (j : Nat) (u : Value) => [(27, .int .i64 j), (6, .raw u)]) (fun (j : Nat) (u : Value) => [.arr u 4 ((LL.take j).flatten.map eReply)]) (fun (j : Nat) (u : Value) => j ≤ LL.length ∧ (True)) (fun (j : Nat) (u : Value) => LL.length - j) (0) (u24) ?_ ?_ ?_ ?_
   ·exact ⟨Nat.zero_le _, trivial⟩
   ·exact ⟨rfl, rfl, trivial⟩
   ·exact List.Perm.refl _
   ·intro j u hinv
    obtain ⟨hj, -⟩ := hinv
    refine hw_reg ?_
    refine dp rfl (pop_lss rfl rfl) ?_
    refine dn ?_
    refine hw_seq ?_
    refine hw_cond rfl (fun h4 => ?_) (fun h5 => ?_)
    ·try simp at h4
     obtain ⟨y, hy⟩ : ∃ y, LL[j]? = some y := ⟨_, List.getElem?_eq_getElem h4⟩
     have hdy := drop_cons hy
     refine hw_skip ?_
     refine seqQ_n ?_
     refine hw_seq ?_
     refine hw_block ?_
     refine hw_reg ?_
     refine dp rfl (pop_idx (f := fun l : List ReplyS => HVal.slice 4 (l.map eReply)) (l := LL) (j := j) (a := y) ty164 ty34 rfl rfl rfl hy) ?_
     refine dp rfl (pop_load ty34 rfl rfl rfl) ?_
     refine dp rfl (pop_assign rfl) ?_
     refine dn ?_
     refine hw_reg1 ?_
     refine dp rfl (pop_move rfl) ?_
     refine dp rfl (pop_move rfl) ?_
     refine de rfl (eop_append (i := 0) ty34 ty75 rfl rfl rfl rfl rfl (by simp [flat, hcells]) (by have h1 := flat_take_le LL (j + 1); have h2 := flat_take_snoc hy; simp only [List.length_map]; omega) fun v33 => ?_)
     refine dp rfl (pop_assign rfl) ?_
     refine dn ?_
     refine blockQ_n ?_
     refine seqQ_n ?_
     refine hw_reg1 ?_
     refine dp rfl (pop_add64 rfl rfl (by omega) (by omega)) ?_
     refine dp rfl (pop_move rfl) ?_
     refine dn ?_
     exact ⟨j + 1, v33, ⟨by omega, trivial⟩, by dsimp only; omega, ⟨rfl, rfl, trivial⟩, (by repeat (first | exact keeps_refl | refine keeps_upd rfl ?_ | refine keeps_loop rfl rfl ?_)), perm_eq (by dsimp only; rw [flat_take_app hy, List.map_append]; rfl)⟩
    ·try simp at h5
     have hnj : LL.length ≤ j := by omega
     obtain rfl : j = LL.length := by omega
     refine hw_exit ?_
     refine seqQ_x ?_
     refine loopQ2_x ?_
     refine blockQ_eq ?_
     refine seqQ_n ?_
     refine hw_reg ?_
     refine dp rfl (pop_move rfl) ?_
     refine dp rfl (pop_assign rfl) ?_
     refine dn ?_
     refine hw_ret ?_
     refine ret_a rfl ?_
     rw [List.take_length]

/-- slices.SortFunc -/
theorem c_sort_Answer [Tracks] {c : ReplyS → ReplyS → Int} (hO : Go.Sort.SWO (Go.Proofs.ltOf c)) {g : FuncId} (hg : Callable Tryz.prog g) {cap : List HVal} (hc : ∀ x y, @ConP trackOn Tryz.prog g (eReply x :: eReply y :: cap) (.int .i64 (c x y))) {l : List ReplyS} (hl : l.length ≤ 1000000) {v : Value} :
 Con Tryz.prog 88 [.raw v, .fn (.func g) [] cap] [.arr v 4 (l.map eReply)] fun x M' => ∃ l' : List ReplyS, x = .tup [] ∧ l'.Perm l ∧ l'.Pairwise (fun a b => ¬ c b a < 0) ∧ M' = [.arr v 4 (l'.map eReply)] :=
 con_sortf (e := eReply) Tryz.g88 (Tryz.isAgg75) (Tryz.sizeOf75) (fun _ => rfl) (fun _ => rfl) (fun _ => rfl) hO hg hc hl

set_option maxHeartbeats 1000000 in
/-- slices.Compact[[]benchwarmer/api.Answer,benchwarmer/api.Answer] -/
theorem c_slices_Compact_api_Answer_api_Answer [Tracks] {l : List ReplyS} {v : Value} (hl : l.length ≤ 1000000) : Con Tryz.prog 84 [.raw v] [.arr v 4 (l.map eReply)] (fun x M' => ∃ u, x = .raw u ∧ M' = [.arr u 4 ((uniqA none l).map eReply)]) := by
 refine Con.of_body Tryz.func84 rfl Tryz.ntmps84 rfl rfl ?_
 refine hw_reg ?_
 refine dp rfl (pop_assign rfl) ?_
 refine dn ?_
 refine hw_seq ?_
 refine hw_reg ?_
 refine dp rfl (pop_move rfl) ?_
 first
 | refine de rfl (eop_lenm (i := 0) ty34 rfl rfl ?_)
 | refine de rfl (eop_lenm (i := 1) ty34 rfl rfl ?_)
 | refine de rfl (eop_lenm (i := 2) ty34 rfl rfl ?_)
 | refine de rfl (eop_lenm (i := 3) ty34 rfl rfl ?_)
 refine dp rfl (pop_lss rfl rfl) ?_
 refine dn ?_
 refine hw_cond rfl (fun h1 => ?_) (fun h2 => ?_)
 ·try simp at h1
  refine hw_reg ?_
  refine dp rfl (pop_move rfl) ?_
  refine dp rfl (pop_assign rfl) ?_
  refine dn ?_
  refine hw_ret ?_
  first
  | (refine ret_q rfl ⟨_, rfl, ?_⟩
     rw [uniqA_one (by omega)])
  | (refine ret_q rfl ⟨_, rfl, ?_⟩
     have hlo := hD.lo
     rw [hkl, List.take_length] at hlo ⊢
     rw [← List.map_take, hlo]; rfl)
  | (refine ret_q rfl ⟨_, rfl, ?_⟩
     rw [hu])
 ·try simp at h2
  refine hw_skip ?_
  refine seqQ_n ?_
  refine hw_seq ?_
  refine hw_arrc (i := 0) rfl (fun h0 he => ?_) (fun b off cap hv hcap => ?_)
  ·exfalso; have := congrArg List.length he; simp at this; subst this; simp at h2
  rw [List.length_map] at hv hcap
  subst hv
  refine hw_reg ?_
  refine dp rfl (pop_assign rfl) ?_
  refine dn ?_
  refine hw_block ?_
  refine hw_loopw [2, 3, 4, 5, 10, 11, 12, 13, 14, 15, 16, 17, 18, 19, 20, 21, 22, 23, 24, 25, 26, 27, 28, 29, 30, 31, 32, 33, 34, 35, 36, 37, 38, 39, 40, 41, 42, 43, 44, 45, 46, 47, 48, 49, 50, 51, 52, 53, 54, 55, 56, 57, 58, 59] (fun (k : Nat) => [(3, .int .i64 (k : Int))]) (fun (k : Nat) => [.arr (.slice (some ⟨b, off, none⟩) l.length cap) 4 (l.map eReply)]) (fun (k : Nat) => (1 ≤ k ∧ k ≤ l.length) ∧ uniqA none (l.take k) = l.take k) (fun (k : Nat) => l.length - k) (1) ?_ ?_ ?_ ?_
  ·exact ⟨⟨by omega, by omega⟩, uniqA_one (by simp; omega)⟩
  ·exact ⟨rfl, trivial⟩
  ·exact List.Perm.refl _
  ·intro k hinv
   obtain ⟨⟨hk1, hk⟩, hu⟩ := hinv
   refine hw_seq ?_
   refine hw_reg ?_
   refine dp rfl (pop_move rfl) ?_
   refine dp rfl (pop_move rfl) ?_
   first
   | refine de rfl (eop_lenm (i := 0) ty34 rfl rfl ?_)
   | refine de rfl (eop_lenm (i := 1) ty34 rfl rfl ?_)
   | refine de rfl (eop_lenm (i := 2) ty34 rfl rfl ?_)
   | refine de rfl (eop_lenm (i := 3) ty34 rfl rfl ?_)
   refine dp rfl (pop_lss rfl rfl) ?_
   refine dn ?_
   refine hw_cond rfl (fun h3 => ?_) (fun h4 => ?_)
   ·try simp at h3
    obtain ⟨x, hx⟩ : ∃ x, l[k]? = some x := ⟨_, List.getElem?_eq_getElem (by omega)⟩
    obtain ⟨y, hy⟩ : ∃ y, l[k - 1]? = some y := ⟨_, List.getElem?_eq_getElem (by omega)⟩
    refine hw_skip ?_
    refine seqQ_n ?_
    refine hw_seq ?_
    refine hw_block ?_
    refine hw_draw (fun M => M = [.arr (.slice (some ⟨b, off, none⟩) l.length cap) 4 (l.map eReply)]) [3, 8] mixed ?_
    refine ahp 0 rfl rfl (by kernel_rfl) (by kernel_rfl) (pop_move rfl) ?_
    refine ahp 1 rfl rfl (by kernel_rfl) (by kernel_rfl) (pop_move rfl) ?_
    refine ahp 2 rfl rfl (by kernel_rfl) (by kernel_rfl) (pop_idxraw (j := k) ty34 ty75 rfl rfl rfl (by omega)) ?_
    refine ahl 3 rfl rfl (by kernel_rfl) (by kernel_rfl) (by simp) rfl (fun M hM => by subst hM; exact eop_load_elw (i := 0) (j := k) ty75 rfl (by omega) rfl hx rfl rfl rfl ⟨rfl, rfl⟩) ?_
    refine ahp 4 rfl rfl (by kernel_rfl) (by kernel_rfl) (pop_move rfl) ?_
    refine ahp 5 rfl rfl (by kernel_rfl) (by kernel_rfl) (pop_move rfl) ?_
    refine ahp 6 rfl rfl (by kernel_rfl) (by kernel_rfl) (pop_sub64 rfl rfl (by omega) (by omega)) ?_
    refine ahp 7 rfl rfl (by kernel_rfl) (by kernel_rfl) (pop_idxraw (j := k - 1) ty34 ty75 rfl rfl (by omega) (by omega)) ?_
    refine ahl 8 rfl rfl (by kernel_rfl) (by kernel_rfl) (by simp) rfl (fun M hM => by subst hM; exact eop_load_elw (i := 0) (j := k - 1) ty75 rfl (by omega) rfl hy rfl rfl rfl ⟨rfl, rfl⟩) ?_
    refine ahp 9 rfl rfl (by kernel_rfl) (by kernel_rfl) (pop_eqst ty75 eq75 rfl rfl ⟨rfl, ⟨_, _, _, _, ty9, rfl⟩, ⟨rfl, ⟨_, _, _, _, ty9, rfl⟩, ⟨rfl, ⟨_, _, _, _, ty3, rfl⟩, ⟨rfl, ⟨_, _, _, _, ty3, rfl⟩, trivial⟩⟩⟩⟩) ?_
    refine ahz (by kernel_rfl) ?_
    refine hw_cond rfl (fun h5 => ?_) (fun h6 => ?_)
    ·try simp at h5
     have hxy : x = y := (eqReply_is _ _).1 (by simpa using h5)
     obtain ⟨hC0, hU0⟩ := CmpA.start hx hy (by omega) hxy hu
     refine hw_reg ?_
     refine dp rfl (pop_move rfl) ?_
     refine dp rfl (pop_move rfl) ?_
     refine dp rfl (pop_slraw (l := k) (h := l.length) ty34 ty75 rfl ⟨_, _, rfl, rfl⟩ rfl (by omega) (by omega) hcap) ?_
     refine dp rfl (pop_assign rfl) ?_
     refine dn ?_
     rw [slOff_lt2 (by omega)]
     refine hw_seq ?_
     refine hw_reg ?_
     refine dp rfl (pop_assign rfl) ?_
     refine dn ?_
     refine hw_block ?_
     refine hw_loopw2 [3, 5, 29, 30, 31, 32, 33, 34, 35, 36, 37, 38, 39, 40, 41, 42, 43, 44, 45, 46, 47, 48, 49, 50, 51, 52, 53] (fun (k2 : Nat) (D : List ReplyS) => [(5, .int .i64 (k2 : Int)), (3, .int .i64 ((uniqA none (l.take (k + k2))).length : Int))]) (fun (k2 : Nat) (D : List ReplyS) => [.arr (.slice (some ⟨b, off, none⟩) l.length cap) 4 (D.map eReply)]) (fun (k2 : Nat) (D : List ReplyS) => (1 ≤ k2 ∧ k + k2 ≤ l.length) ∧ CmpA l (k + k2) D) (fun (k2 : Nat) (D : List ReplyS) => l.length - k2) (1) (l) ?_ ?_ ?_ ?_
     ·exact ⟨⟨by omega, by have := lt_of_get hx; omega⟩, hC0⟩
     ·exact ⟨rfl, some_int (by rw [hU0]), trivial⟩
     ·exact List.Perm.refl _
     ·intro k2 D hinv
      obtain ⟨⟨hk2, hkk⟩, hD⟩ := hinv
      have hlt0 := hD.lt
      have hle0 := hD.len
      refine hw_seq ?_
      refine hw_reg ?_
      refine dp rfl (pop_move rfl) ?_
      refine dp rfl (pop_move rfl) ?_
      refine dp rfl (pop_len_raw ty34 rfl) ?_
      refine dp rfl (pop_lss rfl rfl) ?_
      refine dn ?_
      refine hw_cond rfl (fun h7 => ?_) (fun h8 => ?_)
      ·try simp at h7
       obtain ⟨x2, hx2⟩ : ∃ x, l[k + k2]? = some x := ⟨_, List.getElem?_eq_getElem (by omega)⟩
       obtain ⟨y2, hy2⟩ : ∃ y, l[k + k2 - 1]? = some y := ⟨_, List.getElem?_eq_getElem (by omega)⟩
       have hDx : D[k + k2]? = some x2 := by rw [hD.hi _ (by omega), hx2]
       have hDy : D[k + k2 - 1]? = some y2 := by rw [hD.hi _ (by omega), hy2]
       refine hw_skip ?_
       refine seqQ_n ?_
       refine hw_seq ?_
       refine hw_block ?_
       refine hw_draw (fun M => M = [.arr (.slice (some ⟨b, off, none⟩) l.length cap) 4 (D.map eReply)]) [3, 8] mixed ?_
       refine ahp 0 rfl rfl (by kernel_rfl) (by kernel_rfl) (pop_move rfl) ?_
       refine ahp 1 rfl rfl (by kernel_rfl) (by kernel_rfl) (pop_move rfl) ?_
       refine ahp 2 rfl rfl (by kernel_rfl) (by kernel_rfl) (pop_idxraw (j := k2) ty34 ty75 rfl rfl rfl (by omega)) ?_
       refine ahl 3 rfl rfl (by kernel_rfl) (by kernel_rfl) (by simp) rfl (fun M hM => by subst hM; exact eop_load_elw (i := 0) (j := (k + k2)) ty75 rfl (by omega) rfl hDx rfl rfl rfl ⟨rfl, rfl⟩) ?_
       refine ahp 4 rfl rfl (by kernel_rfl) (by kernel_rfl) (pop_move rfl) ?_
       refine ahp 5 rfl rfl (by kernel_rfl) (by kernel_rfl) (pop_move rfl) ?_
       refine ahp 6 rfl rfl (by kernel_rfl) (by kernel_rfl) (pop_sub64 rfl rfl (by omega) (by omega)) ?_
       refine ahp 7 rfl rfl (by kernel_rfl) (by kernel_rfl) (pop_idxraw (j := k2 - 1) ty34 ty75 rfl rfl (by omega) (by omega)) ?_
       refine ahl 8 rfl rfl (by kernel_rfl) (by kernel_rfl) (by simp) rfl (fun M hM => by subst hM; exact eop_load_elw (i := 0) (j := (k + k2 - 1)) ty75 rfl (by omega) rfl hDy rfl rfl rfl ⟨rfl, rfl⟩) ?_
       refine ahp 9 rfl rfl (by kernel_rfl) (by kernel_rfl) (pop_neqst ty75 eq75 rfl rfl ⟨rfl, ⟨_, _, _, _, ty9, rfl⟩, ⟨rfl, ⟨_, _, _, _, ty9, rfl⟩, ⟨rfl, ⟨_, _, _, _, ty3, rfl⟩, ⟨rfl, ⟨_, _, _, _, ty3, rfl⟩, trivial⟩⟩⟩⟩) ?_
       refine ahz (by kernel_rfl) ?_
       refine hw_cond rfl (fun h9 => ?_) (fun h10 => ?_)
       ·try simp at h9
        refine hw_reg ?_
        refine dp rfl (pop_move rfl) ?_
        refine dp rfl (pop_move rfl) ?_
        refine dp rfl (pop_move rfl) ?_
        refine dp rfl (pop_move rfl) ?_
        refine dp rfl (pop_idxraw (j := k2) ty34 ty75 rfl rfl rfl (by omega)) ?_
        refine de rfl (eop_load_elw (i := 0) (j := (k + k2)) ty75 rfl (by omega) rfl hDx rfl rfl rfl ?_)
        refine dp rfl (pop_idxraw (j := (uniqA none (l.take (k + k2))).length) ty34 ty75 rfl rfl rfl (by omega)) ?_
        refine de0 (eop_store_elw (i := 0) (j := (uniqA none (l.take (k + k2))).length) (y := D[(uniqA none (l.take (k + k2))).length]'(by omega)) (y' := x2) ty75 rfl rfl rfl rfl (List.getElem?_eq_getElem _) rfl rfl rfl ?_)
        refine dn ?_
        refine hw_reg1 ?_
        refine dp rfl (pop_move rfl) ?_
        refine dp rfl (pop_add64 rfl rfl (by omega) (by omega)) ?_
        refine dp rfl (pop_assign rfl) ?_
        refine dn ?_
        refine blockQ_n ?_
        refine seqQ_n ?_
        refine hw_reg1 ?_
        refine dp rfl (pop_move rfl) ?_
        refine dp rfl (pop_add64 rfl rfl (by omega) (by omega)) ?_
        refine dp rfl (pop_assign rfl) ?_
        refine dn ?_
        have hxy : x2 ≠ y2 := fun q => by have q2 := (eqReply_is _ _).2 q; simp_all
        obtain ⟨hC1, hU1⟩ := hD.more hx2 hy2 hxy
        exact ⟨k2 + 1, _, ⟨⟨by omega, by omega⟩, hC1⟩, by dsimp only; omega, ⟨rfl, some_int (by rw [← Nat.add_assoc, hU1]; rfl), trivial⟩, (by repeat (first | exact keeps_refl | refine keeps_upd rfl ?_ | refine keeps_loop rfl rfl ?_)), List.Perm.refl _⟩
       ·try simp at h10
        refine hw_skip ?_
        refine blockQ_n ?_
        refine seqQ_n ?_
        refine hw_reg1 ?_
        refine dp rfl (pop_move rfl) ?_
        refine dp rfl (pop_add64 rfl rfl (by omega) (by omega)) ?_
        refine dp rfl (pop_assign rfl) ?_
        refine dn ?_
        have hxy : x2 = y2 := (eqReply_is _ _).1 (by simpa using h10)
        obtain ⟨hC1, hU1⟩ := hD.same hx2 hy2 hxy
        exact ⟨k2 + 1, D, ⟨⟨by omega, by omega⟩, hC1⟩, by dsimp only; omega, ⟨rfl, some_int (by rw [← Nat.add_assoc, hU1]), trivial⟩, (by repeat (first | exact keeps_refl | refine keeps_upd rfl ?_ | refine keeps_loop rfl rfl ?_)), List.Perm.refl _⟩
      ·try simp at h8
       have hkl : k + k2 = l.length := by omega
       refine hw_exit ?_
       refine seqQ_x ?_
       refine loopQ2_x ?_
       refine blockQ_eq ?_
       refine seqQ_n ?_
       refine hw_reg ?_
       refine dp rfl (pop_move rfl) ?_
       refine dp rfl (pop_move rfl) ?_
       refine dp rfl (pop_slraw (l := (uniqA none (l.take (k + k2))).length) (h := l.length) ty34 ty75 rfl ⟨_, _, rfl, rfl⟩ rfl (by omega) (by omega) hcap) ?_
       refine de0 (eop_clear_at (i := 0) (m := (uniqA none (l.take (k + k2))).length) ((uniqA none (l.take (k + k2))).length) ty34 ty75 rfl rfl rfl (slOff_or (by omega) hcap) rfl (by omega) (Nat.le_refl _) (by rw [List.length_map, hD.len]; omega) ?_)
       refine dn ?_
       refine hw_reg ?_
       refine dp rfl (pop_move rfl) ?_
       refine dp rfl (pop_move rfl) ?_
       refine dp rfl (pop_slraw0 (h := (uniqA none (l.take (k + k2))).length) ty34 ty75 rfl ⟨_, _, rfl, rfl⟩ (by omega)) ?_
       refine dp rfl (pop_assign rfl) ?_
       refine dn ?_
       refine hw_ret ?_
       first
       | (refine ret_q rfl ⟨_, rfl, ?_⟩
          rw [uniqA_one (by omega)])
       | (refine ret_q rfl ⟨_, rfl, ?_⟩
          have hlo := hD.lo
          rw [hkl, List.take_length] at hlo ⊢
          rw [← List.map_take, hlo]; rfl)
       | (refine ret_q rfl ⟨_, rfl, ?_⟩
          rw [hu])
    ·try simp at h6
     refine hw_skip ?_
     refine blockQ_n ?_
     refine seqQ_n ?_
     refine hw_reg1 ?_
     refine dp rfl (pop_move rfl) ?_
     refine dp rfl (pop_add64 rfl rfl (by omega) (by omega)) ?_
     refine dp rfl (pop_assign rfl) ?_
     refine dn ?_
     have hxy : x ≠ y := fun q => by have q2 := (eqReply_is _ _).2 q; simp_all
     exact ⟨k + 1, ⟨⟨by omega, by omega⟩, by rw [uniqA_step hx hy (by omega), if_neg hxy, hu, take_snoc' hx]⟩, by dsimp only; omega, ⟨rfl, trivial⟩, (by repeat (first | exact keeps_refl | refine keeps_upd rfl ?_ | refine keeps_loop rfl rfl ?_)), List.Perm.refl _⟩
   ·try simp at h4
    have hkl : k = l.length := by omega
    rw [hkl, List.take_length] at hu
    refine hw_exit ?_
    refine seqQ_x ?_
    refine loopQ_x ?_
    refine blockQ_eq ?_
    refine seqQ_n ?_
    refine hw_reg ?_
    refine dp rfl (pop_move rfl) ?_
    refine dp rfl (pop_assign rfl) ?_
    refine dn ?_
    refine hw_ret ?_
    first
    | (refine ret_q rfl ⟨_, rfl, ?_⟩
       rw [uniqA_one (by omega)])
    | (refine ret_q rfl ⟨_, rfl, ?_⟩
       have hlo := hD.lo
       rw [hkl, List.take_length] at hlo ⊢
       rw [← List.map_take, hlo]; rfl)
    | (refine ret_q rfl ⟨_, rfl, ?_⟩
       rw [hu])

/-- slices.IndexFunc[[]benchwarmer/api.Answer,benchwarmer/api.Answer] -/
theorem c_slices_IndexFunc_api_Answer_api_Answer [Tracks] {l : List ReplyS} {fid : FuncId} {caps : List HVal} {p : ReplyS → Bool} (hca : Callable Tryz.prog fid) (hp : ∀ x, ConP Tryz.prog fid ([eReply x] ++ caps) (.bool (p x))) (hl : l.length ≤ 1000000) : ConP Tryz.prog 86 [.slice 4 (l.map eReply), .fn (.func fid) [] caps] (.int .i64 (idxF p l 0)) := by
 refine Con.of_body Tryz.func86 rfl Tryz.ntmps86 rfl rfl ?_
 refine hw_reg ?_
 refine dp rfl (pop_assign rfl) ?_
 refine dn ?_
 refine hw_seq ?_
 refine hw_reg ?_
 refine dp rfl (pop_move rfl) ?_
 refine dp rfl (pop_lenm ty34 rfl) ?_
 refine dp rfl (pop_move rfl) ?_
 refine dn ?_
 refine hw_block ?_
 refine hw_loopw [4, 5, 8, 9, 10, 11, 12, 13, 14, 15, 16, 17, 18] (fun (k : Nat) => [(8, .int .i64 k)]) (fun (k : Nat) => []) (fun (k : Nat) => k ≤ l.length ∧ (idxF p l 0 = idxF p (l.drop k) k)) (fun (k : Nat) => l.length - k) (0) ?_ ?_ ?_ ?_
 ·exact ⟨Nat.zero_le _, rfl⟩
 ·exact ⟨rfl, trivial⟩
 ·exact List.Perm.refl _
 ·intro k hinv
  obtain ⟨hk, hg⟩ := hinv
  refine hw_reg ?_
  refine dp rfl (pop_lss rfl rfl) ?_
  refine dn ?_
  refine hw_seq ?_
  refine hw_cond rfl (fun h1 => ?_) (fun h2 => ?_)
  ·try simp at h1
   obtain ⟨x, hx⟩ : ∃ x, l[k]? = some x := ⟨_, List.getElem?_eq_getElem h1⟩
   have hdx := drop_cons hx
   rw [hdx] at hg
   refine hw_skip ?_
   refine seqQ_n ?_
   refine hw_seq ?_
   refine hw_block ?_
   refine hw_reg ?_
   refine dp rfl (pop_move rfl) ?_
   refine dp rfl (pop_assign rfl) ?_
   refine dn ?_
   refine hw_reg ?_
   refine dp rfl (pop_move rfl) ?_
   refine dp rfl (pop_move rfl) ?_
   refine dp rfl (pop_move rfl) ?_
   refine dp rfl (pop_idx ty34 ty75 rfl rfl rfl (by first | assumption | simp_all)) ?_
   refine dp rfl (pop_loadw ty75 rfl rfl rfl rfl) ?_
   refine dp rfl (pop_callv hca rfl rfl (WeakL.refl _) (hp _)) ?_
   refine dn ?_
   refine hw_cond rfl (fun h3 => ?_) (fun h4 => ?_)
   ·try simp at h3
    refine hw_reg ?_
    refine dp rfl (pop_move rfl) ?_
    refine dp rfl (pop_assign rfl) ?_
    refine dn ?_
    refine hw_ret ?_
    refine ret_p rfl ?_
    show HVal.int .i64 _ = _
    first | (rw [hg]; rfl) | (rw [hg]; simp_all [idxF])
   ·try simp at h4
    refine hw_skip ?_
    refine blockQ_n ?_
    refine seqQ_n ?_
    refine hw_reg1 ?_
    refine dp rfl (pop_add64 rfl rfl (by omega) (by omega)) ?_
    refine dp rfl (pop_move rfl) ?_
    refine dn ?_
    refine ⟨k + 1, ?_, ?_, ⟨rfl, trivial⟩, (by repeat (first | exact keeps_refl | refine keeps_upd rfl ?_ | refine keeps_loop rfl rfl ?_)), List.Perm.refl _⟩
    ·refine ⟨by omega, ?_⟩
     rw [hg, idxF, if_neg (by simp_all)]; rfl
    ·dsimp only; omega
  ·try simp at h2
   have hnk : l.length ≤ k := by omega
   obtain rfl : k = l.length := by omega
   rw [drop_all (Nat.le_refl _)] at hg
   refine hw_exit ?_
   refine seqQ_x ?_
   refine loopQ_x ?_
   refine blockQ_eq ?_
   refine seqQ_n ?_
   refine hw_reg ?_
   refine dp rfl (pop_assign rfl) ?_
   refine dn ?_
   refine hw_ret ?_
   refine ret_p rfl ?_
   show HVal.int .i64 _ = _
   first | (rw [hg]; rfl) | (rw [hg]; simp_all [idxF])

/-- slices.Clone[[]benchwarmer/api.Answer,benchwarmer/api.Answer] -/
theorem c_slices_Clone_api_Answer_api_Answer [Tracks] {l : List ReplyS} (hl : l.length ≤ 1000000) : ConA Tryz.prog 85 [.slice 4 (l.map eReply)] 4 (l.map eReply) := by
 refine Con.of_body Tryz.func85 rfl Tryz.ntmps85 rfl rfl ?_
 refine hw_reg ?_
 refine dp rfl (pop_assign rfl) ?_
 refine dn ?_
 refine hw_seq ?_
 refine hw_reg ?_
 refine dp rfl (pop_move rfl) ?_
 refine de rfl (eop_eqnil ty34 rfl rfl fun b4 hb4 => ?_)
 refine dn ?_
 refine hw_cond rfl (fun h1 => ?_) (fun h2 => ?_)
 ·try simp at h1
  refine hw_reg ?_
  refine dp rfl (pop_assign rfl) ?_
  refine dn ?_
  refine hw_ret ?_
  first | exact ret_a rfl rfl | exact ret_g (Ghost.arr_nil 4) rfl ⟨_, rfl, by simp_all⟩
 ·try simp at h2
  refine hw_skip ?_
  refine seqQ_n ?_
  refine hw_reg ?_
  refine de rfl (eop_mk0 ty34 ty75 fun v5 => ?_)
  refine dp rfl (pop_move rfl) ?_
  refine de rfl (eop_append (i := 0) ty34 ty75 rfl rfl rfl rfl rfl (by simp [flat, hcells]) (by first | omega | (simp; omega)) fun v7 => ?_)
  refine dp rfl (pop_assign rfl) ?_
  refine dn ?_
  refine hw_ret ?_
  first | exact ret_a rfl rfl | exact ret_g (Ghost.arr_nil 4) rfl ⟨_, rfl, by simp_all⟩

set_option maxHeartbeats 1000000 in
/-- benchwarmer/trade.Merge -/
theorem c_trade_Merge [Tracks] {m : MarketS} {a c : List ReplyS} (ht : m.Teams.length ≤ 1000000) (ha : a.length ≤ 100) (hc : c.length ≤ 100) : ConP Tryz.prog 36 [eMarket m, eReplies a, eReplies c] (.tup [eReplies (mrgL m a c), .int .i64 (mrgE m a c)]) := by
 refine Con.of_body Tryz.func36 rfl Tryz.ntmps36 rfl rfl ?_
 refine hw_reg ?_
 refine dp rfl (pop_box rfl rfl) ?_
 refine dp rfl (pop_assign rfl) ?_
 refine dp rfl (pop_assign rfl) ?_
 refine dn ?_
 refine hw_seq ?_
 refine hw_draw (fun _ => True) [] mixed ?_
 refine ahp 0 rfl rfl (by kernel_rfl) (by kernel_rfl) (pop_loadw ty28 rfl rfl rfl rfl) ?_
 refine ahp 1 rfl rfl (by kernel_rfl) (by kernel_rfl) (pop_move rfl) ?_
 refine ahp 2 rfl rfl (by kernel_rfl) (by kernel_rfl) (pop_call ca35 rfl (WeakL.refl _) (c_trade_CheckAnswers (m := m) (l := a) ht (by omega))) ?_
 refine ahp 3 rfl rfl (by kernel_rfl) (by kernel_rfl) (pop_loadw ty28 rfl rfl rfl rfl) ?_
 refine ahp 4 rfl rfl (by kernel_rfl) (by kernel_rfl) (pop_move rfl) ?_
 refine ahp 5 rfl rfl (by kernel_rfl) (by kernel_rfl) (pop_call ca35 rfl (WeakL.refl _) (c_trade_CheckAnswers (m := m) (l := c) ht (by omega))) ?_
 refine ahp 6 rfl rfl (by kernel_rfl) (by kernel_rfl) (pop_buildSlice (hs := [_, _]) ty121 ty38 rfl rfl (by decide) (by decide) rfl) ?_
 refine ahp 7 rfl rfl (by kernel_rfl) (by kernel_rfl) (pop_call ca81 rfl (WeakL.refl _) (c_base_First (l := [_, _]) (by simp))) ?_
 refine ahp 8 rfl rfl (by kernel_rfl) (by kernel_rfl) (pop_assign rfl) ?_
 refine ahz (by kernel_rfl) ?_
 refine hw_reg ?_
 refine dp rfl (pop_move rfl) ?_
 refine dp rfl (pop_neq rfl rfl) ?_
 refine dn ?_
 refine hw_cond rfl (fun h1 => ?_) (fun h2 => ?_)
 ·try simp at h1
  refine hw_reg ?_
  refine dp rfl (pop_move rfl) ?_
  refine dp rfl (pop_assign rfl) ?_
  refine dp rfl (pop_assign rfl) ?_
  refine dn ?_
  refine hw_ret ?_
  first
  | exact ret_w rfl (weak_tup2 (by rw [mrgL, if_pos (by simpa using h1)]; exact weak_nil 4) (by rw [mrgE, if_pos (by simpa using h1)]; exact Weak.refl _))
  | (have hcf := mer_some byRep_cmp hms hns hz3 hz2 hx (by rw [show k - 1 + 1 = k by omega]; exact hy) (by assumption)
     exact ret_w rfl (weak_tup2 (by rw [mrgL, if_neg (by simpa using h2), if_pos hcf]; exact weak_nil 4) (by rw [mrgE, if_neg (by simpa using h2), if_pos hcf]; exact Weak.refl _)))
  | (refine ret_p rfl ?_
     rw [mrgL, mrgE, if_neg (by simpa using h2), if_neg (by simp [hcf]), if_neg (by simpa using h2), if_neg (by simp [hcf]), hme]; rfl)
 ·try simp at h2
  refine hw_skip ?_
  refine seqQ_n ?_
  obtain ⟨hm0, hn0⟩ := or2_zero (by simpa using h2)
  have hms := (repsR_ok (repsE_ok hm0).2).2.2
  have hns := (repsR_ok (repsE_ok hn0).2).2.2
  refine hw_reg ?_
  refine dp rfl (pop_move rfl) ?_
  refine dp rfl (pop_move rfl) ?_
  refine dp rfl (pop_buildSlice (hs := [_, _]) ty164 ty34 rfl rfl (by decide) (by decide) rfl) ?_
  refine de rfl (eop_calla ca82 rfl (WeakL.refl _) (c_concat_Answer (LL := [a, c]) (by simp) (by simp; omega)) fun v25 => ?_)
  refine dp rfl (pop_assign rfl) ?_
  refine dn ?_
  refine hw_reg ?_
  refine dp rfl (pop_move rfl) ?_
  refine de rfl (eop_callx (i := 0) ca83 rfl (WeakL.refl _) rfl (c_sstable_api_Answer (l := [a, c].flatten) (c := byRep) ca80 (fun _ _ => c_trade_byAnswer) byRep_cmp (by simp; omega)) ?_)
  rintro _ _ ⟨Z, rfl, ⟨hz1, hz2⟩, rfl⟩
  have hz3 : Z.Perm (a ++ c) := by simpa using hz1
  have hzl := hz3.length_eq
  rw [List.length_append] at hzl
  refine dn ?_
  refine hw_reg ?_
  refine dp rfl (pop_move rfl) ?_
  refine de rfl (eop_callx (i := 0) ca84 rfl (WeakL.refl _) rfl (c_slices_Compact_api_Answer_api_Answer (l := Z) (by omega)) ?_)
  rintro _ _ ⟨u29, rfl, rfl⟩
  refine dp rfl (pop_assign rfl) ?_
  refine dn ?_
  refine hw_seq ?_
  refine hw_ghost (Ghost.fa 9 (i := 0) rfl rfl) ?_
  have hul := uniqA_len Z none
  refine hw_reg ?_
  refine dp rfl (pop_assign rfl) ?_
  refine dn ?_
  refine hw_block ?_
  refine hw_loopw [6, 7, 10, 30, 31, 32, 33, 34, 35, 36, 37, 38, 39, 40, 41, 42, 43, 44, 45, 46] (fun (k : Nat) => [(10, .int .i64 (k : Int))]) (fun (k : Nat) => []) (fun (k : Nat) => 1 ≤ k ∧ ∀ (i : Nat) (x y : ReplyS), i + 1 < k → (uniqA none Z)[i]? = some x → (uniqA none Z)[i + 1]? = some y → byRep x y ≠ 0) (fun (k : Nat) => (uniqA none Z).length - k) (1) ?_ ?_ ?_ ?_
  ·exact ⟨Nat.le_refl _, fun i x y h => by omega⟩
  ·exact ⟨rfl, trivial⟩
  ·exact perm_eq rfl
  ·intro k hinv
   obtain ⟨hk, hadj⟩ := hinv
   refine hw_seq ?_
   refine hw_reg ?_
   refine dp rfl (pop_move rfl) ?_
   refine dp rfl (pop_move rfl) ?_
   refine dp rfl (pop_lenm (f := eReply) (l := (uniqA none Z)) ty34 rfl) ?_
   refine dp rfl (pop_lss rfl rfl) ?_
   refine dn ?_
   refine hw_cond rfl (fun h3 => ?_) (fun h4 => ?_)
   ·try simp at h3
    obtain ⟨x, hx⟩ : ∃ x, (uniqA none Z)[k - 1]? = some x := ⟨_, List.getElem?_eq_getElem (by omega)⟩
    obtain ⟨y, hy⟩ : ∃ y, (uniqA none Z)[k]? = some y := ⟨_, List.getElem?_eq_getElem (by omega)⟩
    refine hw_skip ?_
    refine seqQ_n ?_
    refine hw_seq ?_
    refine hw_block ?_
    refine hw_draw (fun _ => True) [] mixed ?_
    refine ahp 0 rfl rfl (by kernel_rfl) (by kernel_rfl) (pop_move rfl) ?_
    refine ahp 1 rfl rfl (by kernel_rfl) (by kernel_rfl) (pop_move rfl) ?_
    refine ahp 2 rfl rfl (by kernel_rfl) (by kernel_rfl) (pop_sub64 rfl rfl (by omega) (by omega)) ?_
    refine ahp 3 rfl rfl (by kernel_rfl) (by kernel_rfl) (pop_idx (j := k - 1) (a := x) ty34 ty75 rfl rfl (by omega) hx) ?_
    refine ahp 4 rfl rfl (by kernel_rfl) (by kernel_rfl) (pop_loadw ty75 rfl rfl rfl rfl) ?_
    refine ahp 5 rfl rfl (by kernel_rfl) (by kernel_rfl) (pop_move rfl) ?_
    refine ahp 6 rfl rfl (by kernel_rfl) (by kernel_rfl) (pop_move rfl) ?_
    refine ahp 7 rfl rfl (by kernel_rfl) (by kernel_rfl) (pop_idx (j := k) (a := y) ty34 ty75 rfl rfl rfl hy) ?_
    refine ahp 8 rfl rfl (by kernel_rfl) (by kernel_rfl) (pop_loadw ty75 rfl rfl rfl rfl) ?_
    refine ahp 9 rfl rfl (by kernel_rfl) (by kernel_rfl) (pop_call ca80 rfl (WeakL.refl _) c_trade_byAnswer) ?_
    refine ahp 10 rfl rfl (by kernel_rfl) (by kernel_rfl) (pop_eql rfl rfl) ?_
    refine ahz (by kernel_rfl) ?_
    refine hw_cond rfl (fun h5 => ?_) (fun h6 => ?_)
    ·try simp at h5
     refine hw_reg ?_
     refine dp rfl (pop_assign rfl) ?_
     refine dp rfl (pop_assign rfl) ?_
     refine dn ?_
     refine hw_ret ?_
     first
     | exact ret_w rfl (weak_tup2 (by rw [mrgL, if_pos (by simpa using h1)]; exact weak_nil 4) (by rw [mrgE, if_pos (by simpa using h1)]; exact Weak.refl _))
     | (have hcf := mer_some byRep_cmp hms hns hz3 hz2 hx (by rw [show k - 1 + 1 = k by omega]; exact hy) (by assumption)
        exact ret_w rfl (weak_tup2 (by rw [mrgL, if_neg (by simpa using h2), if_pos hcf]; exact weak_nil 4) (by rw [mrgE, if_neg (by simpa using h2), if_pos hcf]; exact Weak.refl _)))
     | (refine ret_p rfl ?_
        rw [mrgL, mrgE, if_neg (by simpa using h2), if_neg (by simp [hcf]), if_neg (by simpa using h2), if_neg (by simp [hcf]), hme]; rfl)
    ·try simp at h6
     refine hw_skip ?_
     refine blockQ_n ?_
     refine seqQ_n ?_
     refine hw_reg1 ?_
     refine dp rfl (pop_move rfl) ?_
     refine dp rfl (pop_add64 rfl rfl (by omega) (by omega)) ?_
     refine dp rfl (pop_assign rfl) ?_
     refine dn ?_
     exact ⟨k + 1, ⟨by omega, fun i x2 y2 h3 h4 h5 => by
      rcases Nat.lt_or_ge (i + 1) k with q | q
      ·exact hadj i x2 y2 q h4 h5
      ·obtain rfl : i = k - 1 := by omega
       rw [hx] at h4; rw [show k - 1 + 1 = k by omega, hy] at h5
       rw [← Option.some.inj h4, ← Option.some.inj h5]; assumption⟩, by dsimp only; omega, ⟨rfl, trivial⟩, (by repeat (first | exact keeps_refl | refine keeps_upd rfl ?_ | refine keeps_loop rfl rfl ?_)), List.Perm.refl _⟩
   ·try simp at h4
    obtain ⟨hcf, hme⟩ := mer_none byRep_cmp hms hns hz3 hz2 (fun i x y h1 h2 => hadj i x y (by have := lt_of_get h2; omega) h1 h2)
    refine hw_exit ?_
    refine seqQ_x ?_
    refine loopQ_x ?_
    refine blockQ_eq ?_
    refine seqQ_n ?_
    refine hw_seq ?_
    refine hw_reg ?_
    refine dp rfl (pop_move rfl) ?_
    refine dp rfl (pop_lenm (f := eReply) (l := (uniqA none Z)) ty34 rfl) ?_
    refine dp rfl (pop_gtr rfl rfl) ?_
    refine dn ?_
    refine hw_cond rfl (fun h7 => ?_) (fun h7 => ?_)
    ·exfalso
     try simp at h7
     omega
    ·try simp at h7
     refine hw_skip ?_
     refine seqQ_n ?_
     refine hw_reg ?_
     refine dp rfl (pop_move rfl) ?_
     refine dp rfl (pop_assign rfl) ?_
     refine dp rfl (pop_assign rfl) ?_
     refine dn ?_
     refine hw_ret ?_
     first
     | exact ret_w rfl (weak_tup2 (by rw [mrgL, if_pos (by simpa using h1)]; exact weak_nil 4) (by rw [mrgE, if_pos (by simpa using h1)]; exact Weak.refl _))
     | (have hcf := mer_some byRep_cmp hms hns hz3 hz2 hx (by rw [show k - 1 + 1 = k by omega]; exact hy) (by assumption)
        exact ret_w rfl (weak_tup2 (by rw [mrgL, if_neg (by simpa using h2), if_pos hcf]; exact weak_nil 4) (by rw [mrgE, if_neg (by simpa using h2), if_pos hcf]; exact Weak.refl _)))
     | (refine ret_p rfl ?_
        rw [mrgL, mrgE, if_neg (by simpa using h2), if_neg (by simp [hcf]), if_neg (by simpa using h2), if_neg (by simp [hcf]), hme]; rfl)

/-- benchwarmer/benchref1.AnswersMerged$1 -/
theorem c_benchref1_AnswersMerged_1 [Tracks] {y x : ReplyS}  : ConP Tryz.prog 87 [eReply y, .vptr (hcells (eReply x)) 0] (.bool (decide (byRep x y = 0))) := by
 refine Con.of_body Tryz.func87 rfl Tryz.ntmps87 rfl rfl ?_
 refine hw_reg ?_
 refine dp rfl (pop_box rfl rfl) ?_
 refine dp rfl (pop_assign rfl) ?_
 refine dn ?_
 refine hw_reg ?_
 refine dp rfl (pop_loadw ty75 rfl rfl rfl rfl) ?_
 refine dp rfl (pop_loadw ty75 rfl rfl rfl rfl) ?_
 refine dp rfl (pop_call ca74 rfl (WeakL.refl _) c_benchref1_byAnswer) ?_
 refine dp rfl (pop_eql rfl rfl) ?_
 refine dp rfl (pop_assign rfl) ?_
 refine dn ?_
 refine hw_ret ?_
 refine ret_p rfl ?_
 show HVal.bool _ = _
 first | rfl | (simp; rfl)

set_option maxHeartbeats 1000000 in
/-- benchwarmer/benchref1.AnswersMerged -/
theorem c_benchref1_AnswersMerged [Tracks] {a c : List ReplyS} (ha : a.length ≤ 100) (hc : c.length ≤ 100) (hms : a.Pairwise fun x y => byRep x y < 0) (hns : c.Pairwise fun x y => byRep x y < 0) : ConP Tryz.prog 37 [eReplies a, eReplies c] (.tup [eReplies (if cflA byRep a c then [] else merS byRep a c), .int .i64 (if cflA byRep a c then 13 else 0)]) := by
 refine Con.of_body Tryz.func37 rfl Tryz.ntmps37 rfl rfl ?_
 refine hw_reg ?_
 refine dp rfl (pop_assign rfl) ?_
 refine dp rfl (pop_assign rfl) ?_
 refine dn ?_
 refine hw_reg ?_
 refine dp rfl (pop_move rfl) ?_
 refine de rfl (eop_calla ca85 rfl (WeakL.refl _) (c_slices_Clone_api_Answer_api_Answer (l := a) (by omega)) fun v11 => ?_)
 refine dp rfl (pop_assign rfl) ?_
 refine dn ?_
 refine hw_seq ?_
 refine hw_reg ?_
 refine dp rfl (pop_move rfl) ?_
 refine dp rfl (pop_lenm ty34 rfl) ?_
 refine dp rfl (pop_move rfl) ?_
 refine dn ?_
 refine hw_block ?_
 refine hw_loopw2 [4, 5, 6, 8, 9, 14, 15, 16, 17, 18, 19, 20, 21, 22, 23, 24, 25, 26, 27, 28, 29, 30, 31, 32, 33, 34, 35] (fun (k : Nat) (u : Value) => [(14, .int .i64 k), (6, .raw u)]) (fun (k : Nat) (u : Value) => [.arr u 4 ((addA byRep a (c.take k)).map eReply)]) (fun (k : Nat) (u : Value) => k ≤ c.length ∧ (cflA byRep a (c.take k) = false)) (fun (k : Nat) (u : Value) => c.length - k) (0) (v11) ?_ ?_ ?_ ?_
 ·exact ⟨Nat.zero_le _, by simp [cflA]⟩
 ·exact ⟨rfl, rfl, trivial⟩
 ·exact perm_eq (by simp [addA])
 ·intro k u hinv
  obtain ⟨hk, hcf⟩ := hinv
  refine hw_reg ?_
  refine dp rfl (pop_lss rfl rfl) ?_
  refine dn ?_
  refine hw_seq ?_
  refine hw_cond rfl (fun h1 => ?_) (fun h2 => ?_)
  ·try simp at h1
   obtain ⟨x, hx⟩ : ∃ x, c[k]? = some x := ⟨_, List.getElem?_eq_getElem h1⟩
   have hdx := drop_cons hx
   refine hw_skip ?_
   refine seqQ_n ?_
   refine hw_seq ?_
   refine hw_block ?_
   refine hw_reg ?_
   refine dp rfl (pop_idx ty34 ty75 rfl rfl rfl (by first | assumption | simp_all)) ?_
   refine dp rfl (pop_loadw ty75 rfl rfl rfl rfl) ?_
   refine de rfl (eop_alloc ty75 rfl fun b8 => ?_)
   refine de0 (eop_storew ty75 rfl rfl rfl rfl rfl ?_)
   refine dn ?_
   refine hw_ghost (Ghost.fc0 8 rfl) ?_
   refine hw_reg ?_
   refine dp rfl (pop_move rfl) ?_
   refine dp rfl (pop_makeFunc rfl rfl) ?_
   refine dp rfl (pop_call ca86 rfl (WeakL.refl _) (c_slices_IndexFunc_api_Answer_api_Answer (l := a) (p := fun y => decide (byRep x y = 0)) ca87 (fun _ => c_benchref1_AnswersMerged_1) (by omega))) ?_
   refine dp rfl (pop_assign rfl) ?_
   refine dn ?_
   refine hw_block ?_
   refine hw_reg ?_
   refine dp rfl (pop_move rfl) ?_
   refine dp rfl (pop_lss rfl rfl) ?_
   refine dp rfl (pop_assign rfl) ?_
   refine dn ?_
   refine hw_cond rfl (fun h3 => ?_) (fun h4 => ?_)
   ·try simp at h3
    have hnone : (a.any fun y => decide (byRep x y = 0)) = false := by rw [← idxF_nonneg _ a 0 (by omega)]; simp; omega
    refine hw_reg1 ?_
    refine dp rfl (pop_move rfl) ?_
    refine dp rfl (pop_loadw ty75 rfl rfl rfl rfl) ?_
    refine dp rfl (pop_buildSlice (hs := [_]) ty34 ty75 rfl rfl (by decide) (by decide) rfl) ?_
    refine de rfl (eop_append (i := 0) ty34 ty75 rfl rfl rfl rfl rfl (by simp [flat, hcells]) (by have := addA_len byRep a (c.take k); simp only [List.length_map, List.length_cons, List.length_nil, List.length_take] at *; omega) fun v27 => ?_)
    refine dp rfl (pop_assign rfl) ?_
    refine dn ?_
    refine blockQ_n ?_
    refine blockQ_n ?_
    refine seqQ_n ?_
    refine hw_reg1 ?_
    refine dp rfl (pop_add64 rfl rfl (by omega) (by omega)) ?_
    refine dp rfl (pop_move rfl) ?_
    refine dn ?_
    exact ⟨k + 1, v27, ⟨by omega, cfl_none hx hnone hcf⟩, by dsimp only; omega, ⟨rfl, rfl, trivial⟩, (by repeat (first | exact keeps_refl | refine keeps_upd rfl ?_ | refine keeps_loop rfl rfl ?_)), perm_eq (by dsimp only; rw [addA_yes hx hnone, List.map_append]; rfl)⟩
   ·try simp at h4
    obtain ⟨i0, hi0, hil, ⟨z, hz, hpz⟩, _⟩ := idxF_found (fun y => decide (byRep x y = 0)) a 0 (by omega) (by omega)
    rw [Int.zero_add] at hi0
    have hpz2 : byRep x z = 0 := by simpa using hpz
    have hzm := List.mem_of_getElem? hz
    have hany : (a.any fun y => decide (byRep x y = 0)) = true := List.any_eq_true.2 ⟨z, hzm, hpz⟩
    refine hw_draw (fun _ => True) [] mixed ?_
    refine ahp 0 rfl rfl (by kernel_rfl) (by kernel_rfl) (pop_move rfl) ?_
    refine ahp 1 rfl rfl (by kernel_rfl) (by kernel_rfl) (pop_move rfl) ?_
    refine ahp 2 rfl rfl (by kernel_rfl) (by kernel_rfl) (pop_idx (j := i0) (a := z) ty34 ty75 rfl rfl (by rw [hi0]) hz) ?_
    refine ahp 3 rfl rfl (by kernel_rfl) (by kernel_rfl) (pop_loadw ty75 rfl rfl rfl rfl) ?_
    refine ahp 4 rfl rfl (by kernel_rfl) (by kernel_rfl) (pop_loadw ty75 rfl rfl rfl rfl) ?_
    refine ahp 5 rfl rfl (by kernel_rfl) (by kernel_rfl) (pop_neqst ty75 eq75 rfl rfl ⟨rfl, ⟨_, _, _, _, ty9, rfl⟩, ⟨rfl, ⟨_, _, _, _, ty9, rfl⟩, ⟨rfl, ⟨_, _, _, _, ty3, rfl⟩, ⟨rfl, ⟨_, _, _, _, ty3, rfl⟩, trivial⟩⟩⟩⟩) ?_
    refine ahp 6 rfl rfl (by kernel_rfl) (by kernel_rfl) (pop_assign rfl) ?_
    refine ahz (by kernel_rfl) ?_
    refine hw_cond rfl (fun h5 => ?_) (fun h6 => ?_)
    ·try simp at h5
     refine hw_reg ?_
     refine dp rfl (pop_assign rfl) ?_
     refine dp rfl (pop_assign rfl) ?_
     refine dn ?_
     refine hw_ret ?_
     first
     | (have hzx : x ≠ z := fun q => by have q2 := (eqReply_is _ _).2 q.symm; simp_all
        have hc1 := cflA_at (List.mem_of_getElem? hx) hzm hpz2 hzx
        exact ⟨_, [], Ghost.clear, _, _, rfl, weak_tup2 (by rw [if_pos hc1]; first | done | exact weak_nil 4) (by rw [if_pos hc1]; first | done | exact Weak.refl _), rfl, rfl⟩)
     | (refine ret_fa (M := []) 4 rfl rfl ?_
        rw [if_neg (by simp [hcf]), if_neg (by simp [hcf])]; rfl)
    ·try simp at h6
     refine hw_skip ?_
     refine blockQ_n ?_
     refine blockQ_n ?_
     refine seqQ_n ?_
     refine hw_reg1 ?_
     refine dp rfl (pop_add64 rfl rfl (by omega) (by omega)) ?_
     refine dp rfl (pop_move rfl) ?_
     refine dn ?_
     have hzx : z = x := by
      refine (eqReply_is _ _).1 ?_
      simp_all
     exact ⟨k + 1, u, ⟨by omega, cfl_same byRep_cmp hms hx hzm hpz2 hzx.symm hcf⟩, by dsimp only; omega, ⟨rfl, rfl, trivial⟩, (by repeat (first | exact keeps_refl | refine keeps_upd rfl ?_ | refine keeps_loop rfl rfl ?_)), perm_eq (by dsimp only; rw [addA_no hx hany])⟩
  ·try simp at h2
   have hnk : c.length ≤ k := by omega
   obtain rfl : k = c.length := by omega
   rw [List.take_length] at hcf
   rw [List.take_length]
   refine hw_exit ?_
   refine seqQ_x ?_
   refine loopQ2_x ?_
   refine blockQ_eq ?_
   refine seqQ_n ?_
   refine hw_seq ?_
   have hal := addA_len byRep a c
   refine hw_reg ?_
   refine dp rfl (pop_move rfl) ?_
   refine de rfl (eop_lenm (i := 0) (es := (addA byRep a c)) ty34 rfl rfl ?_)
   refine dp rfl (pop_gtr rfl rfl) ?_
   refine dn ?_
   refine hw_cond rfl (fun h7 => ?_) (fun h7 => ?_)
   ·exfalso
    try simp at h7
    omega
   ·try simp at h7
    refine hw_skip ?_
    refine seqQ_n ?_
    refine hw_reg ?_
    refine dp rfl (pop_move rfl) ?_
    refine de rfl (eop_callx (i := 0) ca88 rfl (WeakL.refl _) rfl (c_sort_Answer (c := byRep) (swo_cmp byRep_cmp) ca74 (fun _ _ => @c_benchref1_byAnswer trackOn _ _) (l := addA byRep a c) (by omega)) ?_)
    rintro _ _ ⟨l', rfl, hp', hw', rfl⟩
    obtain rfl := mer_sorted byRep_cmp hms hns hp' hw'
    refine dn ?_
    refine hw_reg ?_
    refine dp rfl (pop_move rfl) ?_
    refine dp rfl (pop_assign rfl) ?_
    refine dp rfl (pop_assign rfl) ?_
    refine dn ?_
    refine hw_ret ?_
    first
    | (have hzx : x ≠ z := fun q => by have q2 := (eqReply_is _ _).2 q.symm; simp_all
       have hc1 := cflA_at (List.mem_of_getElem? hx) hzm hpz2 hzx
       exact ⟨_, [], Ghost.clear, _, _, rfl, weak_tup2 (by rw [if_pos hc1]; first | done | exact weak_nil 4) (by rw [if_pos hc1]; first | done | exact Weak.refl _), rfl, rfl⟩)
    | (refine ret_fa (M := []) 4 rfl rfl ?_
       rw [if_neg (by simp [hcf]), if_neg (by simp [hcf])]; rfl)
end Go.Proofs.YtfkobanmdpbjkaaGreatDoor
end
section
namespace Go.HL
theorem eqReplies_refl : ∀ l : List ReplyS, eqSts eReply l l = true
 | [] => rfl
 | a :: r => by simp [eqSts, eqSt, eqReplies_refl r, hcells, eqHL, eqH]
theorem eqOwners_refl : ∀ l : List OwnerS, eqSts eOwner l l = true
 | [] => rfl
 | a :: r => by simp [eqSts, eqSt, eqOwners_refl r, hcells, eqHL, eqH]
theorem chk_ok {m : MarketS} (h : marketE m = 0) (o : List OwnerS) (x : List DealS) (a c : List ReplyS) :
 ownersR m o = ownersE m o ∧ dealsR m x = dealsE m x ∧ repsR m a = repsE m a ∧ orI [repsE m a, repsR m c] = orI [repsE m a, repsE m c] := by
 have h1 : ¬ marketE m ≠ 0 := by simp [h]
 have hr : ∀ z, repsR m z = repsE m z := fun z => by rw [repsE, if_neg h1]
 exact ⟨by rw [ownersE, if_neg h1], by rw [dealsE, if_neg h1], hr a, by rw [hr c]⟩
theorem orI_same (n : Int) : orI [n, n] = n := by rw [orI2]; split <;> rfl
theorem chk_bad {m : MarketS} (h : marketE m ≠ 0) (o : List OwnerS) (x : List DealS) (a c : List ReplyS) :
 marketE m = ownersE m o ∧ marketE m = dealsE m x ∧ marketE m = repsE m a ∧ marketE m = orI [repsE m a, repsE m c] := by
 have hr : ∀ z, repsE m z = marketE m := fun z => by rw [repsE, if_pos h]
 exact ⟨by rw [ownersE, if_pos h], by rw [dealsE, if_pos h], (hr a).symm, by rw [hr a, hr c, orI_same]⟩
theorem mrg_ok {m : MarketS} {a c : List ReplyS} (h : orI [repsE m a, repsE m c] = 0) :
 (if cflA byRep a c then [] else merS byRep a c) = mrgL m a c ∧ (if cflA byRep a c then 13 else 0) = mrgE m a c := by
 have h1 : ¬ orI [repsE m a, repsE m c] ≠ 0 := by simp [h]
 exact ⟨by rw [mrgL, if_neg h1], by rw [mrgE, if_neg h1]⟩
theorem mrg_bad {m : MarketS} {a c : List ReplyS} (h : orI [repsE m a, repsE m c] ≠ 0) : [] = mrgL m a c ∧ orI [repsE m a, repsE m c] = mrgE m a c :=
 ⟨by rw [mrgL, if_pos h], by rw [mrgE, if_pos h]⟩
theorem mrg_reps {m : MarketS} {a c : List ReplyS} (h : orI [repsE m a, repsE m c] = 0) : (a.Pairwise fun x y => byRep x y < 0) ∧ c.Pairwise fun x y => byRep x y < 0 := by
 obtain ⟨h1, h2⟩ := or2_zero h
 exact ⟨(repsR_ok (repsE_ok h1).2).2.2, (repsR_ok (repsE_ok h2).2).2.2⟩
theorem mrg_len (m : MarketS) (a c : List ReplyS) : (mrgL m a c).length ≤ a.length + c.length := by
 unfold mrgL
 split
 ·simp
 split
 ·simp
 ·exact merS_len _ _ _
theorem one_ok2 {m : MarketS} (h : marketE m = 0) (o : List OwnerS) (z : DealS) : dealsR m [z] = dealsE m [z] ∧ orI [ownersE m o, dealsE m [z]] = tradeE m o z := by
 have h1 : ¬ marketE m ≠ 0 := by simp [h]
 exact ⟨by rw [dealsE, if_neg h1], rfl⟩
theorem one_bad2 {m : MarketS} (h : marketE m ≠ 0) (o : List OwnerS) (z : DealS) : marketE m = dealsE m [z] ∧ marketE m = tradeE m o z := by
 have h1 : dealsE m [z] = marketE m := by rw [dealsE, if_pos h]
 have h2 : ownersE m o = marketE m := by rw [ownersE, if_pos h]
 exact ⟨h1.symm, by rw [tradeE, h1, h2, orI_same]⟩
theorem did_same {m : MarketS} {o : List OwnerS} {z : DealS} (h : tradeE m o z = 0) : didRL m o z.Gives = didL m o z ∧ didE m o z = (if !(didB m o z.Gives) then 11 else 0) := by
 cases hb : didB m o z.Gives with
 | true =>
   obtain ⟨e1, e2⟩ := didL_yes h hb
   exact ⟨by rw [didRL_yes hb, e1], by rw [e2]; rfl⟩
 | false =>
   obtain ⟨e1, e2⟩ := didL_no h hb
   exact ⟨by rw [didRL_no hb, e1], by rw [e2]; rfl⟩
theorem conc_len2 {m : MarketS} {z : DealS} : (concD m z).length ≤ 2 * z.Gives.length := by
 unfold concD
 split
 ·simp
 ·exact concL_len _
theorem conc_ok {m : MarketS} {z : DealS} (h : dealsE m [z] = 0) : concD m z = concL z.Gives := by unfold concD; rw [if_neg (by simp [h])]
theorem conc_bad {m : MarketS} {z : DealS} (h : dealsE m [z] ≠ 0) : concD m z = [] := by unfold concD; rw [if_pos h]
theorem didV_len {o : List OwnerS} : ∀ (l : List GiveS) (p d : List OwnerS), p.length = o.length → didF p l = some d → d.length = o.length
 | [], p, d, hp, h => by rw [didF] at h; cases h; exact hp
 | g :: r, p, d, hp, h => by
   rw [didF] at h
   cases hs : stepO p g with
   | none => rw [hs] at h; cases h
   | some q =>
     rw [hs] at h
     refine didV_len r q d ?_ h
     unfold stepO at hs
     split at hs
     ·split at hs
      ·cases hs; simpa using hp
      ·cases hs
     ·cases hs
theorem didL_len0 {m : MarketS} {o : List OwnerS} {z : DealS} : (didL m o z).length ≤ o.length := by
 unfold didL
 split
 ·simp
 split
 ·unfold didV
  cases h : didF o z.Gives with
  | none => simp
  | some d => exact Nat.le_of_eq (didV_len z.Gives o d rfl h)
 ·simp
def market1 : MarketS := ⟨[[97], [98]], 1, 0, 345686400000, 0, 2⟩
def deal1 : DealS := ⟨[111], [97], 0, 1, [⟨[112], [97], [98]⟩]⟩
theorem sort1 : sortS [[97], [98]] = [[97], [98]] := by
 unfold sortS; exact List.mergeSort_of_pairwise (by simp; decide)
theorem conc1 : concL [⟨[112], [97], [98]⟩] = [[97], [98]] := by
 show Lib.compact (sortS [[97], [98]]) = _
 rw [sort1, compact_uniq]; rfl
theorem deal1_ok1 : dealF market1 deal1 = 0 := by
 have h1 : givesE market1 deal1.Gives = 0 := by kernel_rfl
 have h2 : (concL deal1.Gives).contains deal1.By = true := by show (concL [⟨[112], [97], [98]⟩]).contains [97] = true; rw [conc1]; rfl
 have h3 : key deal1.Id = true := by kernel_rfl
 have h4 : market1.Teams.contains deal1.By = true := by kernel_rfl
 have h5 : (out deal1.To 1 345686400000 || out deal1.From 0 (deal1.To - 1)) = false := by kernel_rfl
 unfold dealF
 rw [h1, h2, h3, h4, h5]
 rfl
theorem market1_ok : marketE market1 = 0 := by kernel_rfl
theorem trade1_ok : tradeE market1 [⟨[112], [97]⟩] deal1 = 0 := by
 have h1 : ownersE market1 [⟨[112], [97]⟩] = 0 := by kernel_rfl
 have h2 : dealsE market1 [deal1] = 0 := by rw [← (one_ok2 market1_ok [] deal1).1, dealsR_one, deal1_ok1]
 rw [tradeE, h1, h2]; rfl
theorem did1_b : didB market1 [⟨[112], [97]⟩] deal1.Gives = true := by kernel_rfl
theorem did1_l : didL market1 [⟨[112], [97]⟩] deal1 = [⟨[112], [98]⟩] := by
 rw [(didL_yes trade1_ok did1_b).1]; kernel_rfl
theorem did1_e : didE market1 [⟨[112], [97]⟩] deal1 = 0 := (didL_yes trade1_ok did1_b).2
end Go.HL
end
section
namespace Go.Proofs.YtfkobanmdpbjkaaGreatDoor
open Go.HL
set_option maxRecDepth 100000
set_option linter.unusedVariables false
set_option linter.unusedSimpArgs false
/-- slices.Equal[[]benchwarmer/api.Answer,benchwarmer/api.Answer] -/
theorem c_slices_Equal_api_Answer_api_Answer [Tracks] {l m : List ReplyS} (hl : l.length ≤ 1000000) : ConP Tryz.prog 38 [eReplies l, eReplies m] (.bool (eqSts eReply l m)) := by
 refine Con.of_body Tryz.func38 rfl Tryz.ntmps38 rfl rfl ?_
 refine hw_reg ?_
 refine dp rfl (pop_assign rfl) ?_
 refine dn ?_
 refine hw_seq ?_
 refine hw_reg ?_
 refine dp rfl (pop_move rfl) ?_
 refine dp rfl (pop_lenm ty34 rfl) ?_
 refine dp rfl (pop_move rfl) ?_
 refine dp rfl (pop_lenm ty34 rfl) ?_
 refine dp rfl (pop_neq rfl rfl) ?_
 refine dn ?_
 refine hw_cond rfl (fun h1 => ?_) (fun h2 => ?_)
 ·try simp at h1
  refine hw_reg ?_
  refine dp rfl (pop_assign rfl) ?_
  refine dn ?_
  refine hw_ret ?_
  refine ret_p rfl ?_
  show HVal.bool _ = _
  first | (congr 1; symm; exact eqSts_len (by omega)) | (rw [hg.2, eqSts, show eqSt eReply x y = false from h5]; rfl) | (rw [hg.2, drop_all (Nat.le_of_eq hg.1.symm)]; rfl)
 ·try simp at h2
  refine hw_skip ?_
  refine seqQ_n ?_
  refine hw_seq ?_
  refine hw_reg ?_
  refine dp rfl (pop_move rfl) ?_
  refine dp rfl (pop_lenm ty34 rfl) ?_
  refine dp rfl (pop_move rfl) ?_
  refine dn ?_
  refine hw_block ?_
  refine hw_loopw [4, 5, 13, 14, 15, 16, 17, 18, 19, 20, 21, 22, 23, 24, 25] (fun (k : Nat) => [(13, .int .i64 k)]) (fun (k : Nat) => []) (fun (k : Nat) => k ≤ l.length ∧ (l.length = m.length ∧ eqSts eReply l m = eqSts eReply (l.drop k) (m.drop k))) (fun (k : Nat) => l.length - k) (0) ?_ ?_ ?_ ?_
  ·refine ⟨Nat.zero_le _, ?_, rfl⟩
   omega
  ·exact ⟨rfl, trivial⟩
  ·exact List.Perm.refl _
  ·intro k hinv
   obtain ⟨hk, hg⟩ := hinv
   refine hw_reg ?_
   refine dp rfl (pop_lss rfl rfl) ?_
   refine dn ?_
   refine hw_seq ?_
   refine hw_cond rfl (fun h3 => ?_) (fun h4 => ?_)
   ·try simp at h3
    obtain ⟨x, hx⟩ : ∃ x, l[k]? = some x := ⟨_, List.getElem?_eq_getElem h3⟩
    have hdx := drop_cons hx
    obtain ⟨y, hy⟩ : ∃ y, m[k]? = some y := ⟨_, List.getElem?_eq_getElem (by omega)⟩
    rw [hdx, drop_cons hy] at hg
    refine hw_skip ?_
    refine seqQ_n ?_
    refine hw_seq ?_
    refine hw_block ?_
    refine hw_reg ?_
    refine dp rfl (pop_move rfl) ?_
    refine dp rfl (pop_assign rfl) ?_
    refine dn ?_
    refine hw_draw (fun _ => True) [] mixed ?_
    refine ahp 0 rfl rfl (by kernel_rfl) (by kernel_rfl) (pop_move rfl) ?_
    refine ahp 1 rfl rfl (by kernel_rfl) (by kernel_rfl) (pop_move rfl) ?_
    refine ahp 2 rfl rfl (by kernel_rfl) (by kernel_rfl) (pop_idx ty34 ty75 rfl rfl rfl (by first | assumption | simp_all)) ?_
    refine ahp 3 rfl rfl (by kernel_rfl) (by kernel_rfl) (pop_loadw ty75 rfl rfl rfl rfl) ?_
    refine ahp 4 rfl rfl (by kernel_rfl) (by kernel_rfl) (pop_move rfl) ?_
    refine ahp 5 rfl rfl (by kernel_rfl) (by kernel_rfl) (pop_move rfl) ?_
    refine ahp 6 rfl rfl (by kernel_rfl) (by kernel_rfl) (pop_idx ty34 ty75 rfl rfl rfl (by first | assumption | simp_all)) ?_
    refine ahp 7 rfl rfl (by kernel_rfl) (by kernel_rfl) (pop_loadw ty75 rfl rfl rfl rfl) ?_
    refine ahp 8 rfl rfl (by kernel_rfl) (by kernel_rfl) (pop_neqst ty75 eq75 rfl rfl ⟨rfl, ⟨_, _, _, _, ty9, rfl⟩, ⟨rfl, ⟨_, _, _, _, ty9, rfl⟩, ⟨rfl, ⟨_, _, _, _, ty3, rfl⟩, ⟨rfl, ⟨_, _, _, _, ty3, rfl⟩, trivial⟩⟩⟩⟩) ?_
    refine ahz (by kernel_rfl) ?_
    refine hw_cond rfl (fun h5 => ?_) (fun h6 => ?_)
    ·try simp at h5
     refine hw_reg ?_
     refine dp rfl (pop_assign rfl) ?_
     refine dn ?_
     refine hw_ret ?_
     refine ret_p rfl ?_
     show HVal.bool _ = _
     first | (congr 1; symm; exact eqSts_len (by omega)) | (rw [hg.2, eqSts, show eqSt eReply x y = false from h5]; rfl) | (rw [hg.2, drop_all (Nat.le_of_eq hg.1.symm)]; rfl)
    ·try simp at h6
     refine hw_skip ?_
     refine blockQ_n ?_
     refine seqQ_n ?_
     refine hw_reg1 ?_
     refine dp rfl (pop_add64 rfl rfl (by omega) (by omega)) ?_
     refine dp rfl (pop_move rfl) ?_
     refine dn ?_
     refine ⟨k + 1, ?_, ?_, ⟨rfl, trivial⟩, (by repeat (first | exact keeps_refl | refine keeps_upd rfl ?_ | refine keeps_loop rfl rfl ?_)), List.Perm.refl _⟩
     ·refine ⟨by omega, hg.1, ?_⟩
      rw [hg.2, eqSts, show eqSt eReply x y = true from h6]; rfl
     ·dsimp only; omega
   ·try simp at h4
    have hnk : l.length ≤ k := by omega
    obtain rfl : k = l.length := by omega
    rw [drop_all (Nat.le_refl _)] at hg
    refine hw_exit ?_
    refine seqQ_x ?_
    refine loopQ_x ?_
    refine blockQ_eq ?_
    refine seqQ_n ?_
    refine hw_reg ?_
    refine dp rfl (pop_assign rfl) ?_
    refine dn ?_
    refine hw_ret ?_
    refine ret_p rfl ?_
    show HVal.bool _ = _
    first | (congr 1; symm; exact eqSts_len (by omega)) | (rw [hg.2, eqSts, show eqSt eReply x y = false from h5]; rfl) | (rw [hg.2, drop_all (Nat.le_of_eq hg.1.symm)]; rfl)

/-- slices.Equal[[]benchwarmer/api.Owner,benchwarmer/api.Owner] -/
theorem c_slices_Equal_api_Owner_api_Owner [Tracks] {l m : List OwnerS} (hl : l.length ≤ 1000000) : ConP Tryz.prog 25 [eOwners l, eOwners m] (.bool (eqSts eOwner l m)) := by
 refine Con.of_body Tryz.func25 rfl Tryz.ntmps25 rfl rfl ?_
 refine hw_reg ?_
 refine dp rfl (pop_assign rfl) ?_
 refine dn ?_
 refine hw_seq ?_
 refine hw_reg ?_
 refine dp rfl (pop_move rfl) ?_
 refine dp rfl (pop_lenm ty30 rfl) ?_
 refine dp rfl (pop_move rfl) ?_
 refine dp rfl (pop_lenm ty30 rfl) ?_
 refine dp rfl (pop_neq rfl rfl) ?_
 refine dn ?_
 refine hw_cond rfl (fun h1 => ?_) (fun h2 => ?_)
 ·try simp at h1
  refine hw_reg ?_
  refine dp rfl (pop_assign rfl) ?_
  refine dn ?_
  refine hw_ret ?_
  refine ret_p rfl ?_
  show HVal.bool _ = _
  first | (congr 1; symm; exact eqSts_len (by omega)) | (rw [hg.2, eqSts, show eqSt eOwner x y = false from h5]; rfl) | (rw [hg.2, drop_all (Nat.le_of_eq hg.1.symm)]; rfl)
 ·try simp at h2
  refine hw_skip ?_
  refine seqQ_n ?_
  refine hw_seq ?_
  refine hw_reg ?_
  refine dp rfl (pop_move rfl) ?_
  refine dp rfl (pop_lenm ty30 rfl) ?_
  refine dp rfl (pop_move rfl) ?_
  refine dn ?_
  refine hw_block ?_
  refine hw_loopw [4, 5, 13, 14, 15, 16, 17, 18, 19, 20, 21, 22, 23, 24, 25] (fun (k : Nat) => [(13, .int .i64 k)]) (fun (k : Nat) => []) (fun (k : Nat) => k ≤ l.length ∧ (l.length = m.length ∧ eqSts eOwner l m = eqSts eOwner (l.drop k) (m.drop k))) (fun (k : Nat) => l.length - k) (0) ?_ ?_ ?_ ?_
  ·refine ⟨Nat.zero_le _, ?_, rfl⟩
   omega
  ·exact ⟨rfl, trivial⟩
  ·exact List.Perm.refl _
  ·intro k hinv
   obtain ⟨hk, hg⟩ := hinv
   refine hw_reg ?_
   refine dp rfl (pop_lss rfl rfl) ?_
   refine dn ?_
   refine hw_seq ?_
   refine hw_cond rfl (fun h3 => ?_) (fun h4 => ?_)
   ·try simp at h3
    obtain ⟨x, hx⟩ : ∃ x, l[k]? = some x := ⟨_, List.getElem?_eq_getElem h3⟩
    have hdx := drop_cons hx
    obtain ⟨y, hy⟩ : ∃ y, m[k]? = some y := ⟨_, List.getElem?_eq_getElem (by omega)⟩
    rw [hdx, drop_cons hy] at hg
    refine hw_skip ?_
    refine seqQ_n ?_
    refine hw_seq ?_
    refine hw_block ?_
    refine hw_reg ?_
    refine dp rfl (pop_move rfl) ?_
    refine dp rfl (pop_assign rfl) ?_
    refine dn ?_
    refine hw_draw (fun _ => True) [] mixed ?_
    refine ahp 0 rfl rfl (by kernel_rfl) (by kernel_rfl) (pop_move rfl) ?_
    refine ahp 1 rfl rfl (by kernel_rfl) (by kernel_rfl) (pop_move rfl) ?_
    refine ahp 2 rfl rfl (by kernel_rfl) (by kernel_rfl) (pop_idx ty30 ty62 rfl rfl rfl (by first | assumption | simp_all)) ?_
    refine ahp 3 rfl rfl (by kernel_rfl) (by kernel_rfl) (pop_loadw ty62 rfl rfl rfl rfl) ?_
    refine ahp 4 rfl rfl (by kernel_rfl) (by kernel_rfl) (pop_move rfl) ?_
    refine ahp 5 rfl rfl (by kernel_rfl) (by kernel_rfl) (pop_move rfl) ?_
    refine ahp 6 rfl rfl (by kernel_rfl) (by kernel_rfl) (pop_idx ty30 ty62 rfl rfl rfl (by first | assumption | simp_all)) ?_
    refine ahp 7 rfl rfl (by kernel_rfl) (by kernel_rfl) (pop_loadw ty62 rfl rfl rfl rfl) ?_
    refine ahp 8 rfl rfl (by kernel_rfl) (by kernel_rfl) (pop_neqst ty62 eq62 rfl rfl ⟨rfl, ⟨_, _, _, _, ty9, rfl⟩, ⟨rfl, ⟨_, _, _, _, ty9, rfl⟩, trivial⟩⟩) ?_
    refine ahz (by kernel_rfl) ?_
    refine hw_cond rfl (fun h5 => ?_) (fun h6 => ?_)
    ·try simp at h5
     refine hw_reg ?_
     refine dp rfl (pop_assign rfl) ?_
     refine dn ?_
     refine hw_ret ?_
     refine ret_p rfl ?_
     show HVal.bool _ = _
     first | (congr 1; symm; exact eqSts_len (by omega)) | (rw [hg.2, eqSts, show eqSt eOwner x y = false from h5]; rfl) | (rw [hg.2, drop_all (Nat.le_of_eq hg.1.symm)]; rfl)
    ·try simp at h6
     refine hw_skip ?_
     refine blockQ_n ?_
     refine seqQ_n ?_
     refine hw_reg1 ?_
     refine dp rfl (pop_add64 rfl rfl (by omega) (by omega)) ?_
     refine dp rfl (pop_move rfl) ?_
     refine dn ?_
     refine ⟨k + 1, ?_, ?_, ⟨rfl, trivial⟩, (by repeat (first | exact keeps_refl | refine keeps_upd rfl ?_ | refine keeps_loop rfl rfl ?_)), List.Perm.refl _⟩
     ·refine ⟨by omega, hg.1, ?_⟩
      rw [hg.2, eqSts, show eqSt eOwner x y = true from h6]; rfl
     ·dsimp only; omega
   ·try simp at h4
    have hnk : l.length ≤ k := by omega
    obtain rfl : k = l.length := by omega
    rw [drop_all (Nat.le_refl _)] at hg
    refine hw_exit ?_
    refine seqQ_x ?_
    refine loopQ_x ?_
    refine blockQ_eq ?_
    refine seqQ_n ?_
    refine hw_reg ?_
    refine dp rfl (pop_assign rfl) ?_
    refine dn ?_
    refine hw_ret ?_
    refine ret_p rfl ?_
    show HVal.bool _ = _
    first | (congr 1; symm; exact eqSts_len (by omega)) | (rw [hg.2, eqSts, show eqSt eOwner x y = false from h5]; rfl) | (rw [hg.2, drop_all (Nat.le_of_eq hg.1.symm)]; rfl)

/-- benchwarmer/benchlaw1.traded -/
theorem c_benchlaw1_traded [Tracks]   : ConP Tryz.prog 27 [] (.bool true) := by
 refine Con.of_body Tryz.func27 rfl Tryz.ntmps27 rfl rfl ?_
 refine hw_reg ?_
 refine dp rfl (pop_assign rfl) ?_
 refine dn ?_
 refine hw_reg ?_
 refine dp rfl (pop_buildSlice (hs := [_, _]) ty26 ty9 rfl rfl (by decide) (by decide) rfl) ?_
 refine dp rfl (pop_build (cs := [_, _, _, _, _, _]) ty28 pl28 rfl) ?_
 refine de rfl (eop_alloc ty28 rfl fun b1 => ?_)
 refine de0 (eop_storew ty28 rfl rfl rfl rfl rfl ?_)
 refine dn ?_
 refine hw_ghost (Ghost.fc0 1 rfl) ?_
 refine hw_reg ?_
 refine dp rfl (pop_loadw ty28 rfl rfl rfl rfl) ?_
 refine dp rfl (pop_build (cs := [_, _]) ty62 pl62 rfl) ?_
 refine dp rfl (pop_buildSlice (hs := [_]) ty30 ty62 rfl rfl (by decide) (by decide) rfl) ?_
 refine dp rfl (pop_build (cs := [_, _]) ty77 pl77 rfl) ?_
 refine dp rfl (pop_build (cs := [_, _, _]) ty99 pl99 rfl) ?_
 refine dp rfl (pop_buildSlice (hs := [_]) ty78 ty99 rfl rfl (by decide) (by decide) rfl) ?_
 refine dp rfl (pop_build (cs := [_, _, _, _, _]) ty80 pl80 rfl) ?_
 refine dp rfl (pop_call ca42 rfl (WeakL.refl _) (c_trade_Did (m := market1) (o := [⟨[112], [97]⟩]) (x := deal1) (by decide) (by decide) (by decide) (by decide))) ?_
 refine dp rfl (pop_move rfl) ?_
 refine dp rfl (pop_extract rfl rfl) ?_
 refine dp rfl (pop_extract rfl rfl) ?_
 refine dp rfl (pop_assign rfl) ?_
 refine dp rfl (pop_assign rfl) ?_
 refine dn ?_
 rw [did1_l, did1_e]
 refine hw_reg ?_
 refine dp rfl (pop_move rfl) ?_
 refine dp rfl (pop_eql rfl rfl) ?_
 refine dp rfl (pop_move rfl) ?_
 refine dg rfl rfl (fun hc => ⟨_, OpenTo.refl _, pop_move rfl⟩) ?_
 refine dg rfl rfl (fun hc => ⟨_, OpenTo.refl _, pop_build (cs := [_, _]) ty62 pl62 rfl⟩) ?_
 refine dg rfl rfl (fun hc => ⟨_, OpenTo.upd (t := 21) rfl (by first | exact hc | simp_all) (OpenTo.refl _), pop_buildSlice (hs := [_]) ty30 ty62 rfl rfl (by decide) (by decide) rfl⟩) ?_
 refine dg rfl rfl (fun hc => ⟨_, OpenTo.upd (t := 22) rfl (by first | exact hc | simp_all) (OpenTo.upd (t := 20) rfl (by first | exact hc | simp_all) (OpenTo.refl _)), pop_call ca25 rfl (WeakL.refl _) (c_slices_Equal_api_Owner_api_Owner (l := [⟨[112], [98]⟩]) (m := [⟨[112], [98]⟩]) (by decide))⟩) ?_
 refine dp rfl (pop_picko rfl (.inr ⟨_, rfl, fun h => by simp_all⟩) (.inl rfl)) ?_
 refine dp rfl (pop_assign rfl) ?_
 refine dn ?_
 refine hw_ret ?_
 refine ret_p rfl ?_
 rfl

set_option maxHeartbeats 4000000 in
/-- benchwarmer/benchlaw1.OffersChecked -/
theorem c_benchlaw1_OffersChecked [Tracks] {l : List Int}  : ConP Tryz.prog 4 [.slice 1 (l.map (.int .i64))] (.bool true) := by
 refine Con.of_body Tryz.func4 rfl Tryz.ntmps4 rfl rfl ?_
 refine hw_reg ?_
 refine dp rfl (pop_assign rfl) ?_
 refine dn ?_
 refine hw_reg ?_
 refine dp rfl (pop_move rfl) ?_
 refine dp rfl (pop_build (cs := [_, _]) ty25 pl25 rfl) ?_
 refine de rfl (eop_box rfl rfl fun b => ?_)
 refine dghost (M' := [St b l 0]) rfl ?_
 refine dp rfl (pop_assign rfl) ?_
 refine dn ?_
 refine hw_reg ?_
 refine dp rfl (pop_move rfl) ?_
 first
 | refine de rfl (eop_callx (i := 0) ca5 rfl (WeakL.refl _) rfl (c_benchmake_Stream_MarketOf (by first | assumption | omega | (simp; omega) | simp_all)) ?_)
 | refine de rfl (eop_callx (i := 1) ca5 rfl (WeakL.refl _) rfl (c_benchmake_Stream_MarketOf (by first | assumption | omega | (simp; omega) | simp_all)) ?_)
 | refine de rfl (eop_callx (i := 2) ca5 rfl (WeakL.refl _) rfl (c_benchmake_Stream_MarketOf (by first | assumption | omega | (simp; omega) | simp_all)) ?_)
 | refine de rfl (eop_callx (i := 3) ca5 rfl (WeakL.refl _) rfl (c_benchmake_Stream_MarketOf (by first | assumption | omega | (simp; omega) | simp_all)) ?_)
 rintro _ _ ⟨m31, a31, rfl, hm31, ha31, rfl⟩
 refine de rfl (eop_alloc ty28 rfl fun b4 => ?_)
 refine de0 (eop_storew ty28 rfl rfl rfl rfl rfl ?_)
 refine dn ?_
 refine hw_ghost (Ghost.fc0 4 rfl) ?_
 refine hw_reg ?_
 refine dp rfl (pop_move rfl) ?_
 refine dp rfl (pop_loadw ty28 rfl rfl rfl rfl) ?_
 first
 | refine de rfl (eop_callx (i := 0) ca6 rfl (WeakL.refl _) rfl (c_benchmake_Stream_OwnerList (by first | assumption | omega | (simp; omega) | simp_all) (by first | assumption | omega | (simp; omega) | simp_all)) ?_)
 | refine de rfl (eop_callx (i := 1) ca6 rfl (WeakL.refl _) rfl (c_benchmake_Stream_OwnerList (by first | assumption | omega | (simp; omega) | simp_all) (by first | assumption | omega | (simp; omega) | simp_all)) ?_)
 | refine de rfl (eop_callx (i := 2) ca6 rfl (WeakL.refl _) rfl (c_benchmake_Stream_OwnerList (by first | assumption | omega | (simp; omega) | simp_all) (by first | assumption | omega | (simp; omega) | simp_all)) ?_)
 | refine de rfl (eop_callx (i := 3) ca6 rfl (WeakL.refl _) rfl (c_benchmake_Stream_OwnerList (by first | assumption | omega | (simp; omega) | simp_all) (by first | assumption | omega | (simp; omega) | simp_all)) ?_)
 rintro _ _ ⟨o34, a34, rfl, ho34, ha34, rfl⟩
 refine dp rfl (pop_assign rfl) ?_
 refine dn ?_
 refine hw_draw (fun _ => True) [] mixed ?_
 refine ahp 0 rfl rfl (by kernel_rfl) (by kernel_rfl) (pop_move rfl) ?_
 refine ahp 1 rfl rfl (by kernel_rfl) (by kernel_rfl) (pop_loadw ty28 rfl rfl rfl rfl) ?_
 refine ahp 2 rfl rfl (by kernel_rfl) (by kernel_rfl) (pop_move rfl) ?_
 refine ahp 4 rfl rfl (by kernel_rfl) (by kernel_rfl) (pop_move rfl) ?_
 refine ahp 5 rfl rfl (by kernel_rfl) (by kernel_rfl) (pop_loadw ty28 rfl rfl rfl rfl) ?_
 refine ahp 7 rfl rfl (by kernel_rfl) (by kernel_rfl) (pop_move rfl) ?_
 refine ahp 8 rfl rfl (by kernel_rfl) (by kernel_rfl) (pop_loadw ty28 rfl rfl rfl rfl) ?_
 refine ahe 3 rfl (by kernel_rfl) ?_
 first
 | refine hop_e rfl (eop_callx (i := 0) ca7 rfl (WeakL.refl _) rfl (c_benchmake_Stream_OfferList (by first | assumption | omega | (simp; omega) | simp_all) (by first | assumption | omega | (simp; omega) | simp_all) (by first | assumption | omega | (simp; omega) | simp_all)) ?_)
 | refine hop_e rfl (eop_callx (i := 1) ca7 rfl (WeakL.refl _) rfl (c_benchmake_Stream_OfferList (by first | assumption | omega | (simp; omega) | simp_all) (by first | assumption | omega | (simp; omega) | simp_all) (by first | assumption | omega | (simp; omega) | simp_all)) ?_)
 | refine hop_e rfl (eop_callx (i := 2) ca7 rfl (WeakL.refl _) rfl (c_benchmake_Stream_OfferList (by first | assumption | omega | (simp; omega) | simp_all) (by first | assumption | omega | (simp; omega) | simp_all) (by first | assumption | omega | (simp; omega) | simp_all)) ?_)
 | refine hop_e rfl (eop_callx (i := 3) ca7 rfl (WeakL.refl _) rfl (c_benchmake_Stream_OfferList (by first | assumption | omega | (simp; omega) | simp_all) (by first | assumption | omega | (simp; omega) | simp_all) (by first | assumption | omega | (simp; omega) | simp_all)) ?_)
 rintro _ _ ⟨x38, a38, rfl, hx38, hxo38, ha38, rfl⟩
 refine ⟨fun _ => .inl trivial, ?_⟩
 refine ahe 6 rfl (by kernel_rfl) ?_
 first
 | refine hop_e rfl (eop_callx (i := 0) ca8 rfl (WeakL.refl _) rfl (c_benchmake_Stream_AnswerList (by first | assumption | omega | (simp; omega) | simp_all) (by first | assumption | omega | (simp; omega) | simp_all)) ?_)
 | refine hop_e rfl (eop_callx (i := 1) ca8 rfl (WeakL.refl _) rfl (c_benchmake_Stream_AnswerList (by first | assumption | omega | (simp; omega) | simp_all) (by first | assumption | omega | (simp; omega) | simp_all)) ?_)
 | refine hop_e rfl (eop_callx (i := 2) ca8 rfl (WeakL.refl _) rfl (c_benchmake_Stream_AnswerList (by first | assumption | omega | (simp; omega) | simp_all) (by first | assumption | omega | (simp; omega) | simp_all)) ?_)
 | refine hop_e rfl (eop_callx (i := 3) ca8 rfl (WeakL.refl _) rfl (c_benchmake_Stream_AnswerList (by first | assumption | omega | (simp; omega) | simp_all) (by first | assumption | omega | (simp; omega) | simp_all)) ?_)
 rintro _ _ ⟨r41, a41, rfl, hr41, ha41, rfl⟩
 refine ⟨fun _ => .inl trivial, ?_⟩
 refine ahe 9 rfl (by kernel_rfl) ?_
 first
 | refine hop_e rfl (eop_callx (i := 0) ca8 rfl (WeakL.refl _) rfl (c_benchmake_Stream_AnswerList (by first | assumption | omega | (simp; omega) | simp_all) (by first | assumption | omega | (simp; omega) | simp_all)) ?_)
 | refine hop_e rfl (eop_callx (i := 1) ca8 rfl (WeakL.refl _) rfl (c_benchmake_Stream_AnswerList (by first | assumption | omega | (simp; omega) | simp_all) (by first | assumption | omega | (simp; omega) | simp_all)) ?_)
 | refine hop_e rfl (eop_callx (i := 2) ca8 rfl (WeakL.refl _) rfl (c_benchmake_Stream_AnswerList (by first | assumption | omega | (simp; omega) | simp_all) (by first | assumption | omega | (simp; omega) | simp_all)) ?_)
 | refine hop_e rfl (eop_callx (i := 3) ca8 rfl (WeakL.refl _) rfl (c_benchmake_Stream_AnswerList (by first | assumption | omega | (simp; omega) | simp_all) (by first | assumption | omega | (simp; omega) | simp_all)) ?_)
 rintro _ _ ⟨r44, a44, rfl, hr44, ha44, rfl⟩
 refine ⟨fun _ => .inl trivial, ?_⟩
 refine ahp 10 rfl rfl (by kernel_rfl) (by kernel_rfl) (pop_assign rfl) ?_
 refine ahp 11 rfl rfl (by kernel_rfl) (by kernel_rfl) (pop_assign rfl) ?_
 refine ahp 12 rfl rfl (by kernel_rfl) (by kernel_rfl) (pop_assign rfl) ?_
 refine ahz (by kernel_rfl) ?_
 have hm5 := hm31.len
 have hm0 := hm31.pos
 have hol := ho34.len
 have hxl := hx38.len
 have hal := hr41.len
 have hcl := hr44.len
 have hml := mrg_len m31 r41 r44
 have hxg : ∀ x ∈ x38, x.Gives.length ≤ 1000000 := fun x hx => Nat.le_trans (hx38.all x hx).len (by decide)
 have hxb : ∀ x ∈ x38, x.Id.length ≤ 1000000 ∧ x.Gives.length ≤ 1000000 ∧ ∀ g ∈ x.Gives, g.Player.length ≤ 1000000 := fun x hx => ⟨(hx38.all x hx).id, hxg x hx, (hx38.all x hx).all⟩
 refine hw_reg ?_
 refine dp rfl (pop_loadw ty28 rfl rfl rfl rfl) ?_
 refine dp rfl (pop_call ca28 rfl (WeakL.refl _) (c_benchref1_MarketFault (m := m31) (by omega) (fun s hs => Nat.le_trans (hm31.sh s hs) (by decide)))) ?_
 refine dp rfl (pop_assign rfl) ?_
 refine dn ?_
 refine hw_reg ?_
 refine dp rfl (pop_move rfl) ?_
 refine dp rfl (pop_move rfl) ?_
 refine dp rfl (pop_move rfl) ?_
 refine dp rfl (pop_move rfl) ?_
 refine dp rfl (pop_assign rfl) ?_
 refine dp rfl (pop_assign rfl) ?_
 refine dp rfl (pop_assign rfl) ?_
 refine dp rfl (pop_assign rfl) ?_
 refine dn ?_
 refine hw_join [10, 11, 12, 13, 51, 52, 53, 54, 55, 56, 57, 58, 59, 60, 61, 62, 63, 64, 65, 66, 67] (fun (z0 : Unit) => [(10, .int .i64 (ownersE m31 o34)), (11, .int .i64 (dealsE m31 x38)), (12, .int .i64 (repsE m31 r41)), (13, .int .i64 (orI [repsE m31 r41, repsE m31 r44]))]) (fun (z0 : Unit) => [St b l a44]) (fun (z0 : Unit) => True) ?_ ?_
 ·skip
  refine hw_reg ?_
  refine dp rfl (pop_move rfl) ?_
  refine dp rfl (pop_eql rfl rfl) ?_
  refine dn ?_
  refine hw_cond rfl (fun h1 => ?_) (fun h2 => ?_)
  ·try simp at h1
   refine hw_draw (fun _ => True) [] mixed ?_
   refine ahp 0 rfl rfl (by kernel_rfl) (by kernel_rfl) (pop_loadw ty28 rfl rfl rfl rfl) ?_
   refine ahp 1 rfl rfl (by kernel_rfl) (by kernel_rfl) (pop_move rfl) ?_
   refine ahp 2 rfl rfl (by kernel_rfl) (by kernel_rfl) (pop_call ca29 rfl (WeakL.refl _) (c_benchref1_OwnersFault (m := m31) (o := o34) (by omega) (by omega) (fun x hx => (ho34.all x hx).1))) ?_
   refine ahp 3 rfl rfl (by kernel_rfl) (by kernel_rfl) (pop_loadw ty28 rfl rfl rfl rfl) ?_
   refine ahp 4 rfl rfl (by kernel_rfl) (by kernel_rfl) (pop_move rfl) ?_
   refine ahp 5 rfl rfl (by kernel_rfl) (by kernel_rfl) (pop_call ca30 rfl (WeakL.refl _) (c_benchref1_OffersFault (m := m31) (l := x38) (by omega) (by omega) hxb)) ?_
   refine ahp 6 rfl rfl (by kernel_rfl) (by kernel_rfl) (pop_loadw ty28 rfl rfl rfl rfl) ?_
   refine ahp 7 rfl rfl (by kernel_rfl) (by kernel_rfl) (pop_move rfl) ?_
   refine ahp 8 rfl rfl (by kernel_rfl) (by kernel_rfl) (pop_call ca31 rfl (WeakL.refl _) (c_benchref1_AnswersFault (m := m31) (l := r41) (by omega) (by omega) hr41.all)) ?_
   refine ahp 9 rfl rfl (by kernel_rfl) (by kernel_rfl) (pop_assign rfl) ?_
   refine ahp 10 rfl rfl (by kernel_rfl) (by kernel_rfl) (pop_assign rfl) ?_
   refine ahp 11 rfl rfl (by kernel_rfl) (by kernel_rfl) (pop_assign rfl) ?_
   refine ahz (by kernel_rfl) ?_
   refine hw_reg1 ?_
   refine dp rfl (pop_move rfl) ?_
   refine dp rfl (pop_loadw ty28 rfl rfl rfl rfl) ?_
   refine dp rfl (pop_move rfl) ?_
   refine dp rfl (pop_call ca31 rfl (WeakL.refl _) (c_benchref1_AnswersFault (m := m31) (l := r44) (by omega) (by omega) hr44.all)) ?_
   refine dp rfl (pop_buildSlice (hs := [_, _]) ty121 ty38 rfl rfl (by decide) (by decide) rfl) ?_
   refine dp rfl (pop_call ca16 rfl (WeakL.refl _) (c_cmp_Or_api_Errno (l := [_, _]) (by simp))) ?_
   refine dp rfl (pop_assign rfl) ?_
   refine dn ?_
   obtain ⟨e1, e2, e3, e4⟩ := chk_ok (m := m31) (by assumption) o34 x38 r41 r44
   exact ⟨(), trivial, ⟨congrArg (fun q => some (HVal.int .i64 q)) e1, congrArg (fun q => some (HVal.int .i64 q)) e2, congrArg (fun q => some (HVal.int .i64 q)) e3, congrArg (fun q => some (HVal.int .i64 q)) (by rw [e3, e4]), trivial⟩, (by repeat (first | exact keeps_refl | refine keeps_upd rfl ?_ | refine keeps_loop rfl rfl ?_)), List.Perm.refl _⟩
  ·try simp at h2
   refine hw_skip ?_
   obtain ⟨e1, e2, e3, e4⟩ := chk_bad (m := m31) (by assumption) o34 x38 r41 r44
   exact ⟨(), trivial, ⟨congrArg (fun q => some (HVal.int .i64 q)) e1, congrArg (fun q => some (HVal.int .i64 q)) e2, congrArg (fun q => some (HVal.int .i64 q)) e3, congrArg (fun q => some (HVal.int .i64 q)) e4, trivial⟩, (by repeat (first | exact keeps_refl | refine keeps_upd rfl ?_ | refine keeps_loop rfl rfl ?_)), List.Perm.refl _⟩
 ·intro z0 _
  refine hw_seq ?_
  refine hw_reg ?_
  refine dp rfl (pop_loadw ty28 rfl rfl rfl rfl) ?_
  refine dp rfl (pop_call ca32 rfl (WeakL.refl _) (c_trade_CheckMarket (m := m31) (by omega))) ?_
  refine dp rfl (pop_move rfl) ?_
  refine dp rfl (pop_neq rfl rfl) ?_
  refine dp rfl (pop_move rfl) ?_
  refine dg rfl rfl (fun hc => ⟨_, OpenTo.refl _, pop_loadw ty28 rfl rfl rfl rfl⟩) ?_
  refine dg rfl rfl (fun hc => ⟨_, OpenTo.refl _, pop_move rfl⟩) ?_
  refine dg rfl rfl (fun hc => by have hq := hc; (try simp at hq); exact ⟨_, OpenTo.upd (t := 74) rfl (by first | exact hc | simp_all) (OpenTo.upd (t := 73) rfl (by first | exact hc | simp_all) (OpenTo.refl _)), pop_call ca33 rfl (WeakL.refl _) (c_trade_CheckOwners (m := m31) (o := o34) (by omega) (by omega))⟩) ?_
  refine dg rfl rfl (fun hc => ⟨_, OpenTo.refl _, pop_move rfl⟩) ?_
  refine dg rfl rfl (fun hc => ⟨_, OpenTo.upd (t := 76) rfl (by first | exact hc | simp_all) (OpenTo.upd (t := 75) rfl (by first | exact hc | simp_all) (OpenTo.refl _)), pop_neq rfl rfl⟩) ?_
  refine dp rfl (pop_picko rfl (.inl rfl) (.inr ⟨_, rfl, fun h => by simp_all⟩)) ?_
  refine dp rfl (pop_move rfl) ?_
  refine dg rfl rfl (fun hc => ⟨_, OpenTo.refl _, pop_loadw ty28 rfl rfl rfl rfl⟩) ?_
  refine dg rfl rfl (fun hc => ⟨_, OpenTo.refl _, pop_move rfl⟩) ?_
  refine dg rfl rfl (fun hc => by have hq := hc; (try simp at hq); exact ⟨_, OpenTo.upd (t := 81) rfl (by first | exact hc | simp_all) (OpenTo.upd (t := 80) rfl (by first | exact hc | simp_all) (OpenTo.refl _)), pop_call ca34 rfl (WeakL.refl _) (c_trade_CheckOffers (m := m31) (l := x38) (by omega) (by omega) hxg)⟩) ?_
  refine dg rfl rfl (fun hc => ⟨_, OpenTo.refl _, pop_move rfl⟩) ?_
  refine dg rfl rfl (fun hc => ⟨_, OpenTo.upd (t := 83) rfl (by first | exact hc | simp_all) (OpenTo.upd (t := 82) rfl (by first | exact hc | simp_all) (OpenTo.refl _)), pop_neq rfl rfl⟩) ?_
  refine dp rfl (pop_picko rfl (.inl rfl) (.inr ⟨_, rfl, fun h => by simp_all⟩)) ?_
  refine dp rfl (pop_move rfl) ?_
  refine dg rfl rfl (fun hc => ⟨_, OpenTo.refl _, pop_loadw ty28 rfl rfl rfl rfl⟩) ?_
  refine dg rfl rfl (fun hc => ⟨_, OpenTo.refl _, pop_move rfl⟩) ?_
  refine dg rfl rfl (fun hc => by have hq := hc; (try simp at hq); exact ⟨_, OpenTo.upd (t := 88) rfl (by first | exact hc | simp_all) (OpenTo.upd (t := 87) rfl (by first | exact hc | simp_all) (OpenTo.refl _)), pop_call ca35 rfl (WeakL.refl _) (c_trade_CheckAnswers (m := m31) (l := r41) (by omega) (by omega))⟩) ?_
  refine dg rfl rfl (fun hc => ⟨_, OpenTo.refl _, pop_move rfl⟩) ?_
  refine dg rfl rfl (fun hc => ⟨_, OpenTo.upd (t := 90) rfl (by first | exact hc | simp_all) (OpenTo.upd (t := 89) rfl (by first | exact hc | simp_all) (OpenTo.refl _)), pop_neq rfl rfl⟩) ?_
  refine dp rfl (pop_picko rfl (.inl rfl) (.inr ⟨_, rfl, fun h => by simp_all⟩)) ?_
  refine dn ?_
  refine hw_cond rfl (fun h3 => ?_) (fun h3 => ?_)
  ·exfalso
   try simp at h3
   done
  ·try simp at h3
   refine hw_skip ?_
   refine seqQ_n ?_
   refine hw_reg ?_
   refine dp rfl (pop_loadw ty28 rfl rfl rfl rfl) ?_
   refine dp rfl (pop_move rfl) ?_
   refine dp rfl (pop_move rfl) ?_
   refine dp rfl (pop_call ca36 rfl (WeakL.refl _) (c_trade_Merge (m := m31) (a := r41) (c := r44) (by omega) (by omega) (by omega))) ?_
   refine dp rfl (pop_move rfl) ?_
   refine dp rfl (pop_extract rfl rfl) ?_
   refine dp rfl (pop_extract rfl rfl) ?_
   refine dp rfl (pop_assign rfl) ?_
   refine dp rfl (pop_assign rfl) ?_
   refine dn ?_
   refine hw_reg ?_
   refine dp rfl (pop_assign rfl) ?_
   refine dn ?_
   refine hw_ghost (Ghost.arr_nil 4) ?_
   refine hw_ghost (Ghost.fa 16 (i := 0) rfl rfl) ?_
   refine hw_join [13, 16, 100, 101, 102, 103, 104, 105, 106, 107] (fun (z0 : Unit) => [(16, eReplies (mrgL m31 r41 r44)), (13, .int .i64 (mrgE m31 r41 r44))]) (fun (z0 : Unit) => [St b l a44]) (fun (z0 : Unit) => True) ?_ ?_
   ·skip
    refine hw_reg ?_
    refine dp rfl (pop_move rfl) ?_
    refine dp rfl (pop_eql rfl rfl) ?_
    refine dn ?_
    refine hw_cond rfl (fun h4 => ?_) (fun h5 => ?_)
    ·try simp at h4
     have hmz : orI [repsE m31 r41, repsE m31 r44] = 0 := by assumption
     have hmr := mrg_reps hmz
     refine hw_reg1 ?_
     refine dp rfl (pop_move rfl) ?_
     refine dp rfl (pop_move rfl) ?_
     refine dp rfl (pop_call ca37 rfl (WeakL.refl _) (c_benchref1_AnswersMerged (a := r41) (c := r44) (by omega) (by omega) hmr.1 hmr.2)) ?_
     refine dp rfl (pop_move rfl) ?_
     refine dp rfl (pop_extract rfl rfl) ?_
     refine dp rfl (pop_extract rfl rfl) ?_
     refine dp rfl (pop_assign rfl) ?_
     refine dp rfl (pop_assign rfl) ?_
     refine dn ?_
     obtain ⟨e1, e2⟩ := mrg_ok hmz
     exact ⟨(), trivial, ⟨congrArg (fun q => some (eReplies q)) e1, congrArg (fun q => some (HVal.int .i64 q)) e2, trivial⟩, (by repeat (first | exact keeps_refl | refine keeps_upd rfl ?_ | refine keeps_loop rfl rfl ?_)), List.Perm.refl _⟩
    ·try simp at h5
     refine hw_skip ?_
     obtain ⟨e1, e2⟩ := mrg_bad (m := m31) (a := r41) (c := r44) (by assumption)
     exact ⟨(), trivial, ⟨congrArg (fun q => some (eReplies q)) e1, congrArg (fun q => some (HVal.int .i64 q)) e2, trivial⟩, (by repeat (first | exact keeps_refl | refine keeps_upd rfl ?_ | refine keeps_loop rfl rfl ?_)), List.Perm.refl _⟩
   ·intro z0 _
    refine hw_seq ?_
    refine hw_reg ?_
    refine dp rfl (pop_move rfl) ?_
    refine dp rfl (pop_move rfl) ?_
    refine dp rfl (pop_neq rfl rfl) ?_
    refine dp rfl (pop_move rfl) ?_
    refine dg rfl rfl (fun hc => ⟨_, OpenTo.refl _, pop_move rfl⟩) ?_
    refine dg rfl rfl (fun hc => ⟨_, OpenTo.refl _, pop_move rfl⟩) ?_
    refine dg rfl rfl (fun hc => by have hq := hc; (try simp at hq); exact ⟨_, OpenTo.upd (t := 113) rfl (by first | exact hc | simp_all) (OpenTo.upd (t := 112) rfl (by first | exact hc | simp_all) (OpenTo.refl _)), pop_call ca38 rfl (WeakL.refl _) (c_slices_Equal_api_Answer_api_Answer (l := (mrgL m31 r41 r44)) (m := (mrgL m31 r41 r44)) (by omega))⟩) ?_
    refine dg rfl rfl (fun hc => ⟨_, OpenTo.upd (t := 114) rfl (by first | exact hc | simp_all) (OpenTo.refl _), pop_not rfl⟩) ?_
    refine dp rfl (pop_picko rfl (.inl rfl) (.inr ⟨_, rfl, fun h => by simp_all⟩)) ?_
    refine dn ?_
    refine hw_cond rfl (fun h6 => ?_) (fun h6 => ?_)
    ·exfalso
     try simp at h6
     rw [eqReplies_refl] at h6
     cases h6
    ·try simp at h6
     refine hw_skip ?_
     refine seqQ_n ?_
     refine hw_seq ?_
     refine hw_reg ?_
     refine dp rfl (pop_move rfl) ?_
     refine dp rfl (pop_lenm (f := eDeal) (l := x38) ty32 rfl) ?_
     refine dp rfl (pop_eql rfl rfl) ?_
     refine dn ?_
     refine hw_cond rfl (fun h7 => ?_) (fun h8 => ?_)
     ·try simp at h7
      refine hw_reg ?_
      refine dp rfl (pop_call ca27 rfl (WeakL.refl _) c_benchlaw1_traded) ?_
      refine dp rfl (pop_assign rfl) ?_
      refine dn ?_
      refine hw_ret ?_
      first
      | exact ret_g Ghost.clear rfl ⟨rfl, rfl⟩
      | (refine ret_g Ghost.clear rfl ⟨?_, rfl⟩
         show HVal.bool _ = _
         rw [e1, e2, e3]
         simp [eqOwners_refl]
         done)
      | (refine ret_g Ghost.clear rfl ⟨?_, rfl⟩
         show HVal.bool _ = _
         rw [e1, e2, e3, htz]
         simp [eqOwners_refl])
     ·try simp at h8
      refine hw_skip ?_
      refine seqQ_n ?_
      have hx0 : 0 < x38.length := List.length_pos_iff.2 (by assumption)
      have h0o : 0 < o34.length := by
       rcases Nat.eq_zero_or_pos o34.length with q | q
       ·have := hxo38 (List.length_eq_zero_iff.1 q); rw [this] at hx0; simp at hx0
       ·exact q
      refine hw_reg ?_
      refine dp rfl (pop_move rfl) ?_
      refine dp rfl (pop_move rfl) ?_
      refine dp rfl (pop_move rfl) ?_
      refine dp rfl (pop_lenm (f := eDeal) (l := x38) ty32 rfl) ?_
      first
      | refine de rfl (eop_callx (i := 0) ca39 rfl (WeakL.refl _) rfl (c_benchmake_Stream_Next (by first | assumption | omega | (simp; omega) | simp_all) (by first | assumption | omega | (simp; omega) | simp_all)) ?_)
      | refine de rfl (eop_callx (i := 1) ca39 rfl (WeakL.refl _) rfl (c_benchmake_Stream_Next (by first | assumption | omega | (simp; omega) | simp_all) (by first | assumption | omega | (simp; omega) | simp_all)) ?_)
      | refine de rfl (eop_callx (i := 2) ca39 rfl (WeakL.refl _) rfl (c_benchmake_Stream_Next (by first | assumption | omega | (simp; omega) | simp_all) (by first | assumption | omega | (simp; omega) | simp_all)) ?_)
      | refine de rfl (eop_callx (i := 3) ca39 rfl (WeakL.refl _) rfl (c_benchmake_Stream_Next (by first | assumption | omega | (simp; omega) | simp_all) (by first | assumption | omega | (simp; omega) | simp_all)) ?_)
      rintro _ _ ⟨y125, rfl, hy125, rfl⟩
      obtain ⟨z, hz⟩ : ∃ z, x38[y125]? = some z := ⟨_, List.getElem?_eq_getElem (by omega)⟩
      have hzg := hxg z (List.mem_of_getElem? hz)
      have hzl := (hx38.all z (List.mem_of_getElem? hz)).len
      refine dp rfl (pop_idx (j := y125) (a := z) ty32 ty80 rfl rfl rfl hz) ?_
      refine dp rfl (pop_loadw ty80 rfl rfl rfl rfl) ?_
      refine de rfl (eop_alloc ty80 rfl fun b17 => ?_)
      refine de0 (eop_storew ty80 rfl rfl rfl rfl rfl ?_)
      refine dn ?_
      refine hw_ghost (Ghost.fc0 17 rfl) ?_
      refine hw_reg ?_
      refine dp rfl (pop_move rfl) ?_
      refine dp rfl (pop_move rfl) ?_
      refine dp rfl (pop_assign rfl) ?_
      refine dp rfl (pop_assign rfl) ?_
      refine dn ?_
      refine hw_join [18, 19, 130, 131, 132, 133, 134, 135, 136, 137, 138, 139] (fun (z0 : Unit) => [(18, .int .i64 (dealsE m31 [z])), (19, .int .i64 (tradeE m31 o34 z))]) (fun (z0 : Unit) => [St b l (a44 + 1)]) (fun (z0 : Unit) => True) ?_ ?_
      ·skip
       refine hw_reg ?_
       refine dp rfl (pop_move rfl) ?_
       refine dp rfl (pop_eql rfl rfl) ?_
       refine dn ?_
       refine hw_cond rfl (fun h9 => ?_) (fun h10 => ?_)
       ·try simp at h9
        refine hw_reg ?_
        refine dp rfl (pop_loadw ty28 rfl rfl rfl rfl) ?_
        refine dp rfl (pop_loadw ty80 rfl rfl rfl rfl) ?_
        refine dp rfl (pop_buildSlice (hs := [_]) ty32 ty80 rfl rfl (by decide) (by decide) rfl) ?_
        refine dp rfl (pop_call ca30 rfl (WeakL.refl _) (c_benchref1_OffersFault (m := m31) (l := [z]) (by omega) (by simp) (fun y hy => hxb y (by rw [List.mem_singleton.1 hy]; exact List.mem_of_getElem? hz)))) ?_
        refine dp rfl (pop_assign rfl) ?_
        refine dn ?_
        refine hw_reg1 ?_
        refine dp rfl (pop_move rfl) ?_
        refine dp rfl (pop_move rfl) ?_
        refine dp rfl (pop_buildSlice (hs := [_, _]) ty121 ty38 rfl rfl (by decide) (by decide) rfl) ?_
        refine dp rfl (pop_call ca16 rfl (WeakL.refl _) (c_cmp_Or_api_Errno (l := [_, _]) (by simp))) ?_
        refine dp rfl (pop_assign rfl) ?_
        refine dn ?_
        obtain ⟨e1, e2⟩ := one_ok2 (m := m31) (by assumption) o34 z
        exact ⟨(), trivial, ⟨congrArg (fun q => some (HVal.int .i64 q)) e1, congrArg (fun q => some (HVal.int .i64 q)) (by rw [e1]; exact e2), trivial⟩, (by repeat (first | exact keeps_refl | refine keeps_upd rfl ?_ | refine keeps_loop rfl rfl ?_)), List.Perm.refl _⟩
       ·try simp at h10
        refine hw_skip ?_
        obtain ⟨e1, e2⟩ := one_bad2 (m := m31) (by assumption) o34 z
        exact ⟨(), trivial, ⟨congrArg (fun q => some (HVal.int .i64 q)) e1, congrArg (fun q => some (HVal.int .i64 q)) e2, trivial⟩, (by repeat (first | exact keeps_refl | refine keeps_upd rfl ?_ | refine keeps_loop rfl rfl ?_)), List.Perm.refl _⟩
      ·intro z0 _
       refine hw_reg ?_
       refine dp rfl (pop_loadw ty28 rfl rfl rfl rfl) ?_
       refine dp rfl (pop_loadw ty80 rfl rfl rfl rfl) ?_
       refine dp rfl (pop_call ca40 rfl (WeakL.refl _) (c_trade_Concerned (m := m31) (x := z) (by omega) hzg)) ?_
       refine dp rfl (pop_move rfl) ?_
       refine dp rfl (pop_extract rfl rfl) ?_
       refine dp rfl (pop_extract rfl rfl) ?_
       refine dp rfl (pop_assign rfl) ?_
       refine dp rfl (pop_assign rfl) ?_
       refine dn ?_
       refine hw_reg ?_
       refine dp rfl (pop_loadw ty28 rfl rfl rfl rfl) ?_
       refine dp rfl (pop_move rfl) ?_
       refine dp rfl (pop_loadw ty80 rfl rfl rfl rfl) ?_
       refine dp rfl (pop_call ca41 rfl (WeakL.refl _) (c_trade_Can (m := m31) (o := o34) (x := z) (by omega) h0o (by omega) (by omega))) ?_
       refine dp rfl (pop_move rfl) ?_
       refine dp rfl (pop_extract rfl rfl) ?_
       refine dp rfl (pop_extract rfl rfl) ?_
       refine dp rfl (pop_assign rfl) ?_
       refine dp rfl (pop_assign rfl) ?_
       refine dn ?_
       refine hw_reg ?_
       refine dp rfl (pop_loadw ty28 rfl rfl rfl rfl) ?_
       refine dp rfl (pop_move rfl) ?_
       refine dp rfl (pop_loadw ty80 rfl rfl rfl rfl) ?_
       refine dp rfl (pop_call ca42 rfl (WeakL.refl _) (c_trade_Did (m := m31) (o := o34) (x := z) (by omega) h0o (by omega) (by omega))) ?_
       refine dp rfl (pop_move rfl) ?_
       refine dp rfl (pop_extract rfl rfl) ?_
       refine dp rfl (pop_extract rfl rfl) ?_
       refine dp rfl (pop_assign rfl) ?_
       refine dp rfl (pop_assign rfl) ?_
       refine dn ?_
       refine hw_seq ?_
       have hcd := conc_len2 (m := m31) (z := z)
       refine hw_reg ?_
       refine dp rfl (pop_move rfl) ?_
       refine dp rfl (pop_move rfl) ?_
       refine dp rfl (pop_neq rfl rfl) ?_
       refine dp rfl (pop_move rfl) ?_
       refine dg rfl rfl (fun hc => ⟨_, OpenTo.refl _, pop_move rfl⟩) ?_
       refine dg rfl rfl (fun hc => ⟨_, OpenTo.upd (t := 164) rfl (by first | exact hc | simp_all) (OpenTo.refl _), pop_eql rfl rfl⟩) ?_
       refine dg rfl rfl (fun hc => ⟨_, OpenTo.upd (t := 165) rfl (by first | exact hc | simp_all) (OpenTo.refl _), pop_move rfl⟩) ?_
       refine dg rfl rfl (fun hc => ⟨_, OpenTo.refl _, pop_move rfl⟩) ?_
       refine dg rfl rfl (fun hc => ⟨_, OpenTo.refl _, pop_loadw ty80 rfl rfl rfl rfl⟩) ?_
       refine dg rfl rfl (fun hc => by have hq := hc; (try simp at hq); exact ⟨_, OpenTo.upd (t := 168) rfl (by first | exact hc | simp_all) (OpenTo.refl _), pop_call ca43 rfl (WeakL.refl _) (c_benchref1_ConcernedBy (x := z) (by omega))⟩) ?_
       refine dg rfl rfl (fun hc => by have hq := hc; (try simp at hq); exact ⟨_, OpenTo.upd (t := 169) rfl (by first | exact hc | simp_all) (OpenTo.upd (t := 167) rfl (by first | exact hc | simp_all) (OpenTo.refl _)), pop_call ca26 rfl (WeakL.refl _) (c_slices_Equal_string_string (l := concD m31 z) (m := concL z.Gives) (by omega))⟩) ?_
       refine dg rfl rfl (fun hc => ⟨_, OpenTo.upd (t := 170) rfl (by first | exact hc | simp_all) (OpenTo.refl _), pop_not rfl⟩) ?_
       refine dg rfl rfl (fun hc => ⟨_, OpenTo.upd (t := 166) rfl (by first | exact hc | simp_all) (OpenTo.refl _), pop_picko rfl (.inr ⟨_, rfl, fun h => by simp_all⟩) (.inl rfl)⟩) ?_
       refine dp rfl (pop_picko rfl (.inl rfl) (.inr ⟨_, rfl, fun h => by simp_all⟩)) ?_
       refine dp rfl (pop_move rfl) ?_
       refine dg rfl rfl (fun hc => ⟨_, OpenTo.refl _, pop_move rfl⟩) ?_
       refine dg rfl rfl (fun hc => ⟨_, OpenTo.upd (t := 175) rfl (by first | exact hc | simp_all) (OpenTo.refl _), pop_neq rfl rfl⟩) ?_
       refine dg rfl rfl (fun hc => ⟨_, OpenTo.upd (t := 176) rfl (by first | exact hc | simp_all) (OpenTo.refl _), pop_move rfl⟩) ?_
       refine dg rfl rfl (fun hc => ⟨_, OpenTo.refl _, pop_move rfl⟩) ?_
       refine dg rfl rfl (fun hc => ⟨_, OpenTo.upd (t := 178) rfl (by first | exact hc | simp_all) (OpenTo.refl _), pop_lenm (f := HVal.str) (l := concD m31 z) ty26 rfl⟩) ?_
       refine dg rfl rfl (fun hc => ⟨_, OpenTo.upd (t := 179) rfl (by first | exact hc | simp_all) (OpenTo.refl _), pop_gtr rfl rfl⟩) ?_
       refine dg rfl rfl (fun hc => ⟨_, OpenTo.upd (t := 177) rfl (by first | exact hc | simp_all) (OpenTo.refl _), pop_picko rfl (.inr ⟨_, rfl, fun h => by simp_all⟩) (.inl rfl)⟩) ?_
       refine dp rfl (pop_picko rfl (.inl rfl) (.inr ⟨_, rfl, fun h => by simp_all⟩)) ?_
       refine dn ?_
       refine hw_cond rfl (fun h11 => ?_) (fun h11 => ?_)
       ·exfalso
        try simp at h11
        by_cases hq : dealsE m31 [z] = 0
        ·simp [hq, conc_ok hq] at h11
        ·simp [hq, conc_bad hq] at h11
       ·try simp at h11
        refine hw_skip ?_
        refine seqQ_n ?_
        refine hw_seq ?_
        refine hw_reg ?_
        refine dp rfl (pop_move rfl) ?_
        refine dp rfl (pop_neq rfl rfl) ?_
        refine dn ?_
        refine hw_cond rfl (fun h12 => ?_) (fun h13 => ?_)
        ·try simp at h12
         obtain ⟨e1, e2⟩ := didL_bad (m := m31) (o := o34) (x := z) (by assumption)
         have e3 := canB_bad (m := m31) (o := o34) (x := z) (by assumption)
         refine hw_reg ?_
         refine dp rfl (pop_move rfl) ?_
         refine dp rfl (pop_move rfl) ?_
         refine dp rfl (pop_eql rfl rfl) ?_
         refine dp rfl (pop_move rfl) ?_
         refine dg rfl rfl (fun hc => ⟨_, OpenTo.refl _, pop_move rfl⟩) ?_
         refine dg rfl rfl (fun hc => ⟨_, OpenTo.refl _, pop_move rfl⟩) ?_
         refine dg rfl rfl (fun hc => ⟨_, OpenTo.upd (t := 190) rfl (by first | exact hc | simp_all) (OpenTo.upd (t := 189) rfl (by first | exact hc | simp_all) (OpenTo.refl _)), pop_eql rfl rfl⟩) ?_
         refine dp rfl (pop_picko rfl (.inr ⟨_, rfl, fun h => by simp_all⟩) (.inl rfl)) ?_
         refine dp rfl (pop_move rfl) ?_
         refine dg rfl rfl (fun hc => ⟨_, OpenTo.refl _, pop_move rfl⟩) ?_
         refine dg rfl rfl (fun hc => ⟨_, OpenTo.upd (t := 194) rfl (by first | exact hc | simp_all) (OpenTo.refl _), pop_not rfl⟩) ?_
         refine dp rfl (pop_picko rfl (.inr ⟨_, rfl, fun h => by simp_all⟩) (.inl rfl)) ?_
         refine dp rfl (pop_move rfl) ?_
         refine dg rfl rfl (fun hc => ⟨_, OpenTo.refl _, pop_move rfl⟩) ?_
         refine dg rfl rfl (fun hc => ⟨_, OpenTo.upd (t := 198) rfl (by first | exact hc | simp_all) (OpenTo.refl _), pop_lenm (f := eOwner) (l := didL m31 o34 z) ty30 rfl⟩) ?_
         refine dg rfl rfl (fun hc => ⟨_, OpenTo.upd (t := 199) rfl (by first | exact hc | simp_all) (OpenTo.refl _), pop_eql rfl rfl⟩) ?_
         refine dp rfl (pop_picko rfl (.inr ⟨_, rfl, fun h => by simp_all⟩) (.inl rfl)) ?_
         refine dp rfl (pop_move rfl) ?_
         refine dg rfl rfl (fun hc => ⟨_, OpenTo.refl _, pop_call ca27 rfl (WeakL.refl _) c_benchlaw1_traded⟩) ?_
         refine dp rfl (pop_picko rfl (.inr ⟨_, rfl, fun h => by simp_all⟩) (.inl rfl)) ?_
         refine dp rfl (pop_assign rfl) ?_
         refine dn ?_
         refine hw_ret ?_
         first
         | exact ret_g Ghost.clear rfl ⟨rfl, rfl⟩
         | (refine ret_g Ghost.clear rfl ⟨?_, rfl⟩
            show HVal.bool _ = _
            rw [e1, e2, e3]
            simp [eqOwners_refl]
            done)
         | (refine ret_g Ghost.clear rfl ⟨?_, rfl⟩
            show HVal.bool _ = _
            rw [e1, e2, e3, htz]
            simp [eqOwners_refl])
        ·try simp at h13
         refine hw_skip ?_
         refine seqQ_n ?_
         have htz : tradeE m31 o34 z = 0 := by assumption
         obtain ⟨e1, e2⟩ := did_same htz
         have e3 := canB_ok htz
         have hdl : (didL m31 o34 z).length ≤ 1000000 := Nat.le_trans didL_len0 (by omega)
         refine hw_reg ?_
         refine dp rfl (pop_loadw ty28 rfl rfl rfl rfl) ?_
         refine dp rfl (pop_move rfl) ?_
         refine dp rfl (pop_loadw ty80 rfl rfl rfl rfl) ?_
         refine dp rfl (pop_call ca44 rfl (WeakL.refl _) (c_benchref1_DidOf (m := m31) (o := o34) (x := z) (by omega) h0o (by omega) (by omega))) ?_
         refine dp rfl (pop_move rfl) ?_
         refine dp rfl (pop_extract rfl rfl) ?_
         refine dp rfl (pop_extract rfl rfl) ?_
         refine dp rfl (pop_assign rfl) ?_
         refine dp rfl (pop_assign rfl) ?_
         refine dn ?_
         refine hw_reg ?_
         refine dp rfl (pop_move rfl) ?_
         refine dp rfl (pop_eql rfl rfl) ?_
         refine dp rfl (pop_move rfl) ?_
         refine dg rfl rfl (fun hc => ⟨_, OpenTo.refl _, pop_move rfl⟩) ?_
         refine dg rfl rfl (fun hc => ⟨_, OpenTo.refl _, pop_move rfl⟩) ?_
         refine dg rfl rfl (fun hc => ⟨_, OpenTo.upd (t := 216) rfl (by first | exact hc | simp_all) (OpenTo.upd (t := 215) rfl (by first | exact hc | simp_all) (OpenTo.refl _)), pop_eqlb ty4 rfl rfl⟩) ?_
         refine dp rfl (pop_picko rfl (.inr ⟨_, rfl, fun h => by simp_all⟩) (.inl rfl)) ?_
         refine dp rfl (pop_move rfl) ?_
         refine dg rfl rfl (fun hc => ⟨_, OpenTo.refl _, pop_move rfl⟩) ?_
         refine dg rfl rfl (fun hc => ⟨_, OpenTo.refl _, pop_move rfl⟩) ?_
         refine dg rfl rfl (fun hc => ⟨_, OpenTo.upd (t := 221) rfl (by first | exact hc | simp_all) (OpenTo.refl _), pop_not rfl⟩) ?_
         refine dg rfl rfl (fun hc => ⟨_, OpenTo.upd (t := 222) rfl (by first | exact hc | simp_all) (OpenTo.refl _), pop_call ca45 rfl (WeakL.refl _) c_benchlaw1_when⟩) ?_
         refine dg rfl rfl (fun hc => ⟨_, OpenTo.upd (t := 223) rfl (by first | exact hc | simp_all) (OpenTo.upd (t := 220) rfl (by first | exact hc | simp_all) (OpenTo.refl _)), pop_eql rfl rfl⟩) ?_
         refine dp rfl (pop_picko rfl (.inr ⟨_, rfl, fun h => by simp_all⟩) (.inl rfl)) ?_
         refine dp rfl (pop_move rfl) ?_
         refine dg rfl rfl (fun hc => ⟨_, OpenTo.refl _, pop_move rfl⟩) ?_
         refine dg rfl rfl (fun hc => ⟨_, OpenTo.refl _, pop_move rfl⟩) ?_
         refine dg rfl rfl (fun hc => ⟨_, OpenTo.upd (t := 228) rfl (by first | exact hc | simp_all) (OpenTo.upd (t := 227) rfl (by first | exact hc | simp_all) (OpenTo.refl _)), pop_call ca25 rfl (WeakL.refl _) (c_slices_Equal_api_Owner_api_Owner (l := didL m31 o34 z) (m := didRL m31 o34 z.Gives) hdl)⟩) ?_
         refine dp rfl (pop_picko rfl (.inr ⟨_, rfl, fun h => by simp_all⟩) (.inl rfl)) ?_
         refine dp rfl (pop_move rfl) ?_
         refine dg rfl rfl (fun hc => ⟨_, OpenTo.refl _, pop_call ca27 rfl (WeakL.refl _) c_benchlaw1_traded⟩) ?_
         refine dp rfl (pop_picko rfl (.inr ⟨_, rfl, fun h => by simp_all⟩) (.inl rfl)) ?_
         refine dp rfl (pop_assign rfl) ?_
         refine dn ?_
         refine hw_ret ?_
         first
         | exact ret_g Ghost.clear rfl ⟨rfl, rfl⟩
         | (refine ret_g Ghost.clear rfl ⟨?_, rfl⟩
            show HVal.bool _ = _
            rw [e1, e2, e3]
            simp [eqOwners_refl]
            done)
         | (refine ret_g Ghost.clear rfl ⟨?_, rfl⟩
            show HVal.bool _ = _
            rw [e1, e2, e3, htz]
            simp [eqOwners_refl])
end Go.Proofs.YtfkobanmdpbjkaaGreatDoor
end
section
namespace Go.Proofs.YtfkobanmdpbjkaaGreatDoor
open Go.ChangeShapes Go.WideShapes Go.ChangeAt Go.RowKit Go.HL
theorem ownOffersChecked : ownKnob Tryz.prog.godebug = none := by kernel_rfl
theorem laidOutOffersChecked : laidOutB Tryz.prog = true := by kernel_rfl
theorem cellsOffersChecked : Tryz.prog.cellsOf 3 = 1 := by kernel_rfl
theorem tabOffersChecked {W : World} (h : laidMetH Tryz.prog Rows.offersCheckedRow.laid W) : TabI Tryz.prog (allI W) := by
 rw [MakeChecks.laidMetH_plain _ _ _ (by kernel_rfl)] at h
 letI : Tracks := ⟨false⟩
 exact tabI_of_laid (i := 2) (g := 1) (t := 231) h (by kernel_rfl) (by kernel_rfl) (by kernel_rfl) Tryz.underlying231 Tryz.underlying182 (by kernel_rfl) (by kernel_rfl)
theorem callsOffersChecked {W : World} (ht : TabI Tryz.prog (allI W)) {a : Option Addr} {len cap : Nat} {H : Type} {enc : TypeId × Value → H} {d0 : DataW H} {p : List MemPlace} (h : DataW.Trod enc Tryz.prog W 0 (fun _ => true) true 22 (.slice a len cap) d0 p) :
 Calls Tryz.prog 4 #[.slice a len cap] W fun e W' => e = .returned (.bool true) ∧ Below W.heap.size W W' := by
 obtain ⟨fuel, hf⟩ := h
 rcases open_ints Tryz.underlying22 Tryz.underlying3 cellsOffersChecked hf with ⟨hcs, hx⟩ | ⟨a', len', cap', zs, hcs, _, hl, hm, hz, hx, hcell, hwz⟩
 ·simp [Value.cells] at hcs
  obtain ⟨rfl, rfl, rfl⟩ := hcs
  letI : Tracks := ⟨false⟩
  exact conp_law (l := []) (c_benchlaw1_OffersChecked) ht (.slice0 _ _ _)
 ·simp [Value.cells] at hcs
  obtain ⟨rfl, rfl, rfl⟩ := hcs
  simp only [if_true] at hz
  letI : Tracks := ⟨false⟩
  exact conp_law (l := zs.take len) (c_benchlaw1_OffersChecked) ht (v_ints hcell (by omega) hl)
set_option maxRecDepth 100000 in
theorem liftedOffersChecked (os : Os) (started : os.Started) (H : Type) (enc : TypeId × Value → H) :
 ReturnsInHanded {} Tryz.checked os 4 .any (fun w args => (Rows.offersCheckedSpec.pre enc Tryz.prog Tryz.f4 Rows.offersCheckedRow.domain false w args ∧ laidMetH Tryz.prog Rows.offersCheckedRow.laid w) ∧ sizedMet enc Tryz.prog Tryz.f4 (OpenSpec.ofChange Rows.offersCheckedSpec) false w args)
  (Rows.offersCheckedSpec.post enc Tryz.prog Tryz.f4 false true false false) := by
 refine returnsInHanded_of_change_and (C := Tryz.checked) (X := fun w _ => laidMetH Tryz.prog Rows.offersCheckedRow.laid w) (fun _ _ _ hh h => h.of_heap hh) ownOffersChecked started (by kernel_rfl) Tryz.func4
  (ChangeSpec.witness_shaped (enc := enc) (C := Tryz.checked) (os := os) (X := fun w _ => laidMetH Tryz.prog Rows.offersCheckedRow.laid w) false (World.laidAll Tryz.prog os Rows.offersCheckedRow.laid) #[.slice none 0 0] 8 (World.laidAll_os _ _ _)
    (World.shaped_of_ZipB (by kernel_rfl) (by kernel_rfl)) (by kernel_rfl) (by kernel_rfl) (by kernel_rfl)
    (by rw [MakeChecks.laidMetH_plain _ _ _ (by kernel_rfl)]; exact laidMet_laidAll _ (by kernel_rfl) (by kernel_rfl))) ?_
 intro W base args ds gs before hval0 hW _ _ hL _
 have hval : ∀ (j : Nat) t v, Tryz.f4.params[j]? = some t → args[j]? = some v → Value.okWide Tryz.prog W .any base t v := hval0
 have hW' := hW
 obtain ⟨p, q, hA0, hV, rfl, _, _⟩ := hW
 have hA : DataW.TrodAll enc Tryz.prog W 0 (fun _ => true) true Tryz.f4.params.toList args.toList ds p := hA0
 rw [Tryz.params4] at hA hval
 obtain ⟨v0, d0, rfl, rfl, h0⟩ := trodAll_one hA
 obtain ⟨rfl, rfl⟩ := trodVars_none hV
 obtain ⟨a0, len, cap, rfl⟩ := okWide_slice Tryz.underlying22 (hval 0 22 v0 rfl rfl)
 simp only [List.append_nil] at hW'
 have hlt : ∀ x ∈ p, x.block < W.heap.size := fun x hx => by simpa using hW'.lt x hx
 refine (callsOffersChecked (tabOffersChecked hL) h0).mono fun e W' ⟨he, hb⟩ => ?_
 subst he
 have hargs : DataW.Trod enc Tryz.prog W' 0 (fun b => decide (b < W.heap.size)) true 22 (.slice a0 len cap) d0 p :=
  Below.trod laidOutOffersChecked (by kernel_rfl) (of_decide_eq_true (by kernel_rfl)) h0 hb hlt
 exact ⟨_, rfl, _, _, _, [], p, [], hW', trodAll_mk1 (shut_bool Tryz.underlying4 _), trodAll_mk1 hargs, rfl, hb.frame _, fun h => by cases h⟩
theorem mapsOffersChecked : mapsRowed Tryz.prog = true := by kernel_rfl
theorem inplOffersChecked : (Rows.offersCheckedRow.inPlace == Tryz.prog.inPlace 4) = true := by kernel_rfl
theorem unfoOffersChecked : (Rows.offersCheckedRow.unfollowed == Tryz.prog.unfollowed 4) = true := by kernel_rfl
theorem recuOffersChecked : (Rows.offersCheckedRow.recurses == Tryz.prog.recurses 4) = true := by kernel_rfl
theorem varsOffersChecked : (Rows.offersCheckedRow.named == Tryz.prog.varsNamed 4) = true := by kernel_rfl
theorem joinOffersChecked : joinedFacts Tryz.prog 4 Tryz.f4 Rows.offersCheckedSpec Rows.offersCheckedRow = true := by
 simp only [joinedFacts, Bool.and_eq_true]
 repeat' apply And.intro
 all_goals first
  | with_reducible exact laidOutOffersChecked
  | with_reducible exact mapsOffersChecked
  | with_reducible exact inplOffersChecked
  | with_reducible exact unfoOffersChecked
  | with_reducible exact recuOffersChecked
  | with_reducible exact varsOffersChecked
  | kernel_rfl
theorem lookOffersChecked : false = Tryz.prog.looks [] := by kernel_rfl
theorem goesOffersChecked : false = Rows.offersCheckedRow.goesBy Tryz.prog := by kernel_rfl
theorem wfbtOffersChecked : Rows.offersCheckedRow.wfByText (OpenSpec.ofChange Rows.offersCheckedSpec) = true := by kernel_rfl
theorem mainOffersChecked : Tryz.prog.mainIs = some ("86eb1ae237034408ed89864df1c42f09d0e59e80096ebfcdd48b02073ad1bde8" |> fun h => (true, h.toList)) := by kernel_rfl
theorem stanOffersChecked : ([22].all fun u => !Tryz.prog.wantsStandIn u) = true := by kernel_rfl
theorem fnamOffersChecked : Tryz.prog.funcNamed Rows.offersCheckedRow.func = some 4 := by kernel_rfl
theorem holdsOffersChecked : Rows.OffersCheckedSaid :=
 OpenClaim.holds_of_wide 4 Tryz.f4 rfl rfl rfl rfl rfl rfl rfl ⟨rfl, rfl, rfl, rfl, rfl⟩ rfl rfl rfl rfl rfl fnamOffersChecked Tryz.func4 joinOffersChecked
  (of_decide_eq_true (by kernel_rfl)) (by unfold Func.isWrapper; first | (rw [if_pos (by decide +kernel)]; kernel_rfl) | (rw [if_neg (by decide +kernel)]; exact ⟨rfl, rfl⟩))
  (fun os started H enc _ => liftedOffersChecked os started H enc)
theorem cardOffersChecked : Rows.OffersCheckedCardSaid :=
 Claim7.holds_tied_plain_at .later [] [.data, .data, .data, .data, .pinned] true (true, "86eb1ae237034408ed89864df1c42f09d0e59e80096ebfcdd48b02073ad1bde8") false holdsOffersChecked (fun _ h => by cases h) wfbtOffersChecked (fun _ h => by cases h) offersChecked_row_tie rfl ⟨rfl, rfl⟩ mainOffersChecked rfl
  (fun f fn hf hfn => by
    obtain rfl : f = 4 := Option.some.inj (fnamOffersChecked.symm.trans hf) |>.symm
    obtain rfl : fn = Tryz.f4 := (Option.some.inj (Tryz.func4.symm.trans hfn)).symm
    exact ⟨lookOffersChecked, fun j t ht => by
     rw [Tryz.params4] at ht
     have hm : t ∈ [22] := by simpa using Array.mem_of_getElem? ht
     have hall := stanOffersChecked
     exact (show Tryz.prog.wantsStandIn t = false by simpa using List.all_eq_true.1 hall t hm)⟩)
  goesOffersChecked
end Go.Proofs.YtfkobanmdpbjkaaGreatDoor
end
