/- The statement is proved: the card of the law, out of its function's contract; no conditions. -/
import Derived.Test.YtkamelfigfbfiaaGreatDoorPSinceIsDifference4
import Derived.LaidMore
import Derived.Lay
import Derived.OpenShut
import Derived.ProofKit
import Derived.SevenTiedAt
import Derived.Stop.Joined
import Derived.Test.YtkamelfigfbfiaaGreatDoorCards
import Derived.Test.YtkamelfigfbfiaaGreatDoorTie
set_option linter.unusedVariables false
set_option linter.unusedSimpArgs false
section
namespace Go.Proofs.YtkamelfigfbfiaaGreatDoor
open Go.HL
set_option maxRecDepth 100000
set_option linter.unusedVariables false
set_option linter.unusedSimpArgs false
set_option maxHeartbeats 4000000 in
/-- (*benchwarmer/benchmake.Stream).Told -/
theorem c_benchmake_Stream_Told [Tracks] {b : Nat} {l : List Int} {a : Nat}  (ha : a ≤ 700000) : Con Tryz.prog 67 [pAt b] [St b l a] (fun x M' => ∃ k a', x = ePlays k ∧ GoodPl k ∧ a' ≤ a + 500 ∧ M' = [St b l a']) := by
 refine Con.of_body Tryz.func67 rfl Tryz.ntmps67 rfl rfl ?_
 refine hw_reg ?_
 refine dp rfl (pop_assign rfl) ?_
 refine dn ?_
 refine hw_reg ?_
 refine dp rfl (pop_assign rfl) ?_
 refine dn ?_
 refine hw_ghost (Ghost.arr_nil 9) ?_
 refine hw_seq ?_
 refine hw_reg ?_
 refine dp rfl (pop_buildSlice (hs := [_, _, _]) ty36 ty9 rfl rfl (by decide) (by decide) rfl) ?_
 refine dp rfl (pop_lenm (f := HVal.str) (l := src3) ty36 rfl) ?_
 refine dp rfl (pop_move rfl) ?_
 refine dn ?_
 refine hw_block ?_
 refine hw_loopw2 (3 :: 5 :: 6 :: 7 :: 8 :: 9 :: 11 :: 15 :: 16 :: 17 :: 18 :: 19 :: 20 :: 21 :: 22 :: 23 :: 24 :: 25 :: 26 :: 27 :: 28 :: 29 :: 30 :: 31 :: 32 :: 33 :: 34 :: 35 :: 36 :: 37 :: 38 :: 39 :: 40 :: 41 :: 42 :: 43 :: 44 :: 45 :: 46 :: 47 :: 48 :: 49 :: 50 :: 51 :: 52 :: 53 :: 54 :: 55 :: 56 :: 57 :: 58 :: 59 :: 60 :: 61 :: 62 :: 63 :: 64 :: 65 :: 66 :: 67 :: 68 :: 69 :: 70 :: 71 :: 72 :: 73 :: 74 :: 75 :: 76 :: 77 :: 78 :: 79 :: 80 :: 81 :: 82 :: 83 :: 84 :: 85 :: 86 :: 87 :: 88 :: 89 :: 90 :: 91 :: 92 :: 93 :: 94 :: 95 :: 96 :: 97 :: 98 :: 99 :: 100 :: 101 :: 102 :: 103 :: 104 :: 105 :: 106 :: 107 :: 108 :: 109 :: 110 :: 111 :: []) (fun (k : Nat) (q : GL Play) => [(15, .int .i64 k), (3, .raw q.u)]) (fun (k : Nat) (q : GL Play) => [St b l q.a, .arr q.u 9 (q.out.map ePlay)]) (fun (k : Nat) (q : GL Play) => k ≤ src3.length ∧ (GLok GoodPl1 (5 * k) (a + 130 * k) q)) (fun (k : Nat) (q : GL Play) => src3.length - k) (0) (⟨.slice none 0 0, [], a⟩) ?_ ?_ ?_ ?_
 ·exact ⟨by decide, ⟨by simp, by simp, by dsimp only; omega⟩⟩
 ·exact ⟨rfl, rfl, trivial⟩
 ·repeat (first | exact List.Perm.nil | refine permTo 0 rfl ?_ | refine permTo 1 rfl ?_ | refine permTo 2 rfl ?_ | refine permTo 3 rfl ?_ | (refine permToE 0 rfl ?hq ?_; (case hq => simp [setL, hcells]; done)) | (refine permToE 1 rfl ?hq ?_; (case hq => simp [setL, hcells]; done)) | (refine permToE 2 rfl ?hq ?_; (case hq => simp [setL, hcells]; done)) | (refine permToE 3 rfl ?hq ?_; (case hq => simp [setL, hcells]; done)) | fail)
 ·intro k q hinv
  obtain ⟨hk, hq⟩ := hinv
  obtain ⟨u, out, a1⟩ := q
  obtain ⟨g1, g2, g3⟩ := id hq
  dsimp only at g1 g2 g3
  have h3 : src3.length = 3 := rfl
  refine hw_reg ?_
  refine dp rfl (pop_lss rfl rfl) ?_
  refine dn ?_
  refine hw_seq ?_
  refine hw_cond rfl (fun h1 => ?_) (fun h2 => ?_)
  ·try simp at h1
   obtain ⟨x, hx⟩ : ∃ x, src3[k]? = some x := ⟨_, List.getElem?_eq_getElem h1⟩
   have hdx := drop_cons hx
   refine hw_skip ?_
   refine seqQ_n ?_
   refine hw_seq ?_
   refine hw_block ?_
   refine hw_reg ?_
   refine dp rfl (pop_idx (f := HVal.str) (l := src3) (j := k) (a := x) ty36 ty9 rfl rfl rfl hx) ?_
   refine dp rfl (pop_load ty9 rfl rfl rfl) ?_
   refine dp rfl (pop_assign rfl) ?_
   refine dn ?_
   refine hw_reg ?_
   refine dp rfl (pop_move rfl) ?_
   refine dp rfl (pop_buildSlice (hs := [_, _]) ty22 ty3 rfl rfl (by decide) (by decide) rfl) ?_
   refine de rfl (eop_callx (i := 0) ca32 rfl (WeakL.refl _) rfl (c_benchmake_Stream_Pick (L := [_, _]) (by first | assumption | omega | (simp; omega) | simp_all) (by first | assumption | omega | (simp; omega) | simp_all) (by first | assumption | omega | (simp; omega) | simp_all)) ?_)
   rintro _ _ ⟨y21, rfl, hy21, rfl⟩
   refine dp rfl (pop_assign rfl) ?_
   refine dp rfl (pop_assign rfl) ?_
   refine dn ?_
   refine hw_reg ?_
   refine dp rfl (pop_move rfl) ?_
   refine de rfl (eop_callx (i := 0) ca9 rfl (WeakL.refl _) rfl (c_benchmake_Stream_Range (by first | assumption | omega | (simp; omega) | simp_all) (by first | assumption | omega | (simp; omega) | simp_all) (by first | assumption | omega | (simp; omega) | simp_all) (by first | assumption | omega | (simp; omega) | simp_all)) ?_)
   rintro _ _ ⟨y23, rfl, hy23, rfl⟩
   refine dp rfl (pop_move rfl) ?_
   refine dn ?_
   refine hw_block ?_
   refine hw_loopw4 (3 :: 6 :: 7 :: 8 :: 9 :: 11 :: 24 :: 25 :: 26 :: 27 :: 28 :: 29 :: 30 :: 31 :: 32 :: 33 :: 34 :: 35 :: 36 :: 37 :: 38 :: 39 :: 40 :: 41 :: 42 :: 43 :: 44 :: 45 :: 46 :: 47 :: 48 :: 49 :: 50 :: 51 :: 52 :: 53 :: 54 :: 55 :: 56 :: 57 :: 58 :: 59 :: 60 :: 61 :: 62 :: 63 :: 64 :: 65 :: 66 :: 67 :: 68 :: 69 :: 70 :: 71 :: 72 :: 73 :: 74 :: 75 :: 76 :: 77 :: 78 :: 79 :: 80 :: 81 :: 82 :: 83 :: 84 :: 85 :: 86 :: 87 :: 88 :: 89 :: 90 :: 91 :: 92 :: 93 :: 94 :: 95 :: 96 :: 97 :: 98 :: 99 :: 100 :: 101 :: 102 :: 103 :: 104 :: 105 :: 106 :: 107 :: 108 :: 109 :: 110 :: []) (fun (n : Nat) (no : Int) (at1 : Int) (q2 : GL Play) => [(24, .int .i64 (n : Int)), (6, .int .i64 no), (7, .int .i64 at1), (3, .raw q2.u)]) (fun (n : Nat) (no : Int) (at1 : Int) (q2 : GL Play) => [St b l q2.a, .arr q2.u 9 (q2.out.map ePlay)]) (fun (n : Nat) (no : Int) (at1 : Int) (q2 : GL Play) => (n : Int) ≤ y23 ∧ (0 ≤ no ∧ no ≤ 2 * n) ∧ (0 ≤ at1 ∧ at1 ≤ 5 + 40 * n) ∧ GLok GoodPl1 (5 * k + n) (a1 + 2 + 25 * n) q2) (fun (n : Nat) (no : Int) (at1 : Int) (q2 : GL Play) => y23.toNat - n) (0) (0) (y21) (⟨u, out, a1 + 2⟩) ?_ ?_ ?_ ?_
   ·exact ⟨by omega, ⟨by omega, by omega⟩, ⟨by simp at hy21; omega, by simp at hy21; omega⟩, ⟨by dsimp only; omega, g2, by dsimp only; omega⟩⟩
   ·exact ⟨rfl, rfl, rfl, rfl, trivial⟩
   ·repeat (first | exact List.Perm.nil | refine permTo 0 rfl ?_ | refine permTo 1 rfl ?_ | refine permTo 2 rfl ?_ | refine permTo 3 rfl ?_ | (refine permToE 0 rfl ?hq ?_; (case hq => simp [setL, hcells]; done)) | (refine permToE 1 rfl ?hq ?_; (case hq => simp [setL, hcells]; done)) | (refine permToE 2 rfl ?hq ?_; (case hq => simp [setL, hcells]; done)) | (refine permToE 3 rfl ?hq ?_; (case hq => simp [setL, hcells]; done)) | fail)
   ·intro n no at1 q2 hinv
    obtain ⟨hn, hno, hat, hq2⟩ := hinv
    obtain ⟨u, out, a2⟩ := q2
    obtain ⟨g1, g2, g3⟩ := id hq2
    dsimp only at g1 g2 g3
    refine hw_reg ?_
    refine dp rfl (pop_lss rfl rfl) ?_
    refine dn ?_
    refine hw_seq ?_
    refine hw_cond rfl (fun h3 => ?_) (fun h4 => ?_)
    ·try simp at h3
     refine hw_skip ?_
     refine seqQ_n ?_
     refine hw_seq ?_
     refine hw_block ?_
     refine hw_reg ?_
     refine dp rfl (pop_move rfl) ?_
     refine dp rfl (pop_move rfl) ?_
     refine dp rfl (pop_buildSlice (hs := [_, _, _]) ty22 ty3 rfl rfl (by decide) (by decide) rfl) ?_
     refine de rfl (eop_callx (i := 0) ca32 rfl (WeakL.refl _) rfl (c_benchmake_Stream_Pick (L := [_, _, _]) (by first | assumption | omega | (simp; omega) | simp_all) (by first | assumption | omega | (simp; omega) | simp_all) (by first | assumption | omega | (simp; omega) | simp_all)) ?_)
     rintro _ _ ⟨y29, rfl, hy29, rfl⟩
     refine dp rfl (pop_add64 rfl rfl (by simp at hy29; omega) (by simp at hy29; omega)) ?_
     refine dp rfl (pop_assign rfl) ?_
     refine dn ?_
     refine hw_reg ?_
     refine dp rfl (pop_move rfl) ?_
     refine de rfl (eop_callx (i := 0) ca50 rfl (WeakL.refl _) rfl (c_benchmake_Stream_Next (by first | assumption | omega | (simp; omega) | simp_all) (by first | assumption | omega | (simp; omega) | simp_all)) ?_)
     rintro _ _ ⟨y32, rfl, hy32, rfl⟩
     refine dp rfl (pop_assign rfl) ?_
     refine dn ?_
     have hyb : 1 ≤ y29 ∧ y29 ≤ 2 := by simp at hy29; omega
     refine hw_join [9, 33, 34, 35, 36, 37, 38, 39, 40, 41, 42, 43, 44, 45, 46, 47, 48, 49, 50, 51, 52, 53] (fun (q9 : Nat × Play) => [(9, pAt q9.1)]) (fun (q9 : Nat × Play) => [St b l (a2 + 5), .arr u 9 (out.map ePlay), .cells q9.1 (hcells (ePlay q9.2))]) (fun (q9 : Nat × Play) => GoodPl1 q9.2) ?_ ?_
     ·skip
      refine hw_draw1 (fun _ => True) [] mixed ?_
      refine ahp 0 rfl rfl (by kernel_rfl) (by kernel_rfl) (pop_move rfl) ?_
      refine ahp 1 rfl rfl (by kernel_rfl) (by kernel_rfl) (pop_move rfl) ?_
      refine ahp 2 rfl rfl (by kernel_rfl) (by kernel_rfl) (pop_move rfl) ?_
      refine ahp 3 rfl rfl (by kernel_rfl) (by kernel_rfl) (pop_buildSlice (hs := [_, _, _]) ty22 ty3 rfl rfl (by decide) (by decide) rfl) ?_
      refine ahp 4 rfl rfl (by kernel_rfl) (by kernel_rfl) (pop_move rfl) ?_
      refine ahp 5 rfl rfl (by kernel_rfl) (by kernel_rfl) (pop_idx (f := HVal.int .i64) (l := week3) (j := y32) (a := week3.getD y32 0) ty22 ty3 rfl rfl rfl (getD_some (by simp [week3]; omega))) ?_
      refine ahp 6 rfl rfl (by kernel_rfl) (by kernel_rfl) (pop_load ty3 rfl rfl rfl) ?_
      refine ahp 7 rfl rfl (by kernel_rfl) (by kernel_rfl) (pop_buildSlice (hs := [_, _, _]) ty36 ty9 rfl rfl (by decide) (by decide) rfl) ?_
      refine ahp 8 rfl rfl (by kernel_rfl) (by kernel_rfl) (pop_move rfl) ?_
      refine ahp 9 rfl rfl (by kernel_rfl) (by kernel_rfl) (pop_idx (f := HVal.str) (l := match3) (j := y32) (a := match3.getD y32 []) ty36 ty9 rfl rfl rfl (getD_some (by simp [match3]; omega))) ?_
      refine ahp 10 rfl rfl (by kernel_rfl) (by kernel_rfl) (pop_load ty9 rfl rfl rfl) ?_
      refine ahp 11 rfl rfl (by kernel_rfl) (by kernel_rfl) (pop_move rfl) ?_
      refine ahp 12 rfl rfl (by kernel_rfl) (by kernel_rfl) (pop_buildSlice (hs := [_, _, _]) ty36 ty9 rfl rfl (by decide) (by decide) rfl) ?_
      refine ahp 14 rfl rfl (by kernel_rfl) (by kernel_rfl) (pop_move rfl) ?_
      refine ahp 15 rfl rfl (by kernel_rfl) (by kernel_rfl) (pop_buildSlice (hs := [_, _, _, _]) ty36 ty9 rfl rfl (by decide) (by decide) rfl) ?_
      refine ahp 17 rfl rfl (by kernel_rfl) (by kernel_rfl) (pop_move rfl) ?_
      refine ahp 18 rfl rfl (by kernel_rfl) (by kernel_rfl) (pop_buildSlice (hs := [_, _, _, _, _]) ty22 ty3 rfl rfl (by decide) (by decide) rfl) ?_
      refine ahe2 13 21 rfl rfl (by kernel_rfl) ?_ ?_
      ·skip
       refine hop_e rfl (eop_callx (i := 0) ca31 rfl (WeakL.refl _) rfl (c_benchmake_Stream_Some (L := [_, _, _]) (by first | assumption | omega | (simp; omega) | simp_all) (by first | assumption | omega | (simp; omega) | simp_all) (by first | assumption | omega | (simp; omega) | simp_all)) ?_)
       rintro _ _ ⟨y46, rfl, hy46, rfl⟩
       refine ⟨fun _ => .inl trivial, ?_⟩
       refine ahe2 16 21 rfl rfl (by kernel_rfl) ?_ ?_
       ·skip
        refine hop_e rfl (eop_callx (i := 0) ca31 rfl (WeakL.refl _) rfl (c_benchmake_Stream_Some (L := [_, _, _, _]) (by first | assumption | omega | (simp; omega) | simp_all) (by first | assumption | omega | (simp; omega) | simp_all) (by first | assumption | omega | (simp; omega) | simp_all)) ?_)
        rintro _ _ ⟨y49, rfl, hy49, rfl⟩
        refine ⟨fun _ => .inl trivial, ?_⟩
        refine ahe2 19 21 rfl rfl (by kernel_rfl) ?_ ?_
        ·skip
         refine hop_e rfl (eop_callx (i := 0) ca32 rfl (WeakL.refl _) rfl (c_benchmake_Stream_Pick (L := [_, _, _, _, _]) (by first | assumption | omega | (simp; omega) | simp_all) (by first | assumption | omega | (simp; omega) | simp_all) (by first | assumption | omega | (simp; omega) | simp_all)) ?_)
         rintro _ _ ⟨y52, rfl, hy52, rfl⟩
         refine ⟨fun _ => .inl trivial, ?_⟩
         refine ahp 20 rfl rfl (by kernel_rfl) (by kernel_rfl) (pop_build (cs := [_, _, _, _, _, _, _, _, _]) ty97 pl97 rfl) ?_
         refine ahe 21 rfl (by kernel_rfl) ?_
         refine hop_e rfl (eop_alloc ty97 rfl fun b9 => ?_)
         refine ⟨fun _ => .inl trivial, ?_⟩
         refine ahe 22 rfl (by kernel_rfl) ?_
         refine hop_e0 (eop_store (i := 0) ty97 rfl rfl rfl rfl rfl (Nat.le_of_ble_eq_true rfl) ?_)
         refine ⟨fun _ => .inl trivial, ?_⟩
         refine ahz (by kernel_rfl) ?_
         refine ⟨(b9, (⟨x, no + y29, at1, week3.getD y32 0, match3.getD y32 [], y46, y49, y52, 0⟩ : Play)), ?_, ⟨rfl, trivial⟩, (by repeat (first | exact keeps_refl | refine keeps_upd rfl ?_ | refine keeps_loop rfl rfl ?_)), ?_⟩
         ·exact ⟨src3_sh x (List.mem_of_getElem? hx), match3_sh y32, by simp at hy46; rcases hy46 with rfl | rfl | rfl <;> (unfold Sh; simp), by simp at hy49; rcases hy49 with rfl | rfl | rfl <;> (unfold Sh; simp)⟩
         ·repeat (first | exact List.Perm.nil | refine permTo 0 rfl ?_ | refine permTo 1 rfl ?_ | refine permTo 2 rfl ?_ | refine permTo 3 rfl ?_ | (refine permToE 0 rfl ?hq ?_; (case hq => simp [setL, hcells]; done)) | (refine permToE 1 rfl ?hq ?_; (case hq => simp [setL, hcells]; done)) | (refine permToE 2 rfl ?hq ?_; (case hq => simp [setL, hcells]; done)) | (refine permToE 3 rfl ?hq ?_; (case hq => simp [setL, hcells]; done)) | fail)
        ·skip
         refine hop_e rfl (eop_alloc ty97 rfl fun b9 => ?_)
         refine ⟨fun _ => .inl trivial, ?_⟩
         refine ahe 19 rfl (by kernel_rfl) ?_
         refine hop_e rfl (eop_callx (i := 1) ca32 rfl (WeakL.refl _) rfl (c_benchmake_Stream_Pick (L := [_, _, _, _, _]) (by first | assumption | omega | (simp; omega) | simp_all) (by first | assumption | omega | (simp; omega) | simp_all) (by first | assumption | omega | (simp; omega) | simp_all)) ?_)
         rintro _ _ ⟨y52, rfl, hy52, rfl⟩
         refine ⟨fun _ => .inl trivial, ?_⟩
         refine ahp 20 rfl rfl (by kernel_rfl) (by kernel_rfl) (pop_build (cs := [_, _, _, _, _, _, _, _, _]) ty97 pl97 rfl) ?_
         refine ahe 22 rfl (by kernel_rfl) ?_
         refine hop_e0 (eop_store (i := 1) ty97 rfl rfl rfl rfl rfl (Nat.le_of_ble_eq_true rfl) ?_)
         refine ⟨fun _ => .inl trivial, ?_⟩
         refine ahz (by kernel_rfl) ?_
         refine ⟨(b9, (⟨x, no + y29, at1, week3.getD y32 0, match3.getD y32 [], y46, y49, y52, 0⟩ : Play)), ?_, ⟨rfl, trivial⟩, (by repeat (first | exact keeps_refl | refine keeps_upd rfl ?_ | refine keeps_loop rfl rfl ?_)), ?_⟩
         ·exact ⟨src3_sh x (List.mem_of_getElem? hx), match3_sh y32, by simp at hy46; rcases hy46 with rfl | rfl | rfl <;> (unfold Sh; simp), by simp at hy49; rcases hy49 with rfl | rfl | rfl <;> (unfold Sh; simp)⟩
         ·repeat (first | exact List.Perm.nil | refine permTo 0 rfl ?_ | refine permTo 1 rfl ?_ | refine permTo 2 rfl ?_ | refine permTo 3 rfl ?_ | (refine permToE 0 rfl ?hq ?_; (case hq => simp [setL, hcells]; done)) | (refine permToE 1 rfl ?hq ?_; (case hq => simp [setL, hcells]; done)) | (refine permToE 2 rfl ?hq ?_; (case hq => simp [setL, hcells]; done)) | (refine permToE 3 rfl ?hq ?_; (case hq => simp [setL, hcells]; done)) | fail)
       ·skip
        refine hop_e rfl (eop_alloc ty97 rfl fun b9 => ?_)
        refine ⟨fun _ => .inl trivial, ?_⟩
        refine ahe 16 rfl (by kernel_rfl) ?_
        refine hop_e rfl (eop_callx (i := 1) ca31 rfl (WeakL.refl _) rfl (c_benchmake_Stream_Some (L := [_, _, _, _]) (by first | assumption | omega | (simp; omega) | simp_all) (by first | assumption | omega | (simp; omega) | simp_all) (by first | assumption | omega | (simp; omega) | simp_all)) ?_)
        rintro _ _ ⟨y49, rfl, hy49, rfl⟩
        refine ⟨fun _ => .inl trivial, ?_⟩
        refine ahe 19 rfl (by kernel_rfl) ?_
        refine hop_e rfl (eop_callx (i := 0) ca32 rfl (WeakL.refl _) rfl (c_benchmake_Stream_Pick (L := [_, _, _, _, _]) (by first | assumption | omega | (simp; omega) | simp_all) (by first | assumption | omega | (simp; omega) | simp_all) (by first | assumption | omega | (simp; omega) | simp_all)) ?_)
        rintro _ _ ⟨y52, rfl, hy52, rfl⟩
        refine ⟨fun _ => .inl trivial, ?_⟩
        refine ahp 20 rfl rfl (by kernel_rfl) (by kernel_rfl) (pop_build (cs := [_, _, _, _, _, _, _, _, _]) ty97 pl97 rfl) ?_
        refine ahe 22 rfl (by kernel_rfl) ?_
        refine hop_e0 (eop_store (i := 1) ty97 rfl rfl rfl rfl rfl (Nat.le_of_ble_eq_true rfl) ?_)
        refine ⟨fun _ => .inl trivial, ?_⟩
        refine ahz (by kernel_rfl) ?_
        refine ⟨(b9, (⟨x, no + y29, at1, week3.getD y32 0, match3.getD y32 [], y46, y49, y52, 0⟩ : Play)), ?_, ⟨rfl, trivial⟩, (by repeat (first | exact keeps_refl | refine keeps_upd rfl ?_ | refine keeps_loop rfl rfl ?_)), ?_⟩
        ·exact ⟨src3_sh x (List.mem_of_getElem? hx), match3_sh y32, by simp at hy46; rcases hy46 with rfl | rfl | rfl <;> (unfold Sh; simp), by simp at hy49; rcases hy49 with rfl | rfl | rfl <;> (unfold Sh; simp)⟩
        ·repeat (first | exact List.Perm.nil | refine permTo 0 rfl ?_ | refine permTo 1 rfl ?_ | refine permTo 2 rfl ?_ | refine permTo 3 rfl ?_ | (refine permToE 0 rfl ?hq ?_; (case hq => simp [setL, hcells]; done)) | (refine permToE 1 rfl ?hq ?_; (case hq => simp [setL, hcells]; done)) | (refine permToE 2 rfl ?hq ?_; (case hq => simp [setL, hcells]; done)) | (refine permToE 3 rfl ?hq ?_; (case hq => simp [setL, hcells]; done)) | fail)
      ·skip
       refine hop_e rfl (eop_alloc ty97 rfl fun b9 => ?_)
       refine ⟨fun _ => .inl trivial, ?_⟩
       refine ahe 13 rfl (by kernel_rfl) ?_
       refine hop_e rfl (eop_callx (i := 1) ca31 rfl (WeakL.refl _) rfl (c_benchmake_Stream_Some (L := [_, _, _]) (by first | assumption | omega | (simp; omega) | simp_all) (by first | assumption | omega | (simp; omega) | simp_all) (by first | assumption | omega | (simp; omega) | simp_all)) ?_)
       rintro _ _ ⟨y46, rfl, hy46, rfl⟩
       refine ⟨fun _ => .inl trivial, ?_⟩
       refine ahe 16 rfl (by kernel_rfl) ?_
       refine hop_e rfl (eop_callx (i := 0) ca31 rfl (WeakL.refl _) rfl (c_benchmake_Stream_Some (L := [_, _, _, _]) (by first | assumption | omega | (simp; omega) | simp_all) (by first | assumption | omega | (simp; omega) | simp_all) (by first | assumption | omega | (simp; omega) | simp_all)) ?_)
       rintro _ _ ⟨y49, rfl, hy49, rfl⟩
       refine ⟨fun _ => .inl trivial, ?_⟩
       refine ahe 19 rfl (by kernel_rfl) ?_
       refine hop_e rfl (eop_callx (i := 0) ca32 rfl (WeakL.refl _) rfl (c_benchmake_Stream_Pick (L := [_, _, _, _, _]) (by first | assumption | omega | (simp; omega) | simp_all) (by first | assumption | omega | (simp; omega) | simp_all) (by first | assumption | omega | (simp; omega) | simp_all)) ?_)
       rintro _ _ ⟨y52, rfl, hy52, rfl⟩
       refine ⟨fun _ => .inl trivial, ?_⟩
       refine ahp 20 rfl rfl (by kernel_rfl) (by kernel_rfl) (pop_build (cs := [_, _, _, _, _, _, _, _, _]) ty97 pl97 rfl) ?_
       refine ahe 22 rfl (by kernel_rfl) ?_
       refine hop_e0 (eop_store (i := 1) ty97 rfl rfl rfl rfl rfl (Nat.le_of_ble_eq_true rfl) ?_)
       refine ⟨fun _ => .inl trivial, ?_⟩
       refine ahz (by kernel_rfl) ?_
       refine ⟨(b9, (⟨x, no + y29, at1, week3.getD y32 0, match3.getD y32 [], y46, y49, y52, 0⟩ : Play)), ?_, ⟨rfl, trivial⟩, (by repeat (first | exact keeps_refl | refine keeps_upd rfl ?_ | refine keeps_loop rfl rfl ?_)), ?_⟩
       ·exact ⟨src3_sh x (List.mem_of_getElem? hx), match3_sh y32, by simp at hy46; rcases hy46 with rfl | rfl | rfl <;> (unfold Sh; simp), by simp at hy49; rcases hy49 with rfl | rfl | rfl <;> (unfold Sh; simp)⟩
       ·repeat (first | exact List.Perm.nil | refine permTo 0 rfl ?_ | refine permTo 1 rfl ?_ | refine permTo 2 rfl ?_ | refine permTo 3 rfl ?_ | (refine permToE 0 rfl ?hq ?_; (case hq => simp [setL, hcells]; done)) | (refine permToE 1 rfl ?hq ?_; (case hq => simp [setL, hcells]; done)) | (refine permToE 2 rfl ?hq ?_; (case hq => simp [setL, hcells]; done)) | (refine permToE 3 rfl ?hq ?_; (case hq => simp [setL, hcells]; done)) | fail)
     ·intro q9 hq9
      obtain ⟨b9, x9⟩ := q9
      dsimp only at hq9
      refine hw_join [11, 54, 55, 56, 57, 58, 59, 60, 61, 62, 63, 64, 65, 66, 67, 68, 69, 70, 71, 72, 73, 74, 75, 76, 77, 78, 79, 80, 81, 82, 83, 84, 85, 86, 87, 88, 89, 90, 91, 92, 93, 94, 95, 96, 97, 98, 99, 100] (fun (q4 : Play × Nat) => []) (fun (q4 : Play × Nat) => [St b l q4.2, .arr u 9 (out.map ePlay), .cells b9 (hcells (ePlay q4.1))]) (fun (q4 : Play × Nat) => GoodPl1 q4.1 ∧ q4.2 ≤ a2 + 22) ?_ ?_
      ·skip
       refine hw_reg ?_
       refine dp rfl (pop_move rfl) ?_
       refine dp rfl (pop_gtr rfl rfl) ?_
       refine dp rfl (pop_move rfl) ?_
       refine dg rfl rfl (fun hc => ⟨_, OpenTo.refl _, pop_move rfl⟩) ?_
       refine dgx (fun x M' => ∃ (y : Bool) (a3 : Nat), x = .bool y ∧ a3 ≤ (a2 + 5) + 1 ∧ M' = [St b l a3, .arr u 9 (out.map ePlay), .cells b9 (hcells (ePlay x9))]) rfl rfl (fun hc => ⟨_, false, (a2 + 5), rfl, by omega, rfl⟩) (fun hc => ⟨_, OpenTo.upd (t := 57) rfl (hc) (OpenTo.refl _), eop_callx (i := 0) ca49 rfl (WeakL.refl _) rfl (c_benchmake_Stream_Flip (a := (a2 + 5)) (by omega) (by omega)) (fun h M' hh => by
        obtain ⟨y, h1, h2⟩ := hh
        exact ⟨y, (a2 + 5) + 1, h1, by omega, by rw [h2]; rfl⟩)⟩) ?_
       rintro _ _ ⟨y10, a310, rfl, ha310, rfl⟩
       refine dp rfl (pop_picko rfl (.inr ⟨_, rfl, fun h => by simp_all⟩) (.inl rfl)) ?_
       refine dn ?_
       refine hw_cond rfl (fun h5 => ?_) (fun h6 => ?_)
       ·try simp at h5
        refine hw_reg ?_
        refine dp rfl (pop_move rfl) ?_
        refine dp rfl (pop_move rfl) ?_
        refine dp rfl (pop_sub64 rfl rfl (by omega) (by omega)) ?_
        refine de rfl (eop_callx (i := 0) ca9 rfl (WeakL.refl _) rfl (c_benchmake_Stream_Range (by first | assumption | omega | (simp; omega) | simp_all) (by first | assumption | omega | (simp; omega) | simp_all) (by first | assumption | omega | (simp; omega) | simp_all) (by first | assumption | omega | (simp; omega) | simp_all)) ?_)
        rintro _ _ ⟨y63, rfl, hy63, rfl⟩
        refine dp rfl (pop_fieldAddr_raw ty97 rfl ty3 (by decide) rfl) ?_
        refine de0 (eop_store (i := 2) ty3 rfl rfl rfl rfl rfl (Nat.le_of_ble_eq_true rfl) ?_)
        refine dp rfl (pop_fieldAddr_raw ty97 rfl ty3 (by decide) rfl) ?_
        refine de0 (eop_store (i := 2) ty3 rfl rfl rfl rfl rfl (Nat.le_of_ble_eq_true rfl) ?_)
        refine dn ?_
        obtain ⟨s9, n9, t9, w9, m9, p9, st9, c9, u9⟩ := x9
        refine hw_ghost (Ghost.perm (M' := [St b l (a310 + 1), .arr u 9 (out.map ePlay), .cells b9 (hcells (ePlay ⟨s9, n9, t9, w9, m9, p9, st9, 0, y63⟩))]) (by repeat (first | exact List.Perm.nil | refine permTo 0 rfl ?_ | refine permTo 1 rfl ?_ | refine permTo 2 rfl ?_ | refine permTo 3 rfl ?_ | (refine permToE 0 rfl ?hq ?_; (case hq => simp [setL, hcells]; done)) | (refine permToE 1 rfl ?hq ?_; (case hq => simp [setL, hcells]; done)) | (refine permToE 2 rfl ?hq ?_; (case hq => simp [setL, hcells]; done)) | (refine permToE 3 rfl ?hq ?_; (case hq => simp [setL, hcells]; done)) | fail))) ?_
        refine hw_reg ?_
        refine dp rfl (pop_move rfl) ?_
        refine de rfl (eop_lenm (i := 1) (es := out) ty44 rfl rfl ?_)
        refine dp rfl (pop_move rfl) ?_
        refine dn ?_
        refine hw_block ?_
        refine hw_loopw2 [11, 68, 69, 70, 71, 72, 73, 74, 75, 76, 77, 78, 79, 80, 81, 82, 83, 84, 85, 86, 87, 88, 89, 90, 91, 92, 93, 94, 95, 96, 97, 98, 99, 100] (fun (j : Nat) (q3 : Play × Nat) => [(68, .int .i64 j)]) (fun (j : Nat) (q3 : Play × Nat) => [St b l q3.2, .arr u 9 (out.map ePlay), .cells b9 (hcells (ePlay q3.1))]) (fun (j : Nat) (q3 : Play × Nat) => j ≤ out.length ∧ (GoodPl1 q3.1 ∧ q3.2 ≤ a310 + 1 + j)) (fun (j : Nat) (q3 : Play × Nat) => out.length - j) (0) ((⟨s9, n9, t9, w9, m9, p9, st9, 0, y63⟩, a310 + 1)) ?_ ?_ ?_ ?_
        ·exact ⟨Nat.zero_le _, hq9, by dsimp only; omega⟩
        ·exact ⟨rfl, trivial⟩
        ·repeat (first | exact List.Perm.nil | refine permTo 0 rfl ?_ | refine permTo 1 rfl ?_ | refine permTo 2 rfl ?_ | refine permTo 3 rfl ?_ | (refine permToE 0 rfl ?hq ?_; (case hq => simp [setL, hcells]; done)) | (refine permToE 1 rfl ?hq ?_; (case hq => simp [setL, hcells]; done)) | (refine permToE 2 rfl ?hq ?_; (case hq => simp [setL, hcells]; done)) | (refine permToE 3 rfl ?hq ?_; (case hq => simp [setL, hcells]; done)) | fail)
        ·intro j q3 hinv
         obtain ⟨hj, hq3⟩ := hinv
         obtain ⟨⟨s3, n3, t3, w3, m3, p3, st3, c3, u3⟩, a4⟩ := q3
         obtain ⟨hs3, ha4⟩ := hq3
         dsimp only at hs3 ha4
         refine hw_reg ?_
         refine dp rfl (pop_lss rfl rfl) ?_
         refine dn ?_
         refine hw_seq ?_
         refine hw_cond rfl (fun h7 => ?_) (fun h8 => ?_)
         ·try simp at h7
          obtain ⟨z, hz⟩ : ∃ z, out[j]? = some z := ⟨_, List.getElem?_eq_getElem h7⟩
          have hdz := drop_cons hz
          have hgz := g2 z (List.mem_of_getElem? hz)
          refine hw_arrc (i := 1) rfl (fun h0 he => ?_) (fun ob off cap hv hcap => ?_)
          ·exfalso; have := congrArg List.length he; simp at this; subst this; simp at hz
          subst hv
          refine hw_skip ?_
          refine seqQ_n ?_
          refine hw_seq ?_
          refine hw_block ?_
          refine hw_reg ?_
          refine dp rfl (pop_idxraw (j := j) ty44 ty97 rfl rfl rfl (by simp; omega)) ?_
          refine de rfl (eop_load_elw (i := 1) (j := j) (f := ePlay) (es := out) ty97 rfl rfl rfl hz rfl rfl rfl ?_)
          refine de rfl (eop_alloc ty97 rfl fun b11 => ?_)
          refine de0 (eop_storew ty97 rfl rfl rfl rfl rfl ?_)
          refine dn ?_
          refine hw_ghost (Ghost.fc0 11 rfl) ?_
          refine hw_reg ?_
          refine dp rfl ((pop_fieldAddr ty97 rfl ty9 (by decide) rfl)) ?_
          refine dp rfl (pop_load ty9 rfl rfl rfl) ?_
          refine dp rfl (pop_move rfl) ?_
          refine dp rfl (pop_eqls rfl rfl) ?_
          refine dp rfl (pop_move rfl) ?_
          refine dg rfl rfl (fun hc => ⟨_, OpenTo.refl _, (pop_fieldAddr ty97 rfl ty3 (by decide) rfl)⟩) ?_
          refine dg rfl rfl (fun hc => ⟨_, OpenTo.upd (t := 77) rfl (hc) (OpenTo.refl _), pop_load ty3 rfl rfl rfl⟩) ?_
          refine dg rfl rfl (fun hc => ⟨_, OpenTo.refl _, pop_fieldAddr_raw ty97 rfl ty3 (by decide) rfl⟩) ?_
          refine dgl rfl rfl (fun hc => ⟨_, OpenTo.upd (t := 79) rfl (hc) (OpenTo.refl _), eop_load (i := 2) ty3 rfl rfl (.inl ⟨rfl, rfl⟩) ⟨rfl, rfl⟩⟩) ?_
          refine dg rfl rfl (fun hc => ⟨_, OpenTo.upd (t := 80) rfl (hc) (OpenTo.upd (t := 78) rfl (hc) (OpenTo.refl _)), pop_eql rfl rfl⟩) ?_
          refine dp rfl (pop_picko rfl (.inr ⟨_, rfl, fun h => by simp_all⟩) (.inl rfl)) ?_
          refine dp rfl (pop_move rfl) ?_
          refine dg rfl rfl (fun hc => ⟨_, OpenTo.refl _, pop_move rfl⟩) ?_
          refine dgx (fun x M' => ∃ (y : Bool) (a3 : Nat), x = .bool y ∧ a3 ≤ a4 + 1 ∧ M' = [St b l a3, .arr (.slice (some ⟨ob, off, none⟩) (out.map ePlay).length cap) 9 (out.map ePlay), .cells b9 (hcells (ePlay ⟨s3, n3, t3, w3, m3, p3, st3, c3, u3⟩))]) rfl rfl (fun hc => ⟨_, false, a4, rfl, by omega, rfl⟩) (fun hc => ⟨_, OpenTo.upd (t := 84) rfl (hc) (OpenTo.refl _), eop_callx (i := 0) ca49 rfl (WeakL.refl _) rfl (c_benchmake_Stream_Flip (a := a4) (by omega) (by omega)) (fun h M' hh => by
           obtain ⟨y, h1, h2⟩ := hh
           exact ⟨y, a4 + 1, h1, by omega, by rw [h2]; rfl⟩)⟩) ?_
          rintro _ _ ⟨y6, a36, rfl, ha36, rfl⟩
          refine dg rfl rfl (fun hc => ⟨_, OpenTo.upd (t := 85) rfl (hc) (OpenTo.refl _), pop_not rfl⟩) ?_
          refine dp rfl (pop_picko rfl (.inr ⟨_, rfl, fun h => by simp_all⟩) (.inl rfl)) ?_
          refine dn ?_
          refine hw_cond rfl (fun h9 => ?_) (fun h10 => ?_)
          ·try simp at h9
           refine hw_draw1 (fun _ => True) [] mixed ?_
           refine ahp 0 rfl rfl (by kernel_rfl) (by kernel_rfl) ((pop_fieldAddr ty97 rfl ty9 (by decide) rfl)) ?_
           refine ahp 1 rfl rfl (by kernel_rfl) (by kernel_rfl) (pop_load ty9 rfl rfl rfl) ?_
           refine ahp 2 rfl rfl (by kernel_rfl) (by kernel_rfl) ((pop_fieldAddr ty97 rfl ty3 (by decide) rfl)) ?_
           refine ahp 3 rfl rfl (by kernel_rfl) (by kernel_rfl) (pop_load ty3 rfl rfl rfl) ?_
           refine ahp 4 rfl rfl (by kernel_rfl) (by kernel_rfl) ((pop_fieldAddr ty97 rfl ty9 (by decide) rfl)) ?_
           refine ahp 5 rfl rfl (by kernel_rfl) (by kernel_rfl) (pop_load ty9 rfl rfl rfl) ?_
           refine ahp 6 rfl rfl (by kernel_rfl) (by kernel_rfl) ((pop_fieldAddr ty97 rfl ty9 (by decide) rfl)) ?_
           refine ahp 7 rfl rfl (by kernel_rfl) (by kernel_rfl) (pop_load ty9 rfl rfl rfl) ?_
           refine ahp 8 rfl rfl (by kernel_rfl) (by kernel_rfl) (pop_fieldAddr_raw ty97 rfl ty9 (by decide) rfl) ?_
           refine ahe 9 rfl (by kernel_rfl) ?_
           refine hop_e0 (eop_store (i := 2) ty9 rfl rfl rfl rfl rfl (Nat.le_of_ble_eq_true rfl) ?_)
           refine ⟨fun _ => .inl trivial, ?_⟩
           refine ahp 10 rfl rfl (by kernel_rfl) (by kernel_rfl) (pop_fieldAddr_raw ty97 rfl ty3 (by decide) rfl) ?_
           refine ahe 11 rfl (by kernel_rfl) ?_
           refine hop_e0 (eop_store (i := 2) ty3 rfl rfl rfl rfl rfl (Nat.le_of_ble_eq_true rfl) ?_)
           refine ⟨fun _ => .inl trivial, ?_⟩
           refine ahp 12 rfl rfl (by kernel_rfl) (by kernel_rfl) (pop_fieldAddr_raw ty97 rfl ty9 (by decide) rfl) ?_
           refine ahe 13 rfl (by kernel_rfl) ?_
           refine hop_e0 (eop_store (i := 2) ty9 rfl rfl rfl rfl rfl (Nat.le_of_ble_eq_true rfl) ?_)
           refine ⟨fun _ => .inl trivial, ?_⟩
           refine ahp 14 rfl rfl (by kernel_rfl) (by kernel_rfl) (pop_fieldAddr_raw ty97 rfl ty9 (by decide) rfl) ?_
           refine ahe 15 rfl (by kernel_rfl) ?_
           refine hop_e0 (eop_store (i := 2) ty9 rfl rfl rfl rfl rfl (Nat.le_of_ble_eq_true rfl) ?_)
           refine ⟨fun _ => .inl trivial, ?_⟩
           refine ahz (by kernel_rfl) ?_
           refine blockQ_n ?_
           refine seqQ_n ?_
           refine hw_reg1 ?_
           refine dp rfl (pop_add64 rfl rfl (by omega) (by omega)) ?_
           refine dp rfl (pop_move rfl) ?_
           refine dn ?_
           exact ⟨j + 1, (⟨s3, n3, t3, z.Week, z.Match, z.Player, z.Stat, c3, u3⟩, a36), ⟨by omega, ⟨hs3.1, hgz.2.1, hgz.2.2.1, hgz.2.2.2⟩, by dsimp only; omega⟩, by dsimp only; omega, ⟨rfl, trivial⟩, (by repeat (first | exact keeps_refl | refine keeps_upd rfl ?_ | refine keeps_loop rfl rfl ?_)), by repeat (first | exact List.Perm.nil | refine permTo 0 rfl ?_ | refine permTo 1 rfl ?_ | refine permTo 2 rfl ?_ | refine permTo 3 rfl ?_ | (refine permToE 0 rfl ?hq ?_; (case hq => simp [setL, hcells]; done)) | (refine permToE 1 rfl ?hq ?_; (case hq => simp [setL, hcells]; done)) | (refine permToE 2 rfl ?hq ?_; (case hq => simp [setL, hcells]; done)) | (refine permToE 3 rfl ?hq ?_; (case hq => simp [setL, hcells]; done)) | fail)⟩
          ·try simp at h10
           refine hw_skip ?_
           refine blockQ_n ?_
           refine seqQ_n ?_
           refine hw_reg1 ?_
           refine dp rfl (pop_add64 rfl rfl (by omega) (by omega)) ?_
           refine dp rfl (pop_move rfl) ?_
           refine dn ?_
           exact ⟨j + 1, (⟨s3, n3, t3, w3, m3, p3, st3, c3, u3⟩, a36), ⟨by omega, hs3, by dsimp only; omega⟩, by dsimp only; omega, ⟨rfl, trivial⟩, (by repeat (first | exact keeps_refl | refine keeps_upd rfl ?_ | refine keeps_loop rfl rfl ?_)), by repeat (first | exact List.Perm.nil | refine permTo 0 rfl ?_ | refine permTo 1 rfl ?_ | refine permTo 2 rfl ?_ | refine permTo 3 rfl ?_ | (refine permToE 0 rfl ?hq ?_; (case hq => simp [setL, hcells]; done)) | (refine permToE 1 rfl ?hq ?_; (case hq => simp [setL, hcells]; done)) | (refine permToE 2 rfl ?hq ?_; (case hq => simp [setL, hcells]; done)) | (refine permToE 3 rfl ?hq ?_; (case hq => simp [setL, hcells]; done)) | fail)⟩
         ·try simp at h8
          have hnj : out.length ≤ j := by omega
          obtain rfl : j = out.length := by omega
          refine hw_exit ?_
          refine seqQ_x ?_
          refine loopQ2_x ?_
          refine blockQ_eq ?_
          exact ⟨(⟨s3, n3, t3, w3, m3, p3, st3, c3, u3⟩, a4), ⟨hs3, by dsimp only; omega⟩, trivial, (by repeat (first | exact keeps_refl | refine keeps_upd rfl ?_ | refine keeps_loop rfl rfl ?_)), by repeat (first | exact List.Perm.nil | refine permTo 0 rfl ?_ | refine permTo 1 rfl ?_ | refine permTo 2 rfl ?_ | refine permTo 3 rfl ?_ | (refine permToE 0 rfl ?hq ?_; (case hq => simp [setL, hcells]; done)) | (refine permToE 1 rfl ?hq ?_; (case hq => simp [setL, hcells]; done)) | (refine permToE 2 rfl ?hq ?_; (case hq => simp [setL, hcells]; done)) | (refine permToE 3 rfl ?hq ?_; (case hq => simp [setL, hcells]; done)) | fail)⟩
       ·try simp at h6
        refine hw_skip ?_
        exact ⟨(x9, a310), ⟨hq9, by dsimp only; omega⟩, trivial, (by repeat (first | exact keeps_refl | refine keeps_upd rfl ?_ | refine keeps_loop rfl rfl ?_)), by repeat (first | exact List.Perm.nil | refine permTo 0 rfl ?_ | refine permTo 1 rfl ?_ | refine permTo 2 rfl ?_ | refine permTo 3 rfl ?_ | (refine permToE 0 rfl ?hq ?_; (case hq => simp [setL, hcells]; done)) | (refine permToE 1 rfl ?hq ?_; (case hq => simp [setL, hcells]; done)) | (refine permToE 2 rfl ?hq ?_; (case hq => simp [setL, hcells]; done)) | (refine permToE 3 rfl ?hq ?_; (case hq => simp [setL, hcells]; done)) | fail)⟩
      ·intro q4 hq4
       obtain ⟨x5, a5⟩ := q4
       obtain ⟨hx5, ha5⟩ := hq4
       dsimp only at hx5 ha5
       refine hw_ghost (Ghost.fc 9 (i := 2) rfl rfl) ?_
       refine hw_reg ?_
       refine dp rfl (pop_move rfl) ?_
       refine dp rfl (pop_loadw ty97 rfl rfl rfl rfl) ?_
       refine dp rfl (pop_buildSlice (hs := [_]) ty44 ty97 rfl rfl (by decide) (by decide) rfl) ?_
       refine de rfl (eop_append (i := 1) ty44 ty97 rfl rfl rfl rfl rfl (by simp [flat, hcells]) (by simp; omega) fun v104 => ?_)
       refine dp rfl (pop_assign rfl) ?_
       refine dn ?_
       refine hw_reg1 ?_
       refine dp rfl (pop_move rfl) ?_
       refine dp rfl (pop_move rfl) ?_
       refine dp rfl (pop_buildSlice (hs := [_, _, _, _]) ty22 ty3 rfl rfl (by decide) (by decide) rfl) ?_
       refine de rfl (eop_callx (i := 0) ca32 rfl (WeakL.refl _) rfl (c_benchmake_Stream_Pick (L := [_, _, _, _]) (by first | assumption | omega | (simp; omega) | simp_all) (by first | assumption | omega | (simp; omega) | simp_all) (by first | assumption | omega | (simp; omega) | simp_all)) ?_)
       rintro _ _ ⟨y108, rfl, hy108, rfl⟩
       refine dp rfl (pop_add64 rfl rfl (by simp at hy108; omega) (by simp at hy108; omega)) ?_
       refine dp rfl (pop_assign rfl) ?_
       refine dn ?_
       refine blockQ_n ?_
       refine seqQ_n ?_
       refine hw_reg1 ?_
       refine dp rfl (pop_add64 rfl rfl (by omega) (by omega)) ?_
       refine dp rfl (pop_move rfl) ?_
       refine dn ?_
       exact ⟨n + 1, no + y29, at1 + y108, ⟨v104, out ++ [x5], a5 + 1⟩, ⟨by omega, ⟨by simp at hy29; omega, by simp at hy29; omega⟩, ⟨by simp at hy108; omega, by simp at hy108; omega⟩, hq2.add (x := x5) hx5 (by omega)⟩, by dsimp only; omega, ⟨rfl, rfl, rfl, rfl, trivial⟩, (by repeat (first | exact keeps_refl | refine keeps_upd rfl ?_ | refine keeps_loop rfl rfl ?_)), by repeat (first | exact List.Perm.nil | refine permTo 0 rfl ?_ | refine permTo 1 rfl ?_ | refine permTo 2 rfl ?_ | refine permTo 3 rfl ?_ | (refine permToE 0 rfl ?hq ?_; (case hq => simp [setL, hcells]; done)) | (refine permToE 1 rfl ?hq ?_; (case hq => simp [setL, hcells]; done)) | (refine permToE 2 rfl ?hq ?_; (case hq => simp [setL, hcells]; done)) | (refine permToE 3 rfl ?hq ?_; (case hq => simp [setL, hcells]; done)) | fail)⟩
    ·try simp at h4
     refine hw_exit ?_
     refine seqQ_x ?_
     refine loopQ4_x ?_
     refine blockQ_eq ?_
     refine blockQ_n ?_
     refine seqQ_n ?_
     refine hw_reg1 ?_
     refine dp rfl (pop_add64 rfl rfl (by omega) (by omega)) ?_
     refine dp rfl (pop_move rfl) ?_
     refine dn ?_
     exact ⟨k + 1, ⟨u, out, a2⟩, ⟨by omega, ⟨by dsimp only; omega, g2, by dsimp only; omega⟩⟩, by dsimp only; omega, ⟨rfl, rfl, trivial⟩, (by repeat (first | exact keeps_refl | refine keeps_upd rfl ?_ | refine keeps_loop rfl rfl ?_)), by repeat (first | exact List.Perm.nil | refine permTo 0 rfl ?_ | refine permTo 1 rfl ?_ | refine permTo 2 rfl ?_ | refine permTo 3 rfl ?_ | (refine permToE 0 rfl ?hq ?_; (case hq => simp [setL, hcells]; done)) | (refine permToE 1 rfl ?hq ?_; (case hq => simp [setL, hcells]; done)) | (refine permToE 2 rfl ?hq ?_; (case hq => simp [setL, hcells]; done)) | (refine permToE 3 rfl ?hq ?_; (case hq => simp [setL, hcells]; done)) | fail)⟩
  ·try simp at h2
   have hnk : src3.length ≤ k := by omega
   obtain rfl : k = src3.length := by omega
   refine hw_exit ?_
   refine seqQ_x ?_
   refine loopQ2_x ?_
   refine blockQ_eq ?_
   refine seqQ_n ?_
   refine hw_join (12 :: 112 :: 113 :: 114 :: 115 :: 116 :: 117 :: 118 :: 119 :: 120 :: 121 :: 122 :: 123 :: 124 :: 125 :: 126 :: 127 :: 128 :: 129 :: 130 :: 131 :: 132 :: 133 :: 134 :: 135 :: 136 :: 137 :: 138 :: 139 :: 140 :: 141 :: 142 :: 143 :: 144 :: 145 :: 146 :: 147 :: 148 :: 149 :: 150 :: 151 :: 152 :: 153 :: 154 :: 155 :: 156 :: 157 :: 158 :: 159 :: 160 :: 161 :: 162 :: 163 :: 164 :: 165 :: 166 :: 167 :: 168 :: 169 :: 170 :: 171 :: 172 :: 173 :: 174 :: 175 :: 176 :: 177 :: 178 :: 179 :: 180 :: 181 :: 182 :: 183 :: 184 :: 185 :: 186 :: 187 :: 188 :: 189 :: 190 :: 191 :: 192 :: 193 :: 194 :: 195 :: 196 :: 197 :: 198 :: 199 :: 200 :: 201 :: 202 :: 203 :: 204 :: 205 :: 206 :: 207 :: 208 :: 209 :: 210 :: 211 :: 212 :: 213 :: 214 :: 215 :: 216 :: 217 :: 218 :: 219 :: 220 :: 221 :: 222 :: []) (fun (q5 : List Play × Nat) => []) (fun (q5 : List Play × Nat) => [St b l q5.2, .arr u 9 (q5.1.map ePlay)]) (fun (q5 : List Play × Nat) => q5.1.length ≤ 15 ∧ (∀ x ∈ q5.1, GoodPl1 x) ∧ q5.2 ≤ a + 500) ?_ ?_
   ·skip
    refine hw_reg ?_
    refine dp rfl (pop_move rfl) ?_
    refine de rfl (eop_lenm (i := 1) ty44 rfl rfl ?_)
    refine dp rfl (pop_gtr rfl rfl) ?_
    refine dp rfl (pop_move rfl) ?_
    refine dg rfl rfl (fun hc => ⟨_, OpenTo.refl _, pop_move rfl⟩) ?_
    refine dgx (fun x M' => ∃ (y : Bool) (a3 : Nat), x = .bool y ∧ a3 ≤ a1 + 1 ∧ M' = [St b l a3, .arr u 9 (out.map ePlay)]) rfl rfl (fun hc => ⟨_, false, a1, rfl, by omega, rfl⟩) (fun hc => ⟨_, OpenTo.upd (t := 116) rfl (hc) (OpenTo.refl _), eop_callx (i := 0) ca49 rfl (WeakL.refl _) rfl (c_benchmake_Stream_Flip (a := a1) (by omega) (by omega)) (fun h M' hh => by
     obtain ⟨y, h1, h2⟩ := hh
     exact ⟨y, a1 + 1, h1, by omega, by rw [h2]; rfl⟩)⟩) ?_
    rintro _ _ ⟨y, a3, rfl, ha3, rfl⟩
    refine dp rfl (pop_picko rfl (.inr ⟨_, rfl, fun h => by simp_all⟩) (.inl rfl)) ?_
    refine dn ?_
    refine hw_cond rfl (fun h11 => ?_) (fun h12 => ?_)
    ·try simp at h11
     have ho0 : 0 < out.length := by simp_all
     refine hw_arrc (i := 1) rfl (fun h0 he => ?_) (fun ob off cap hv hcap => ?_)
     ·exfalso; have := congrArg List.length he; simp at this; subst this; simp at ho0
     subst hv
     refine hw_reg ?_
     refine dp rfl (pop_move rfl) ?_
     refine dp rfl (pop_move rfl) ?_
     refine dp rfl (pop_move rfl) ?_
     refine de rfl (eop_lenm (i := 1) ty44 rfl rfl ?_)
     refine de rfl (eop_callx (i := 0) ca50 rfl (WeakL.refl _) rfl (c_benchmake_Stream_Next (by first | assumption | omega | (simp; omega) | simp_all) (by first | assumption | omega | (simp; omega) | simp_all)) ?_)
     rintro _ _ ⟨y123, rfl, hy123, rfl⟩
     refine dp rfl (pop_idxraw (j := y123) ty44 ty97 rfl rfl rfl (by simp; omega)) ?_
     refine dp rfl (pop_assign rfl) ?_
     refine dn ?_
     obtain ⟨x, hx⟩ : ∃ x, out[y123]? = some x := ⟨_, List.getElem?_eq_getElem (by omega)⟩
     refine hw_reg ?_
     refine dp rfl (pop_move rfl) ?_
     refine de rfl (eop_callx (i := 0) ca50 rfl (WeakL.refl _) rfl (c_benchmake_Stream_Next (by first | assumption | omega | (simp; omega) | simp_all) (by first | assumption | omega | (simp; omega) | simp_all)) ?_)
     rintro _ _ ⟨y126, rfl, hy126, rfl⟩
     refine dn ?_
     refine hw_block ?_
     refine hw_reg ?_
     refine dp rfl (pop_eql rfl rfl) ?_
     refine dp rfl (pop_assign rfl) ?_
     refine dn ?_
     refine hw_cond rfl (fun h13 => ?_) (fun h14 => ?_)
     ·try simp at h13
      refine hw_draw1 (fun M => ∃ i : Nat, M[i]? = some (.arr (.slice (some ⟨ob, off, none⟩) (out.map ePlay).length cap) 9 (out.map ePlay))) [6, 13] mixed ?_
      refine ahp 0 rfl rfl (by kernel_rfl) (by kernel_rfl) (pop_move rfl) ?_
      refine ahp 1 rfl rfl (by kernel_rfl) (by kernel_rfl) (pop_move rfl) ?_
      refine ahp 2 rfl rfl (by kernel_rfl) (by kernel_rfl) (pop_move rfl) ?_
      refine ahp 3 rfl rfl (by kernel_rfl) (by kernel_rfl) (pop_move rfl) ?_
      refine ahp 4 rfl rfl (by kernel_rfl) (by kernel_rfl) ((pop_nilCheck_raw rfl)) ?_
      refine ahp 5 rfl rfl (by kernel_rfl) (by kernel_rfl) ((pop_fieldAddr_raw ty97 rfl ty9 (by decide) rfl)) ?_
      refine ahl 6 rfl rfl (by kernel_rfl) (by kernel_rfl) (by simp) ⟨1, rfl⟩ (fun M hM => by obtain ⟨i, hi⟩ := hM; exact eop_load_el (i := i) (j := y123) 0 ty9 rfl (by omega) hi hx rfl rfl ⟨rfl, rfl⟩) ?_
      refine ahp 7 rfl rfl (by kernel_rfl) (by kernel_rfl) (pop_buildSlice (hs := [_, _, _]) ty36 ty9 rfl rfl (by decide) (by decide) rfl) ?_
      refine ahp 9 rfl rfl (by kernel_rfl) (by kernel_rfl) (pop_move rfl) ?_
      refine ahp 10 rfl rfl (by kernel_rfl) (by kernel_rfl) (pop_move rfl) ?_
      refine ahp 11 rfl rfl (by kernel_rfl) (by kernel_rfl) ((pop_nilCheck_raw rfl)) ?_
      refine ahp 12 rfl rfl (by kernel_rfl) (by kernel_rfl) ((pop_fieldAddr_raw ty97 rfl ty3 (by decide) rfl)) ?_
      refine ahl 13 rfl rfl (by kernel_rfl) (by kernel_rfl) (by simp) ⟨1, rfl⟩ (fun M hM => by obtain ⟨i, hi⟩ := hM; exact eop_load_el (i := i) (j := y123) 1 ty3 rfl (by omega) hi hx rfl rfl ⟨rfl, rfl⟩) ?_
      refine ahp 14 rfl rfl (by kernel_rfl) (by kernel_rfl) (pop_buildSlice (hs := [_, _, _, _]) ty22 ty3 rfl rfl (by decide) (by decide) rfl) ?_
      refine ahe 8 rfl (by kernel_rfl) ?_
      refine hop_e rfl (eop_callx (i := 0) ca31 rfl (WeakL.refl _) rfl (c_benchmake_Stream_Some (L := [_, _, _]) (by first | assumption | omega | (simp; omega) | simp_all) (by first | assumption | omega | (simp; omega) | simp_all) (by first | assumption | omega | (simp; omega) | simp_all)) ?_)
      rintro _ _ ⟨y167, rfl, hy167, rfl⟩
      refine ⟨fun _ => by first | exact .inl ⟨0, rfl⟩ | exact .inl ⟨1, rfl⟩ | exact .inl ⟨2, rfl⟩ | exact .inr (by simp [Before, Region.binds]), ?_⟩
      refine ahe 15 rfl (by kernel_rfl) ?_
      refine hop_e rfl (eop_callx (i := 0) ca32 rfl (WeakL.refl _) rfl (c_benchmake_Stream_Pick (L := [_, _, _, _]) (by first | assumption | omega | (simp; omega) | simp_all) (by first | assumption | omega | (simp; omega) | simp_all) (by first | assumption | omega | (simp; omega) | simp_all)) ?_)
      rintro _ _ ⟨y174, rfl, hy174, rfl⟩
      refine ⟨fun _ => by first | exact .inl ⟨0, rfl⟩ | exact .inl ⟨1, rfl⟩ | exact .inl ⟨2, rfl⟩ | exact .inr (by simp [Before, Region.binds]), ?_⟩
      refine ahp 16 rfl rfl (by kernel_rfl) (by kernel_rfl) ((pop_nilCheck_raw rfl)) ?_
      refine ahp 17 rfl rfl (by kernel_rfl) (by kernel_rfl) ((pop_fieldAddr_raw ty97 rfl ty9 (by decide) rfl)) ?_
      refine ahe 18 rfl (by kernel_rfl) ?_
      refine hop_e0 (eop_store_arr (i := 1) (j := y123) (f := 0) (y := ePlay x) (y' := ePlay ⟨y167, x.No, x.At, x.Week, x.Match, x.Player, x.Stat, x.Count, x.Undo⟩) ty9 rfl (by omega) rfl rfl (map_get hx) rfl rfl (by simp [hcells]) rfl ?_)
      refine ⟨fun _ => .inr (by simp [Before, Region.binds]), ?_⟩
      refine ahp 19 rfl rfl (by kernel_rfl) (by kernel_rfl) ((pop_nilCheck_raw rfl)) ?_
      refine ahp 20 rfl rfl (by kernel_rfl) (by kernel_rfl) ((pop_fieldAddr_raw ty97 rfl ty3 (by decide) rfl)) ?_
      refine ahe 21 rfl (by kernel_rfl) ?_
      refine hop_e0 (eop_store_arr (i := 1) (j := y123) (f := 1) (y := ePlay ⟨y167, x.No, x.At, x.Week, x.Match, x.Player, x.Stat, x.Count, x.Undo⟩) (y' := ePlay ⟨y167, y174, x.At, x.Week, x.Match, x.Player, x.Stat, x.Count, x.Undo⟩) ty3 rfl (by omega) rfl rfl (set_self (map_get hx)) rfl rfl (by simp [hcells]) rfl ?_)
      refine ⟨fun _ => .inr (by simp [Before, Region.binds]), ?_⟩
      refine ahz (by kernel_rfl) ?_
      refine blockQ_n ?_
      exact ⟨(out.set y123 ⟨y167, y174, x.At, x.Week, x.Match, x.Player, x.Stat, x.Count, x.Undo⟩, a3 + 4), ⟨by simp; omega, all_set (P := GoodPl1) g2 (by
       have hgx := g2 x (List.mem_of_getElem? hx)
       exact ⟨by simp at hy167; rcases hy167 with rfl | rfl | rfl; exact hgx.1; exact nil_sh; (unfold Sh; simp), hgx.2.1, hgx.2.2.1, hgx.2.2.2⟩), by dsimp only; omega⟩, trivial, (by repeat (first | exact keeps_refl | refine keeps_upd rfl ?_ | refine keeps_loop rfl rfl ?_)), by repeat (first | exact List.Perm.nil | refine permTo 0 rfl ?_ | refine permTo 1 rfl ?_ | refine permTo 2 rfl ?_ | refine permTo 3 rfl ?_ | (refine permToE 0 rfl ?hq ?_; (case hq => simp [setL, hcells]; done)) | (refine permToE 1 rfl ?hq ?_; (case hq => simp [setL, hcells]; done)) | (refine permToE 2 rfl ?hq ?_; (case hq => simp [setL, hcells]; done)) | (refine permToE 3 rfl ?hq ?_; (case hq => simp [setL, hcells]; done)) | fail)⟩
     ·try simp at h14
      refine hw_reg ?_
      refine dp rfl (pop_eql rfl rfl) ?_
      refine dp rfl (pop_assign rfl) ?_
      refine dn ?_
      refine hw_cond rfl (fun h15 => ?_) (fun h16 => ?_)
      ·try simp at h15
       refine hw_draw1 (fun M => ∃ i : Nat, M[i]? = some (.arr (.slice (some ⟨ob, off, none⟩) (out.map ePlay).length cap) 9 (out.map ePlay))) [6, 13] mixed ?_
       refine ahp 0 rfl rfl (by kernel_rfl) (by kernel_rfl) (pop_move rfl) ?_
       refine ahp 1 rfl rfl (by kernel_rfl) (by kernel_rfl) (pop_move rfl) ?_
       refine ahp 2 rfl rfl (by kernel_rfl) (by kernel_rfl) (pop_move rfl) ?_
       refine ahp 3 rfl rfl (by kernel_rfl) (by kernel_rfl) (pop_move rfl) ?_
       refine ahp 4 rfl rfl (by kernel_rfl) (by kernel_rfl) ((pop_nilCheck_raw rfl)) ?_
       refine ahp 5 rfl rfl (by kernel_rfl) (by kernel_rfl) ((pop_fieldAddr_raw ty97 rfl ty3 (by decide) rfl)) ?_
       refine ahl 6 rfl rfl (by kernel_rfl) (by kernel_rfl) (by simp) ⟨1, rfl⟩ (fun M hM => by obtain ⟨i, hi⟩ := hM; exact eop_load_el (i := i) (j := y123) 3 ty3 rfl (by omega) hi hx rfl rfl ⟨rfl, rfl⟩) ?_
       refine ahp 7 rfl rfl (by kernel_rfl) (by kernel_rfl) (pop_buildSlice (hs := [_, _, _]) ty22 ty3 rfl rfl (by decide) (by decide) rfl) ?_
       refine ahp 9 rfl rfl (by kernel_rfl) (by kernel_rfl) (pop_move rfl) ?_
       refine ahp 10 rfl rfl (by kernel_rfl) (by kernel_rfl) (pop_move rfl) ?_
       refine ahp 11 rfl rfl (by kernel_rfl) (by kernel_rfl) ((pop_nilCheck_raw rfl)) ?_
       refine ahp 12 rfl rfl (by kernel_rfl) (by kernel_rfl) ((pop_fieldAddr_raw ty97 rfl ty9 (by decide) rfl)) ?_
       refine ahl 13 rfl rfl (by kernel_rfl) (by kernel_rfl) (by simp) ⟨1, rfl⟩ (fun M hM => by obtain ⟨i, hi⟩ := hM; exact eop_load_el (i := i) (j := y123) 4 ty9 rfl (by omega) hi hx rfl rfl ⟨rfl, rfl⟩) ?_
       refine ahp 14 rfl rfl (by kernel_rfl) (by kernel_rfl) (pop_buildSlice (hs := [_, _]) ty36 ty9 rfl rfl (by decide) (by decide) rfl) ?_
       refine ahe 8 rfl (by kernel_rfl) ?_
       refine hop_e rfl (eop_callx (i := 0) ca32 rfl (WeakL.refl _) rfl (c_benchmake_Stream_Pick (L := [_, _, _]) (by first | assumption | omega | (simp; omega) | simp_all) (by first | assumption | omega | (simp; omega) | simp_all) (by first | assumption | omega | (simp; omega) | simp_all)) ?_)
       rintro _ _ ⟨y189, rfl, hy189, rfl⟩
       refine ⟨fun _ => by first | exact .inl ⟨0, rfl⟩ | exact .inl ⟨1, rfl⟩ | exact .inl ⟨2, rfl⟩ | exact .inr (by simp [Before, Region.binds]), ?_⟩
       refine ahe 15 rfl (by kernel_rfl) ?_
       refine hop_e rfl (eop_callx (i := 0) ca31 rfl (WeakL.refl _) rfl (c_benchmake_Stream_Some (L := [_, _]) (by first | assumption | omega | (simp; omega) | simp_all) (by first | assumption | omega | (simp; omega) | simp_all) (by first | assumption | omega | (simp; omega) | simp_all)) ?_)
       rintro _ _ ⟨y196, rfl, hy196, rfl⟩
       refine ⟨fun _ => by first | exact .inl ⟨0, rfl⟩ | exact .inl ⟨1, rfl⟩ | exact .inl ⟨2, rfl⟩ | exact .inr (by simp [Before, Region.binds]), ?_⟩
       refine ahp 16 rfl rfl (by kernel_rfl) (by kernel_rfl) ((pop_nilCheck_raw rfl)) ?_
       refine ahp 17 rfl rfl (by kernel_rfl) (by kernel_rfl) ((pop_fieldAddr_raw ty97 rfl ty3 (by decide) rfl)) ?_
       refine ahe 18 rfl (by kernel_rfl) ?_
       refine hop_e0 (eop_store_arr (i := 1) (j := y123) (f := 3) (y := ePlay x) (y' := ePlay ⟨x.Source, x.No, x.At, y189, x.Match, x.Player, x.Stat, x.Count, x.Undo⟩) ty3 rfl (by omega) rfl rfl (map_get hx) rfl rfl (by simp [hcells]) rfl ?_)
       refine ⟨fun _ => .inr (by simp [Before, Region.binds]), ?_⟩
       refine ahp 19 rfl rfl (by kernel_rfl) (by kernel_rfl) ((pop_nilCheck_raw rfl)) ?_
       refine ahp 20 rfl rfl (by kernel_rfl) (by kernel_rfl) ((pop_fieldAddr_raw ty97 rfl ty9 (by decide) rfl)) ?_
       refine ahe 21 rfl (by kernel_rfl) ?_
       refine hop_e0 (eop_store_arr (i := 1) (j := y123) (f := 4) (y := ePlay ⟨x.Source, x.No, x.At, y189, x.Match, x.Player, x.Stat, x.Count, x.Undo⟩) (y' := ePlay ⟨x.Source, x.No, x.At, y189, y196, x.Player, x.Stat, x.Count, x.Undo⟩) ty9 rfl (by omega) rfl rfl (set_self (map_get hx)) rfl rfl (by simp [hcells]) rfl ?_)
       refine ⟨fun _ => .inr (by simp [Before, Region.binds]), ?_⟩
       refine ahz (by kernel_rfl) ?_
       refine blockQ_n ?_
       exact ⟨(out.set y123 ⟨x.Source, x.No, x.At, y189, y196, x.Player, x.Stat, x.Count, x.Undo⟩, a3 + 4), ⟨by simp; omega, all_set (P := GoodPl1) g2 (by
        have hgx := g2 x (List.mem_of_getElem? hx)
        exact ⟨hgx.1, by simp at hy196; rcases hy196 with rfl | rfl; exact hgx.2.1; exact nil_sh, hgx.2.2.1, hgx.2.2.2⟩), by dsimp only; omega⟩, trivial, (by repeat (first | exact keeps_refl | refine keeps_upd rfl ?_ | refine keeps_loop rfl rfl ?_)), by repeat (first | exact List.Perm.nil | refine permTo 0 rfl ?_ | refine permTo 1 rfl ?_ | refine permTo 2 rfl ?_ | refine permTo 3 rfl ?_ | (refine permToE 0 rfl ?hq ?_; (case hq => simp [setL, hcells]; done)) | (refine permToE 1 rfl ?hq ?_; (case hq => simp [setL, hcells]; done)) | (refine permToE 2 rfl ?hq ?_; (case hq => simp [setL, hcells]; done)) | (refine permToE 3 rfl ?hq ?_; (case hq => simp [setL, hcells]; done)) | fail)⟩
      ·try simp at h16
       refine hw_reg ?_
       refine dp rfl (pop_eql rfl rfl) ?_
       refine dp rfl (pop_assign rfl) ?_
       refine dn ?_
       refine hw_cond rfl (fun h17 => ?_) (fun h18 => ?_)
       ·try simp at h17
        refine hw_draw1 (fun M => ∃ i : Nat, M[i]? = some (.arr (.slice (some ⟨ob, off, none⟩) (out.map ePlay).length cap) 9 (out.map ePlay))) [6, 13] mixed ?_
        refine ahp 0 rfl rfl (by kernel_rfl) (by kernel_rfl) (pop_move rfl) ?_
        refine ahp 1 rfl rfl (by kernel_rfl) (by kernel_rfl) (pop_move rfl) ?_
        refine ahp 2 rfl rfl (by kernel_rfl) (by kernel_rfl) (pop_move rfl) ?_
        refine ahp 3 rfl rfl (by kernel_rfl) (by kernel_rfl) (pop_move rfl) ?_
        refine ahp 4 rfl rfl (by kernel_rfl) (by kernel_rfl) ((pop_nilCheck_raw rfl)) ?_
        refine ahp 5 rfl rfl (by kernel_rfl) (by kernel_rfl) ((pop_fieldAddr_raw ty97 rfl ty3 (by decide) rfl)) ?_
        refine ahl 6 rfl rfl (by kernel_rfl) (by kernel_rfl) (by simp) ⟨1, rfl⟩ (fun M hM => by obtain ⟨i, hi⟩ := hM; exact eop_load_el (i := i) (j := y123) 7 ty3 rfl (by omega) hi hx rfl rfl ⟨rfl, rfl⟩) ?_
        refine ahp 7 rfl rfl (by kernel_rfl) (by kernel_rfl) (pop_buildSlice (hs := [_, _, _]) ty22 ty3 rfl rfl (by decide) (by decide) rfl) ?_
        refine ahp 9 rfl rfl (by kernel_rfl) (by kernel_rfl) (pop_move rfl) ?_
        refine ahp 10 rfl rfl (by kernel_rfl) (by kernel_rfl) (pop_move rfl) ?_
        refine ahp 11 rfl rfl (by kernel_rfl) (by kernel_rfl) ((pop_nilCheck_raw rfl)) ?_
        refine ahp 12 rfl rfl (by kernel_rfl) (by kernel_rfl) ((pop_fieldAddr_raw ty97 rfl ty3 (by decide) rfl)) ?_
        refine ahl 13 rfl rfl (by kernel_rfl) (by kernel_rfl) (by simp) ⟨1, rfl⟩ (fun M hM => by obtain ⟨i, hi⟩ := hM; exact eop_load_el (i := i) (j := y123) 8 ty3 rfl (by omega) hi hx rfl rfl ⟨rfl, rfl⟩) ?_
        refine ahp 14 rfl rfl (by kernel_rfl) (by kernel_rfl) (pop_buildSlice (hs := [_, _, _]) ty22 ty3 rfl rfl (by decide) (by decide) rfl) ?_
        refine ahe 8 rfl (by kernel_rfl) ?_
        refine hop_e rfl (eop_callx (i := 0) ca32 rfl (WeakL.refl _) rfl (c_benchmake_Stream_Pick (L := [_, _, _]) (by first | assumption | omega | (simp; omega) | simp_all) (by first | assumption | omega | (simp; omega) | simp_all) (by first | assumption | omega | (simp; omega) | simp_all)) ?_)
        rintro _ _ ⟨y211, rfl, hy211, rfl⟩
        refine ⟨fun _ => by first | exact .inl ⟨0, rfl⟩ | exact .inl ⟨1, rfl⟩ | exact .inl ⟨2, rfl⟩ | exact .inr (by simp [Before, Region.binds]), ?_⟩
        refine ahe 15 rfl (by kernel_rfl) ?_
        refine hop_e rfl (eop_callx (i := 0) ca32 rfl (WeakL.refl _) rfl (c_benchmake_Stream_Pick (L := [_, _, _]) (by first | assumption | omega | (simp; omega) | simp_all) (by first | assumption | omega | (simp; omega) | simp_all) (by first | assumption | omega | (simp; omega) | simp_all)) ?_)
        rintro _ _ ⟨y218, rfl, hy218, rfl⟩
        refine ⟨fun _ => by first | exact .inl ⟨0, rfl⟩ | exact .inl ⟨1, rfl⟩ | exact .inl ⟨2, rfl⟩ | exact .inr (by simp [Before, Region.binds]), ?_⟩
        refine ahp 16 rfl rfl (by kernel_rfl) (by kernel_rfl) ((pop_nilCheck_raw rfl)) ?_
        refine ahp 17 rfl rfl (by kernel_rfl) (by kernel_rfl) ((pop_fieldAddr_raw ty97 rfl ty3 (by decide) rfl)) ?_
        refine ahe 18 rfl (by kernel_rfl) ?_
        refine hop_e0 (eop_store_arr (i := 1) (j := y123) (f := 7) (y := ePlay x) (y' := ePlay ⟨x.Source, x.No, x.At, x.Week, x.Match, x.Player, x.Stat, y211, x.Undo⟩) ty3 rfl (by omega) rfl rfl (map_get hx) rfl rfl (by simp [hcells]) rfl ?_)
        refine ⟨fun _ => .inr (by simp [Before, Region.binds]), ?_⟩
        refine ahp 19 rfl rfl (by kernel_rfl) (by kernel_rfl) ((pop_nilCheck_raw rfl)) ?_
        refine ahp 20 rfl rfl (by kernel_rfl) (by kernel_rfl) ((pop_fieldAddr_raw ty97 rfl ty3 (by decide) rfl)) ?_
        refine ahe 21 rfl (by kernel_rfl) ?_
        refine hop_e0 (eop_store_arr (i := 1) (j := y123) (f := 8) (y := ePlay ⟨x.Source, x.No, x.At, x.Week, x.Match, x.Player, x.Stat, y211, x.Undo⟩) (y' := ePlay ⟨x.Source, x.No, x.At, x.Week, x.Match, x.Player, x.Stat, y211, y218⟩) ty3 rfl (by omega) rfl rfl (set_self (map_get hx)) rfl rfl (by simp [hcells]) rfl ?_)
        refine ⟨fun _ => .inr (by simp [Before, Region.binds]), ?_⟩
        refine ahz (by kernel_rfl) ?_
        refine blockQ_n ?_
        exact ⟨(out.set y123 ⟨x.Source, x.No, x.At, x.Week, x.Match, x.Player, x.Stat, y211, y218⟩, a3 + 4), ⟨by simp; omega, all_set (P := GoodPl1) g2 (by
         have hgx := g2 x (List.mem_of_getElem? hx)
         exact ⟨hgx.1, hgx.2.1, hgx.2.2.1, hgx.2.2.2⟩), by dsimp only; omega⟩, trivial, (by repeat (first | exact keeps_refl | refine keeps_upd rfl ?_ | refine keeps_loop rfl rfl ?_)), by repeat (first | exact List.Perm.nil | refine permTo 0 rfl ?_ | refine permTo 1 rfl ?_ | refine permTo 2 rfl ?_ | refine permTo 3 rfl ?_ | (refine permToE 0 rfl ?hq ?_; (case hq => simp [setL, hcells]; done)) | (refine permToE 1 rfl ?hq ?_; (case hq => simp [setL, hcells]; done)) | (refine permToE 2 rfl ?hq ?_; (case hq => simp [setL, hcells]; done)) | (refine permToE 3 rfl ?hq ?_; (case hq => simp [setL, hcells]; done)) | fail)⟩
       ·try simp at h18
        refine hw_draw1 (fun M => ∃ i : Nat, M[i]? = some (.arr (.slice (some ⟨ob, off, none⟩) (out.map ePlay).length cap) 9 (out.map ePlay))) [7, 14, 21] mixed ?_
        refine ahp 0 rfl rfl (by kernel_rfl) (by kernel_rfl) (pop_move rfl) ?_
        refine ahp 1 rfl rfl (by kernel_rfl) (by kernel_rfl) (pop_move rfl) ?_
        refine ahp 2 rfl rfl (by kernel_rfl) (by kernel_rfl) (pop_move rfl) ?_
        refine ahp 3 rfl rfl (by kernel_rfl) (by kernel_rfl) (pop_move rfl) ?_
        refine ahp 4 rfl rfl (by kernel_rfl) (by kernel_rfl) (pop_move rfl) ?_
        refine ahp 5 rfl rfl (by kernel_rfl) (by kernel_rfl) ((pop_nilCheck_raw rfl)) ?_
        refine ahp 6 rfl rfl (by kernel_rfl) (by kernel_rfl) ((pop_fieldAddr_raw ty97 rfl ty9 (by decide) rfl)) ?_
        refine ahl 7 rfl rfl (by kernel_rfl) (by kernel_rfl) (by simp) ⟨1, rfl⟩ (fun M hM => by obtain ⟨i, hi⟩ := hM; exact eop_load_el (i := i) (j := y123) 5 ty9 rfl (by omega) hi hx rfl rfl ⟨rfl, rfl⟩) ?_
        refine ahp 8 rfl rfl (by kernel_rfl) (by kernel_rfl) (pop_buildSlice (hs := [_, _]) ty36 ty9 rfl rfl (by decide) (by decide) rfl) ?_
        refine ahp 10 rfl rfl (by kernel_rfl) (by kernel_rfl) (pop_move rfl) ?_
        refine ahp 11 rfl rfl (by kernel_rfl) (by kernel_rfl) (pop_move rfl) ?_
        refine ahp 12 rfl rfl (by kernel_rfl) (by kernel_rfl) ((pop_nilCheck_raw rfl)) ?_
        refine ahp 13 rfl rfl (by kernel_rfl) (by kernel_rfl) ((pop_fieldAddr_raw ty97 rfl ty9 (by decide) rfl)) ?_
        refine ahl 14 rfl rfl (by kernel_rfl) (by kernel_rfl) (by simp) ⟨1, rfl⟩ (fun M hM => by obtain ⟨i, hi⟩ := hM; exact eop_load_el (i := i) (j := y123) 6 ty9 rfl (by omega) hi hx rfl rfl ⟨rfl, rfl⟩) ?_
        refine ahp 15 rfl rfl (by kernel_rfl) (by kernel_rfl) (pop_buildSlice (hs := [_, _]) ty36 ty9 rfl rfl (by decide) (by decide) rfl) ?_
        refine ahp 17 rfl rfl (by kernel_rfl) (by kernel_rfl) (pop_move rfl) ?_
        refine ahp 18 rfl rfl (by kernel_rfl) (by kernel_rfl) (pop_move rfl) ?_
        refine ahp 19 rfl rfl (by kernel_rfl) (by kernel_rfl) ((pop_nilCheck_raw rfl)) ?_
        refine ahp 20 rfl rfl (by kernel_rfl) (by kernel_rfl) ((pop_fieldAddr_raw ty97 rfl ty3 (by decide) rfl)) ?_
        refine ahl 21 rfl rfl (by kernel_rfl) (by kernel_rfl) (by simp) ⟨1, rfl⟩ (fun M hM => by obtain ⟨i, hi⟩ := hM; exact eop_load_el (i := i) (j := y123) 2 ty3 rfl (by omega) hi hx rfl rfl ⟨rfl, rfl⟩) ?_
        refine ahp 22 rfl rfl (by kernel_rfl) (by kernel_rfl) (pop_buildSlice (hs := [_, _]) ty22 ty3 rfl rfl (by decide) (by decide) rfl) ?_
        refine ahe 9 rfl (by kernel_rfl) ?_
        refine hop_e rfl (eop_callx (i := 0) ca31 rfl (WeakL.refl _) rfl (c_benchmake_Stream_Some (L := [_, _]) (by first | assumption | omega | (simp; omega) | simp_all) (by first | assumption | omega | (simp; omega) | simp_all) (by first | assumption | omega | (simp; omega) | simp_all)) ?_)
        rintro _ _ ⟨y136, rfl, hy136, rfl⟩
        refine ⟨fun _ => by first | exact .inl ⟨0, rfl⟩ | exact .inl ⟨1, rfl⟩ | exact .inl ⟨2, rfl⟩ | exact .inr (by simp [Before, Region.binds]), ?_⟩
        refine ahe 16 rfl (by kernel_rfl) ?_
        refine hop_e rfl (eop_callx (i := 0) ca31 rfl (WeakL.refl _) rfl (c_benchmake_Stream_Some (L := [_, _]) (by first | assumption | omega | (simp; omega) | simp_all) (by first | assumption | omega | (simp; omega) | simp_all) (by first | assumption | omega | (simp; omega) | simp_all)) ?_)
        rintro _ _ ⟨y143, rfl, hy143, rfl⟩
        refine ⟨fun _ => by first | exact .inl ⟨0, rfl⟩ | exact .inl ⟨1, rfl⟩ | exact .inl ⟨2, rfl⟩ | exact .inr (by simp [Before, Region.binds]), ?_⟩
        refine ahe 23 rfl (by kernel_rfl) ?_
        refine hop_e rfl (eop_callx (i := 0) ca32 rfl (WeakL.refl _) rfl (c_benchmake_Stream_Pick (L := [_, _]) (by first | assumption | omega | (simp; omega) | simp_all) (by first | assumption | omega | (simp; omega) | simp_all) (by first | assumption | omega | (simp; omega) | simp_all)) ?_)
        rintro _ _ ⟨y150, rfl, hy150, rfl⟩
        refine ⟨fun _ => by first | exact .inl ⟨0, rfl⟩ | exact .inl ⟨1, rfl⟩ | exact .inl ⟨2, rfl⟩ | exact .inr (by simp [Before, Region.binds]), ?_⟩
        refine ahp 24 rfl rfl (by kernel_rfl) (by kernel_rfl) ((pop_nilCheck_raw rfl)) ?_
        refine ahp 25 rfl rfl (by kernel_rfl) (by kernel_rfl) ((pop_fieldAddr_raw ty97 rfl ty9 (by decide) rfl)) ?_
        refine ahe 26 rfl (by kernel_rfl) ?_
        refine hop_e0 (eop_store_arr (i := 1) (j := y123) (f := 5) (y := ePlay x) (y' := ePlay ⟨x.Source, x.No, x.At, x.Week, x.Match, y136, x.Stat, x.Count, x.Undo⟩) ty9 rfl (by omega) rfl rfl (map_get hx) rfl rfl (by simp [hcells]) rfl ?_)
        refine ⟨fun _ => .inr (by simp [Before, Region.binds]), ?_⟩
        refine ahp 27 rfl rfl (by kernel_rfl) (by kernel_rfl) ((pop_nilCheck_raw rfl)) ?_
        refine ahp 28 rfl rfl (by kernel_rfl) (by kernel_rfl) ((pop_fieldAddr_raw ty97 rfl ty9 (by decide) rfl)) ?_
        refine ahe 29 rfl (by kernel_rfl) ?_
        refine hop_e0 (eop_store_arr (i := 1) (j := y123) (f := 6) (y := ePlay ⟨x.Source, x.No, x.At, x.Week, x.Match, y136, x.Stat, x.Count, x.Undo⟩) (y' := ePlay ⟨x.Source, x.No, x.At, x.Week, x.Match, y136, y143, x.Count, x.Undo⟩) ty9 rfl (by omega) rfl rfl (set_self (map_get hx)) rfl rfl (by simp [hcells]) rfl ?_)
        refine ⟨fun _ => .inr (by simp [Before, Region.binds]), ?_⟩
        refine ahp 30 rfl rfl (by kernel_rfl) (by kernel_rfl) ((pop_nilCheck_raw rfl)) ?_
        refine ahp 31 rfl rfl (by kernel_rfl) (by kernel_rfl) ((pop_fieldAddr_raw ty97 rfl ty3 (by decide) rfl)) ?_
        refine ahe 32 rfl (by kernel_rfl) ?_
        refine hop_e0 (eop_store_arr (i := 1) (j := y123) (f := 2) (y := ePlay ⟨x.Source, x.No, x.At, x.Week, x.Match, y136, y143, x.Count, x.Undo⟩) (y' := ePlay ⟨x.Source, x.No, y150, x.Week, x.Match, y136, y143, x.Count, x.Undo⟩) ty3 rfl (by omega) rfl rfl (set_self (set_self (map_get hx))) rfl rfl (by simp [hcells]) rfl ?_)
        refine ⟨fun _ => .inr (by simp [Before, Region.binds]), ?_⟩
        refine ahz (by kernel_rfl) ?_
        refine blockQ_n ?_
        exact ⟨(out.set y123 ⟨x.Source, x.No, y150, x.Week, x.Match, y136, y143, x.Count, x.Undo⟩, a3 + 5), ⟨by simp; omega, all_set (P := GoodPl1) g2 (by
         have hgx := g2 x (List.mem_of_getElem? hx)
         exact ⟨hgx.1, hgx.2.1, by simp at hy136; rcases hy136 with rfl | rfl; exact hgx.2.2.1; (unfold Sh; simp), by simp at hy143; rcases hy143 with rfl | rfl; exact hgx.2.2.2; exact nil_sh⟩), by dsimp only; omega⟩, trivial, (by repeat (first | exact keeps_refl | refine keeps_upd rfl ?_ | refine keeps_loop rfl rfl ?_)), by repeat (first | exact List.Perm.nil | refine permTo 0 rfl ?_ | refine permTo 1 rfl ?_ | refine permTo 2 rfl ?_ | refine permTo 3 rfl ?_ | (refine permToE 0 rfl ?hq ?_; (case hq => simp [setL, hcells]; done)) | (refine permToE 1 rfl ?hq ?_; (case hq => simp [setL, hcells]; done)) | (refine permToE 2 rfl ?hq ?_; (case hq => simp [setL, hcells]; done)) | (refine permToE 3 rfl ?hq ?_; (case hq => simp [setL, hcells]; done)) | fail)⟩
    ·try simp at h12
     refine hw_skip ?_
     exact ⟨(out, a3), ⟨by dsimp only; omega, g2, by dsimp only; omega⟩, trivial, (by repeat (first | exact keeps_refl | refine keeps_upd rfl ?_ | refine keeps_loop rfl rfl ?_)), by repeat (first | exact List.Perm.nil | refine permTo 0 rfl ?_ | refine permTo 1 rfl ?_ | refine permTo 2 rfl ?_ | refine permTo 3 rfl ?_ | (refine permToE 0 rfl ?hq ?_; (case hq => simp [setL, hcells]; done)) | (refine permToE 1 rfl ?hq ?_; (case hq => simp [setL, hcells]; done)) | (refine permToE 2 rfl ?hq ?_; (case hq => simp [setL, hcells]; done)) | (refine permToE 3 rfl ?hq ?_; (case hq => simp [setL, hcells]; done)) | fail)⟩
   ·intro q5 hq5
    obtain ⟨k1, a4⟩ := q5
    dsimp only at hq5
    obtain ⟨q1, q2, q3⟩ := hq5
    refine hw_reg ?_
    refine dp rfl (pop_move rfl) ?_
    refine dp rfl (pop_assign rfl) ?_
    refine dn ?_
    refine hw_ret ?_
    exact ret_g (Ghost.fa 2 (i := 1) rfl rfl) rfl ⟨k1, a4, rfl, ⟨by omega, q2⟩, by omega, rfl⟩

/-- (*benchwarmer/benchmake.Stream).RightTold -/
theorem c_benchmake_Stream_RightTold [Tracks] {b : Nat} {l : List Int} {a : Nat}  (ha : a ≤ 690000) : Con Tryz.prog 16 [pAt b] [St b l a] (fun x M' => ∃ k a', x = ePlays k ∧ (GoodPl k ∧ playsE k = 0) ∧ a' ≤ a + 4000 ∧ M' = [St b l a']) := by
 refine Con.of_body Tryz.func16 rfl Tryz.ntmps16 rfl rfl ?_
 refine hw_reg ?_
 refine dp rfl (pop_assign rfl) ?_
 refine dn ?_
 refine hw_seq ?_
 refine hw_reg ?_
 refine dp rfl (pop_move rfl) ?_
 refine dn ?_
 refine hw_block ?_
 refine hw_loopw2 [2, 3, 4, 5, 6, 7, 8, 9, 10, 11, 12] (fun (i : Nat) (a2 : Nat) => [(4, .int .i64 (i : Int))]) (fun (i : Nat) (a2 : Nat) => [St b l a2]) (fun (i : Nat) (a2 : Nat) => i ≤ 8 ∧ a2 ≤ a + 500 * i) (fun (i : Nat) (a2 : Nat) => 8 - i) (0) (a) ?_ ?_ ?_ ?_
 ·exact ⟨by omega, by omega⟩
 ·exact ⟨rfl, trivial⟩
 ·exact List.Perm.refl _
 ·intro i a2 hinv
  obtain ⟨hi, ha2⟩ := hinv
  refine hw_reg ?_
  refine dp rfl (pop_lss rfl rfl) ?_
  refine dn ?_
  refine hw_seq ?_
  refine hw_cond rfl (fun h1 => ?_) (fun h2 => ?_)
  ·try simp at h1
   refine hw_skip ?_
   refine seqQ_n ?_
   refine hw_seq ?_
   refine hw_block ?_
   refine hw_reg ?_
   refine dp rfl (pop_move rfl) ?_
   refine de rfl (eop_callx (i := 0) ca67 rfl (WeakL.refl _) rfl (c_benchmake_Stream_Told (by first | assumption | omega | (simp; omega) | simp_all)) ?_)
   rintro _ _ ⟨p7, a7, rfl, hp7, ha7, rfl⟩
   refine dp rfl (pop_assign rfl) ?_
   refine dn ?_
   refine hw_reg ?_
   refine dp rfl (pop_move rfl) ?_
   refine dp rfl (pop_call ca68 rfl (WeakL.refl _) (c_benchref1_PlaysFault (Nat.le_trans hp7.len (by omega)) hp7.all)) ?_
   refine dp rfl (pop_eql rfl rfl) ?_
   refine dn ?_
   refine hw_cond rfl (fun h3 => ?_) (fun h4 => ?_)
   ·try simp at h3
    refine hw_reg ?_
    refine dp rfl (pop_move rfl) ?_
    refine dp rfl (pop_assign rfl) ?_
    refine dn ?_
    refine hw_ret ?_
    exact ret_q rfl ⟨p7, a7, rfl, ⟨hp7, by simpa using h3⟩, by omega, rfl⟩
   ·try simp at h4
    refine hw_skip ?_
    refine blockQ_n ?_
    refine seqQ_n ?_
    refine hw_reg1 ?_
    refine dp rfl (pop_add64 rfl rfl (by omega) (by omega)) ?_
    refine dp rfl (pop_move rfl) ?_
    refine dn ?_
    exact ⟨i + 1, a7, ⟨by omega, by omega⟩, by dsimp only; omega, ⟨rfl, trivial⟩, (by repeat (first | exact keeps_refl | refine keeps_upd rfl ?_ | refine keeps_loop rfl rfl ?_)), List.Perm.refl _⟩
  ·try simp at h2
   refine hw_exit ?_
   refine seqQ_x ?_
   refine loopQ2_x ?_
   refine blockQ_eq ?_
   refine seqQ_n ?_
   refine hw_reg ?_
   refine dp rfl (pop_assign rfl) ?_
   refine dn ?_
   refine hw_ret ?_
   exact ⟨_, _, Ghost.sub (Sub.refl _), _, .slice 9 [], rfl, weak_nil 9, [], a2, rfl, ⟨⟨by simp, by simp⟩, rfl⟩, by omega, rfl⟩

end Go.Proofs.YtkamelfigfbfiaaGreatDoor
end
section
namespace Go.Proofs.YtkamelfigfbfiaaGreatDoor
open Go.HL
set_option maxRecDepth 100000
set_option linter.unusedVariables false
set_option linter.unusedSimpArgs false
set_option maxHeartbeats 4000000 in
/-- (*benchwarmer/benchmake.Stream).Mends -/
theorem c_benchmake_Stream_Mends [Tracks] {b : Nat} {l : List Int} {a : Nat}  (ha : a ≤ 700000) : Con Tryz.prog 17 [pAt b] [St b l a] (fun x M' => ∃ k a', x = eMends k ∧ GoodMds k ∧ a' ≤ a + 100 ∧ M' = [St b l a']) := by
 refine Con.of_body Tryz.func17 rfl Tryz.ntmps17 rfl rfl ?_
 refine hw_reg ?_
 refine dp rfl (pop_assign rfl) ?_
 refine dn ?_
 refine hw_reg ?_
 refine dp rfl (pop_assign rfl) ?_
 refine dn ?_
 refine hw_ghost (Ghost.arr_nil 7) ?_
 refine hw_seq ?_
 refine hw_reg ?_
 refine dp rfl (pop_buildSlice (hs := [_, _, _]) ty36 ty9 rfl rfl (by decide) (by decide) rfl) ?_
 refine dp rfl (pop_lenm (f := HVal.str) (l := mp3) ty36 rfl) ?_
 refine dp rfl (pop_move rfl) ?_
 refine dn ?_
 refine hw_block ?_
 refine hw_loopw2 [3, 5, 6, 8, 9, 13, 14, 15, 16, 17, 18, 19, 20, 21, 22, 23, 24, 25, 26, 27, 28, 29, 30, 31, 32, 33, 34, 35, 36, 37, 38, 39, 40, 41, 42, 43, 44, 45, 46, 47, 48] (fun (k : Nat) (q : GL MendS) => [(13, .int .i64 k), (3, .raw q.u)]) (fun (k : Nat) (q : GL MendS) => [St b l q.a, .arr q.u 7 (q.out.map eMend)]) (fun (k : Nat) (q : GL MendS) => k ≤ mp3.length ∧ (GLok GoodMd (8 * k) (a + 24 * k) q)) (fun (k : Nat) (q : GL MendS) => mp3.length - k) (0) (⟨.slice none 0 0, [], a⟩) ?_ ?_ ?_ ?_
 ·exact ⟨by decide, ⟨by simp, by simp, by dsimp only; omega⟩⟩
 ·exact ⟨rfl, rfl, trivial⟩
 ·repeat (first | exact List.Perm.nil | refine permTo 0 rfl ?_ | refine permTo 1 rfl ?_ | refine permTo 2 rfl ?_ | refine permTo 3 rfl ?_ | (refine permToE 0 rfl ?hq ?_; (case hq => simp [setL, hcells]; done)) | (refine permToE 1 rfl ?hq ?_; (case hq => simp [setL, hcells]; done)) | (refine permToE 2 rfl ?hq ?_; (case hq => simp [setL, hcells]; done)) | (refine permToE 3 rfl ?hq ?_; (case hq => simp [setL, hcells]; done)) | fail)
 ·intro k q hinv
  obtain ⟨hk, hq⟩ := hinv
  have hk3 : mp3.length = 3 := rfl
  obtain ⟨u, out, a2⟩ := q
  obtain ⟨g1, g2, g3⟩ := id hq
  dsimp only at g1 g2 g3
  refine hw_reg ?_
  refine dp rfl (pop_lss rfl rfl) ?_
  refine dn ?_
  refine hw_seq ?_
  refine hw_cond rfl (fun h1 => ?_) (fun h2 => ?_)
  ·try simp at h1
   obtain ⟨x, hx⟩ : ∃ x, mp3[k]? = some x := ⟨_, List.getElem?_eq_getElem h1⟩
   have hdx := drop_cons hx
   refine hw_skip ?_
   refine seqQ_n ?_
   refine hw_seq ?_
   refine hw_block ?_
   refine hw_reg ?_
   refine dp rfl (pop_idx (f := HVal.str) (l := mp3) (j := k) (a := x) ty36 ty9 rfl rfl rfl hx) ?_
   refine dp rfl (pop_load ty9 rfl rfl rfl) ?_
   refine dp rfl (pop_assign rfl) ?_
   refine dn ?_
   refine hw_reg ?_
   refine dp rfl (pop_assign rfl) ?_
   refine dn ?_
   refine hw_block ?_
   refine hw_loopw2 [3, 6, 8, 9, 17, 18, 19, 20, 21, 22, 23, 24, 25, 26, 27, 28, 29, 30, 31, 32, 33, 34, 35, 36, 37, 38, 39, 40, 41, 42, 43, 44, 45, 46, 47] (fun (w : Nat) (q2 : GL MendS) => [(6, .int .i64 ((w : Int) + 1)), (3, .raw q2.u)]) (fun (w : Nat) (q2 : GL MendS) => [St b l q2.a, .arr q2.u 7 (q2.out.map eMend)]) (fun (w : Nat) (q2 : GL MendS) => w ≤ 2 ∧ GLok GoodMd (8 * k + 4 * w) (a + 24 * k + 12 * w) q2) (fun (w : Nat) (q2 : GL MendS) => 2 - w) (0) (⟨u, out, a2⟩) ?_ ?_ ?_ ?_
   ·exact ⟨by omega, hq.mono (by omega) (by omega)⟩
   ·exact ⟨some_int (by omega), rfl, trivial⟩
   ·repeat (first | exact List.Perm.nil | refine permTo 0 rfl ?_ | refine permTo 1 rfl ?_ | refine permTo 2 rfl ?_ | refine permTo 3 rfl ?_ | (refine permToE 0 rfl ?hq ?_; (case hq => simp [setL, hcells]; done)) | (refine permToE 1 rfl ?hq ?_; (case hq => simp [setL, hcells]; done)) | (refine permToE 2 rfl ?hq ?_; (case hq => simp [setL, hcells]; done)) | (refine permToE 3 rfl ?hq ?_; (case hq => simp [setL, hcells]; done)) | fail)
   ·intro w q2 hinv
    obtain ⟨hw, hq2⟩ := hinv
    obtain ⟨u, out, a2⟩ := q2
    obtain ⟨g1, g2, g3⟩ := id hq2
    dsimp only at g1 g2 g3
    refine hw_seq ?_
    refine hw_reg ?_
    refine dp rfl (pop_move rfl) ?_
    refine dp rfl (pop_leq rfl rfl) ?_
    refine dn ?_
    refine hw_cond rfl (fun h3 => ?_) (fun h4 => ?_)
    ·try simp at h3
     refine hw_skip ?_
     refine seqQ_n ?_
     refine hw_seq ?_
     refine hw_block ?_
     refine hw_reg ?_
     refine dp rfl (pop_buildSlice (hs := [_, _]) ty36 ty9 rfl rfl (by decide) (by decide) rfl) ?_
     refine dp rfl (pop_lenm (f := HVal.str) (l := ms2) ty36 rfl) ?_
     refine dp rfl (pop_move rfl) ?_
     refine dn ?_
     refine hw_block ?_
     refine hw_loopw2 [3, 8, 9, 23, 24, 25, 26, 27, 28, 29, 30, 31, 32, 33, 34, 35, 36, 37, 38, 39, 40, 41, 42, 43, 44, 45, 46, 47] (fun (j : Nat) (q3 : GL MendS) => [(23, .int .i64 j), (3, .raw q3.u)]) (fun (j : Nat) (q3 : GL MendS) => [St b l q3.a, .arr q3.u 7 (q3.out.map eMend)]) (fun (j : Nat) (q3 : GL MendS) => j ≤ ms2.length ∧ (GLok GoodMd (8 * k + 4 * w + 2 * j) (a + 24 * k + 12 * w + 6 * j) q3)) (fun (j : Nat) (q3 : GL MendS) => ms2.length - j) (0) (⟨u, out, a2⟩) ?_ ?_ ?_ ?_
     ·exact ⟨by decide, hq2.mono (by omega) (by omega)⟩
     ·exact ⟨rfl, rfl, trivial⟩
     ·repeat (first | exact List.Perm.nil | refine permTo 0 rfl ?_ | refine permTo 1 rfl ?_ | refine permTo 2 rfl ?_ | refine permTo 3 rfl ?_ | (refine permToE 0 rfl ?hq ?_; (case hq => simp [setL, hcells]; done)) | (refine permToE 1 rfl ?hq ?_; (case hq => simp [setL, hcells]; done)) | (refine permToE 2 rfl ?hq ?_; (case hq => simp [setL, hcells]; done)) | (refine permToE 3 rfl ?hq ?_; (case hq => simp [setL, hcells]; done)) | fail)
     ·intro j q3 hinv
      obtain ⟨hj, hq3⟩ := hinv
      have hj2 : ms2.length = 2 := rfl
      obtain ⟨u, out, a2⟩ := q3
      obtain ⟨g1, g2, g3⟩ := id hq3
      dsimp only at g1 g2 g3
      refine hw_reg ?_
      refine dp rfl (pop_lss rfl rfl) ?_
      refine dn ?_
      refine hw_seq ?_
      refine hw_cond rfl (fun h5 => ?_) (fun h6 => ?_)
      ·try simp at h5
       obtain ⟨z, hz⟩ : ∃ z, ms2[j]? = some z := ⟨_, List.getElem?_eq_getElem h5⟩
       have hdz := drop_cons hz
       refine hw_skip ?_
       refine seqQ_n ?_
       refine hw_seq ?_
       refine hw_block ?_
       refine hw_reg ?_
       refine dp rfl (pop_idx (f := HVal.str) (l := ms2) (j := j) (a := z) ty36 ty9 rfl rfl rfl hz) ?_
       refine dp rfl (pop_load ty9 rfl rfl rfl) ?_
       refine dp rfl (pop_assign rfl) ?_
       refine dn ?_
       refine hw_reg ?_
       refine dp rfl (pop_assign rfl) ?_
       refine dn ?_
       refine hw_block ?_
       refine hw_loopw2 [3, 9, 27, 28, 29, 30, 31, 32, 33, 34, 35, 36, 37, 38, 39, 40, 41, 42, 43, 44, 45, 46] (fun (v : Nat) (q4 : GL MendS) => [(9, .int .i64 ((v : Int) + 1)), (3, .raw q4.u)]) (fun (v : Nat) (q4 : GL MendS) => [St b l q4.a, .arr q4.u 7 (q4.out.map eMend)]) (fun (v : Nat) (q4 : GL MendS) => v ≤ 2 ∧ GLok GoodMd (8 * k + 4 * w + 2 * j + v) (a + 24 * k + 12 * w + 6 * j + 3 * v) q4) (fun (v : Nat) (q4 : GL MendS) => 2 - v) (0) (⟨u, out, a2⟩) ?_ ?_ ?_ ?_
       ·exact ⟨by omega, hq3.mono (by omega) (by omega)⟩
       ·exact ⟨some_int (by omega), rfl, trivial⟩
       ·repeat (first | exact List.Perm.nil | refine permTo 0 rfl ?_ | refine permTo 1 rfl ?_ | refine permTo 2 rfl ?_ | refine permTo 3 rfl ?_ | (refine permToE 0 rfl ?hq ?_; (case hq => simp [setL, hcells]; done)) | (refine permToE 1 rfl ?hq ?_; (case hq => simp [setL, hcells]; done)) | (refine permToE 2 rfl ?hq ?_; (case hq => simp [setL, hcells]; done)) | (refine permToE 3 rfl ?hq ?_; (case hq => simp [setL, hcells]; done)) | fail)
       ·intro v q4 hinv
        obtain ⟨hv, hq4⟩ := hinv
        obtain ⟨u, out, a2⟩ := q4
        obtain ⟨g1, g2, g3⟩ := id hq4
        dsimp only at g1 g2 g3
        refine hw_seq ?_
        refine hw_reg ?_
        refine dp rfl (pop_move rfl) ?_
        refine dp rfl (pop_leq rfl rfl) ?_
        refine dn ?_
        refine hw_cond rfl (fun h7 => ?_) (fun h8 => ?_)
        ·try simp at h7
         refine hw_skip ?_
         refine seqQ_n ?_
         refine hw_seq ?_
         refine hw_block ?_
         refine hw_reg ?_
         refine dp rfl (pop_move rfl) ?_
         first
         | refine de rfl (eop_callx (i := 0) ca49 rfl (WeakL.refl _) rfl (c_benchmake_Stream_Flip (by first | assumption | omega | (simp; omega) | simp_all) (by first | assumption | omega | (simp; omega) | simp_all)) ?_)
         | refine de rfl (eop_callx (i := 1) ca49 rfl (WeakL.refl _) rfl (c_benchmake_Stream_Flip (by first | assumption | omega | (simp; omega) | simp_all) (by first | assumption | omega | (simp; omega) | simp_all)) ?_)
         | refine de rfl (eop_callx (i := 2) ca49 rfl (WeakL.refl _) rfl (c_benchmake_Stream_Flip (by first | assumption | omega | (simp; omega) | simp_all) (by first | assumption | omega | (simp; omega) | simp_all)) ?_)
         | refine de rfl (eop_callx (i := 3) ca49 rfl (WeakL.refl _) rfl (c_benchmake_Stream_Flip (by first | assumption | omega | (simp; omega) | simp_all) (by first | assumption | omega | (simp; omega) | simp_all)) ?_)
         rintro _ _ ⟨y32, rfl, rfl⟩
         refine dn ?_
         refine hw_cond rfl (fun h9 => ?_) (fun h10 => ?_)
         ·try simp at h9
          refine hw_reg1 ?_
          refine dp rfl (pop_move rfl) ?_
          refine dp rfl (pop_move rfl) ?_
          refine dp rfl (pop_move rfl) ?_
          refine dp rfl (pop_move rfl) ?_
          refine dp rfl (pop_move rfl) ?_
          refine dp rfl (pop_buildSlice (hs := [_, _, _]) ty22 ty3 rfl rfl (by decide) (by decide) rfl) ?_
          first
          | refine de rfl (eop_callx (i := 0) ca32 rfl (WeakL.refl _) rfl (c_benchmake_Stream_Pick (L := [_, _, _]) (by first | assumption | omega | (simp; omega) | simp_all) (by first | assumption | omega | (simp; omega) | simp_all) (by first | assumption | omega | (simp; omega) | simp_all)) ?_)
          | refine de rfl (eop_callx (i := 1) ca32 rfl (WeakL.refl _) rfl (c_benchmake_Stream_Pick (L := [_, _, _]) (by first | assumption | omega | (simp; omega) | simp_all) (by first | assumption | omega | (simp; omega) | simp_all) (by first | assumption | omega | (simp; omega) | simp_all)) ?_)
          | refine de rfl (eop_callx (i := 2) ca32 rfl (WeakL.refl _) rfl (c_benchmake_Stream_Pick (L := [_, _, _]) (by first | assumption | omega | (simp; omega) | simp_all) (by first | assumption | omega | (simp; omega) | simp_all) (by first | assumption | omega | (simp; omega) | simp_all)) ?_)
          | refine de rfl (eop_callx (i := 3) ca32 rfl (WeakL.refl _) rfl (c_benchmake_Stream_Pick (L := [_, _, _]) (by first | assumption | omega | (simp; omega) | simp_all) (by first | assumption | omega | (simp; omega) | simp_all) (by first | assumption | omega | (simp; omega) | simp_all)) ?_)
          rintro _ _ ⟨y39, rfl, hy39, rfl⟩
          refine dp rfl (pop_move rfl) ?_
          refine dp rfl (pop_buildSlice (hs := [_, _, _]) ty22 ty3 rfl rfl (by decide) (by decide) rfl) ?_
          first
          | refine de rfl (eop_callx (i := 0) ca32 rfl (WeakL.refl _) rfl (c_benchmake_Stream_Pick (L := [_, _, _]) (by first | assumption | omega | (simp; omega) | simp_all) (by first | assumption | omega | (simp; omega) | simp_all) (by first | assumption | omega | (simp; omega) | simp_all)) ?_)
          | refine de rfl (eop_callx (i := 1) ca32 rfl (WeakL.refl _) rfl (c_benchmake_Stream_Pick (L := [_, _, _]) (by first | assumption | omega | (simp; omega) | simp_all) (by first | assumption | omega | (simp; omega) | simp_all) (by first | assumption | omega | (simp; omega) | simp_all)) ?_)
          | refine de rfl (eop_callx (i := 2) ca32 rfl (WeakL.refl _) rfl (c_benchmake_Stream_Pick (L := [_, _, _]) (by first | assumption | omega | (simp; omega) | simp_all) (by first | assumption | omega | (simp; omega) | simp_all) (by first | assumption | omega | (simp; omega) | simp_all)) ?_)
          | refine de rfl (eop_callx (i := 3) ca32 rfl (WeakL.refl _) rfl (c_benchmake_Stream_Pick (L := [_, _, _]) (by first | assumption | omega | (simp; omega) | simp_all) (by first | assumption | omega | (simp; omega) | simp_all) (by first | assumption | omega | (simp; omega) | simp_all)) ?_)
          rintro _ _ ⟨y42, rfl, hy42, rfl⟩
          refine dp rfl (pop_move rfl) ?_
          refine dp rfl (pop_build (cs := [_, _, _, _, _, _, _]) ty69 pl69 rfl) ?_
          refine dp rfl (pop_buildSlice (hs := [_]) ty46 ty69 rfl rfl (by decide) (by decide) rfl) ?_
          refine de rfl (eop_append (i := 1) ty46 ty69 rfl rfl rfl rfl rfl (by simp [flat, hcells, ofVal, ofVal1]) (by simp; omega) fun v46 => ?_)
          refine dp rfl (pop_assign rfl) ?_
          refine dn ?_
          refine blockQ_n ?_
          refine seqQ_n ?_
          refine hw_reg1 ?_
          refine dp rfl (pop_move rfl) ?_
          refine dp rfl (pop_add64 rfl rfl (by omega) (by omega)) ?_
          refine dp rfl (pop_assign rfl) ?_
          refine dn ?_
          exact ⟨v + 1, ⟨v46, out ++ [(⟨x, (w : Int) + 1, z, y39, y42, (v : Int) + 1, [98, 111, 115, 115]⟩ : MendS)], a2 + 1 + 1 + 1⟩, ⟨by omega, hq4.add (x := (⟨x, (w : Int) + 1, z, y39, y42, (v : Int) + 1, [98, 111, 115, 115]⟩ : MendS)) ⟨mp3_sh x (List.mem_of_getElem? hx), ms2_sh z (List.mem_of_getElem? hz), by unfold Sh; simp⟩ (by omega)⟩, by dsimp only; omega, ⟨some_int (by omega), rfl, trivial⟩, (by repeat (first | exact keeps_refl | refine keeps_upd rfl ?_ | refine keeps_loop rfl rfl ?_)), perm_eq (by dsimp only; rw [List.map_append]; rfl)⟩
         ·try simp at h10
          refine hw_skip ?_
          refine blockQ_n ?_
          refine seqQ_n ?_
          refine hw_reg1 ?_
          refine dp rfl (pop_move rfl) ?_
          refine dp rfl (pop_add64 rfl rfl (by omega) (by omega)) ?_
          refine dp rfl (pop_assign rfl) ?_
          refine dn ?_
          exact ⟨v + 1, ⟨u, out, a2 + 1⟩, ⟨by omega, hq4.same (by omega)⟩, by dsimp only; omega, ⟨some_int (by omega), rfl, trivial⟩, (by repeat (first | exact keeps_refl | refine keeps_upd rfl ?_ | refine keeps_loop rfl rfl ?_)), by repeat (first | exact List.Perm.nil | refine permTo 0 rfl ?_ | refine permTo 1 rfl ?_ | refine permTo 2 rfl ?_ | refine permTo 3 rfl ?_ | (refine permToE 0 rfl ?hq ?_; (case hq => simp [setL, hcells]; done)) | (refine permToE 1 rfl ?hq ?_; (case hq => simp [setL, hcells]; done)) | (refine permToE 2 rfl ?hq ?_; (case hq => simp [setL, hcells]; done)) | (refine permToE 3 rfl ?hq ?_; (case hq => simp [setL, hcells]; done)) | fail)⟩
        ·try simp at h8
         refine hw_exit ?_
         refine seqQ_x ?_
         refine loopQ2_x ?_
         refine blockQ_eq ?_
         refine blockQ_n ?_
         refine seqQ_n ?_
         refine hw_reg1 ?_
         refine dp rfl (pop_add64 rfl rfl (by omega) (by omega)) ?_
         refine dp rfl (pop_move rfl) ?_
         refine dn ?_
         exact ⟨j + 1, ⟨u, out, a2⟩, ⟨by omega, hq4.mono (by omega) (by omega)⟩, by dsimp only; omega, ⟨rfl, rfl, trivial⟩, (by repeat (first | exact keeps_refl | refine keeps_upd rfl ?_ | refine keeps_loop rfl rfl ?_)), by repeat (first | exact List.Perm.nil | refine permTo 0 rfl ?_ | refine permTo 1 rfl ?_ | refine permTo 2 rfl ?_ | refine permTo 3 rfl ?_ | (refine permToE 0 rfl ?hq ?_; (case hq => simp [setL, hcells]; done)) | (refine permToE 1 rfl ?hq ?_; (case hq => simp [setL, hcells]; done)) | (refine permToE 2 rfl ?hq ?_; (case hq => simp [setL, hcells]; done)) | (refine permToE 3 rfl ?hq ?_; (case hq => simp [setL, hcells]; done)) | fail)⟩
      ·try simp at h6
       have hnj : ms2.length ≤ j := by omega
       obtain rfl : j = ms2.length := by omega
       refine hw_exit ?_
       refine seqQ_x ?_
       refine loopQ2_x ?_
       refine blockQ_eq ?_
       refine blockQ_n ?_
       refine seqQ_n ?_
       refine hw_reg1 ?_
       refine dp rfl (pop_move rfl) ?_
       refine dp rfl (pop_add64 rfl rfl (by omega) (by omega)) ?_
       refine dp rfl (pop_assign rfl) ?_
       refine dn ?_
       exact ⟨w + 1, ⟨u, out, a2⟩, ⟨by omega, hq3.mono (by omega) (by omega)⟩, by dsimp only; omega, ⟨some_int (by omega), rfl, trivial⟩, (by repeat (first | exact keeps_refl | refine keeps_upd rfl ?_ | refine keeps_loop rfl rfl ?_)), by repeat (first | exact List.Perm.nil | refine permTo 0 rfl ?_ | refine permTo 1 rfl ?_ | refine permTo 2 rfl ?_ | refine permTo 3 rfl ?_ | (refine permToE 0 rfl ?hq ?_; (case hq => simp [setL, hcells]; done)) | (refine permToE 1 rfl ?hq ?_; (case hq => simp [setL, hcells]; done)) | (refine permToE 2 rfl ?hq ?_; (case hq => simp [setL, hcells]; done)) | (refine permToE 3 rfl ?hq ?_; (case hq => simp [setL, hcells]; done)) | fail)⟩
    ·try simp at h4
     refine hw_exit ?_
     refine seqQ_x ?_
     refine loopQ2_x ?_
     refine blockQ_eq ?_
     refine blockQ_n ?_
     refine seqQ_n ?_
     refine hw_reg1 ?_
     refine dp rfl (pop_add64 rfl rfl (by omega) (by omega)) ?_
     refine dp rfl (pop_move rfl) ?_
     refine dn ?_
     exact ⟨k + 1, ⟨u, out, a2⟩, ⟨by omega, hq2.mono (by omega) (by omega)⟩, by dsimp only; omega, ⟨rfl, rfl, trivial⟩, (by repeat (first | exact keeps_refl | refine keeps_upd rfl ?_ | refine keeps_loop rfl rfl ?_)), by repeat (first | exact List.Perm.nil | refine permTo 0 rfl ?_ | refine permTo 1 rfl ?_ | refine permTo 2 rfl ?_ | refine permTo 3 rfl ?_ | (refine permToE 0 rfl ?hq ?_; (case hq => simp [setL, hcells]; done)) | (refine permToE 1 rfl ?hq ?_; (case hq => simp [setL, hcells]; done)) | (refine permToE 2 rfl ?hq ?_; (case hq => simp [setL, hcells]; done)) | (refine permToE 3 rfl ?hq ?_; (case hq => simp [setL, hcells]; done)) | fail)⟩
  ·try simp at h2
   have hnk : mp3.length ≤ k := by omega
   obtain rfl : k = mp3.length := by omega
   refine hw_exit ?_
   refine seqQ_x ?_
   refine loopQ2_x ?_
   refine blockQ_eq ?_
   refine seqQ_n ?_
   refine hw_join (10 :: 49 :: 50 :: 51 :: 52 :: 53 :: 54 :: 55 :: 56 :: 57 :: 58 :: 59 :: 60 :: 61 :: 62 :: 63 :: 64 :: 65 :: 66 :: 67 :: 68 :: 69 :: 70 :: 71 :: 72 :: 73 :: 74 :: 75 :: 76 :: 77 :: 78 :: 79 :: 80 :: 81 :: 82 :: 83 :: 84 :: 85 :: 86 :: 87 :: 88 :: 89 :: 90 :: 91 :: 92 :: 93 :: 94 :: 95 :: 96 :: 97 :: 98 :: 99 :: 100 :: 101 :: 102 :: 103 :: 104 :: 105 :: 106 :: 107 :: []) (fun (q5 : List MendS × Nat) => []) (fun (q5 : List MendS × Nat) => [St b l q5.2, .arr u 7 (q5.1.map eMend)]) (fun (q5 : List MendS × Nat) => q5.1.length ≤ 24 ∧ (∀ x ∈ q5.1, GoodMd x) ∧ q5.2 ≤ a + 100) ?_ ?_
   ·skip
    refine hw_reg ?_
    refine dp rfl (pop_move rfl) ?_
    first
    | refine de rfl (eop_lenm (i := 0) ty46 rfl rfl ?_)
    | refine de rfl (eop_lenm (i := 1) ty46 rfl rfl ?_)
    | refine de rfl (eop_lenm (i := 2) ty46 rfl rfl ?_)
    | refine de rfl (eop_lenm (i := 3) ty46 rfl rfl ?_)
    refine dp rfl (pop_gtr rfl rfl) ?_
    refine dp rfl (pop_move rfl) ?_
    refine dg rfl rfl (fun hc => ⟨_, OpenTo.refl _, pop_move rfl⟩) ?_
    refine dgx (fun x M' => ∃ (y : Bool) (a3 : Nat), x = .bool y ∧ a3 ≤ a2 + 1 ∧ M' = [St b l a3, .arr u 7 (out.map eMend)]) rfl rfl (fun hc => ⟨_, false, a2, rfl, by omega, rfl⟩) (fun hc => ⟨_, OpenTo.upd (t := 53) rfl (by first | exact hc | simp_all) (OpenTo.refl _), eop_callx (i := 0) ca49 rfl (WeakL.refl _) rfl (c_benchmake_Stream_Flip (a := a2) (by omega) (by omega)) (fun h M' hh => by
     obtain ⟨y, h1, h2⟩ := hh
     exact ⟨y, a2 + 1, h1, by omega, by rw [h2]; rfl⟩)⟩) ?_
    rintro _ _ ⟨y, a3, rfl, ha3, rfl⟩
    refine dp rfl (pop_picko rfl (.inr ⟨_, rfl, fun h => by simp_all⟩) (.inl rfl)) ?_
    refine dn ?_
    refine hw_cond rfl (fun h11 => ?_) (fun h12 => ?_)
    ·try simp at h11
     have ho0 : 0 < out.length := by simp_all
     refine hw_arrc (i := 1) rfl (fun h0 he => ?_) (fun ob off cap hv hcap => ?_)
     ·exfalso; have := congrArg List.length he; simp at this; subst this; simp at ho0
     subst hv
     refine hw_reg ?_
     refine dp rfl (pop_move rfl) ?_
     refine dp rfl (pop_move rfl) ?_
     refine dp rfl (pop_move rfl) ?_
     first
     | refine de rfl (eop_lenm (i := 0) ty46 rfl rfl ?_)
     | refine de rfl (eop_lenm (i := 1) ty46 rfl rfl ?_)
     | refine de rfl (eop_lenm (i := 2) ty46 rfl rfl ?_)
     | refine de rfl (eop_lenm (i := 3) ty46 rfl rfl ?_)
     first
     | refine de rfl (eop_callx (i := 0) ca50 rfl (WeakL.refl _) rfl (c_benchmake_Stream_Next (by first | assumption | omega | (simp; omega) | simp_all) (by first | assumption | omega | (simp; omega) | simp_all)) ?_)
     | refine de rfl (eop_callx (i := 1) ca50 rfl (WeakL.refl _) rfl (c_benchmake_Stream_Next (by first | assumption | omega | (simp; omega) | simp_all) (by first | assumption | omega | (simp; omega) | simp_all)) ?_)
     | refine de rfl (eop_callx (i := 2) ca50 rfl (WeakL.refl _) rfl (c_benchmake_Stream_Next (by first | assumption | omega | (simp; omega) | simp_all) (by first | assumption | omega | (simp; omega) | simp_all)) ?_)
     | refine de rfl (eop_callx (i := 3) ca50 rfl (WeakL.refl _) rfl (c_benchmake_Stream_Next (by first | assumption | omega | (simp; omega) | simp_all) (by first | assumption | omega | (simp; omega) | simp_all)) ?_)
     rintro _ _ ⟨y60, rfl, hy60, rfl⟩
     refine dp rfl (pop_idxraw (j := y60) ty46 ty69 rfl rfl rfl (by simp; omega)) ?_
     refine dp rfl (pop_assign rfl) ?_
     refine dn ?_
     obtain ⟨x, hx⟩ : ∃ x, out[y60]? = some x := ⟨_, List.getElem?_eq_getElem (by omega)⟩
     refine hw_draw1 (fun M => ∃ i : Nat, M[i]? = some (.arr (.slice (some ⟨ob, off, none⟩) (out.map eMend).length cap) 7 (out.map eMend))) [9, 16, 23, 30] mixed ?_
     refine ahp 0 rfl rfl (by kernel_rfl) (by kernel_rfl) (pop_move rfl) ?_
     refine ahp 1 rfl rfl (by kernel_rfl) (by kernel_rfl) (pop_move rfl) ?_
     refine ahp 2 rfl rfl (by kernel_rfl) (by kernel_rfl) (pop_move rfl) ?_
     refine ahp 3 rfl rfl (by kernel_rfl) (by kernel_rfl) (pop_move rfl) ?_
     refine ahp 4 rfl rfl (by kernel_rfl) (by kernel_rfl) (pop_move rfl) ?_
     refine ahp 5 rfl rfl (by kernel_rfl) (by kernel_rfl) (pop_move rfl) ?_
     refine ahp 6 rfl rfl (by kernel_rfl) (by kernel_rfl) (pop_move rfl) ?_
     refine ahp 7 rfl rfl (by kernel_rfl) (by kernel_rfl) ((by first | exact pop_nilCheck rfl | exact pop_nilCheck_raw rfl)) ?_
     refine ahp 8 rfl rfl (by kernel_rfl) (by kernel_rfl) ((by first | exact pop_fieldAddr ty69 rfl ty9 (by decide) rfl | exact pop_fieldAddr_raw ty69 rfl ty9 (by decide) rfl)) ?_
     refine ahl 9 rfl rfl (by kernel_rfl) (by kernel_rfl) (by simp) ⟨1, rfl⟩ (fun M hM => by obtain ⟨i, hi⟩ := hM; exact eop_load_el (i := i) (j := y60) 0 ty9 rfl (by omega) hi hx rfl rfl ⟨rfl, rfl⟩) ?_
     refine ahp 10 rfl rfl (by kernel_rfl) (by kernel_rfl) (pop_buildSlice (hs := [_, _, _]) ty36 ty9 rfl rfl (by decide) (by decide) rfl) ?_
     refine ahp 12 rfl rfl (by kernel_rfl) (by kernel_rfl) (pop_move rfl) ?_
     refine ahp 13 rfl rfl (by kernel_rfl) (by kernel_rfl) (pop_move rfl) ?_
     refine ahp 14 rfl rfl (by kernel_rfl) (by kernel_rfl) ((by first | exact pop_nilCheck rfl | exact pop_nilCheck_raw rfl)) ?_
     refine ahp 15 rfl rfl (by kernel_rfl) (by kernel_rfl) ((by first | exact pop_fieldAddr ty69 rfl ty3 (by decide) rfl | exact pop_fieldAddr_raw ty69 rfl ty3 (by decide) rfl)) ?_
     refine ahl 16 rfl rfl (by kernel_rfl) (by kernel_rfl) (by simp) ⟨1, rfl⟩ (fun M hM => by obtain ⟨i, hi⟩ := hM; exact eop_load_el (i := i) (j := y60) 1 ty3 rfl (by omega) hi hx rfl rfl ⟨rfl, rfl⟩) ?_
     refine ahp 17 rfl rfl (by kernel_rfl) (by kernel_rfl) (pop_buildSlice (hs := [_, _]) ty22 ty3 rfl rfl (by decide) (by decide) rfl) ?_
     refine ahp 19 rfl rfl (by kernel_rfl) (by kernel_rfl) (pop_move rfl) ?_
     refine ahp 20 rfl rfl (by kernel_rfl) (by kernel_rfl) (pop_move rfl) ?_
     refine ahp 21 rfl rfl (by kernel_rfl) (by kernel_rfl) ((by first | exact pop_nilCheck rfl | exact pop_nilCheck_raw rfl)) ?_
     refine ahp 22 rfl rfl (by kernel_rfl) (by kernel_rfl) ((by first | exact pop_fieldAddr ty69 rfl ty3 (by decide) rfl | exact pop_fieldAddr_raw ty69 rfl ty3 (by decide) rfl)) ?_
     refine ahl 23 rfl rfl (by kernel_rfl) (by kernel_rfl) (by simp) ⟨1, rfl⟩ (fun M hM => by obtain ⟨i, hi⟩ := hM; exact eop_load_el (i := i) (j := y60) 3 ty3 rfl (by omega) hi hx rfl rfl ⟨rfl, rfl⟩) ?_
     refine ahp 24 rfl rfl (by kernel_rfl) (by kernel_rfl) (pop_buildSlice (hs := [_, _]) ty22 ty3 rfl rfl (by decide) (by decide) rfl) ?_
     refine ahp 26 rfl rfl (by kernel_rfl) (by kernel_rfl) (pop_move rfl) ?_
     refine ahp 27 rfl rfl (by kernel_rfl) (by kernel_rfl) (pop_move rfl) ?_
     refine ahp 28 rfl rfl (by kernel_rfl) (by kernel_rfl) ((by first | exact pop_nilCheck rfl | exact pop_nilCheck_raw rfl)) ?_
     refine ahp 29 rfl rfl (by kernel_rfl) (by kernel_rfl) ((by first | exact pop_fieldAddr ty69 rfl ty3 (by decide) rfl | exact pop_fieldAddr_raw ty69 rfl ty3 (by decide) rfl)) ?_
     refine ahl 30 rfl rfl (by kernel_rfl) (by kernel_rfl) (by simp) ⟨1, rfl⟩ (fun M hM => by obtain ⟨i, hi⟩ := hM; exact eop_load_el (i := i) (j := y60) 5 ty3 rfl (by omega) hi hx rfl rfl ⟨rfl, rfl⟩) ?_
     refine ahp 31 rfl rfl (by kernel_rfl) (by kernel_rfl) (pop_buildSlice (hs := [_, _, _]) ty22 ty3 rfl rfl (by decide) (by decide) rfl) ?_
     refine ahp 33 rfl rfl (by kernel_rfl) (by kernel_rfl) (pop_move rfl) ?_
     refine ahp 34 rfl rfl (by kernel_rfl) (by kernel_rfl) (pop_buildSlice (hs := [_, _]) ty36 ty9 rfl rfl (by decide) (by decide) rfl) ?_
     refine ahe 11 rfl (by kernel_rfl) ?_
     first
     | refine hop_e rfl (eop_callx (i := 0) ca31 rfl (WeakL.refl _) rfl (c_benchmake_Stream_Some (L := [_, _, _]) (by first | assumption | omega | (simp; omega) | simp_all) (by first | assumption | omega | (simp; omega) | simp_all) (by first | assumption | omega | (simp; omega) | simp_all)) ?_)
     | refine hop_e rfl (eop_callx (i := 1) ca31 rfl (WeakL.refl _) rfl (c_benchmake_Stream_Some (L := [_, _, _]) (by first | assumption | omega | (simp; omega) | simp_all) (by first | assumption | omega | (simp; omega) | simp_all) (by first | assumption | omega | (simp; omega) | simp_all)) ?_)
     | refine hop_e rfl (eop_callx (i := 2) ca31 rfl (WeakL.refl _) rfl (c_benchmake_Stream_Some (L := [_, _, _]) (by first | assumption | omega | (simp; omega) | simp_all) (by first | assumption | omega | (simp; omega) | simp_all) (by first | assumption | omega | (simp; omega) | simp_all)) ?_)
     | refine hop_e rfl (eop_callx (i := 3) ca31 rfl (WeakL.refl _) rfl (c_benchmake_Stream_Some (L := [_, _, _]) (by first | assumption | omega | (simp; omega) | simp_all) (by first | assumption | omega | (simp; omega) | simp_all) (by first | assumption | omega | (simp; omega) | simp_all)) ?_)
     rintro _ _ ⟨y73, rfl, hy73, rfl⟩
     refine ⟨fun _ => by first | exact .inl ⟨0, rfl⟩ | exact .inl ⟨1, rfl⟩ | exact .inl ⟨2, rfl⟩ | exact .inr (by simp [Before, Region.binds]), ?_⟩
     refine ahe 18 rfl (by kernel_rfl) ?_
     first
     | refine hop_e rfl (eop_callx (i := 0) ca32 rfl (WeakL.refl _) rfl (c_benchmake_Stream_Pick (L := [_, _]) (by first | assumption | omega | (simp; omega) | simp_all) (by first | assumption | omega | (simp; omega) | simp_all) (by first | assumption | omega | (simp; omega) | simp_all)) ?_)
     | refine hop_e rfl (eop_callx (i := 1) ca32 rfl (WeakL.refl _) rfl (c_benchmake_Stream_Pick (L := [_, _]) (by first | assumption | omega | (simp; omega) | simp_all) (by first | assumption | omega | (simp; omega) | simp_all) (by first | assumption | omega | (simp; omega) | simp_all)) ?_)
     | refine hop_e rfl (eop_callx (i := 2) ca32 rfl (WeakL.refl _) rfl (c_benchmake_Stream_Pick (L := [_, _]) (by first | assumption | omega | (simp; omega) | simp_all) (by first | assumption | omega | (simp; omega) | simp_all) (by first | assumption | omega | (simp; omega) | simp_all)) ?_)
     | refine hop_e rfl (eop_callx (i := 3) ca32 rfl (WeakL.refl _) rfl (c_benchmake_Stream_Pick (L := [_, _]) (by first | assumption | omega | (simp; omega) | simp_all) (by first | assumption | omega | (simp; omega) | simp_all) (by first | assumption | omega | (simp; omega) | simp_all)) ?_)
     rintro _ _ ⟨y80, rfl, hy80, rfl⟩
     refine ⟨fun _ => by first | exact .inl ⟨0, rfl⟩ | exact .inl ⟨1, rfl⟩ | exact .inl ⟨2, rfl⟩ | exact .inr (by simp [Before, Region.binds]), ?_⟩
     refine ahe 25 rfl (by kernel_rfl) ?_
     first
     | refine hop_e rfl (eop_callx (i := 0) ca32 rfl (WeakL.refl _) rfl (c_benchmake_Stream_Pick (L := [_, _]) (by first | assumption | omega | (simp; omega) | simp_all) (by first | assumption | omega | (simp; omega) | simp_all) (by first | assumption | omega | (simp; omega) | simp_all)) ?_)
     | refine hop_e rfl (eop_callx (i := 1) ca32 rfl (WeakL.refl _) rfl (c_benchmake_Stream_Pick (L := [_, _]) (by first | assumption | omega | (simp; omega) | simp_all) (by first | assumption | omega | (simp; omega) | simp_all) (by first | assumption | omega | (simp; omega) | simp_all)) ?_)
     | refine hop_e rfl (eop_callx (i := 2) ca32 rfl (WeakL.refl _) rfl (c_benchmake_Stream_Pick (L := [_, _]) (by first | assumption | omega | (simp; omega) | simp_all) (by first | assumption | omega | (simp; omega) | simp_all) (by first | assumption | omega | (simp; omega) | simp_all)) ?_)
     | refine hop_e rfl (eop_callx (i := 3) ca32 rfl (WeakL.refl _) rfl (c_benchmake_Stream_Pick (L := [_, _]) (by first | assumption | omega | (simp; omega) | simp_all) (by first | assumption | omega | (simp; omega) | simp_all) (by first | assumption | omega | (simp; omega) | simp_all)) ?_)
     rintro _ _ ⟨y87, rfl, hy87, rfl⟩
     refine ⟨fun _ => by first | exact .inl ⟨0, rfl⟩ | exact .inl ⟨1, rfl⟩ | exact .inl ⟨2, rfl⟩ | exact .inr (by simp [Before, Region.binds]), ?_⟩
     refine ahe 32 rfl (by kernel_rfl) ?_
     first
     | refine hop_e rfl (eop_callx (i := 0) ca32 rfl (WeakL.refl _) rfl (c_benchmake_Stream_Pick (L := [_, _, _]) (by first | assumption | omega | (simp; omega) | simp_all) (by first | assumption | omega | (simp; omega) | simp_all) (by first | assumption | omega | (simp; omega) | simp_all)) ?_)
     | refine hop_e rfl (eop_callx (i := 1) ca32 rfl (WeakL.refl _) rfl (c_benchmake_Stream_Pick (L := [_, _, _]) (by first | assumption | omega | (simp; omega) | simp_all) (by first | assumption | omega | (simp; omega) | simp_all) (by first | assumption | omega | (simp; omega) | simp_all)) ?_)
     | refine hop_e rfl (eop_callx (i := 2) ca32 rfl (WeakL.refl _) rfl (c_benchmake_Stream_Pick (L := [_, _, _]) (by first | assumption | omega | (simp; omega) | simp_all) (by first | assumption | omega | (simp; omega) | simp_all) (by first | assumption | omega | (simp; omega) | simp_all)) ?_)
     | refine hop_e rfl (eop_callx (i := 3) ca32 rfl (WeakL.refl _) rfl (c_benchmake_Stream_Pick (L := [_, _, _]) (by first | assumption | omega | (simp; omega) | simp_all) (by first | assumption | omega | (simp; omega) | simp_all) (by first | assumption | omega | (simp; omega) | simp_all)) ?_)
     rintro _ _ ⟨y94, rfl, hy94, rfl⟩
     refine ⟨fun _ => by first | exact .inl ⟨0, rfl⟩ | exact .inl ⟨1, rfl⟩ | exact .inl ⟨2, rfl⟩ | exact .inr (by simp [Before, Region.binds]), ?_⟩
     refine ahe 35 rfl (by kernel_rfl) ?_
     first
     | refine hop_e rfl (eop_callx (i := 0) ca31 rfl (WeakL.refl _) rfl (c_benchmake_Stream_Some (L := [_, _]) (by first | assumption | omega | (simp; omega) | simp_all) (by first | assumption | omega | (simp; omega) | simp_all) (by first | assumption | omega | (simp; omega) | simp_all)) ?_)
     | refine hop_e rfl (eop_callx (i := 1) ca31 rfl (WeakL.refl _) rfl (c_benchmake_Stream_Some (L := [_, _]) (by first | assumption | omega | (simp; omega) | simp_all) (by first | assumption | omega | (simp; omega) | simp_all) (by first | assumption | omega | (simp; omega) | simp_all)) ?_)
     | refine hop_e rfl (eop_callx (i := 2) ca31 rfl (WeakL.refl _) rfl (c_benchmake_Stream_Some (L := [_, _]) (by first | assumption | omega | (simp; omega) | simp_all) (by first | assumption | omega | (simp; omega) | simp_all) (by first | assumption | omega | (simp; omega) | simp_all)) ?_)
     | refine hop_e rfl (eop_callx (i := 3) ca31 rfl (WeakL.refl _) rfl (c_benchmake_Stream_Some (L := [_, _]) (by first | assumption | omega | (simp; omega) | simp_all) (by first | assumption | omega | (simp; omega) | simp_all) (by first | assumption | omega | (simp; omega) | simp_all)) ?_)
     rintro _ _ ⟨y97, rfl, hy97, rfl⟩
     refine ⟨fun _ => by first | exact .inl ⟨0, rfl⟩ | exact .inl ⟨1, rfl⟩ | exact .inl ⟨2, rfl⟩ | exact .inr (by simp [Before, Region.binds]), ?_⟩
     refine ahp 36 rfl rfl (by kernel_rfl) (by kernel_rfl) ((by first | exact pop_nilCheck rfl | exact pop_nilCheck_raw rfl)) ?_
     refine ahp 37 rfl rfl (by kernel_rfl) (by kernel_rfl) ((by first | exact pop_fieldAddr ty69 rfl ty9 (by decide) rfl | exact pop_fieldAddr_raw ty69 rfl ty9 (by decide) rfl)) ?_
     refine ahe 38 rfl (by kernel_rfl) ?_
     refine hop_e0 (eop_store_arr (i := 1) (j := y60) (f := 0) (y := eMend x) (y' := eMend ⟨y73, x.Week, x.Stat, x.Count, x.At, x.Version, x.By⟩) ty9 rfl (by omega) rfl rfl (map_get hx) rfl rfl (by simp [hcells]) rfl ?_)
     refine ⟨fun _ => .inr (by simp [Before, Region.binds]), ?_⟩
     refine ahp 39 rfl rfl (by kernel_rfl) (by kernel_rfl) ((by first | exact pop_nilCheck rfl | exact pop_nilCheck_raw rfl)) ?_
     refine ahp 40 rfl rfl (by kernel_rfl) (by kernel_rfl) ((by first | exact pop_fieldAddr ty69 rfl ty3 (by decide) rfl | exact pop_fieldAddr_raw ty69 rfl ty3 (by decide) rfl)) ?_
     refine ahe 41 rfl (by kernel_rfl) ?_
     refine hop_e0 (eop_store_arr (i := 1) (j := y60) (f := 1) (y := eMend ⟨y73, x.Week, x.Stat, x.Count, x.At, x.Version, x.By⟩) (y' := eMend ⟨y73, y80, x.Stat, x.Count, x.At, x.Version, x.By⟩) ty3 rfl (by omega) rfl rfl (set_self (map_get hx)) rfl rfl (by simp [hcells]) rfl ?_)
     refine ⟨fun _ => .inr (by simp [Before, Region.binds]), ?_⟩
     refine ahp 42 rfl rfl (by kernel_rfl) (by kernel_rfl) ((by first | exact pop_nilCheck rfl | exact pop_nilCheck_raw rfl)) ?_
     refine ahp 43 rfl rfl (by kernel_rfl) (by kernel_rfl) ((by first | exact pop_fieldAddr ty69 rfl ty3 (by decide) rfl | exact pop_fieldAddr_raw ty69 rfl ty3 (by decide) rfl)) ?_
     refine ahe 44 rfl (by kernel_rfl) ?_
     refine hop_e0 (eop_store_arr (i := 1) (j := y60) (f := 3) (y := eMend ⟨y73, y80, x.Stat, x.Count, x.At, x.Version, x.By⟩) (y' := eMend ⟨y73, y80, x.Stat, y87, x.At, x.Version, x.By⟩) ty3 rfl (by omega) rfl rfl (set_self (set_self (map_get hx))) rfl rfl (by simp [hcells]) rfl ?_)
     refine ⟨fun _ => .inr (by simp [Before, Region.binds]), ?_⟩
     refine ahp 45 rfl rfl (by kernel_rfl) (by kernel_rfl) ((by first | exact pop_nilCheck rfl | exact pop_nilCheck_raw rfl)) ?_
     refine ahp 46 rfl rfl (by kernel_rfl) (by kernel_rfl) ((by first | exact pop_fieldAddr ty69 rfl ty3 (by decide) rfl | exact pop_fieldAddr_raw ty69 rfl ty3 (by decide) rfl)) ?_
     refine ahe 47 rfl (by kernel_rfl) ?_
     refine hop_e0 (eop_store_arr (i := 1) (j := y60) (f := 5) (y := eMend ⟨y73, y80, x.Stat, y87, x.At, x.Version, x.By⟩) (y' := eMend ⟨y73, y80, x.Stat, y87, x.At, y94, x.By⟩) ty3 rfl (by omega) rfl rfl (set_self (set_self (set_self (map_get hx)))) rfl rfl (by simp [hcells]) rfl ?_)
     refine ⟨fun _ => .inr (by simp [Before, Region.binds]), ?_⟩
     refine ahp 48 rfl rfl (by kernel_rfl) (by kernel_rfl) ((by first | exact pop_nilCheck rfl | exact pop_nilCheck_raw rfl)) ?_
     refine ahp 49 rfl rfl (by kernel_rfl) (by kernel_rfl) ((by first | exact pop_fieldAddr ty69 rfl ty9 (by decide) rfl | exact pop_fieldAddr_raw ty69 rfl ty9 (by decide) rfl)) ?_
     refine ahe 50 rfl (by kernel_rfl) ?_
     refine hop_e0 (eop_store_arr (i := 1) (j := y60) (f := 6) (y := eMend ⟨y73, y80, x.Stat, y87, x.At, y94, x.By⟩) (y' := eMend ⟨y73, y80, x.Stat, y87, x.At, y94, y97⟩) ty9 rfl (by omega) rfl rfl (set_self (set_self (set_self (set_self (map_get hx))))) rfl rfl (by simp [hcells]) rfl ?_)
     refine ⟨fun _ => .inr (by simp [Before, Region.binds]), ?_⟩
     refine ahz (by kernel_rfl) ?_
     exact ⟨(out.set y60 ⟨y73, y80, x.Stat, y87, x.At, y94, y97⟩, a3 + 1 + 1 + 1 + 1 + 1 + 1), ⟨by simp; omega, all_set (P := GoodMd) g2 (by
      have hgx := g2 x (List.mem_of_getElem? hx)
      exact ⟨by simp at hy73; rcases hy73 with rfl | rfl | rfl; exact hgx.1; exact nil_sh; (unfold Sh; simp), hgx.2.1, by simp at hy97; rcases hy97 with rfl | rfl <;> (unfold Sh; simp)⟩), by dsimp only; omega⟩, trivial, (by repeat (first | exact keeps_refl | refine keeps_upd rfl ?_ | refine keeps_loop rfl rfl ?_)), by repeat (first | exact List.Perm.nil | refine permTo 0 rfl ?_ | refine permTo 1 rfl ?_ | refine permTo 2 rfl ?_ | refine permTo 3 rfl ?_ | (refine permToE 0 rfl ?hq ?_; (case hq => simp [setL, hcells]; done)) | (refine permToE 1 rfl ?hq ?_; (case hq => simp [setL, hcells]; done)) | (refine permToE 2 rfl ?hq ?_; (case hq => simp [setL, hcells]; done)) | (refine permToE 3 rfl ?hq ?_; (case hq => simp [setL, hcells]; done)) | fail)⟩
    ·try simp at h12
     refine hw_skip ?_
     exact ⟨(out, a3), ⟨by dsimp only; omega, g2, by dsimp only; omega⟩, trivial, (by repeat (first | exact keeps_refl | refine keeps_upd rfl ?_ | refine keeps_loop rfl rfl ?_)), by repeat (first | exact List.Perm.nil | refine permTo 0 rfl ?_ | refine permTo 1 rfl ?_ | refine permTo 2 rfl ?_ | refine permTo 3 rfl ?_ | (refine permToE 0 rfl ?hq ?_; (case hq => simp [setL, hcells]; done)) | (refine permToE 1 rfl ?hq ?_; (case hq => simp [setL, hcells]; done)) | (refine permToE 2 rfl ?hq ?_; (case hq => simp [setL, hcells]; done)) | (refine permToE 3 rfl ?hq ?_; (case hq => simp [setL, hcells]; done)) | fail)⟩
   ·intro q5 hq5
    obtain ⟨k1, a4⟩ := q5
    dsimp only at hq5
    obtain ⟨q1, q2, q3⟩ := hq5
    refine hw_reg ?_
    refine dp rfl (pop_move rfl) ?_
    refine dp rfl (pop_assign rfl) ?_
    refine dn ?_
    refine hw_ret ?_
    exact ret_g (Ghost.fa 2 (i := 1) rfl rfl) rfl ⟨k1, a4, rfl, ⟨by omega, q2⟩, by omega, rfl⟩
end Go.Proofs.YtkamelfigfbfiaaGreatDoor
end
section
namespace Go.Proofs.YtkamelfigfbfiaaGreatDoor
open Go.HL
set_option maxRecDepth 100000
set_option linter.unusedVariables false
set_option linter.unusedSimpArgs false
set_option maxHeartbeats 1000000 in
/-- benchwarmer/benchkeep1.SinceIsDifference -/
theorem c_benchkeep1_SinceIsDifference [Tracks] {l : List Int} (hT : Tracks.on = false) : ConP Tryz.prog 4 [.slice 1 (l.map (.int .i64))] (.bool true) := by
 refine Con.of_body Tryz.func4 rfl Tryz.ntmps4 rfl rfl ?_
 refine hw_reg ?_
 refine dp rfl (pop_assign rfl) ?_
 refine dn ?_
 refine hw_reg ?_
 refine dp rfl (pop_move rfl) ?_
 refine dp rfl (pop_build (cs := [_, _]) ty25 pl25 rfl) ?_
 refine de rfl (eop_box rfl rfl fun b => ?_)
 refine dghost (M' := [St b l 0]) rfl ?_
 refine dp rfl (pop_assign rfl) ?_
 refine dn ?_
 refine hw_reg ?_
 refine dp rfl (pop_move rfl) ?_
 first
 | refine de rfl (eop_callx (i := 0) ca16 rfl (WeakL.refl _) rfl (c_benchmake_Stream_RightTold (by first | assumption | omega | (simp; omega) | simp_all)) ?_)
 | refine de rfl (eop_callx (i := 1) ca16 rfl (WeakL.refl _) rfl (c_benchmake_Stream_RightTold (by first | assumption | omega | (simp; omega) | simp_all)) ?_)
 | refine de rfl (eop_callx (i := 2) ca16 rfl (WeakL.refl _) rfl (c_benchmake_Stream_RightTold (by first | assumption | omega | (simp; omega) | simp_all)) ?_)
 | refine de rfl (eop_callx (i := 3) ca16 rfl (WeakL.refl _) rfl (c_benchmake_Stream_RightTold (by first | assumption | omega | (simp; omega) | simp_all)) ?_)
 rintro _ _ ⟨p19, a19, rfl, hp19, ha19, rfl⟩
 refine dp rfl (pop_move rfl) ?_
 first
 | refine de rfl (eop_callx (i := 0) ca17 rfl (WeakL.refl _) rfl (c_benchmake_Stream_Mends (by first | assumption | omega | (simp; omega) | simp_all)) ?_)
 | refine de rfl (eop_callx (i := 1) ca17 rfl (WeakL.refl _) rfl (c_benchmake_Stream_Mends (by first | assumption | omega | (simp; omega) | simp_all)) ?_)
 | refine de rfl (eop_callx (i := 2) ca17 rfl (WeakL.refl _) rfl (c_benchmake_Stream_Mends (by first | assumption | omega | (simp; omega) | simp_all)) ?_)
 | refine de rfl (eop_callx (i := 3) ca17 rfl (WeakL.refl _) rfl (c_benchmake_Stream_Mends (by first | assumption | omega | (simp; omega) | simp_all)) ?_)
 rintro _ _ ⟨m21, a21, rfl, hm21, ha21, rfl⟩
 refine dp rfl (pop_move rfl) ?_
 first
 | refine de rfl (eop_callx (i := 0) ca9 rfl (WeakL.refl _) rfl (c_benchmake_Stream_Range (by first | assumption | omega | (simp; omega) | simp_all) (by first | assumption | omega | (simp; omega) | simp_all) (by first | assumption | omega | (simp; omega) | simp_all) (by first | assumption | omega | (simp; omega) | simp_all)) ?_)
 | refine de rfl (eop_callx (i := 1) ca9 rfl (WeakL.refl _) rfl (c_benchmake_Stream_Range (by first | assumption | omega | (simp; omega) | simp_all) (by first | assumption | omega | (simp; omega) | simp_all) (by first | assumption | omega | (simp; omega) | simp_all) (by first | assumption | omega | (simp; omega) | simp_all)) ?_)
 | refine de rfl (eop_callx (i := 2) ca9 rfl (WeakL.refl _) rfl (c_benchmake_Stream_Range (by first | assumption | omega | (simp; omega) | simp_all) (by first | assumption | omega | (simp; omega) | simp_all) (by first | assumption | omega | (simp; omega) | simp_all) (by first | assumption | omega | (simp; omega) | simp_all)) ?_)
 | refine de rfl (eop_callx (i := 3) ca9 rfl (WeakL.refl _) rfl (c_benchmake_Stream_Range (by first | assumption | omega | (simp; omega) | simp_all) (by first | assumption | omega | (simp; omega) | simp_all) (by first | assumption | omega | (simp; omega) | simp_all) (by first | assumption | omega | (simp; omega) | simp_all)) ?_)
 rintro _ _ ⟨y23, rfl, hy23, rfl⟩
 refine dp rfl (pop_assign rfl) ?_
 refine dp rfl (pop_assign rfl) ?_
 refine dp rfl (pop_assign rfl) ?_
 refine dn ?_
 refine hw_reg ?_
 refine dp rfl (pop_move rfl) ?_
 refine dp rfl (pop_move rfl) ?_
 first
 | refine de rfl (eop_callx (i := 0) ca9 rfl (WeakL.refl _) rfl (c_benchmake_Stream_Range (by first | assumption | omega | (simp; omega) | simp_all) (by first | assumption | omega | (simp; omega) | simp_all) (by first | assumption | omega | (simp; omega) | simp_all) (by first | assumption | omega | (simp; omega) | simp_all)) ?_)
 | refine de rfl (eop_callx (i := 1) ca9 rfl (WeakL.refl _) rfl (c_benchmake_Stream_Range (by first | assumption | omega | (simp; omega) | simp_all) (by first | assumption | omega | (simp; omega) | simp_all) (by first | assumption | omega | (simp; omega) | simp_all) (by first | assumption | omega | (simp; omega) | simp_all)) ?_)
 | refine de rfl (eop_callx (i := 2) ca9 rfl (WeakL.refl _) rfl (c_benchmake_Stream_Range (by first | assumption | omega | (simp; omega) | simp_all) (by first | assumption | omega | (simp; omega) | simp_all) (by first | assumption | omega | (simp; omega) | simp_all) (by first | assumption | omega | (simp; omega) | simp_all)) ?_)
 | refine de rfl (eop_callx (i := 3) ca9 rfl (WeakL.refl _) rfl (c_benchmake_Stream_Range (by first | assumption | omega | (simp; omega) | simp_all) (by first | assumption | omega | (simp; omega) | simp_all) (by first | assumption | omega | (simp; omega) | simp_all) (by first | assumption | omega | (simp; omega) | simp_all)) ?_)
 rintro _ _ ⟨y26, rfl, hy26, rfl⟩
 refine dp rfl (pop_add64 rfl rfl (by omega) (by omega)) ?_
 refine dp rfl (pop_assign rfl) ?_
 refine dn ?_
 refine hw_ghost Ghost.clear ?_
 have hpl := hp19.1.len
 refine hw_seq ?_
 refine hw_reg ?_
 refine dp rfl (pop_move rfl) ?_
 refine dp rfl (pop_call ca18 rfl (WeakL.refl _) (c_benchref1_MendsFault (m := m21) (Nat.le_trans hm21.len (by omega)) hm21.all)) ?_
 refine dp rfl (pop_neq rfl rfl) ?_
 refine dn ?_
 refine hw_cond rfl (fun h1 => ?_) (fun h2 => ?_)
 ·try simp at h1
  refine hw_reg ?_
  refine dp rfl (pop_call ca13 rfl (WeakL.refl _) (c_benchkeep1_ready hT)) ?_
  refine dp rfl (pop_assign rfl) ?_
  refine dn ?_
  refine hw_ret ?_
  refine ret_p rfl ?_
  show HVal.bool _ = _
  first
  | rfl
  | (have h12 := sin_full (l := p19) (t := src3) (week := 1) (f := y23) (g := y23 + y26) (by simpa using h3)
     simp [h12])
 ·try simp at h2
  refine hw_skip ?_
  refine seqQ_n ?_
  refine hw_reg ?_
  refine dp rfl (pop_buildSlice (hs := [_, _, _]) ty36 ty9 rfl rfl (by decide) (by decide) rfl) ?_
  refine dp rfl (pop_assign rfl) ?_
  refine dn ?_
  have hmz : mendsE m21 = 0 := by simp_all
  have hmo1 : moment y23 = true := by simp [moment, out]; omega
  have hmo2 : moment (y23 + y26) = true := by simp [moment, out]; omega
  refine hw_reg ?_
  refine dp rfl (pop_move rfl) ?_
  refine dp rfl (pop_move rfl) ?_
  refine dp rfl (pop_move rfl) ?_
  refine dp rfl (pop_move rfl) ?_
  refine dp rfl (pop_move rfl) ?_
  refine dp rfl (pop_call ca19 rfl (WeakL.refl _) (c_play_Since (l := p19) (trust := src3) (m := m21) (week := 1) (f := y23) (g := y23 + y26) hT hpl (by simp [src3]) hm21.len hp19.2 (by kernel_rfl) hmz rfl hmo1 hmo2 (by omega))) ?_
  refine dp rfl (pop_move rfl) ?_
  refine dp rfl (pop_extract rfl rfl) ?_
  refine dp rfl (pop_extract rfl rfl) ?_
  refine dp rfl (pop_assign rfl) ?_
  refine dp rfl (pop_assign rfl) ?_
  refine dn ?_
  refine hw_reg ?_
  refine dp rfl (pop_move rfl) ?_
  refine dp rfl (pop_move rfl) ?_
  refine dp rfl (pop_move rfl) ?_
  refine dp rfl (pop_move rfl) ?_
  refine dp rfl (pop_move rfl) ?_
  refine dp rfl (pop_call ca19 rfl (WeakL.refl _) (c_play_Since (l := p19) (trust := src3) (m := m21) (week := 1) (f := (y23 + y26)) (g := y23 + y26) hT hpl (by simp [src3]) hm21.len hp19.2 (by kernel_rfl) hmz rfl hmo2 hmo2 (by omega))) ?_
  refine dp rfl (pop_move rfl) ?_
  refine dp rfl (pop_extract rfl rfl) ?_
  refine dp rfl (pop_extract rfl rfl) ?_
  refine dp rfl (pop_assign rfl) ?_
  refine dp rfl (pop_assign rfl) ?_
  refine dn ?_
  rw [sin_none]
  have hsl := sin_len (t := src3) (m := m21) (week := 1) (f := y23) (g := y23 + y26) (plays_fault hp19.2) hpl hm21.len
  refine hw_seq ?_
  refine hw_reg ?_
  refine dp rfl (pop_move rfl) ?_
  refine dp rfl (pop_neq rfl rfl) ?_
  refine dp rfl (pop_move rfl) ?_
  refine dg rfl rfl (fun hc => ⟨_, OpenTo.refl _, pop_move rfl⟩) ?_
  refine dg rfl rfl (fun hc => ⟨_, OpenTo.upd (t := 54) rfl (by first | exact hc | simp_all) (OpenTo.refl _), pop_neq rfl rfl⟩) ?_
  refine dp rfl (pop_picko rfl (.inl rfl) (.inr ⟨_, rfl, fun h => by simp_all⟩)) ?_
  refine dp rfl (pop_move rfl) ?_
  refine dg rfl rfl (fun hc => ⟨_, OpenTo.refl _, pop_move rfl⟩) ?_
  refine dg rfl rfl (fun hc => ⟨_, OpenTo.upd (t := 58) rfl (by first | exact hc | simp_all) (OpenTo.refl _), pop_lenm ty49 rfl⟩) ?_
  refine dg rfl rfl (fun hc => ⟨_, OpenTo.upd (t := 59) rfl (by first | exact hc | simp_all) (OpenTo.refl _), pop_neq rfl rfl⟩) ?_
  refine dp rfl (pop_picko rfl (.inl rfl) (.inr ⟨_, rfl, fun h => by simp_all⟩)) ?_
  refine dn ?_
  refine hw_cond rfl (fun h3 => ?_) (fun h4 => ?_)
  ·try simp at h3
   refine hw_reg ?_
   refine dp rfl (pop_move rfl) ?_
   refine dp rfl (pop_eql rfl rfl) ?_
   refine dp rfl (pop_move rfl) ?_
   refine dg rfl rfl (fun hc => ⟨_, OpenTo.refl _, pop_call ca13 rfl (WeakL.refl _) (c_benchkeep1_ready hT)⟩) ?_
   refine dp rfl (pop_picko rfl (.inr ⟨_, rfl, fun h => by simp_all⟩) (.inl rfl)) ?_
   refine dp rfl (pop_assign rfl) ?_
   refine dn ?_
   refine hw_ret ?_
   refine ret_p rfl ?_
   show HVal.bool _ = _
   first
   | rfl
   | (have h12 := sin_full (l := p19) (t := src3) (week := 1) (f := y23) (g := y23 + y26) (by simpa using h3)
      simp [h12])
  ·try simp at h4
   refine hw_skip ?_
   refine seqQ_n ?_
   refine hw_seq ?_
   refine hw_reg ?_
   refine dp rfl (pop_move rfl) ?_
   refine dp rfl (pop_lenm ty49 rfl) ?_
   refine dp rfl (pop_move rfl) ?_
   refine dn ?_
   refine hw_block ?_
   refine hw_loopw [2, 14, 69, 70, 71, 72, 73, 74, 75, 76, 77, 78, 79, 80, 81, 82, 83] (fun (k : Nat) => [(69, .int .i64 k)]) (fun (k : Nat) => []) (fun (k : Nat) => k ≤ (sinL p19 src3 m21 1 y23 (y23 + y26)).length ∧ (True)) (fun (k : Nat) => (sinL p19 src3 m21 1 y23 (y23 + y26)).length - k) (0) ?_ ?_ ?_ ?_
   ·exact ⟨Nat.zero_le _, trivial⟩
   ·exact ⟨rfl, trivial⟩
   ·exact List.Perm.refl _
   ·intro k hinv
    obtain ⟨hk, -⟩ := hinv
    refine hw_reg ?_
    refine dp rfl (pop_lss rfl rfl) ?_
    refine dn ?_
    refine hw_seq ?_
    refine hw_cond rfl (fun h5 => ?_) (fun h6 => ?_)
    ·try simp at h5
     obtain ⟨x, hx⟩ : ∃ x, (sinL p19 src3 m21 1 y23 (y23 + y26))[k]? = some x := ⟨_, List.getElem?_eq_getElem h5⟩
     have hdx := drop_cons hx
     refine hw_skip ?_
     refine seqQ_n ?_
     refine hw_seq ?_
     refine hw_block ?_
     refine hw_reg ?_
     refine dp rfl (pop_idx ty49 ty53 rfl rfl rfl (by first | assumption | simp_all)) ?_
     refine dp rfl (pop_loadw ty53 rfl rfl rfl rfl) ?_
     refine de rfl (eop_alloc ty53 rfl fun b14 => ?_)
     refine de0 (eop_storew ty53 rfl rfl rfl rfl rfl ?_)
     refine dn ?_
     refine hw_ghost (Ghost.fc0 14 rfl) ?_
     refine hw_reg ?_
     refine dp rfl (pop_fieldAddr ty53 rfl ty3 (by decide) rfl) ?_
     refine dp rfl (pop_load ty3 rfl rfl rfl) ?_
     refine dp rfl (pop_neq rfl rfl) ?_
     refine dp rfl (pop_move rfl) ?_
     refine dg rfl rfl (fun hc => ⟨_, OpenTo.refl _, pop_fieldAddr ty53 rfl ty3 (by decide) rfl⟩) ?_
     refine dg rfl rfl (fun hc => ⟨_, OpenTo.upd (t := 77) rfl (by first | exact hc | simp_all) (OpenTo.refl _), pop_load ty3 rfl rfl rfl⟩) ?_
     refine dg rfl rfl (fun hc => ⟨_, OpenTo.refl _, pop_fieldAddr ty53 rfl ty3 (by decide) rfl⟩) ?_
     refine dg rfl rfl (fun hc => ⟨_, OpenTo.upd (t := 79) rfl (by first | exact hc | simp_all) (OpenTo.refl _), pop_load ty3 rfl rfl rfl⟩) ?_
     refine dg rfl rfl (fun hc => ⟨_, OpenTo.upd (t := 80) rfl (by first | exact hc | simp_all) (OpenTo.upd (t := 78) rfl (by first | exact hc | simp_all) (OpenTo.refl _)), pop_eql rfl rfl⟩) ?_
     refine dp rfl (pop_picko rfl (.inl rfl) (.inr ⟨_, rfl, fun h => by simp_all⟩)) ?_
     refine dn ?_
     refine hw_cond rfl (fun h7 => ?_) (fun h7 => ?_)
     ·exfalso
      try simp at h7
      have hsm := sin_mem (plays_fault hp19.2) hpl (List.mem_of_getElem? hx)
      simp_all
     ·try simp at h7
      refine hw_skip ?_
      refine blockQ_n ?_
      refine seqQ_n ?_
      refine hw_reg1 ?_
      refine dp rfl (pop_add64 rfl rfl (by omega) (by omega)) ?_
      refine dp rfl (pop_move rfl) ?_
      refine dn ?_
      refine ⟨k + 1, ?_, ?_, ⟨rfl, trivial⟩, (by repeat (first | exact keeps_refl | refine keeps_upd rfl ?_ | refine keeps_loop rfl rfl ?_)), List.Perm.refl _⟩
      ·exact ⟨by omega, trivial⟩
      ·dsimp only; omega
    ·try simp at h6
     have hnk : (sinL p19 src3 m21 1 y23 (y23 + y26)).length ≤ k := by omega
     obtain rfl : k = (sinL p19 src3 m21 1 y23 (y23 + y26)).length := by omega
     refine hw_exit ?_
     refine seqQ_x ?_
     refine loopQ_x ?_
     refine blockQ_eq ?_
     refine seqQ_n ?_
     refine hw_reg ?_
     refine dp rfl (pop_call ca13 rfl (WeakL.refl _) (c_benchkeep1_ready hT)) ?_
     refine dp rfl (pop_assign rfl) ?_
     refine dn ?_
     refine hw_ret ?_
     refine ret_p rfl ?_
     show HVal.bool _ = _
     first
     | rfl
     | (have h12 := sin_full (l := p19) (t := src3) (week := 1) (f := y23) (g := y23 + y26) (by simpa using h3)
        simp [h12])
end Go.Proofs.YtkamelfigfbfiaaGreatDoor
end
section
namespace Go.HL
theorem tabI_any (P : Program) (I : Imm) : TabI P I := trivial
end Go.HL
end
section
namespace Go.Proofs.YtkamelfigfbfiaaGreatDoor
open Go.ChangeShapes Go.WideShapes Go.ChangeAt Go.RowKit Go.HL
theorem ownSinceIsDifference : ownKnob Tryz.prog.godebug = none := by kernel_rfl
theorem laidOutSinceIsDifference : laidOutB Tryz.prog = true := by kernel_rfl
theorem cellsSinceIsDifference : Tryz.prog.cellsOf 3 = 1 := by kernel_rfl
theorem tabSinceIsDifference {W : World} (_ : laidMetH Tryz.prog Rows.sinceIsDifferenceRow.laid W) : TabI Tryz.prog (allI W) := tabI_any _ _
theorem callsSinceIsDifference {W : World} (ht : TabI Tryz.prog (allI W)) {a : Option Addr} {len cap : Nat} {H : Type} {enc : TypeId × Value → H} {d0 : DataW H} {p : List MemPlace} (h : DataW.Trod enc Tryz.prog W 0 (fun _ => true) true 22 (.slice a len cap) d0 p) :
 Calls Tryz.prog 4 #[.slice a len cap] W fun e W' => e = .returned (.bool true) ∧ Below W.heap.size W W' := by
 obtain ⟨fuel, hf⟩ := h
 rcases open_ints Tryz.underlying22 Tryz.underlying3 cellsSinceIsDifference hf with ⟨hcs, hx⟩ | ⟨a', len', cap', zs, hcs, _, hl, hm, hz, hx, hcell, hwz⟩
 ·simp [Value.cells] at hcs
  obtain ⟨rfl, rfl, rfl⟩ := hcs
  letI : Tracks := ⟨false⟩
  exact conp_law (l := []) (c_benchkeep1_SinceIsDifference rfl) ht (.slice0 _ _ _)
 ·simp [Value.cells] at hcs
  obtain ⟨rfl, rfl, rfl⟩ := hcs
  simp only [if_true] at hz
  letI : Tracks := ⟨false⟩
  exact conp_law (l := zs.take len) (c_benchkeep1_SinceIsDifference rfl) ht (v_ints hcell (by omega) hl)
set_option maxRecDepth 100000 in
theorem liftedSinceIsDifference (os : Os) (started : os.Started) (H : Type) (enc : TypeId × Value → H) :
 ReturnsInHanded {} Tryz.checked os 4 .any (fun w args => (Rows.sinceIsDifferenceSpec.pre enc Tryz.prog Tryz.f4 Rows.sinceIsDifferenceRow.domain false w args ∧ laidMetH Tryz.prog Rows.sinceIsDifferenceRow.laid w) ∧ sizedMet enc Tryz.prog Tryz.f4 (OpenSpec.ofChange Rows.sinceIsDifferenceSpec) false w args)
  (Rows.sinceIsDifferenceSpec.post enc Tryz.prog Tryz.f4 false true false false) := by
 refine returnsInHanded_of_change_and (C := Tryz.checked) (X := fun w _ => laidMetH Tryz.prog Rows.sinceIsDifferenceRow.laid w) (fun _ _ _ hh h => h.of_heap hh) ownSinceIsDifference started (by kernel_rfl) Tryz.func4
  (ChangeSpec.witness_shaped (enc := enc) (C := Tryz.checked) (os := os) (X := fun w _ => laidMetH Tryz.prog Rows.sinceIsDifferenceRow.laid w) false (World.laidAll Tryz.prog os Rows.sinceIsDifferenceRow.laid) #[.slice none 0 0] 8 (World.laidAll_os _ _ _)
    (World.shaped_of_ZipB (by kernel_rfl) (by kernel_rfl)) (by kernel_rfl) (by kernel_rfl) (by kernel_rfl)
    (by rw [MakeChecks.laidMetH_plain _ _ _ (by kernel_rfl)]; exact laidMet_laidAll _ (by kernel_rfl) (by kernel_rfl))) ?_
 intro W base args ds gs before hval0 hW _ _ hL _
 have hval : ∀ (j : Nat) t v, Tryz.f4.params[j]? = some t → args[j]? = some v → Value.okWide Tryz.prog W .any base t v := hval0
 have hW' := hW
 obtain ⟨p, q, hA0, hV, rfl, _, _⟩ := hW
 have hA : DataW.TrodAll enc Tryz.prog W 0 (fun _ => true) true Tryz.f4.params.toList args.toList ds p := hA0
 rw [Tryz.params4] at hA hval
 obtain ⟨v0, d0, rfl, rfl, h0⟩ := trodAll_one hA
 obtain ⟨rfl, rfl⟩ := trodVars_none hV
 obtain ⟨a0, len, cap, rfl⟩ := okWide_slice Tryz.underlying22 (hval 0 22 v0 rfl rfl)
 simp only [List.append_nil] at hW'
 have hlt : ∀ x ∈ p, x.block < W.heap.size := fun x hx => by simpa using hW'.lt x hx
 refine (callsSinceIsDifference (tabSinceIsDifference hL) h0).mono fun e W' ⟨he, hb⟩ => ?_
 subst he
 have hargs : DataW.Trod enc Tryz.prog W' 0 (fun b => decide (b < W.heap.size)) true 22 (.slice a0 len cap) d0 p :=
  Below.trod laidOutSinceIsDifference (by kernel_rfl) (of_decide_eq_true (by kernel_rfl)) h0 hb hlt
 exact ⟨_, rfl, _, _, _, [], p, [], hW', trodAll_mk1 (shut_bool Tryz.underlying4 _), trodAll_mk1 hargs, rfl, hb.frame _, fun h => by cases h⟩
theorem mapsSinceIsDifference : mapsRowed Tryz.prog = true := by kernel_rfl
theorem inplSinceIsDifference : (Rows.sinceIsDifferenceRow.inPlace == Tryz.prog.inPlace 4) = true := by kernel_rfl
theorem unfoSinceIsDifference : (Rows.sinceIsDifferenceRow.unfollowed == Tryz.prog.unfollowed 4) = true := by kernel_rfl
theorem recuSinceIsDifference : (Rows.sinceIsDifferenceRow.recurses == Tryz.prog.recurses 4) = true := by kernel_rfl
theorem varsSinceIsDifference : (Rows.sinceIsDifferenceRow.named == Tryz.prog.varsNamed 4) = true := by kernel_rfl
theorem joinSinceIsDifference : joinedFacts Tryz.prog 4 Tryz.f4 Rows.sinceIsDifferenceSpec Rows.sinceIsDifferenceRow = true := by
 simp only [joinedFacts, Bool.and_eq_true]
 repeat' apply And.intro
 all_goals first
  | with_reducible exact laidOutSinceIsDifference
  | with_reducible exact mapsSinceIsDifference
  | with_reducible exact inplSinceIsDifference
  | with_reducible exact unfoSinceIsDifference
  | with_reducible exact recuSinceIsDifference
  | with_reducible exact varsSinceIsDifference
  | kernel_rfl
theorem lookSinceIsDifference : true = Tryz.prog.looks [] := by kernel_rfl
theorem goesSinceIsDifference : false = Rows.sinceIsDifferenceRow.goesBy Tryz.prog := by kernel_rfl
theorem wfbtSinceIsDifference : Rows.sinceIsDifferenceRow.wfByText (OpenSpec.ofChange Rows.sinceIsDifferenceSpec) = true := by kernel_rfl
theorem mainSinceIsDifference : Tryz.prog.mainIs = some ("e96d158ee7c2175d776f3c610d40cc5602c32f68e2142df93a8d60f2b67470a5" |> fun h => (true, h.toList)) := by kernel_rfl
theorem stanSinceIsDifference : ([22].all fun u => !Tryz.prog.wantsStandIn u) = true := by kernel_rfl
theorem fnamSinceIsDifference : Tryz.prog.funcNamed Rows.sinceIsDifferenceRow.func = some 4 := by kernel_rfl
theorem holdsSinceIsDifference : Rows.SinceIsDifferenceSaid :=
 OpenClaim.holds_of_wide 4 Tryz.f4 rfl rfl rfl rfl rfl rfl rfl ⟨rfl, rfl, rfl, rfl, rfl⟩ rfl rfl rfl rfl rfl fnamSinceIsDifference Tryz.func4 joinSinceIsDifference
  (of_decide_eq_true (by kernel_rfl)) (by unfold Func.isWrapper; first | (rw [if_pos (by decide +kernel)]; kernel_rfl) | (rw [if_neg (by decide +kernel)]; exact ⟨rfl, rfl⟩))
  (fun os started H enc _ => liftedSinceIsDifference os started H enc)
theorem cardSinceIsDifference : Rows.SinceIsDifferenceCardSaid :=
 Claim7.holds_tied_plain_at .later [] [.data, .pinned] true (true, "e96d158ee7c2175d776f3c610d40cc5602c32f68e2142df93a8d60f2b67470a5") true holdsSinceIsDifference (fun _ h => by cases h) wfbtSinceIsDifference (fun _ h => by cases h) sinceIsDifference_row_tie rfl ⟨rfl, rfl⟩ mainSinceIsDifference rfl
  (fun f fn hf hfn => by
    obtain rfl : f = 4 := Option.some.inj (fnamSinceIsDifference.symm.trans hf) |>.symm
    obtain rfl : fn = Tryz.f4 := (Option.some.inj (Tryz.func4.symm.trans hfn)).symm
    exact ⟨lookSinceIsDifference, fun j t ht => by
     rw [Tryz.params4] at ht
     have hm : t ∈ [22] := by simpa using Array.mem_of_getElem? ht
     have hall := stanSinceIsDifference
     exact (show Tryz.prog.wantsStandIn t = false by simpa using List.all_eq_true.1 hall t hm)⟩)
  goesSinceIsDifference
end Go.Proofs.YtkamelfigfbfiaaGreatDoor
end
