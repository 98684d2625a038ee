/- The statement is proved: the card of the law, out of its function's contract; no conditions. -/
import Derived.Test.YtlankmahpaenhaaGreatDoorPFeedsAreOne4
import Derived.LaidMore
import Derived.Lay
import Derived.OpenShut
import Derived.ProofKit
import Derived.SevenTiedAt
import Derived.Shelf.SlMaps.Clone
import Derived.Stop.Joined
import Derived.Test.YtlankmahpaenhaaGreatDoorCards
import Derived.Test.YtlankmahpaenhaaGreatDoorTie
set_option linter.unusedVariables false
set_option linter.unusedSimpArgs false
section
namespace Go.Proofs.YtlankmahpaenhaaGreatDoor
open Go.HL
set_option maxRecDepth 100000
set_option linter.unusedVariables false
set_option linter.unusedSimpArgs false
set_option maxHeartbeats 4000000 in
/-- (*benchwarmer/benchmake.Stream).Told -/
theorem c_benchmake_Stream_Told [Tracks] {b : Nat} {l : List Int} {a : Nat}  (ha : a ≤ 700000) : Con Tryz.prog 5 [pAt b] [St b l a] (fun x M' => ∃ k a', x = ePlays k ∧ GoodPl k ∧ a' ≤ a + 500 ∧ M' = [St b l a']) := by
 refine Con.of_body Tryz.func5 rfl Tryz.ntmps5 rfl rfl ?_
 refine hw_reg ?_
 refine dp rfl (pop_assign rfl) ?_
 refine dn ?_
 refine hw_reg ?_
 refine dp rfl (pop_assign rfl) ?_
 refine dn ?_
 refine hw_ghost (Ghost.arr_nil 9) ?_
 refine hw_seq ?_
 refine hw_reg ?_
 refine dp rfl (pop_buildSlice (hs := [_, _, _]) ty47 ty9 rfl rfl (by decide) (by decide) rfl) ?_
 refine dp rfl (pop_lenm (f := HVal.str) (l := src3) ty47 rfl) ?_
 refine dp rfl (pop_move rfl) ?_
 refine dn ?_
 refine hw_block ?_
 refine hw_loopw2 (3 :: 5 :: 6 :: 7 :: 8 :: 9 :: 11 :: 15 :: 16 :: 17 :: 18 :: 19 :: 20 :: 21 :: 22 :: 23 :: 24 :: 25 :: 26 :: 27 :: 28 :: 29 :: 30 :: 31 :: 32 :: 33 :: 34 :: 35 :: 36 :: 37 :: 38 :: 39 :: 40 :: 41 :: 42 :: 43 :: 44 :: 45 :: 46 :: 47 :: 48 :: 49 :: 50 :: 51 :: 52 :: 53 :: 54 :: 55 :: 56 :: 57 :: 58 :: 59 :: 60 :: 61 :: 62 :: 63 :: 64 :: 65 :: 66 :: 67 :: 68 :: 69 :: 70 :: 71 :: 72 :: 73 :: 74 :: 75 :: 76 :: 77 :: 78 :: 79 :: 80 :: 81 :: 82 :: 83 :: 84 :: 85 :: 86 :: 87 :: 88 :: 89 :: 90 :: 91 :: 92 :: 93 :: 94 :: 95 :: 96 :: 97 :: 98 :: 99 :: 100 :: 101 :: 102 :: 103 :: 104 :: 105 :: 106 :: 107 :: 108 :: 109 :: 110 :: 111 :: []) (fun (k : Nat) (q : GL Play) => [(15, .int .i64 k), (3, .raw q.u)]) (fun (k : Nat) (q : GL Play) => [St b l q.a, .arr q.u 9 (q.out.map ePlay)]) (fun (k : Nat) (q : GL Play) => k ≤ src3.length ∧ (GLok GoodPl1 (5 * k) (a + 130 * k) q)) (fun (k : Nat) (q : GL Play) => src3.length - k) (0) (⟨.slice none 0 0, [], a⟩) ?_ ?_ ?_ ?_
 ·exact ⟨by decide, ⟨by simp, by simp, by dsimp only; omega⟩⟩
 ·exact ⟨rfl, rfl, trivial⟩
 ·repeat (first | exact List.Perm.nil | refine permTo 0 rfl ?_ | refine permTo 1 rfl ?_ | refine permTo 2 rfl ?_ | refine permTo 3 rfl ?_ | (refine permToE 0 rfl ?hq ?_; (case hq => simp [setL, hcells]; done)) | (refine permToE 1 rfl ?hq ?_; (case hq => simp [setL, hcells]; done)) | (refine permToE 2 rfl ?hq ?_; (case hq => simp [setL, hcells]; done)) | (refine permToE 3 rfl ?hq ?_; (case hq => simp [setL, hcells]; done)) | fail)
 ·intro k q hinv
  obtain ⟨hk, hq⟩ := hinv
  obtain ⟨u, out, a1⟩ := q
  obtain ⟨g1, g2, g3⟩ := id hq
  dsimp only at g1 g2 g3
  have h3 : src3.length = 3 := rfl
  refine hw_reg ?_
  refine dp rfl (pop_lss rfl rfl) ?_
  refine dn ?_
  refine hw_seq ?_
  refine hw_cond rfl (fun h1 => ?_) (fun h2 => ?_)
  ·try simp at h1
   obtain ⟨x, hx⟩ : ∃ x, src3[k]? = some x := ⟨_, List.getElem?_eq_getElem h1⟩
   have hdx := drop_cons hx
   refine hw_skip ?_
   refine seqQ_n ?_
   refine hw_seq ?_
   refine hw_block ?_
   refine hw_reg ?_
   refine dp rfl (pop_idx (f := HVal.str) (l := src3) (j := k) (a := x) ty47 ty9 rfl rfl rfl hx) ?_
   refine dp rfl (pop_load ty9 rfl rfl rfl) ?_
   refine dp rfl (pop_assign rfl) ?_
   refine dn ?_
   refine hw_reg ?_
   refine dp rfl (pop_move rfl) ?_
   refine dp rfl (pop_buildSlice (hs := [_, _]) ty22 ty3 rfl rfl (by decide) (by decide) rfl) ?_
   refine de rfl (eop_callx (i := 0) ca28 rfl (WeakL.refl _) rfl (c_benchmake_Stream_Pick (L := [_, _]) (by first | assumption | omega | (simp; omega) | simp_all) (by first | assumption | omega | (simp; omega) | simp_all) (by first | assumption | omega | (simp; omega) | simp_all)) ?_)
   rintro _ _ ⟨y21, rfl, hy21, rfl⟩
   refine dp rfl (pop_assign rfl) ?_
   refine dp rfl (pop_assign rfl) ?_
   refine dn ?_
   refine hw_reg ?_
   refine dp rfl (pop_move rfl) ?_
   refine de rfl (eop_callx (i := 0) ca22 rfl (WeakL.refl _) rfl (c_benchmake_Stream_Range (by first | assumption | omega | (simp; omega) | simp_all) (by first | assumption | omega | (simp; omega) | simp_all) (by first | assumption | omega | (simp; omega) | simp_all) (by first | assumption | omega | (simp; omega) | simp_all)) ?_)
   rintro _ _ ⟨y23, rfl, hy23, rfl⟩
   refine dp rfl (pop_move rfl) ?_
   refine dn ?_
   refine hw_block ?_
   refine hw_loopw4 (3 :: 6 :: 7 :: 8 :: 9 :: 11 :: 24 :: 25 :: 26 :: 27 :: 28 :: 29 :: 30 :: 31 :: 32 :: 33 :: 34 :: 35 :: 36 :: 37 :: 38 :: 39 :: 40 :: 41 :: 42 :: 43 :: 44 :: 45 :: 46 :: 47 :: 48 :: 49 :: 50 :: 51 :: 52 :: 53 :: 54 :: 55 :: 56 :: 57 :: 58 :: 59 :: 60 :: 61 :: 62 :: 63 :: 64 :: 65 :: 66 :: 67 :: 68 :: 69 :: 70 :: 71 :: 72 :: 73 :: 74 :: 75 :: 76 :: 77 :: 78 :: 79 :: 80 :: 81 :: 82 :: 83 :: 84 :: 85 :: 86 :: 87 :: 88 :: 89 :: 90 :: 91 :: 92 :: 93 :: 94 :: 95 :: 96 :: 97 :: 98 :: 99 :: 100 :: 101 :: 102 :: 103 :: 104 :: 105 :: 106 :: 107 :: 108 :: 109 :: 110 :: []) (fun (n : Nat) (no : Int) (at1 : Int) (q2 : GL Play) => [(24, .int .i64 (n : Int)), (6, .int .i64 no), (7, .int .i64 at1), (3, .raw q2.u)]) (fun (n : Nat) (no : Int) (at1 : Int) (q2 : GL Play) => [St b l q2.a, .arr q2.u 9 (q2.out.map ePlay)]) (fun (n : Nat) (no : Int) (at1 : Int) (q2 : GL Play) => (n : Int) ≤ y23 ∧ (0 ≤ no ∧ no ≤ 2 * n) ∧ (0 ≤ at1 ∧ at1 ≤ 5 + 40 * n) ∧ GLok GoodPl1 (5 * k + n) (a1 + 2 + 25 * n) q2) (fun (n : Nat) (no : Int) (at1 : Int) (q2 : GL Play) => y23.toNat - n) (0) (0) (y21) (⟨u, out, a1 + 2⟩) ?_ ?_ ?_ ?_
   ·exact ⟨by omega, ⟨by omega, by omega⟩, ⟨by simp at hy21; omega, by simp at hy21; omega⟩, ⟨by dsimp only; omega, g2, by dsimp only; omega⟩⟩
   ·exact ⟨rfl, rfl, rfl, rfl, trivial⟩
   ·repeat (first | exact List.Perm.nil | refine permTo 0 rfl ?_ | refine permTo 1 rfl ?_ | refine permTo 2 rfl ?_ | refine permTo 3 rfl ?_ | (refine permToE 0 rfl ?hq ?_; (case hq => simp [setL, hcells]; done)) | (refine permToE 1 rfl ?hq ?_; (case hq => simp [setL, hcells]; done)) | (refine permToE 2 rfl ?hq ?_; (case hq => simp [setL, hcells]; done)) | (refine permToE 3 rfl ?hq ?_; (case hq => simp [setL, hcells]; done)) | fail)
   ·intro n no at1 q2 hinv
    obtain ⟨hn, hno, hat, hq2⟩ := hinv
    obtain ⟨u, out, a2⟩ := q2
    obtain ⟨g1, g2, g3⟩ := id hq2
    dsimp only at g1 g2 g3
    refine hw_reg ?_
    refine dp rfl (pop_lss rfl rfl) ?_
    refine dn ?_
    refine hw_seq ?_
    refine hw_cond rfl (fun h3 => ?_) (fun h4 => ?_)
    ·try simp at h3
     refine hw_skip ?_
     refine seqQ_n ?_
     refine hw_seq ?_
     refine hw_block ?_
     refine hw_reg ?_
     refine dp rfl (pop_move rfl) ?_
     refine dp rfl (pop_move rfl) ?_
     refine dp rfl (pop_buildSlice (hs := [_, _, _]) ty22 ty3 rfl rfl (by decide) (by decide) rfl) ?_
     refine de rfl (eop_callx (i := 0) ca28 rfl (WeakL.refl _) rfl (c_benchmake_Stream_Pick (L := [_, _, _]) (by first | assumption | omega | (simp; omega) | simp_all) (by first | assumption | omega | (simp; omega) | simp_all) (by first | assumption | omega | (simp; omega) | simp_all)) ?_)
     rintro _ _ ⟨y29, rfl, hy29, rfl⟩
     refine dp rfl (pop_add64 rfl rfl (by simp at hy29; omega) (by simp at hy29; omega)) ?_
     refine dp rfl (pop_assign rfl) ?_
     refine dn ?_
     refine hw_reg ?_
     refine dp rfl (pop_move rfl) ?_
     refine de rfl (eop_callx (i := 0) ca29 rfl (WeakL.refl _) rfl (c_benchmake_Stream_Next (by first | assumption | omega | (simp; omega) | simp_all) (by first | assumption | omega | (simp; omega) | simp_all)) ?_)
     rintro _ _ ⟨y32, rfl, hy32, rfl⟩
     refine dp rfl (pop_assign rfl) ?_
     refine dn ?_
     have hyb : 1 ≤ y29 ∧ y29 ≤ 2 := by simp at hy29; omega
     refine hw_join [9, 33, 34, 35, 36, 37, 38, 39, 40, 41, 42, 43, 44, 45, 46, 47, 48, 49, 50, 51, 52, 53] (fun (q9 : Nat × Play) => [(9, pAt q9.1)]) (fun (q9 : Nat × Play) => [St b l (a2 + 5), .arr u 9 (out.map ePlay), .cells q9.1 (hcells (ePlay q9.2))]) (fun (q9 : Nat × Play) => GoodPl1 q9.2) ?_ ?_
     ·skip
      refine hw_draw1 (fun _ => True) [] mixed ?_
      refine ahp 0 rfl rfl (by kernel_rfl) (by kernel_rfl) (pop_move rfl) ?_
      refine ahp 1 rfl rfl (by kernel_rfl) (by kernel_rfl) (pop_move rfl) ?_
      refine ahp 2 rfl rfl (by kernel_rfl) (by kernel_rfl) (pop_move rfl) ?_
      refine ahp 3 rfl rfl (by kernel_rfl) (by kernel_rfl) (pop_buildSlice (hs := [_, _, _]) ty22 ty3 rfl rfl (by decide) (by decide) rfl) ?_
      refine ahp 4 rfl rfl (by kernel_rfl) (by kernel_rfl) (pop_move rfl) ?_
      refine ahp 5 rfl rfl (by kernel_rfl) (by kernel_rfl) (pop_idx (f := HVal.int .i64) (l := week3) (j := y32) (a := week3.getD y32 0) ty22 ty3 rfl rfl rfl (getD_some (by simp [week3]; omega))) ?_
      refine ahp 6 rfl rfl (by kernel_rfl) (by kernel_rfl) (pop_load ty3 rfl rfl rfl) ?_
      refine ahp 7 rfl rfl (by kernel_rfl) (by kernel_rfl) (pop_buildSlice (hs := [_, _, _]) ty47 ty9 rfl rfl (by decide) (by decide) rfl) ?_
      refine ahp 8 rfl rfl (by kernel_rfl) (by kernel_rfl) (pop_move rfl) ?_
      refine ahp 9 rfl rfl (by kernel_rfl) (by kernel_rfl) (pop_idx (f := HVal.str) (l := match3) (j := y32) (a := match3.getD y32 []) ty47 ty9 rfl rfl rfl (getD_some (by simp [match3]; omega))) ?_
      refine ahp 10 rfl rfl (by kernel_rfl) (by kernel_rfl) (pop_load ty9 rfl rfl rfl) ?_
      refine ahp 11 rfl rfl (by kernel_rfl) (by kernel_rfl) (pop_move rfl) ?_
      refine ahp 12 rfl rfl (by kernel_rfl) (by kernel_rfl) (pop_buildSlice (hs := [_, _, _]) ty47 ty9 rfl rfl (by decide) (by decide) rfl) ?_
      refine ahp 14 rfl rfl (by kernel_rfl) (by kernel_rfl) (pop_move rfl) ?_
      refine ahp 15 rfl rfl (by kernel_rfl) (by kernel_rfl) (pop_buildSlice (hs := [_, _, _, _]) ty47 ty9 rfl rfl (by decide) (by decide) rfl) ?_
      refine ahp 17 rfl rfl (by kernel_rfl) (by kernel_rfl) (pop_move rfl) ?_
      refine ahp 18 rfl rfl (by kernel_rfl) (by kernel_rfl) (pop_buildSlice (hs := [_, _, _, _, _]) ty22 ty3 rfl rfl (by decide) (by decide) rfl) ?_
      refine ahe2 13 21 rfl rfl (by kernel_rfl) ?_ ?_
      ·skip
       refine hop_e rfl (eop_callx (i := 0) ca30 rfl (WeakL.refl _) rfl (c_benchmake_Stream_Some (L := [_, _, _]) (by first | assumption | omega | (simp; omega) | simp_all) (by first | assumption | omega | (simp; omega) | simp_all) (by first | assumption | omega | (simp; omega) | simp_all)) ?_)
       rintro _ _ ⟨y46, rfl, hy46, rfl⟩
       refine ⟨fun _ => .inl trivial, ?_⟩
       refine ahe2 16 21 rfl rfl (by kernel_rfl) ?_ ?_
       ·skip
        refine hop_e rfl (eop_callx (i := 0) ca30 rfl (WeakL.refl _) rfl (c_benchmake_Stream_Some (L := [_, _, _, _]) (by first | assumption | omega | (simp; omega) | simp_all) (by first | assumption | omega | (simp; omega) | simp_all) (by first | assumption | omega | (simp; omega) | simp_all)) ?_)
        rintro _ _ ⟨y49, rfl, hy49, rfl⟩
        refine ⟨fun _ => .inl trivial, ?_⟩
        refine ahe2 19 21 rfl rfl (by kernel_rfl) ?_ ?_
        ·skip
         refine hop_e rfl (eop_callx (i := 0) ca28 rfl (WeakL.refl _) rfl (c_benchmake_Stream_Pick (L := [_, _, _, _, _]) (by first | assumption | omega | (simp; omega) | simp_all) (by first | assumption | omega | (simp; omega) | simp_all) (by first | assumption | omega | (simp; omega) | simp_all)) ?_)
         rintro _ _ ⟨y52, rfl, hy52, rfl⟩
         refine ⟨fun _ => .inl trivial, ?_⟩
         refine ahp 20 rfl rfl (by kernel_rfl) (by kernel_rfl) (pop_build (cs := [_, _, _, _, _, _, _, _, _]) ty30 pl30 rfl) ?_
         refine ahe 21 rfl (by kernel_rfl) ?_
         refine hop_e rfl (eop_alloc ty30 rfl fun b9 => ?_)
         refine ⟨fun _ => .inl trivial, ?_⟩
         refine ahe 22 rfl (by kernel_rfl) ?_
         refine hop_e0 (eop_store (i := 0) ty30 rfl rfl rfl rfl rfl (Nat.le_of_ble_eq_true rfl) ?_)
         refine ⟨fun _ => .inl trivial, ?_⟩
         refine ahz (by kernel_rfl) ?_
         refine ⟨(b9, (⟨x, no + y29, at1, week3.getD y32 0, match3.getD y32 [], y46, y49, y52, 0⟩ : Play)), ?_, ⟨rfl, trivial⟩, (by repeat (first | exact keeps_refl | refine keeps_upd rfl ?_ | refine keeps_loop rfl rfl ?_)), ?_⟩
         ·exact ⟨src3_sh x (List.mem_of_getElem? hx), match3_sh y32, by simp at hy46; rcases hy46 with rfl | rfl | rfl <;> (unfold Sh; simp), by simp at hy49; rcases hy49 with rfl | rfl | rfl <;> (unfold Sh; simp)⟩
         ·repeat (first | exact List.Perm.nil | refine permTo 0 rfl ?_ | refine permTo 1 rfl ?_ | refine permTo 2 rfl ?_ | refine permTo 3 rfl ?_ | (refine permToE 0 rfl ?hq ?_; (case hq => simp [setL, hcells]; done)) | (refine permToE 1 rfl ?hq ?_; (case hq => simp [setL, hcells]; done)) | (refine permToE 2 rfl ?hq ?_; (case hq => simp [setL, hcells]; done)) | (refine permToE 3 rfl ?hq ?_; (case hq => simp [setL, hcells]; done)) | fail)
        ·skip
         refine hop_e rfl (eop_alloc ty30 rfl fun b9 => ?_)
         refine ⟨fun _ => .inl trivial, ?_⟩
         refine ahe 19 rfl (by kernel_rfl) ?_
         refine hop_e rfl (eop_callx (i := 1) ca28 rfl (WeakL.refl _) rfl (c_benchmake_Stream_Pick (L := [_, _, _, _, _]) (by first | assumption | omega | (simp; omega) | simp_all) (by first | assumption | omega | (simp; omega) | simp_all) (by first | assumption | omega | (simp; omega) | simp_all)) ?_)
         rintro _ _ ⟨y52, rfl, hy52, rfl⟩
         refine ⟨fun _ => .inl trivial, ?_⟩
         refine ahp 20 rfl rfl (by kernel_rfl) (by kernel_rfl) (pop_build (cs := [_, _, _, _, _, _, _, _, _]) ty30 pl30 rfl) ?_
         refine ahe 22 rfl (by kernel_rfl) ?_
         refine hop_e0 (eop_store (i := 1) ty30 rfl rfl rfl rfl rfl (Nat.le_of_ble_eq_true rfl) ?_)
         refine ⟨fun _ => .inl trivial, ?_⟩
         refine ahz (by kernel_rfl) ?_
         refine ⟨(b9, (⟨x, no + y29, at1, week3.getD y32 0, match3.getD y32 [], y46, y49, y52, 0⟩ : Play)), ?_, ⟨rfl, trivial⟩, (by repeat (first | exact keeps_refl | refine keeps_upd rfl ?_ | refine keeps_loop rfl rfl ?_)), ?_⟩
         ·exact ⟨src3_sh x (List.mem_of_getElem? hx), match3_sh y32, by simp at hy46; rcases hy46 with rfl | rfl | rfl <;> (unfold Sh; simp), by simp at hy49; rcases hy49 with rfl | rfl | rfl <;> (unfold Sh; simp)⟩
         ·repeat (first | exact List.Perm.nil | refine permTo 0 rfl ?_ | refine permTo 1 rfl ?_ | refine permTo 2 rfl ?_ | refine permTo 3 rfl ?_ | (refine permToE 0 rfl ?hq ?_; (case hq => simp [setL, hcells]; done)) | (refine permToE 1 rfl ?hq ?_; (case hq => simp [setL, hcells]; done)) | (refine permToE 2 rfl ?hq ?_; (case hq => simp [setL, hcells]; done)) | (refine permToE 3 rfl ?hq ?_; (case hq => simp [setL, hcells]; done)) | fail)
       ·skip
        refine hop_e rfl (eop_alloc ty30 rfl fun b9 => ?_)
        refine ⟨fun _ => .inl trivial, ?_⟩
        refine ahe 16 rfl (by kernel_rfl) ?_
        refine hop_e rfl (eop_callx (i := 1) ca30 rfl (WeakL.refl _) rfl (c_benchmake_Stream_Some (L := [_, _, _, _]) (by first | assumption | omega | (simp; omega) | simp_all) (by first | assumption | omega | (simp; omega) | simp_all) (by first | assumption | omega | (simp; omega) | simp_all)) ?_)
        rintro _ _ ⟨y49, rfl, hy49, rfl⟩
        refine ⟨fun _ => .inl trivial, ?_⟩
        refine ahe 19 rfl (by kernel_rfl) ?_
        refine hop_e rfl (eop_callx (i := 0) ca28 rfl (WeakL.refl _) rfl (c_benchmake_Stream_Pick (L := [_, _, _, _, _]) (by first | assumption | omega | (simp; omega) | simp_all) (by first | assumption | omega | (simp; omega) | simp_all) (by first | assumption | omega | (simp; omega) | simp_all)) ?_)
        rintro _ _ ⟨y52, rfl, hy52, rfl⟩
        refine ⟨fun _ => .inl trivial, ?_⟩
        refine ahp 20 rfl rfl (by kernel_rfl) (by kernel_rfl) (pop_build (cs := [_, _, _, _, _, _, _, _, _]) ty30 pl30 rfl) ?_
        refine ahe 22 rfl (by kernel_rfl) ?_
        refine hop_e0 (eop_store (i := 1) ty30 rfl rfl rfl rfl rfl (Nat.le_of_ble_eq_true rfl) ?_)
        refine ⟨fun _ => .inl trivial, ?_⟩
        refine ahz (by kernel_rfl) ?_
        refine ⟨(b9, (⟨x, no + y29, at1, week3.getD y32 0, match3.getD y32 [], y46, y49, y52, 0⟩ : Play)), ?_, ⟨rfl, trivial⟩, (by repeat (first | exact keeps_refl | refine keeps_upd rfl ?_ | refine keeps_loop rfl rfl ?_)), ?_⟩
        ·exact ⟨src3_sh x (List.mem_of_getElem? hx), match3_sh y32, by simp at hy46; rcases hy46 with rfl | rfl | rfl <;> (unfold Sh; simp), by simp at hy49; rcases hy49 with rfl | rfl | rfl <;> (unfold Sh; simp)⟩
        ·repeat (first | exact List.Perm.nil | refine permTo 0 rfl ?_ | refine permTo 1 rfl ?_ | refine permTo 2 rfl ?_ | refine permTo 3 rfl ?_ | (refine permToE 0 rfl ?hq ?_; (case hq => simp [setL, hcells]; done)) | (refine permToE 1 rfl ?hq ?_; (case hq => simp [setL, hcells]; done)) | (refine permToE 2 rfl ?hq ?_; (case hq => simp [setL, hcells]; done)) | (refine permToE 3 rfl ?hq ?_; (case hq => simp [setL, hcells]; done)) | fail)
      ·skip
       refine hop_e rfl (eop_alloc ty30 rfl fun b9 => ?_)
       refine ⟨fun _ => .inl trivial, ?_⟩
       refine ahe 13 rfl (by kernel_rfl) ?_
       refine hop_e rfl (eop_callx (i := 1) ca30 rfl (WeakL.refl _) rfl (c_benchmake_Stream_Some (L := [_, _, _]) (by first | assumption | omega | (simp; omega) | simp_all) (by first | assumption | omega | (simp; omega) | simp_all) (by first | assumption | omega | (simp; omega) | simp_all)) ?_)
       rintro _ _ ⟨y46, rfl, hy46, rfl⟩
       refine ⟨fun _ => .inl trivial, ?_⟩
       refine ahe 16 rfl (by kernel_rfl) ?_
       refine hop_e rfl (eop_callx (i := 0) ca30 rfl (WeakL.refl _) rfl (c_benchmake_Stream_Some (L := [_, _, _, _]) (by first | assumption | omega | (simp; omega) | simp_all) (by first | assumption | omega | (simp; omega) | simp_all) (by first | assumption | omega | (simp; omega) | simp_all)) ?_)
       rintro _ _ ⟨y49, rfl, hy49, rfl⟩
       refine ⟨fun _ => .inl trivial, ?_⟩
       refine ahe 19 rfl (by kernel_rfl) ?_
       refine hop_e rfl (eop_callx (i := 0) ca28 rfl (WeakL.refl _) rfl (c_benchmake_Stream_Pick (L := [_, _, _, _, _]) (by first | assumption | omega | (simp; omega) | simp_all) (by first | assumption | omega | (simp; omega) | simp_all) (by first | assumption | omega | (simp; omega) | simp_all)) ?_)
       rintro _ _ ⟨y52, rfl, hy52, rfl⟩
       refine ⟨fun _ => .inl trivial, ?_⟩
       refine ahp 20 rfl rfl (by kernel_rfl) (by kernel_rfl) (pop_build (cs := [_, _, _, _, _, _, _, _, _]) ty30 pl30 rfl) ?_
       refine ahe 22 rfl (by kernel_rfl) ?_
       refine hop_e0 (eop_store (i := 1) ty30 rfl rfl rfl rfl rfl (Nat.le_of_ble_eq_true rfl) ?_)
       refine ⟨fun _ => .inl trivial, ?_⟩
       refine ahz (by kernel_rfl) ?_
       refine ⟨(b9, (⟨x, no + y29, at1, week3.getD y32 0, match3.getD y32 [], y46, y49, y52, 0⟩ : Play)), ?_, ⟨rfl, trivial⟩, (by repeat (first | exact keeps_refl | refine keeps_upd rfl ?_ | refine keeps_loop rfl rfl ?_)), ?_⟩
       ·exact ⟨src3_sh x (List.mem_of_getElem? hx), match3_sh y32, by simp at hy46; rcases hy46 with rfl | rfl | rfl <;> (unfold Sh; simp), by simp at hy49; rcases hy49 with rfl | rfl | rfl <;> (unfold Sh; simp)⟩
       ·repeat (first | exact List.Perm.nil | refine permTo 0 rfl ?_ | refine permTo 1 rfl ?_ | refine permTo 2 rfl ?_ | refine permTo 3 rfl ?_ | (refine permToE 0 rfl ?hq ?_; (case hq => simp [setL, hcells]; done)) | (refine permToE 1 rfl ?hq ?_; (case hq => simp [setL, hcells]; done)) | (refine permToE 2 rfl ?hq ?_; (case hq => simp [setL, hcells]; done)) | (refine permToE 3 rfl ?hq ?_; (case hq => simp [setL, hcells]; done)) | fail)
     ·intro q9 hq9
      obtain ⟨b9, x9⟩ := q9
      dsimp only at hq9
      refine hw_join [11, 54, 55, 56, 57, 58, 59, 60, 61, 62, 63, 64, 65, 66, 67, 68, 69, 70, 71, 72, 73, 74, 75, 76, 77, 78, 79, 80, 81, 82, 83, 84, 85, 86, 87, 88, 89, 90, 91, 92, 93, 94, 95, 96, 97, 98, 99, 100] (fun (q4 : Play × Nat) => []) (fun (q4 : Play × Nat) => [St b l q4.2, .arr u 9 (out.map ePlay), .cells b9 (hcells (ePlay q4.1))]) (fun (q4 : Play × Nat) => GoodPl1 q4.1 ∧ q4.2 ≤ a2 + 22) ?_ ?_
      ·skip
       refine hw_reg ?_
       refine dp rfl (pop_move rfl) ?_
       refine dp rfl (pop_gtr rfl rfl) ?_
       refine dp rfl (pop_move rfl) ?_
       refine dg rfl rfl (fun hc => ⟨_, OpenTo.refl _, pop_move rfl⟩) ?_
       refine dgx (fun x M' => ∃ (y : Bool) (a3 : Nat), x = .bool y ∧ a3 ≤ (a2 + 5) + 1 ∧ M' = [St b l a3, .arr u 9 (out.map ePlay), .cells b9 (hcells (ePlay x9))]) rfl rfl (fun hc => ⟨_, false, (a2 + 5), rfl, by omega, rfl⟩) (fun hc => ⟨_, OpenTo.upd (t := 57) rfl (hc) (OpenTo.refl _), eop_callx (i := 0) ca7 rfl (WeakL.refl _) rfl (c_benchmake_Stream_Flip (a := (a2 + 5)) (by omega) (by omega)) (fun h M' hh => by
        obtain ⟨y, h1, h2⟩ := hh
        exact ⟨y, (a2 + 5) + 1, h1, by omega, by rw [h2]; rfl⟩)⟩) ?_
       rintro _ _ ⟨y10, a310, rfl, ha310, rfl⟩
       refine dp rfl (pop_picko rfl (.inr ⟨_, rfl, fun h => by simp_all⟩) (.inl rfl)) ?_
       refine dn ?_
       refine hw_cond rfl (fun h5 => ?_) (fun h6 => ?_)
       ·try simp at h5
        refine hw_reg ?_
        refine dp rfl (pop_move rfl) ?_
        refine dp rfl (pop_move rfl) ?_
        refine dp rfl (pop_sub64 rfl rfl (by omega) (by omega)) ?_
        refine de rfl (eop_callx (i := 0) ca22 rfl (WeakL.refl _) rfl (c_benchmake_Stream_Range (by first | assumption | omega | (simp; omega) | simp_all) (by first | assumption | omega | (simp; omega) | simp_all) (by first | assumption | omega | (simp; omega) | simp_all) (by first | assumption | omega | (simp; omega) | simp_all)) ?_)
        rintro _ _ ⟨y63, rfl, hy63, rfl⟩
        refine dp rfl (pop_fieldAddr_raw ty30 rfl ty3 (by decide) rfl) ?_
        refine de0 (eop_store (i := 2) ty3 rfl rfl rfl rfl rfl (Nat.le_of_ble_eq_true rfl) ?_)
        refine dp rfl (pop_fieldAddr_raw ty30 rfl ty3 (by decide) rfl) ?_
        refine de0 (eop_store (i := 2) ty3 rfl rfl rfl rfl rfl (Nat.le_of_ble_eq_true rfl) ?_)
        refine dn ?_
        obtain ⟨s9, n9, t9, w9, m9, p9, st9, c9, u9⟩ := x9
        refine hw_ghost (Ghost.perm (M' := [St b l (a310 + 1), .arr u 9 (out.map ePlay), .cells b9 (hcells (ePlay ⟨s9, n9, t9, w9, m9, p9, st9, 0, y63⟩))]) (by repeat (first | exact List.Perm.nil | refine permTo 0 rfl ?_ | refine permTo 1 rfl ?_ | refine permTo 2 rfl ?_ | refine permTo 3 rfl ?_ | (refine permToE 0 rfl ?hq ?_; (case hq => simp [setL, hcells]; done)) | (refine permToE 1 rfl ?hq ?_; (case hq => simp [setL, hcells]; done)) | (refine permToE 2 rfl ?hq ?_; (case hq => simp [setL, hcells]; done)) | (refine permToE 3 rfl ?hq ?_; (case hq => simp [setL, hcells]; done)) | fail))) ?_
        refine hw_reg ?_
        refine dp rfl (pop_move rfl) ?_
        refine de rfl (eop_lenm (i := 1) (es := out) ty26 rfl rfl ?_)
        refine dp rfl (pop_move rfl) ?_
        refine dn ?_
        refine hw_block ?_
        refine hw_loopw2 [11, 68, 69, 70, 71, 72, 73, 74, 75, 76, 77, 78, 79, 80, 81, 82, 83, 84, 85, 86, 87, 88, 89, 90, 91, 92, 93, 94, 95, 96, 97, 98, 99, 100] (fun (j : Nat) (q3 : Play × Nat) => [(68, .int .i64 j)]) (fun (j : Nat) (q3 : Play × Nat) => [St b l q3.2, .arr u 9 (out.map ePlay), .cells b9 (hcells (ePlay q3.1))]) (fun (j : Nat) (q3 : Play × Nat) => j ≤ out.length ∧ (GoodPl1 q3.1 ∧ q3.2 ≤ a310 + 1 + j)) (fun (j : Nat) (q3 : Play × Nat) => out.length - j) (0) ((⟨s9, n9, t9, w9, m9, p9, st9, 0, y63⟩, a310 + 1)) ?_ ?_ ?_ ?_
        ·exact ⟨Nat.zero_le _, hq9, by dsimp only; omega⟩
        ·exact ⟨rfl, trivial⟩
        ·repeat (first | exact List.Perm.nil | refine permTo 0 rfl ?_ | refine permTo 1 rfl ?_ | refine permTo 2 rfl ?_ | refine permTo 3 rfl ?_ | (refine permToE 0 rfl ?hq ?_; (case hq => simp [setL, hcells]; done)) | (refine permToE 1 rfl ?hq ?_; (case hq => simp [setL, hcells]; done)) | (refine permToE 2 rfl ?hq ?_; (case hq => simp [setL, hcells]; done)) | (refine permToE 3 rfl ?hq ?_; (case hq => simp [setL, hcells]; done)) | fail)
        ·intro j q3 hinv
         obtain ⟨hj, hq3⟩ := hinv
         obtain ⟨⟨s3, n3, t3, w3, m3, p3, st3, c3, u3⟩, a4⟩ := q3
         obtain ⟨hs3, ha4⟩ := hq3
         dsimp only at hs3 ha4
         refine hw_reg ?_
         refine dp rfl (pop_lss rfl rfl) ?_
         refine dn ?_
         refine hw_seq ?_
         refine hw_cond rfl (fun h7 => ?_) (fun h8 => ?_)
         ·try simp at h7
          obtain ⟨z, hz⟩ : ∃ z, out[j]? = some z := ⟨_, List.getElem?_eq_getElem h7⟩
          have hdz := drop_cons hz
          have hgz := g2 z (List.mem_of_getElem? hz)
          refine hw_arrc (i := 1) rfl (fun h0 he => ?_) (fun ob off cap hv hcap => ?_)
          ·exfalso; have := congrArg List.length he; simp at this; subst this; simp at hz
          subst hv
          refine hw_skip ?_
          refine seqQ_n ?_
          refine hw_seq ?_
          refine hw_block ?_
          refine hw_reg ?_
          refine dp rfl (pop_idxraw (j := j) ty26 ty30 rfl rfl rfl (by simp; omega)) ?_
          refine de rfl (eop_load_elw (i := 1) (j := j) (f := ePlay) (es := out) ty30 rfl rfl rfl hz rfl rfl rfl ?_)
          refine de rfl (eop_alloc ty30 rfl fun b11 => ?_)
          refine de0 (eop_storew ty30 rfl rfl rfl rfl rfl ?_)
          refine dn ?_
          refine hw_ghost (Ghost.fc0 11 rfl) ?_
          refine hw_reg ?_
          refine dp rfl ((pop_fieldAddr ty30 rfl ty9 (by decide) rfl)) ?_
          refine dp rfl (pop_load ty9 rfl rfl rfl) ?_
          refine dp rfl (pop_move rfl) ?_
          refine dp rfl (pop_eqls rfl rfl) ?_
          refine dp rfl (pop_move rfl) ?_
          refine dg rfl rfl (fun hc => ⟨_, OpenTo.refl _, (pop_fieldAddr ty30 rfl ty3 (by decide) rfl)⟩) ?_
          refine dg rfl rfl (fun hc => ⟨_, OpenTo.upd (t := 77) rfl (hc) (OpenTo.refl _), pop_load ty3 rfl rfl rfl⟩) ?_
          refine dg rfl rfl (fun hc => ⟨_, OpenTo.refl _, pop_fieldAddr_raw ty30 rfl ty3 (by decide) rfl⟩) ?_
          refine dgl rfl rfl (fun hc => ⟨_, OpenTo.upd (t := 79) rfl (hc) (OpenTo.refl _), eop_load (i := 2) ty3 rfl rfl (.inl ⟨rfl, rfl⟩) ⟨rfl, rfl⟩⟩) ?_
          refine dg rfl rfl (fun hc => ⟨_, OpenTo.upd (t := 80) rfl (hc) (OpenTo.upd (t := 78) rfl (hc) (OpenTo.refl _)), pop_eql rfl rfl⟩) ?_
          refine dp rfl (pop_picko rfl (.inr ⟨_, rfl, fun h => by simp_all⟩) (.inl rfl)) ?_
          refine dp rfl (pop_move rfl) ?_
          refine dg rfl rfl (fun hc => ⟨_, OpenTo.refl _, pop_move rfl⟩) ?_
          refine dgx (fun x M' => ∃ (y : Bool) (a3 : Nat), x = .bool y ∧ a3 ≤ a4 + 1 ∧ M' = [St b l a3, .arr (.slice (some ⟨ob, off, none⟩) (out.map ePlay).length cap) 9 (out.map ePlay), .cells b9 (hcells (ePlay ⟨s3, n3, t3, w3, m3, p3, st3, c3, u3⟩))]) rfl rfl (fun hc => ⟨_, false, a4, rfl, by omega, rfl⟩) (fun hc => ⟨_, OpenTo.upd (t := 84) rfl (hc) (OpenTo.refl _), eop_callx (i := 0) ca7 rfl (WeakL.refl _) rfl (c_benchmake_Stream_Flip (a := a4) (by omega) (by omega)) (fun h M' hh => by
           obtain ⟨y, h1, h2⟩ := hh
           exact ⟨y, a4 + 1, h1, by omega, by rw [h2]; rfl⟩)⟩) ?_
          rintro _ _ ⟨y6, a36, rfl, ha36, rfl⟩
          refine dg rfl rfl (fun hc => ⟨_, OpenTo.upd (t := 85) rfl (hc) (OpenTo.refl _), pop_not rfl⟩) ?_
          refine dp rfl (pop_picko rfl (.inr ⟨_, rfl, fun h => by simp_all⟩) (.inl rfl)) ?_
          refine dn ?_
          refine hw_cond rfl (fun h9 => ?_) (fun h10 => ?_)
          ·try simp at h9
           refine hw_draw1 (fun _ => True) [] mixed ?_
           refine ahp 0 rfl rfl (by kernel_rfl) (by kernel_rfl) ((pop_fieldAddr ty30 rfl ty9 (by decide) rfl)) ?_
           refine ahp 1 rfl rfl (by kernel_rfl) (by kernel_rfl) (pop_load ty9 rfl rfl rfl) ?_
           refine ahp 2 rfl rfl (by kernel_rfl) (by kernel_rfl) ((pop_fieldAddr ty30 rfl ty3 (by decide) rfl)) ?_
           refine ahp 3 rfl rfl (by kernel_rfl) (by kernel_rfl) (pop_load ty3 rfl rfl rfl) ?_
           refine ahp 4 rfl rfl (by kernel_rfl) (by kernel_rfl) ((pop_fieldAddr ty30 rfl ty9 (by decide) rfl)) ?_
           refine ahp 5 rfl rfl (by kernel_rfl) (by kernel_rfl) (pop_load ty9 rfl rfl rfl) ?_
           refine ahp 6 rfl rfl (by kernel_rfl) (by kernel_rfl) ((pop_fieldAddr ty30 rfl ty9 (by decide) rfl)) ?_
           refine ahp 7 rfl rfl (by kernel_rfl) (by kernel_rfl) (pop_load ty9 rfl rfl rfl) ?_
           refine ahp 8 rfl rfl (by kernel_rfl) (by kernel_rfl) (pop_fieldAddr_raw ty30 rfl ty9 (by decide) rfl) ?_
           refine ahe 9 rfl (by kernel_rfl) ?_
           refine hop_e0 (eop_store (i := 2) ty9 rfl rfl rfl rfl rfl (Nat.le_of_ble_eq_true rfl) ?_)
           refine ⟨fun _ => .inl trivial, ?_⟩
           refine ahp 10 rfl rfl (by kernel_rfl) (by kernel_rfl) (pop_fieldAddr_raw ty30 rfl ty3 (by decide) rfl) ?_
           refine ahe 11 rfl (by kernel_rfl) ?_
           refine hop_e0 (eop_store (i := 2) ty3 rfl rfl rfl rfl rfl (Nat.le_of_ble_eq_true rfl) ?_)
           refine ⟨fun _ => .inl trivial, ?_⟩
           refine ahp 12 rfl rfl (by kernel_rfl) (by kernel_rfl) (pop_fieldAddr_raw ty30 rfl ty9 (by decide) rfl) ?_
           refine ahe 13 rfl (by kernel_rfl) ?_
           refine hop_e0 (eop_store (i := 2) ty9 rfl rfl rfl rfl rfl (Nat.le_of_ble_eq_true rfl) ?_)
           refine ⟨fun _ => .inl trivial, ?_⟩
           refine ahp 14 rfl rfl (by kernel_rfl) (by kernel_rfl) (pop_fieldAddr_raw ty30 rfl ty9 (by decide) rfl) ?_
           refine ahe 15 rfl (by kernel_rfl) ?_
           refine hop_e0 (eop_store (i := 2) ty9 rfl rfl rfl rfl rfl (Nat.le_of_ble_eq_true rfl) ?_)
           refine ⟨fun _ => .inl trivial, ?_⟩
           refine ahz (by kernel_rfl) ?_
           refine blockQ_n ?_
           refine seqQ_n ?_
           refine hw_reg1 ?_
           refine dp rfl (pop_add64 rfl rfl (by omega) (by omega)) ?_
           refine dp rfl (pop_move rfl) ?_
           refine dn ?_
           exact ⟨j + 1, (⟨s3, n3, t3, z.Week, z.Match, z.Player, z.Stat, c3, u3⟩, a36), ⟨by omega, ⟨hs3.1, hgz.2.1, hgz.2.2.1, hgz.2.2.2⟩, by dsimp only; omega⟩, by dsimp only; omega, ⟨rfl, trivial⟩, (by repeat (first | exact keeps_refl | refine keeps_upd rfl ?_ | refine keeps_loop rfl rfl ?_)), by repeat (first | exact List.Perm.nil | refine permTo 0 rfl ?_ | refine permTo 1 rfl ?_ | refine permTo 2 rfl ?_ | refine permTo 3 rfl ?_ | (refine permToE 0 rfl ?hq ?_; (case hq => simp [setL, hcells]; done)) | (refine permToE 1 rfl ?hq ?_; (case hq => simp [setL, hcells]; done)) | (refine permToE 2 rfl ?hq ?_; (case hq => simp [setL, hcells]; done)) | (refine permToE 3 rfl ?hq ?_; (case hq => simp [setL, hcells]; done)) | fail)⟩
          ·try simp at h10
           refine hw_skip ?_
           refine blockQ_n ?_
           refine seqQ_n ?_
           refine hw_reg1 ?_
           refine dp rfl (pop_add64 rfl rfl (by omega) (by omega)) ?_
           refine dp rfl (pop_move rfl) ?_
           refine dn ?_
           exact ⟨j + 1, (⟨s3, n3, t3, w3, m3, p3, st3, c3, u3⟩, a36), ⟨by omega, hs3, by dsimp only; omega⟩, by dsimp only; omega, ⟨rfl, trivial⟩, (by repeat (first | exact keeps_refl | refine keeps_upd rfl ?_ | refine keeps_loop rfl rfl ?_)), by repeat (first | exact List.Perm.nil | refine permTo 0 rfl ?_ | refine permTo 1 rfl ?_ | refine permTo 2 rfl ?_ | refine permTo 3 rfl ?_ | (refine permToE 0 rfl ?hq ?_; (case hq => simp [setL, hcells]; done)) | (refine permToE 1 rfl ?hq ?_; (case hq => simp [setL, hcells]; done)) | (refine permToE 2 rfl ?hq ?_; (case hq => simp [setL, hcells]; done)) | (refine permToE 3 rfl ?hq ?_; (case hq => simp [setL, hcells]; done)) | fail)⟩
         ·try simp at h8
          have hnj : out.length ≤ j := by omega
          obtain rfl : j = out.length := by omega
          refine hw_exit ?_
          refine seqQ_x ?_
          refine loopQ2_x ?_
          refine blockQ_eq ?_
          exact ⟨(⟨s3, n3, t3, w3, m3, p3, st3, c3, u3⟩, a4), ⟨hs3, by dsimp only; omega⟩, trivial, (by repeat (first | exact keeps_refl | refine keeps_upd rfl ?_ | refine keeps_loop rfl rfl ?_)), by repeat (first | exact List.Perm.nil | refine permTo 0 rfl ?_ | refine permTo 1 rfl ?_ | refine permTo 2 rfl ?_ | refine permTo 3 rfl ?_ | (refine permToE 0 rfl ?hq ?_; (case hq => simp [setL, hcells]; done)) | (refine permToE 1 rfl ?hq ?_; (case hq => simp [setL, hcells]; done)) | (refine permToE 2 rfl ?hq ?_; (case hq => simp [setL, hcells]; done)) | (refine permToE 3 rfl ?hq ?_; (case hq => simp [setL, hcells]; done)) | fail)⟩
       ·try simp at h6
        refine hw_skip ?_
        exact ⟨(x9, a310), ⟨hq9, by dsimp only; omega⟩, trivial, (by repeat (first | exact keeps_refl | refine keeps_upd rfl ?_ | refine keeps_loop rfl rfl ?_)), by repeat (first | exact List.Perm.nil | refine permTo 0 rfl ?_ | refine permTo 1 rfl ?_ | refine permTo 2 rfl ?_ | refine permTo 3 rfl ?_ | (refine permToE 0 rfl ?hq ?_; (case hq => simp [setL, hcells]; done)) | (refine permToE 1 rfl ?hq ?_; (case hq => simp [setL, hcells]; done)) | (refine permToE 2 rfl ?hq ?_; (case hq => simp [setL, hcells]; done)) | (refine permToE 3 rfl ?hq ?_; (case hq => simp [setL, hcells]; done)) | fail)⟩
      ·intro q4 hq4
       obtain ⟨x5, a5⟩ := q4
       obtain ⟨hx5, ha5⟩ := hq4
       dsimp only at hx5 ha5
       refine hw_ghost (Ghost.fc 9 (i := 2) rfl rfl) ?_
       refine hw_reg ?_
       refine dp rfl (pop_move rfl) ?_
       refine dp rfl (pop_loadw ty30 rfl rfl rfl rfl) ?_
       refine dp rfl (pop_buildSlice (hs := [_]) ty26 ty30 rfl rfl (by decide) (by decide) rfl) ?_
       refine de rfl (eop_append (i := 1) ty26 ty30 rfl rfl rfl rfl rfl (by simp [flat, hcells]) (by simp; omega) fun v104 => ?_)
       refine dp rfl (pop_assign rfl) ?_
       refine dn ?_
       refine hw_reg1 ?_
       refine dp rfl (pop_move rfl) ?_
       refine dp rfl (pop_move rfl) ?_
       refine dp rfl (pop_buildSlice (hs := [_, _, _, _]) ty22 ty3 rfl rfl (by decide) (by decide) rfl) ?_
       refine de rfl (eop_callx (i := 0) ca28 rfl (WeakL.refl _) rfl (c_benchmake_Stream_Pick (L := [_, _, _, _]) (by first | assumption | omega | (simp; omega) | simp_all) (by first | assumption | omega | (simp; omega) | simp_all) (by first | assumption | omega | (simp; omega) | simp_all)) ?_)
       rintro _ _ ⟨y108, rfl, hy108, rfl⟩
       refine dp rfl (pop_add64 rfl rfl (by simp at hy108; omega) (by simp at hy108; omega)) ?_
       refine dp rfl (pop_assign rfl) ?_
       refine dn ?_
       refine blockQ_n ?_
       refine seqQ_n ?_
       refine hw_reg1 ?_
       refine dp rfl (pop_add64 rfl rfl (by omega) (by omega)) ?_
       refine dp rfl (pop_move rfl) ?_
       refine dn ?_
       exact ⟨n + 1, no + y29, at1 + y108, ⟨v104, out ++ [x5], a5 + 1⟩, ⟨by omega, ⟨by simp at hy29; omega, by simp at hy29; omega⟩, ⟨by simp at hy108; omega, by simp at hy108; omega⟩, hq2.add (x := x5) hx5 (by omega)⟩, by dsimp only; omega, ⟨rfl, rfl, rfl, rfl, trivial⟩, (by repeat (first | exact keeps_refl | refine keeps_upd rfl ?_ | refine keeps_loop rfl rfl ?_)), by repeat (first | exact List.Perm.nil | refine permTo 0 rfl ?_ | refine permTo 1 rfl ?_ | refine permTo 2 rfl ?_ | refine permTo 3 rfl ?_ | (refine permToE 0 rfl ?hq ?_; (case hq => simp [setL, hcells]; done)) | (refine permToE 1 rfl ?hq ?_; (case hq => simp [setL, hcells]; done)) | (refine permToE 2 rfl ?hq ?_; (case hq => simp [setL, hcells]; done)) | (refine permToE 3 rfl ?hq ?_; (case hq => simp [setL, hcells]; done)) | fail)⟩
    ·try simp at h4
     refine hw_exit ?_
     refine seqQ_x ?_
     refine loopQ4_x ?_
     refine blockQ_eq ?_
     refine blockQ_n ?_
     refine seqQ_n ?_
     refine hw_reg1 ?_
     refine dp rfl (pop_add64 rfl rfl (by omega) (by omega)) ?_
     refine dp rfl (pop_move rfl) ?_
     refine dn ?_
     exact ⟨k + 1, ⟨u, out, a2⟩, ⟨by omega, ⟨by dsimp only; omega, g2, by dsimp only; omega⟩⟩, by dsimp only; omega, ⟨rfl, rfl, trivial⟩, (by repeat (first | exact keeps_refl | refine keeps_upd rfl ?_ | refine keeps_loop rfl rfl ?_)), by repeat (first | exact List.Perm.nil | refine permTo 0 rfl ?_ | refine permTo 1 rfl ?_ | refine permTo 2 rfl ?_ | refine permTo 3 rfl ?_ | (refine permToE 0 rfl ?hq ?_; (case hq => simp [setL, hcells]; done)) | (refine permToE 1 rfl ?hq ?_; (case hq => simp [setL, hcells]; done)) | (refine permToE 2 rfl ?hq ?_; (case hq => simp [setL, hcells]; done)) | (refine permToE 3 rfl ?hq ?_; (case hq => simp [setL, hcells]; done)) | fail)⟩
  ·try simp at h2
   have hnk : src3.length ≤ k := by omega
   obtain rfl : k = src3.length := by omega
   refine hw_exit ?_
   refine seqQ_x ?_
   refine loopQ2_x ?_
   refine blockQ_eq ?_
   refine seqQ_n ?_
   refine hw_join (12 :: 112 :: 113 :: 114 :: 115 :: 116 :: 117 :: 118 :: 119 :: 120 :: 121 :: 122 :: 123 :: 124 :: 125 :: 126 :: 127 :: 128 :: 129 :: 130 :: 131 :: 132 :: 133 :: 134 :: 135 :: 136 :: 137 :: 138 :: 139 :: 140 :: 141 :: 142 :: 143 :: 144 :: 145 :: 146 :: 147 :: 148 :: 149 :: 150 :: 151 :: 152 :: 153 :: 154 :: 155 :: 156 :: 157 :: 158 :: 159 :: 160 :: 161 :: 162 :: 163 :: 164 :: 165 :: 166 :: 167 :: 168 :: 169 :: 170 :: 171 :: 172 :: 173 :: 174 :: 175 :: 176 :: 177 :: 178 :: 179 :: 180 :: 181 :: 182 :: 183 :: 184 :: 185 :: 186 :: 187 :: 188 :: 189 :: 190 :: 191 :: 192 :: 193 :: 194 :: 195 :: 196 :: 197 :: 198 :: 199 :: 200 :: 201 :: 202 :: 203 :: 204 :: 205 :: 206 :: 207 :: 208 :: 209 :: 210 :: 211 :: 212 :: 213 :: 214 :: 215 :: 216 :: 217 :: 218 :: 219 :: 220 :: 221 :: 222 :: []) (fun (q5 : List Play × Nat) => []) (fun (q5 : List Play × Nat) => [St b l q5.2, .arr u 9 (q5.1.map ePlay)]) (fun (q5 : List Play × Nat) => q5.1.length ≤ 15 ∧ (∀ x ∈ q5.1, GoodPl1 x) ∧ q5.2 ≤ a + 500) ?_ ?_
   ·skip
    refine hw_reg ?_
    refine dp rfl (pop_move rfl) ?_
    refine de rfl (eop_lenm (i := 1) ty26 rfl rfl ?_)
    refine dp rfl (pop_gtr rfl rfl) ?_
    refine dp rfl (pop_move rfl) ?_
    refine dg rfl rfl (fun hc => ⟨_, OpenTo.refl _, pop_move rfl⟩) ?_
    refine dgx (fun x M' => ∃ (y : Bool) (a3 : Nat), x = .bool y ∧ a3 ≤ a1 + 1 ∧ M' = [St b l a3, .arr u 9 (out.map ePlay)]) rfl rfl (fun hc => ⟨_, false, a1, rfl, by omega, rfl⟩) (fun hc => ⟨_, OpenTo.upd (t := 116) rfl (hc) (OpenTo.refl _), eop_callx (i := 0) ca7 rfl (WeakL.refl _) rfl (c_benchmake_Stream_Flip (a := a1) (by omega) (by omega)) (fun h M' hh => by
     obtain ⟨y, h1, h2⟩ := hh
     exact ⟨y, a1 + 1, h1, by omega, by rw [h2]; rfl⟩)⟩) ?_
    rintro _ _ ⟨y, a3, rfl, ha3, rfl⟩
    refine dp rfl (pop_picko rfl (.inr ⟨_, rfl, fun h => by simp_all⟩) (.inl rfl)) ?_
    refine dn ?_
    refine hw_cond rfl (fun h11 => ?_) (fun h12 => ?_)
    ·try simp at h11
     have ho0 : 0 < out.length := by simp_all
     refine hw_arrc (i := 1) rfl (fun h0 he => ?_) (fun ob off cap hv hcap => ?_)
     ·exfalso; have := congrArg List.length he; simp at this; subst this; simp at ho0
     subst hv
     refine hw_reg ?_
     refine dp rfl (pop_move rfl) ?_
     refine dp rfl (pop_move rfl) ?_
     refine dp rfl (pop_move rfl) ?_
     refine de rfl (eop_lenm (i := 1) ty26 rfl rfl ?_)
     refine de rfl (eop_callx (i := 0) ca29 rfl (WeakL.refl _) rfl (c_benchmake_Stream_Next (by first | assumption | omega | (simp; omega) | simp_all) (by first | assumption | omega | (simp; omega) | simp_all)) ?_)
     rintro _ _ ⟨y123, rfl, hy123, rfl⟩
     refine dp rfl (pop_idxraw (j := y123) ty26 ty30 rfl rfl rfl (by simp; omega)) ?_
     refine dp rfl (pop_assign rfl) ?_
     refine dn ?_
     obtain ⟨x, hx⟩ : ∃ x, out[y123]? = some x := ⟨_, List.getElem?_eq_getElem (by omega)⟩
     refine hw_reg ?_
     refine dp rfl (pop_move rfl) ?_
     refine de rfl (eop_callx (i := 0) ca29 rfl (WeakL.refl _) rfl (c_benchmake_Stream_Next (by first | assumption | omega | (simp; omega) | simp_all) (by first | assumption | omega | (simp; omega) | simp_all)) ?_)
     rintro _ _ ⟨y126, rfl, hy126, rfl⟩
     refine dn ?_
     refine hw_block ?_
     refine hw_reg ?_
     refine dp rfl (pop_eql rfl rfl) ?_
     refine dp rfl (pop_assign rfl) ?_
     refine dn ?_
     refine hw_cond rfl (fun h13 => ?_) (fun h14 => ?_)
     ·try simp at h13
      refine hw_draw1 (fun M => ∃ i : Nat, M[i]? = some (.arr (.slice (some ⟨ob, off, none⟩) (out.map ePlay).length cap) 9 (out.map ePlay))) [6, 13] mixed ?_
      refine ahp 0 rfl rfl (by kernel_rfl) (by kernel_rfl) (pop_move rfl) ?_
      refine ahp 1 rfl rfl (by kernel_rfl) (by kernel_rfl) (pop_move rfl) ?_
      refine ahp 2 rfl rfl (by kernel_rfl) (by kernel_rfl) (pop_move rfl) ?_
      refine ahp 3 rfl rfl (by kernel_rfl) (by kernel_rfl) (pop_move rfl) ?_
      refine ahp 4 rfl rfl (by kernel_rfl) (by kernel_rfl) ((pop_nilCheck_raw rfl)) ?_
      refine ahp 5 rfl rfl (by kernel_rfl) (by kernel_rfl) ((pop_fieldAddr_raw ty30 rfl ty9 (by decide) rfl)) ?_
      refine ahl 6 rfl rfl (by kernel_rfl) (by kernel_rfl) (by simp) ⟨1, rfl⟩ (fun M hM => by obtain ⟨i, hi⟩ := hM; exact eop_load_el (i := i) (j := y123) 0 ty9 rfl (by omega) hi hx rfl rfl ⟨rfl, rfl⟩) ?_
      refine ahp 7 rfl rfl (by kernel_rfl) (by kernel_rfl) (pop_buildSlice (hs := [_, _, _]) ty47 ty9 rfl rfl (by decide) (by decide) rfl) ?_
      refine ahp 9 rfl rfl (by kernel_rfl) (by kernel_rfl) (pop_move rfl) ?_
      refine ahp 10 rfl rfl (by kernel_rfl) (by kernel_rfl) (pop_move rfl) ?_
      refine ahp 11 rfl rfl (by kernel_rfl) (by kernel_rfl) ((pop_nilCheck_raw rfl)) ?_
      refine ahp 12 rfl rfl (by kernel_rfl) (by kernel_rfl) ((pop_fieldAddr_raw ty30 rfl ty3 (by decide) rfl)) ?_
      refine ahl 13 rfl rfl (by kernel_rfl) (by kernel_rfl) (by simp) ⟨1, rfl⟩ (fun M hM => by obtain ⟨i, hi⟩ := hM; exact eop_load_el (i := i) (j := y123) 1 ty3 rfl (by omega) hi hx rfl rfl ⟨rfl, rfl⟩) ?_
      refine ahp 14 rfl rfl (by kernel_rfl) (by kernel_rfl) (pop_buildSlice (hs := [_, _, _, _]) ty22 ty3 rfl rfl (by decide) (by decide) rfl) ?_
      refine ahe 8 rfl (by kernel_rfl) ?_
      refine hop_e rfl (eop_callx (i := 0) ca30 rfl (WeakL.refl _) rfl (c_benchmake_Stream_Some (L := [_, _, _]) (by first | assumption | omega | (simp; omega) | simp_all) (by first | assumption | omega | (simp; omega) | simp_all) (by first | assumption | omega | (simp; omega) | simp_all)) ?_)
      rintro _ _ ⟨y167, rfl, hy167, rfl⟩
      refine ⟨fun _ => by first | exact .inl ⟨0, rfl⟩ | exact .inl ⟨1, rfl⟩ | exact .inl ⟨2, rfl⟩ | exact .inr (by simp [Before, Region.binds]), ?_⟩
      refine ahe 15 rfl (by kernel_rfl) ?_
      refine hop_e rfl (eop_callx (i := 0) ca28 rfl (WeakL.refl _) rfl (c_benchmake_Stream_Pick (L := [_, _, _, _]) (by first | assumption | omega | (simp; omega) | simp_all) (by first | assumption | omega | (simp; omega) | simp_all) (by first | assumption | omega | (simp; omega) | simp_all)) ?_)
      rintro _ _ ⟨y174, rfl, hy174, rfl⟩
      refine ⟨fun _ => by first | exact .inl ⟨0, rfl⟩ | exact .inl ⟨1, rfl⟩ | exact .inl ⟨2, rfl⟩ | exact .inr (by simp [Before, Region.binds]), ?_⟩
      refine ahp 16 rfl rfl (by kernel_rfl) (by kernel_rfl) ((pop_nilCheck_raw rfl)) ?_
      refine ahp 17 rfl rfl (by kernel_rfl) (by kernel_rfl) ((pop_fieldAddr_raw ty30 rfl ty9 (by decide) rfl)) ?_
      refine ahe 18 rfl (by kernel_rfl) ?_
      refine hop_e0 (eop_store_arr (i := 1) (j := y123) (f := 0) (y := ePlay x) (y' := ePlay ⟨y167, x.No, x.At, x.Week, x.Match, x.Player, x.Stat, x.Count, x.Undo⟩) ty9 rfl (by omega) rfl rfl (map_get hx) rfl rfl (by simp [hcells]) rfl ?_)
      refine ⟨fun _ => .inr (by simp [Before, Region.binds]), ?_⟩
      refine ahp 19 rfl rfl (by kernel_rfl) (by kernel_rfl) ((pop_nilCheck_raw rfl)) ?_
      refine ahp 20 rfl rfl (by kernel_rfl) (by kernel_rfl) ((pop_fieldAddr_raw ty30 rfl ty3 (by decide) rfl)) ?_
      refine ahe 21 rfl (by kernel_rfl) ?_
      refine hop_e0 (eop_store_arr (i := 1) (j := y123) (f := 1) (y := ePlay ⟨y167, x.No, x.At, x.Week, x.Match, x.Player, x.Stat, x.Count, x.Undo⟩) (y' := ePlay ⟨y167, y174, x.At, x.Week, x.Match, x.Player, x.Stat, x.Count, x.Undo⟩) ty3 rfl (by omega) rfl rfl (set_self (map_get hx)) rfl rfl (by simp [hcells]) rfl ?_)
      refine ⟨fun _ => .inr (by simp [Before, Region.binds]), ?_⟩
      refine ahz (by kernel_rfl) ?_
      refine blockQ_n ?_
      exact ⟨(out.set y123 ⟨y167, y174, x.At, x.Week, x.Match, x.Player, x.Stat, x.Count, x.Undo⟩, a3 + 4), ⟨by simp; omega, all_set (P := GoodPl1) g2 (by
       have hgx := g2 x (List.mem_of_getElem? hx)
       exact ⟨by simp at hy167; rcases hy167 with rfl | rfl | rfl; exact hgx.1; exact nil_sh; (unfold Sh; simp), hgx.2.1, hgx.2.2.1, hgx.2.2.2⟩), by dsimp only; omega⟩, trivial, (by repeat (first | exact keeps_refl | refine keeps_upd rfl ?_ | refine keeps_loop rfl rfl ?_)), by repeat (first | exact List.Perm.nil | refine permTo 0 rfl ?_ | refine permTo 1 rfl ?_ | refine permTo 2 rfl ?_ | refine permTo 3 rfl ?_ | (refine permToE 0 rfl ?hq ?_; (case hq => simp [setL, hcells]; done)) | (refine permToE 1 rfl ?hq ?_; (case hq => simp [setL, hcells]; done)) | (refine permToE 2 rfl ?hq ?_; (case hq => simp [setL, hcells]; done)) | (refine permToE 3 rfl ?hq ?_; (case hq => simp [setL, hcells]; done)) | fail)⟩
     ·try simp at h14
      refine hw_reg ?_
      refine dp rfl (pop_eql rfl rfl) ?_
      refine dp rfl (pop_assign rfl) ?_
      refine dn ?_
      refine hw_cond rfl (fun h15 => ?_) (fun h16 => ?_)
      ·try simp at h15
       refine hw_draw1 (fun M => ∃ i : Nat, M[i]? = some (.arr (.slice (some ⟨ob, off, none⟩) (out.map ePlay).length cap) 9 (out.map ePlay))) [6, 13] mixed ?_
       refine ahp 0 rfl rfl (by kernel_rfl) (by kernel_rfl) (pop_move rfl) ?_
       refine ahp 1 rfl rfl (by kernel_rfl) (by kernel_rfl) (pop_move rfl) ?_
       refine ahp 2 rfl rfl (by kernel_rfl) (by kernel_rfl) (pop_move rfl) ?_
       refine ahp 3 rfl rfl (by kernel_rfl) (by kernel_rfl) (pop_move rfl) ?_
       refine ahp 4 rfl rfl (by kernel_rfl) (by kernel_rfl) ((pop_nilCheck_raw rfl)) ?_
       refine ahp 5 rfl rfl (by kernel_rfl) (by kernel_rfl) ((pop_fieldAddr_raw ty30 rfl ty3 (by decide) rfl)) ?_
       refine ahl 6 rfl rfl (by kernel_rfl) (by kernel_rfl) (by simp) ⟨1, rfl⟩ (fun M hM => by obtain ⟨i, hi⟩ := hM; exact eop_load_el (i := i) (j := y123) 3 ty3 rfl (by omega) hi hx rfl rfl ⟨rfl, rfl⟩) ?_
       refine ahp 7 rfl rfl (by kernel_rfl) (by kernel_rfl) (pop_buildSlice (hs := [_, _, _]) ty22 ty3 rfl rfl (by decide) (by decide) rfl) ?_
       refine ahp 9 rfl rfl (by kernel_rfl) (by kernel_rfl) (pop_move rfl) ?_
       refine ahp 10 rfl rfl (by kernel_rfl) (by kernel_rfl) (pop_move rfl) ?_
       refine ahp 11 rfl rfl (by kernel_rfl) (by kernel_rfl) ((pop_nilCheck_raw rfl)) ?_
       refine ahp 12 rfl rfl (by kernel_rfl) (by kernel_rfl) ((pop_fieldAddr_raw ty30 rfl ty9 (by decide) rfl)) ?_
       refine ahl 13 rfl rfl (by kernel_rfl) (by kernel_rfl) (by simp) ⟨1, rfl⟩ (fun M hM => by obtain ⟨i, hi⟩ := hM; exact eop_load_el (i := i) (j := y123) 4 ty9 rfl (by omega) hi hx rfl rfl ⟨rfl, rfl⟩) ?_
       refine ahp 14 rfl rfl (by kernel_rfl) (by kernel_rfl) (pop_buildSlice (hs := [_, _]) ty47 ty9 rfl rfl (by decide) (by decide) rfl) ?_
       refine ahe 8 rfl (by kernel_rfl) ?_
       refine hop_e rfl (eop_callx (i := 0) ca28 rfl (WeakL.refl _) rfl (c_benchmake_Stream_Pick (L := [_, _, _]) (by first | assumption | omega | (simp; omega) | simp_all) (by first | assumption | omega | (simp; omega) | simp_all) (by first | assumption | omega | (simp; omega) | simp_all)) ?_)
       rintro _ _ ⟨y189, rfl, hy189, rfl⟩
       refine ⟨fun _ => by first | exact .inl ⟨0, rfl⟩ | exact .inl ⟨1, rfl⟩ | exact .inl ⟨2, rfl⟩ | exact .inr (by simp [Before, Region.binds]), ?_⟩
       refine ahe 15 rfl (by kernel_rfl) ?_
       refine hop_e rfl (eop_callx (i := 0) ca30 rfl (WeakL.refl _) rfl (c_benchmake_Stream_Some (L := [_, _]) (by first | assumption | omega | (simp; omega) | simp_all) (by first | assumption | omega | (simp; omega) | simp_all) (by first | assumption | omega | (simp; omega) | simp_all)) ?_)
       rintro _ _ ⟨y196, rfl, hy196, rfl⟩
       refine ⟨fun _ => by first | exact .inl ⟨0, rfl⟩ | exact .inl ⟨1, rfl⟩ | exact .inl ⟨2, rfl⟩ | exact .inr (by simp [Before, Region.binds]), ?_⟩
       refine ahp 16 rfl rfl (by kernel_rfl) (by kernel_rfl) ((pop_nilCheck_raw rfl)) ?_
       refine ahp 17 rfl rfl (by kernel_rfl) (by kernel_rfl) ((pop_fieldAddr_raw ty30 rfl ty3 (by decide) rfl)) ?_
       refine ahe 18 rfl (by kernel_rfl) ?_
       refine hop_e0 (eop_store_arr (i := 1) (j := y123) (f := 3) (y := ePlay x) (y' := ePlay ⟨x.Source, x.No, x.At, y189, x.Match, x.Player, x.Stat, x.Count, x.Undo⟩) ty3 rfl (by omega) rfl rfl (map_get hx) rfl rfl (by simp [hcells]) rfl ?_)
       refine ⟨fun _ => .inr (by simp [Before, Region.binds]), ?_⟩
       refine ahp 19 rfl rfl (by kernel_rfl) (by kernel_rfl) ((pop_nilCheck_raw rfl)) ?_
       refine ahp 20 rfl rfl (by kernel_rfl) (by kernel_rfl) ((pop_fieldAddr_raw ty30 rfl ty9 (by decide) rfl)) ?_
       refine ahe 21 rfl (by kernel_rfl) ?_
       refine hop_e0 (eop_store_arr (i := 1) (j := y123) (f := 4) (y := ePlay ⟨x.Source, x.No, x.At, y189, x.Match, x.Player, x.Stat, x.Count, x.Undo⟩) (y' := ePlay ⟨x.Source, x.No, x.At, y189, y196, x.Player, x.Stat, x.Count, x.Undo⟩) ty9 rfl (by omega) rfl rfl (set_self (map_get hx)) rfl rfl (by simp [hcells]) rfl ?_)
       refine ⟨fun _ => .inr (by simp [Before, Region.binds]), ?_⟩
       refine ahz (by kernel_rfl) ?_
       refine blockQ_n ?_
       exact ⟨(out.set y123 ⟨x.Source, x.No, x.At, y189, y196, x.Player, x.Stat, x.Count, x.Undo⟩, a3 + 4), ⟨by simp; omega, all_set (P := GoodPl1) g2 (by
        have hgx := g2 x (List.mem_of_getElem? hx)
        exact ⟨hgx.1, by simp at hy196; rcases hy196 with rfl | rfl; exact hgx.2.1; exact nil_sh, hgx.2.2.1, hgx.2.2.2⟩), by dsimp only; omega⟩, trivial, (by repeat (first | exact keeps_refl | refine keeps_upd rfl ?_ | refine keeps_loop rfl rfl ?_)), by repeat (first | exact List.Perm.nil | refine permTo 0 rfl ?_ | refine permTo 1 rfl ?_ | refine permTo 2 rfl ?_ | refine permTo 3 rfl ?_ | (refine permToE 0 rfl ?hq ?_; (case hq => simp [setL, hcells]; done)) | (refine permToE 1 rfl ?hq ?_; (case hq => simp [setL, hcells]; done)) | (refine permToE 2 rfl ?hq ?_; (case hq => simp [setL, hcells]; done)) | (refine permToE 3 rfl ?hq ?_; (case hq => simp [setL, hcells]; done)) | fail)⟩
      ·try simp at h16
       refine hw_reg ?_
       refine dp rfl (pop_eql rfl rfl) ?_
       refine dp rfl (pop_assign rfl) ?_
       refine dn ?_
       refine hw_cond rfl (fun h17 => ?_) (fun h18 => ?_)
       ·try simp at h17
        refine hw_draw1 (fun M => ∃ i : Nat, M[i]? = some (.arr (.slice (some ⟨ob, off, none⟩) (out.map ePlay).length cap) 9 (out.map ePlay))) [6, 13] mixed ?_
        refine ahp 0 rfl rfl (by kernel_rfl) (by kernel_rfl) (pop_move rfl) ?_
        refine ahp 1 rfl rfl (by kernel_rfl) (by kernel_rfl) (pop_move rfl) ?_
        refine ahp 2 rfl rfl (by kernel_rfl) (by kernel_rfl) (pop_move rfl) ?_
        refine ahp 3 rfl rfl (by kernel_rfl) (by kernel_rfl) (pop_move rfl) ?_
        refine ahp 4 rfl rfl (by kernel_rfl) (by kernel_rfl) ((pop_nilCheck_raw rfl)) ?_
        refine ahp 5 rfl rfl (by kernel_rfl) (by kernel_rfl) ((pop_fieldAddr_raw ty30 rfl ty3 (by decide) rfl)) ?_
        refine ahl 6 rfl rfl (by kernel_rfl) (by kernel_rfl) (by simp) ⟨1, rfl⟩ (fun M hM => by obtain ⟨i, hi⟩ := hM; exact eop_load_el (i := i) (j := y123) 7 ty3 rfl (by omega) hi hx rfl rfl ⟨rfl, rfl⟩) ?_
        refine ahp 7 rfl rfl (by kernel_rfl) (by kernel_rfl) (pop_buildSlice (hs := [_, _, _]) ty22 ty3 rfl rfl (by decide) (by decide) rfl) ?_
        refine ahp 9 rfl rfl (by kernel_rfl) (by kernel_rfl) (pop_move rfl) ?_
        refine ahp 10 rfl rfl (by kernel_rfl) (by kernel_rfl) (pop_move rfl) ?_
        refine ahp 11 rfl rfl (by kernel_rfl) (by kernel_rfl) ((pop_nilCheck_raw rfl)) ?_
        refine ahp 12 rfl rfl (by kernel_rfl) (by kernel_rfl) ((pop_fieldAddr_raw ty30 rfl ty3 (by decide) rfl)) ?_
        refine ahl 13 rfl rfl (by kernel_rfl) (by kernel_rfl) (by simp) ⟨1, rfl⟩ (fun M hM => by obtain ⟨i, hi⟩ := hM; exact eop_load_el (i := i) (j := y123) 8 ty3 rfl (by omega) hi hx rfl rfl ⟨rfl, rfl⟩) ?_
        refine ahp 14 rfl rfl (by kernel_rfl) (by kernel_rfl) (pop_buildSlice (hs := [_, _, _]) ty22 ty3 rfl rfl (by decide) (by decide) rfl) ?_
        refine ahe 8 rfl (by kernel_rfl) ?_
        refine hop_e rfl (eop_callx (i := 0) ca28 rfl (WeakL.refl _) rfl (c_benchmake_Stream_Pick (L := [_, _, _]) (by first | assumption | omega | (simp; omega) | simp_all) (by first | assumption | omega | (simp; omega) | simp_all) (by first | assumption | omega | (simp; omega) | simp_all)) ?_)
        rintro _ _ ⟨y211, rfl, hy211, rfl⟩
        refine ⟨fun _ => by first | exact .inl ⟨0, rfl⟩ | exact .inl ⟨1, rfl⟩ | exact .inl ⟨2, rfl⟩ | exact .inr (by simp [Before, Region.binds]), ?_⟩
        refine ahe 15 rfl (by kernel_rfl) ?_
        refine hop_e rfl (eop_callx (i := 0) ca28 rfl (WeakL.refl _) rfl (c_benchmake_Stream_Pick (L := [_, _, _]) (by first | assumption | omega | (simp; omega) | simp_all) (by first | assumption | omega | (simp; omega) | simp_all) (by first | assumption | omega | (simp; omega) | simp_all)) ?_)
        rintro _ _ ⟨y218, rfl, hy218, rfl⟩
        refine ⟨fun _ => by first | exact .inl ⟨0, rfl⟩ | exact .inl ⟨1, rfl⟩ | exact .inl ⟨2, rfl⟩ | exact .inr (by simp [Before, Region.binds]), ?_⟩
        refine ahp 16 rfl rfl (by kernel_rfl) (by kernel_rfl) ((pop_nilCheck_raw rfl)) ?_
        refine ahp 17 rfl rfl (by kernel_rfl) (by kernel_rfl) ((pop_fieldAddr_raw ty30 rfl ty3 (by decide) rfl)) ?_
        refine ahe 18 rfl (by kernel_rfl) ?_
        refine hop_e0 (eop_store_arr (i := 1) (j := y123) (f := 7) (y := ePlay x) (y' := ePlay ⟨x.Source, x.No, x.At, x.Week, x.Match, x.Player, x.Stat, y211, x.Undo⟩) ty3 rfl (by omega) rfl rfl (map_get hx) rfl rfl (by simp [hcells]) rfl ?_)
        refine ⟨fun _ => .inr (by simp [Before, Region.binds]), ?_⟩
        refine ahp 19 rfl rfl (by kernel_rfl) (by kernel_rfl) ((pop_nilCheck_raw rfl)) ?_
        refine ahp 20 rfl rfl (by kernel_rfl) (by kernel_rfl) ((pop_fieldAddr_raw ty30 rfl ty3 (by decide) rfl)) ?_
        refine ahe 21 rfl (by kernel_rfl) ?_
        refine hop_e0 (eop_store_arr (i := 1) (j := y123) (f := 8) (y := ePlay ⟨x.Source, x.No, x.At, x.Week, x.Match, x.Player, x.Stat, y211, x.Undo⟩) (y' := ePlay ⟨x.Source, x.No, x.At, x.Week, x.Match, x.Player, x.Stat, y211, y218⟩) ty3 rfl (by omega) rfl rfl (set_self (map_get hx)) rfl rfl (by simp [hcells]) rfl ?_)
        refine ⟨fun _ => .inr (by simp [Before, Region.binds]), ?_⟩
        refine ahz (by kernel_rfl) ?_
        refine blockQ_n ?_
        exact ⟨(out.set y123 ⟨x.Source, x.No, x.At, x.Week, x.Match, x.Player, x.Stat, y211, y218⟩, a3 + 4), ⟨by simp; omega, all_set (P := GoodPl1) g2 (by
         have hgx := g2 x (List.mem_of_getElem? hx)
         exact ⟨hgx.1, hgx.2.1, hgx.2.2.1, hgx.2.2.2⟩), by dsimp only; omega⟩, trivial, (by repeat (first | exact keeps_refl | refine keeps_upd rfl ?_ | refine keeps_loop rfl rfl ?_)), by repeat (first | exact List.Perm.nil | refine permTo 0 rfl ?_ | refine permTo 1 rfl ?_ | refine permTo 2 rfl ?_ | refine permTo 3 rfl ?_ | (refine permToE 0 rfl ?hq ?_; (case hq => simp [setL, hcells]; done)) | (refine permToE 1 rfl ?hq ?_; (case hq => simp [setL, hcells]; done)) | (refine permToE 2 rfl ?hq ?_; (case hq => simp [setL, hcells]; done)) | (refine permToE 3 rfl ?hq ?_; (case hq => simp [setL, hcells]; done)) | fail)⟩
       ·try simp at h18
        refine hw_draw1 (fun M => ∃ i : Nat, M[i]? = some (.arr (.slice (some ⟨ob, off, none⟩) (out.map ePlay).length cap) 9 (out.map ePlay))) [7, 14, 21] mixed ?_
        refine ahp 0 rfl rfl (by kernel_rfl) (by kernel_rfl) (pop_move rfl) ?_
        refine ahp 1 rfl rfl (by kernel_rfl) (by kernel_rfl) (pop_move rfl) ?_
        refine ahp 2 rfl rfl (by kernel_rfl) (by kernel_rfl) (pop_move rfl) ?_
        refine ahp 3 rfl rfl (by kernel_rfl) (by kernel_rfl) (pop_move rfl) ?_
        refine ahp 4 rfl rfl (by kernel_rfl) (by kernel_rfl) (pop_move rfl) ?_
        refine ahp 5 rfl rfl (by kernel_rfl) (by kernel_rfl) ((pop_nilCheck_raw rfl)) ?_
        refine ahp 6 rfl rfl (by kernel_rfl) (by kernel_rfl) ((pop_fieldAddr_raw ty30 rfl ty9 (by decide) rfl)) ?_
        refine ahl 7 rfl rfl (by kernel_rfl) (by kernel_rfl) (by simp) ⟨1, rfl⟩ (fun M hM => by obtain ⟨i, hi⟩ := hM; exact eop_load_el (i := i) (j := y123) 5 ty9 rfl (by omega) hi hx rfl rfl ⟨rfl, rfl⟩) ?_
        refine ahp 8 rfl rfl (by kernel_rfl) (by kernel_rfl) (pop_buildSlice (hs := [_, _]) ty47 ty9 rfl rfl (by decide) (by decide) rfl) ?_
        refine ahp 10 rfl rfl (by kernel_rfl) (by kernel_rfl) (pop_move rfl) ?_
        refine ahp 11 rfl rfl (by kernel_rfl) (by kernel_rfl) (pop_move rfl) ?_
        refine ahp 12 rfl rfl (by kernel_rfl) (by kernel_rfl) ((pop_nilCheck_raw rfl)) ?_
        refine ahp 13 rfl rfl (by kernel_rfl) (by kernel_rfl) ((pop_fieldAddr_raw ty30 rfl ty9 (by decide) rfl)) ?_
        refine ahl 14 rfl rfl (by kernel_rfl) (by kernel_rfl) (by simp) ⟨1, rfl⟩ (fun M hM => by obtain ⟨i, hi⟩ := hM; exact eop_load_el (i := i) (j := y123) 6 ty9 rfl (by omega) hi hx rfl rfl ⟨rfl, rfl⟩) ?_
        refine ahp 15 rfl rfl (by kernel_rfl) (by kernel_rfl) (pop_buildSlice (hs := [_, _]) ty47 ty9 rfl rfl (by decide) (by decide) rfl) ?_
        refine ahp 17 rfl rfl (by kernel_rfl) (by kernel_rfl) (pop_move rfl) ?_
        refine ahp 18 rfl rfl (by kernel_rfl) (by kernel_rfl) (pop_move rfl) ?_
        refine ahp 19 rfl rfl (by kernel_rfl) (by kernel_rfl) ((pop_nilCheck_raw rfl)) ?_
        refine ahp 20 rfl rfl (by kernel_rfl) (by kernel_rfl) ((pop_fieldAddr_raw ty30 rfl ty3 (by decide) rfl)) ?_
        refine ahl 21 rfl rfl (by kernel_rfl) (by kernel_rfl) (by simp) ⟨1, rfl⟩ (fun M hM => by obtain ⟨i, hi⟩ := hM; exact eop_load_el (i := i) (j := y123) 2 ty3 rfl (by omega) hi hx rfl rfl ⟨rfl, rfl⟩) ?_
        refine ahp 22 rfl rfl (by kernel_rfl) (by kernel_rfl) (pop_buildSlice (hs := [_, _]) ty22 ty3 rfl rfl (by decide) (by decide) rfl) ?_
        refine ahe 9 rfl (by kernel_rfl) ?_
        refine hop_e rfl (eop_callx (i := 0) ca30 rfl (WeakL.refl _) rfl (c_benchmake_Stream_Some (L := [_, _]) (by first | assumption | omega | (simp; omega) | simp_all) (by first | assumption | omega | (simp; omega) | simp_all) (by first | assumption | omega | (simp; omega) | simp_all)) ?_)
        rintro _ _ ⟨y136, rfl, hy136, rfl⟩
        refine ⟨fun _ => by first | exact .inl ⟨0, rfl⟩ | exact .inl ⟨1, rfl⟩ | exact .inl ⟨2, rfl⟩ | exact .inr (by simp [Before, Region.binds]), ?_⟩
        refine ahe 16 rfl (by kernel_rfl) ?_
        refine hop_e rfl (eop_callx (i := 0) ca30 rfl (WeakL.refl _) rfl (c_benchmake_Stream_Some (L := [_, _]) (by first | assumption | omega | (simp; omega) | simp_all) (by first | assumption | omega | (simp; omega) | simp_all) (by first | assumption | omega | (simp; omega) | simp_all)) ?_)
        rintro _ _ ⟨y143, rfl, hy143, rfl⟩
        refine ⟨fun _ => by first | exact .inl ⟨0, rfl⟩ | exact .inl ⟨1, rfl⟩ | exact .inl ⟨2, rfl⟩ | exact .inr (by simp [Before, Region.binds]), ?_⟩
        refine ahe 23 rfl (by kernel_rfl) ?_
        refine hop_e rfl (eop_callx (i := 0) ca28 rfl (WeakL.refl _) rfl (c_benchmake_Stream_Pick (L := [_, _]) (by first | assumption | omega | (simp; omega) | simp_all) (by first | assumption | omega | (simp; omega) | simp_all) (by first | assumption | omega | (simp; omega) | simp_all)) ?_)
        rintro _ _ ⟨y150, rfl, hy150, rfl⟩
        refine ⟨fun _ => by first | exact .inl ⟨0, rfl⟩ | exact .inl ⟨1, rfl⟩ | exact .inl ⟨2, rfl⟩ | exact .inr (by simp [Before, Region.binds]), ?_⟩
        refine ahp 24 rfl rfl (by kernel_rfl) (by kernel_rfl) ((pop_nilCheck_raw rfl)) ?_
        refine ahp 25 rfl rfl (by kernel_rfl) (by kernel_rfl) ((pop_fieldAddr_raw ty30 rfl ty9 (by decide) rfl)) ?_
        refine ahe 26 rfl (by kernel_rfl) ?_
        refine hop_e0 (eop_store_arr (i := 1) (j := y123) (f := 5) (y := ePlay x) (y' := ePlay ⟨x.Source, x.No, x.At, x.Week, x.Match, y136, x.Stat, x.Count, x.Undo⟩) ty9 rfl (by omega) rfl rfl (map_get hx) rfl rfl (by simp [hcells]) rfl ?_)
        refine ⟨fun _ => .inr (by simp [Before, Region.binds]), ?_⟩
        refine ahp 27 rfl rfl (by kernel_rfl) (by kernel_rfl) ((pop_nilCheck_raw rfl)) ?_
        refine ahp 28 rfl rfl (by kernel_rfl) (by kernel_rfl) ((pop_fieldAddr_raw ty30 rfl ty9 (by decide) rfl)) ?_
        refine ahe 29 rfl (by kernel_rfl) ?_
        refine hop_e0 (eop_store_arr (i := 1) (j := y123) (f := 6) (y := ePlay ⟨x.Source, x.No, x.At, x.Week, x.Match, y136, x.Stat, x.Count, x.Undo⟩) (y' := ePlay ⟨x.Source, x.No, x.At, x.Week, x.Match, y136, y143, x.Count, x.Undo⟩) ty9 rfl (by omega) rfl rfl (set_self (map_get hx)) rfl rfl (by simp [hcells]) rfl ?_)
        refine ⟨fun _ => .inr (by simp [Before, Region.binds]), ?_⟩
        refine ahp 30 rfl rfl (by kernel_rfl) (by kernel_rfl) ((pop_nilCheck_raw rfl)) ?_
        refine ahp 31 rfl rfl (by kernel_rfl) (by kernel_rfl) ((pop_fieldAddr_raw ty30 rfl ty3 (by decide) rfl)) ?_
        refine ahe 32 rfl (by kernel_rfl) ?_
        refine hop_e0 (eop_store_arr (i := 1) (j := y123) (f := 2) (y := ePlay ⟨x.Source, x.No, x.At, x.Week, x.Match, y136, y143, x.Count, x.Undo⟩) (y' := ePlay ⟨x.Source, x.No, y150, x.Week, x.Match, y136, y143, x.Count, x.Undo⟩) ty3 rfl (by omega) rfl rfl (set_self (set_self (map_get hx))) rfl rfl (by simp [hcells]) rfl ?_)
        refine ⟨fun _ => .inr (by simp [Before, Region.binds]), ?_⟩
        refine ahz (by kernel_rfl) ?_
        refine blockQ_n ?_
        exact ⟨(out.set y123 ⟨x.Source, x.No, y150, x.Week, x.Match, y136, y143, x.Count, x.Undo⟩, a3 + 5), ⟨by simp; omega, all_set (P := GoodPl1) g2 (by
         have hgx := g2 x (List.mem_of_getElem? hx)
         exact ⟨hgx.1, hgx.2.1, by simp at hy136; rcases hy136 with rfl | rfl; exact hgx.2.2.1; (unfold Sh; simp), by simp at hy143; rcases hy143 with rfl | rfl; exact hgx.2.2.2; exact nil_sh⟩), by dsimp only; omega⟩, trivial, (by repeat (first | exact keeps_refl | refine keeps_upd rfl ?_ | refine keeps_loop rfl rfl ?_)), by repeat (first | exact List.Perm.nil | refine permTo 0 rfl ?_ | refine permTo 1 rfl ?_ | refine permTo 2 rfl ?_ | refine permTo 3 rfl ?_ | (refine permToE 0 rfl ?hq ?_; (case hq => simp [setL, hcells]; done)) | (refine permToE 1 rfl ?hq ?_; (case hq => simp [setL, hcells]; done)) | (refine permToE 2 rfl ?hq ?_; (case hq => simp [setL, hcells]; done)) | (refine permToE 3 rfl ?hq ?_; (case hq => simp [setL, hcells]; done)) | fail)⟩
    ·try simp at h12
     refine hw_skip ?_
     exact ⟨(out, a3), ⟨by dsimp only; omega, g2, by dsimp only; omega⟩, trivial, (by repeat (first | exact keeps_refl | refine keeps_upd rfl ?_ | refine keeps_loop rfl rfl ?_)), by repeat (first | exact List.Perm.nil | refine permTo 0 rfl ?_ | refine permTo 1 rfl ?_ | refine permTo 2 rfl ?_ | refine permTo 3 rfl ?_ | (refine permToE 0 rfl ?hq ?_; (case hq => simp [setL, hcells]; done)) | (refine permToE 1 rfl ?hq ?_; (case hq => simp [setL, hcells]; done)) | (refine permToE 2 rfl ?hq ?_; (case hq => simp [setL, hcells]; done)) | (refine permToE 3 rfl ?hq ?_; (case hq => simp [setL, hcells]; done)) | fail)⟩
   ·intro q5 hq5
    obtain ⟨k1, a4⟩ := q5
    dsimp only at hq5
    obtain ⟨q1, q2, q3⟩ := hq5
    refine hw_reg ?_
    refine dp rfl (pop_move rfl) ?_
    refine dp rfl (pop_assign rfl) ?_
    refine dn ?_
    refine hw_ret ?_
    exact ret_g (Ghost.fa 2 (i := 1) rfl rfl) rfl ⟨k1, a4, rfl, ⟨by omega, q2⟩, by omega, rfl⟩

/-- (*benchwarmer/benchmake.Stream).RightTold -/
theorem c_benchmake_Stream_RightTold [Tracks] {b : Nat} {l : List Int} {a : Nat}  (ha : a ≤ 690000) : Con Tryz.prog 21 [pAt b] [St b l a] (fun x M' => ∃ k a', x = ePlays k ∧ (GoodPl k ∧ playsE k = 0) ∧ a' ≤ a + 4000 ∧ M' = [St b l a']) := by
 refine Con.of_body Tryz.func21 rfl Tryz.ntmps21 rfl rfl ?_
 refine hw_reg ?_
 refine dp rfl (pop_assign rfl) ?_
 refine dn ?_
 refine hw_seq ?_
 refine hw_reg ?_
 refine dp rfl (pop_move rfl) ?_
 refine dn ?_
 refine hw_block ?_
 refine hw_loopw2 [2, 3, 4, 5, 6, 7, 8, 9, 10, 11, 12] (fun (i : Nat) (a2 : Nat) => [(4, .int .i64 (i : Int))]) (fun (i : Nat) (a2 : Nat) => [St b l a2]) (fun (i : Nat) (a2 : Nat) => i ≤ 8 ∧ a2 ≤ a + 500 * i) (fun (i : Nat) (a2 : Nat) => 8 - i) (0) (a) ?_ ?_ ?_ ?_
 ·exact ⟨by omega, by omega⟩
 ·exact ⟨rfl, trivial⟩
 ·exact List.Perm.refl _
 ·intro i a2 hinv
  obtain ⟨hi, ha2⟩ := hinv
  refine hw_reg ?_
  refine dp rfl (pop_lss rfl rfl) ?_
  refine dn ?_
  refine hw_seq ?_
  refine hw_cond rfl (fun h1 => ?_) (fun h2 => ?_)
  ·try simp at h1
   refine hw_skip ?_
   refine seqQ_n ?_
   refine hw_seq ?_
   refine hw_block ?_
   refine hw_reg ?_
   refine dp rfl (pop_move rfl) ?_
   refine de rfl (eop_callx (i := 0) ca5 rfl (WeakL.refl _) rfl (c_benchmake_Stream_Told (by first | assumption | omega | (simp; omega) | simp_all)) ?_)
   rintro _ _ ⟨p7, a7, rfl, hp7, ha7, rfl⟩
   refine dp rfl (pop_assign rfl) ?_
   refine dn ?_
   refine hw_reg ?_
   refine dp rfl (pop_move rfl) ?_
   refine dp rfl (pop_call ca9 rfl (WeakL.refl _) (c_benchref1_PlaysFault (Nat.le_trans hp7.len (by omega)) hp7.all)) ?_
   refine dp rfl (pop_eql rfl rfl) ?_
   refine dn ?_
   refine hw_cond rfl (fun h3 => ?_) (fun h4 => ?_)
   ·try simp at h3
    refine hw_reg ?_
    refine dp rfl (pop_move rfl) ?_
    refine dp rfl (pop_assign rfl) ?_
    refine dn ?_
    refine hw_ret ?_
    exact ret_q rfl ⟨p7, a7, rfl, ⟨hp7, by simpa using h3⟩, by omega, rfl⟩
   ·try simp at h4
    refine hw_skip ?_
    refine blockQ_n ?_
    refine seqQ_n ?_
    refine hw_reg1 ?_
    refine dp rfl (pop_add64 rfl rfl (by omega) (by omega)) ?_
    refine dp rfl (pop_move rfl) ?_
    refine dn ?_
    exact ⟨i + 1, a7, ⟨by omega, by omega⟩, by dsimp only; omega, ⟨rfl, trivial⟩, (by repeat (first | exact keeps_refl | refine keeps_upd rfl ?_ | refine keeps_loop rfl rfl ?_)), List.Perm.refl _⟩
  ·try simp at h2
   refine hw_exit ?_
   refine seqQ_x ?_
   refine loopQ2_x ?_
   refine blockQ_eq ?_
   refine seqQ_n ?_
   refine hw_reg ?_
   refine dp rfl (pop_assign rfl) ?_
   refine dn ?_
   refine hw_ret ?_
   exact ⟨_, _, Ghost.sub (Sub.refl _), _, .slice 9 [], rfl, weak_nil 9, [], a2, rfl, ⟨⟨by simp, by simp⟩, rfl⟩, by omega, rfl⟩

end Go.Proofs.YtlankmahpaenhaaGreatDoor
end
section
namespace Go.Proofs.YtlankmahpaenhaaGreatDoor
open Go.HL
set_option maxRecDepth 100000
set_option linter.unusedVariables false
set_option linter.unusedSimpArgs false
set_option maxHeartbeats 1000000 in
/-- benchwarmer/benchmake.halves[benchwarmer/api.Play] -/
theorem c_benchmake_halves_api_Play [Tracks] {b : Nat} {l : List Int} {a : Nat} {L : List Play} (ha : a ≤ 700000) (hL : L.length ≤ 100) : Con Tryz.prog 31 [pAt b, ePlays L] [St b l a] (fun x M' => ∃ u A B, x = .tup [ePlays A, .raw u] ∧ Half A B L ∧ M' = [St b l (a + L.length), .arr u 9 (B.map ePlay)]) := by
 refine Con.of_body Tryz.func31 rfl Tryz.ntmps31 rfl rfl ?_
 refine hw_reg ?_
 refine dp rfl (pop_assign rfl) ?_
 refine dp rfl (pop_assign rfl) ?_
 refine dn ?_
 refine hw_ghost (Ghost.arr_nil 9) ?_
 refine hw_ghost (Ghost.arr_nil 9) ?_
 refine hw_seq ?_
 refine hw_reg ?_
 refine dp rfl (pop_move rfl) ?_
 refine dp rfl (pop_lenm ty26 rfl) ?_
 refine dp rfl (pop_move rfl) ?_
 refine dn ?_
 refine hw_block ?_
 refine hw_loopw2 [4, 5, 7, 8, 11, 12, 13, 14, 15, 16, 17, 18, 19, 20, 21, 22, 23, 24, 25, 26, 27, 28, 29] (fun (k : Nat) (q : (Value × List Play) × (Value × List Play)) => [(11, .int .i64 k), (4, .raw q.1.1), (5, .raw q.2.1)]) (fun (k : Nat) (q : (Value × List Play) × (Value × List Play)) => [St b l (a + k), .arr q.1.1 9 (q.1.2.map ePlay), .arr q.2.1 9 (q.2.2.map ePlay)]) (fun (k : Nat) (q : (Value × List Play) × (Value × List Play)) => k ≤ L.length ∧ (Half q.1.2 q.2.2 (L.take k))) (fun (k : Nat) (q : (Value × List Play) × (Value × List Play)) => L.length - k) (0) (((.slice none 0 0, []), (.slice none 0 0, []))) ?_ ?_ ?_ ?_
 ·exact ⟨Nat.zero_le _, Half.nil⟩
 ·exact ⟨rfl, rfl, rfl, trivial⟩
 ·exact by exact (List.Perm.swap _ _ _).trans ((List.Perm.cons _ (List.Perm.swap _ _ _)).trans (List.Perm.swap _ _ _))
 ·intro k q hinv
  obtain ⟨hk, hh⟩ := hinv
  obtain ⟨⟨ua, A⟩, ⟨ub, B0⟩⟩ := q
  dsimp only at hh ⊢
  refine hw_reg ?_
  refine dp rfl (pop_lss rfl rfl) ?_
  refine dn ?_
  refine hw_seq ?_
  refine hw_cond rfl (fun h1 => ?_) (fun h2 => ?_)
  ·try simp at h1
   obtain ⟨x, hx⟩ : ∃ x, L[k]? = some x := ⟨_, List.getElem?_eq_getElem h1⟩
   have hdx := drop_cons hx
   refine hw_skip ?_
   refine seqQ_n ?_
   refine hw_seq ?_
   refine hw_block ?_
   refine hw_reg ?_
   refine dp rfl (pop_idx ty26 ty30 rfl rfl rfl (by first | assumption | simp_all)) ?_
   refine dp rfl (pop_loadw ty30 rfl rfl rfl rfl) ?_
   refine de rfl (eop_alloc ty30 rfl fun b7 => ?_)
   refine de0 (eop_storew ty30 rfl rfl rfl rfl rfl ?_)
   refine dn ?_
   refine hw_ghost (Ghost.fc0 7 rfl) ?_
   refine hw_reg ?_
   refine dp rfl (pop_move rfl) ?_
   first
   | refine de rfl (eop_callx (i := 0) ca29 rfl (WeakL.refl _) rfl (c_benchmake_Stream_Next (by first | assumption | omega | (simp; omega) | simp_all) (by first | assumption | omega | (simp; omega) | simp_all)) ?_)
   | refine de rfl (eop_callx (i := 1) ca29 rfl (WeakL.refl _) rfl (c_benchmake_Stream_Next (by first | assumption | omega | (simp; omega) | simp_all) (by first | assumption | omega | (simp; omega) | simp_all)) ?_)
   | refine de rfl (eop_callx (i := 2) ca29 rfl (WeakL.refl _) rfl (c_benchmake_Stream_Next (by first | assumption | omega | (simp; omega) | simp_all) (by first | assumption | omega | (simp; omega) | simp_all)) ?_)
   | refine de rfl (eop_callx (i := 3) ca29 rfl (WeakL.refl _) rfl (c_benchmake_Stream_Next (by first | assumption | omega | (simp; omega) | simp_all) (by first | assumption | omega | (simp; omega) | simp_all)) ?_)
   rintro _ _ ⟨y16, rfl, hy16, rfl⟩
   refine dp rfl (pop_assign rfl) ?_
   refine dn ?_
   refine hw_seq ?_
   refine hw_reg ?_
   refine dp rfl (pop_move rfl) ?_
   refine dp rfl (pop_neq rfl rfl) ?_
   refine dn ?_
   refine hw_cond rfl (fun h3 => ?_) (fun h4 => ?_)
   ·try simp at h3
    refine hw_reg1 ?_
    refine dp rfl (pop_move rfl) ?_
    refine dp rfl (pop_loadw ty30 rfl rfl rfl rfl) ?_
    refine dp rfl (pop_buildSlice (hs := [_]) ty26 ty30 rfl rfl (by decide) (by decide) rfl) ?_
    refine de rfl (eop_append (i := 1) ty26 ty30 rfl rfl rfl rfl rfl (by simp [flat, hcells]) (by have := hh.sa.length_le; have := hh.sb.length_le; simp only [List.length_map, List.length_cons, List.length_nil, List.length_take] at *; omega) fun v22 => ?_)
    refine dp rfl (pop_assign rfl) ?_
    refine dn ?_
    refine seqQ_n ?_
    refine hw_reg ?_
    refine dp rfl (pop_move rfl) ?_
    refine dp rfl (pop_neq rfl rfl) ?_
    refine dn ?_
    refine hw_cond rfl (fun h5 => ?_) (fun h6 => ?_)
    ·try simp at h5
     refine hw_reg1 ?_
     refine dp rfl (pop_move rfl) ?_
     refine dp rfl (pop_loadw ty30 rfl rfl rfl rfl) ?_
     refine dp rfl (pop_buildSlice (hs := [_]) ty26 ty30 rfl rfl (by decide) (by decide) rfl) ?_
     refine de rfl (eop_append (i := 2) ty26 ty30 rfl rfl rfl rfl rfl (by simp [flat, hcells]) (by have := hh.sa.length_le; have := hh.sb.length_le; simp only [List.length_map, List.length_cons, List.length_nil, List.length_take] at *; omega) fun v28 => ?_)
     refine dp rfl (pop_assign rfl) ?_
     refine dn ?_
     refine blockQ_n ?_
     refine seqQ_n ?_
     refine hw_reg1 ?_
     refine dp rfl (pop_add64 rfl rfl (by omega) (by omega)) ?_
     refine dp rfl (pop_move rfl) ?_
     refine dn ?_
     exact ⟨k + 1, ((v22, A ++ [x]), (v28, B0 ++ [x])), ⟨by omega, by rw [take_snoc' hx]; exact hh.both x⟩, by dsimp only; omega, ⟨rfl, rfl, rfl, trivial⟩, (by repeat (first | exact keeps_refl | refine keeps_upd rfl ?_ | refine keeps_loop rfl rfl ?_)), perm_eq (by dsimp only; simp only [List.map_append, List.map_cons, List.map_nil]; rfl)⟩
    ·try simp at h6
     refine hw_skip ?_
     refine blockQ_n ?_
     refine seqQ_n ?_
     refine hw_reg1 ?_
     refine dp rfl (pop_add64 rfl rfl (by omega) (by omega)) ?_
     refine dp rfl (pop_move rfl) ?_
     refine dn ?_
     exact ⟨k + 1, ((v22, A ++ [x]), (ub, B0)), ⟨by omega, by rw [take_snoc' hx]; exact hh.left x⟩, by dsimp only; omega, ⟨rfl, rfl, rfl, trivial⟩, (by repeat (first | exact keeps_refl | refine keeps_upd rfl ?_ | refine keeps_loop rfl rfl ?_)), perm_eq (by dsimp only; simp only [List.map_append, List.map_cons, List.map_nil]; rfl)⟩
   ·try simp at h4
    refine hw_skip ?_
    refine seqQ_n ?_
    refine hw_reg ?_
    refine dp rfl (pop_move rfl) ?_
    refine dp rfl (pop_neq rfl rfl) ?_
    refine dn ?_
    refine hw_cond rfl (fun h7 => ?_) (fun h8 => ?_)
    ·try simp at h7
     refine hw_reg1 ?_
     refine dp rfl (pop_move rfl) ?_
     refine dp rfl (pop_loadw ty30 rfl rfl rfl rfl) ?_
     refine dp rfl (pop_buildSlice (hs := [_]) ty26 ty30 rfl rfl (by decide) (by decide) rfl) ?_
     refine de rfl (eop_append (i := 2) ty26 ty30 rfl rfl rfl rfl rfl (by simp [flat, hcells]) (by have := hh.sa.length_le; have := hh.sb.length_le; simp only [List.length_map, List.length_cons, List.length_nil, List.length_take] at *; omega) fun v28 => ?_)
     refine dp rfl (pop_assign rfl) ?_
     refine dn ?_
     refine blockQ_n ?_
     refine seqQ_n ?_
     refine hw_reg1 ?_
     refine dp rfl (pop_add64 rfl rfl (by omega) (by omega)) ?_
     refine dp rfl (pop_move rfl) ?_
     refine dn ?_
     exact ⟨k + 1, ((ua, A), (v28, B0 ++ [x])), ⟨by omega, by rw [take_snoc' hx]; exact hh.right x⟩, by dsimp only; omega, ⟨rfl, rfl, rfl, trivial⟩, (by repeat (first | exact keeps_refl | refine keeps_upd rfl ?_ | refine keeps_loop rfl rfl ?_)), perm_eq (by dsimp only; simp only [List.map_append, List.map_cons, List.map_nil]; rfl)⟩
    ·try simp at h8
     refine hw_skip ?_
     refine blockQ_n ?_
     refine seqQ_n ?_
     refine hw_reg1 ?_
     refine dp rfl (pop_add64 rfl rfl (by omega) (by omega)) ?_
     refine dp rfl (pop_move rfl) ?_
     refine dn ?_
     exfalso
     omega
  ·try simp at h2
   have hnk : L.length ≤ k := by omega
   obtain rfl : k = L.length := by omega
   rw [List.take_length] at hh
   refine hw_exit ?_
   refine seqQ_x ?_
   refine loopQ2_x ?_
   refine blockQ_eq ?_
   refine seqQ_n ?_
   refine hw_reg ?_
   refine dp rfl (pop_move rfl) ?_
   refine dp rfl (pop_move rfl) ?_
   refine dp rfl (pop_assign rfl) ?_
   refine dp rfl (pop_assign rfl) ?_
   refine dn ?_
   refine hw_ret ?_
   exact ret_g (Ghost.fa 4 (i := 1) rfl rfl) rfl ⟨ub, A, B0, rfl, hh, rfl⟩

/-- (*benchwarmer/benchmake.Stream).HalfTold -/
theorem c_benchmake_Stream_HalfTold [Tracks] {b : Nat} {l : List Int} {a : Nat} {L : List Play} (ha : a ≤ 700000) (hL : L.length ≤ 100) : Con Tryz.prog 8 [pAt b, ePlays L] [St b l a] (fun x M' => ∃ u A B, x = .tup [ePlays A, .raw u] ∧ Half A B L ∧ M' = [St b l (a + L.length), .arr u 9 (B.map ePlay)]) := by
 refine Con.of_body Tryz.func8 rfl Tryz.ntmps8 rfl rfl ?_
 refine hw_reg ?_
 refine dp rfl (pop_assign rfl) ?_
 refine dp rfl (pop_assign rfl) ?_
 refine dn ?_
 refine hw_reg ?_
 refine dp rfl (pop_move rfl) ?_
 refine dp rfl (pop_move rfl) ?_
 refine de rfl (eop_callx (i := 0) ca31 rfl (WeakL.refl _) rfl (c_benchmake_halves_api_Play ha hL) ?_)
 rintro _ _ ⟨u8, A8, B8, rfl, hh8, rfl⟩
 refine dp rfl (pop_extract rfl rfl) ?_
 refine dp rfl (pop_extract rfl rfl) ?_
 refine dp rfl (pop_assign rfl) ?_
 refine dp rfl (pop_assign rfl) ?_
 refine dn ?_
 refine hw_ret ?_
 exact ret_q rfl ⟨u8, A8, B8, rfl, hh8, rfl⟩
end Go.Proofs.YtlankmahpaenhaaGreatDoor
end
section
namespace Go.HL
open Go.Proofs Go.Shelf
variable {P : Program}
end Go.HL
end
section
namespace Go.HL
end Go.HL
end
section
namespace Go.HL
section
variable {P : Program}
end
section
variable {P : Program} {e : Env} {dst : Option Tmp} {ty : TypeId} {pos : String} {af : Array Edge} {g : Option (Nat × Bool)}
end
end Go.HL
end
section
namespace Go.HL
section
variable {P : Program}
end
end Go.HL
end
section
namespace Go.Proofs.YtlankmahpaenhaaGreatDoor
open Go.HL
set_option maxRecDepth 100000
set_option linter.unusedVariables false
set_option linter.unusedSimpArgs false
/-- benchwarmer/play.byWeek -/
theorem c_play_byWeek [Tracks] {a b : LineS}  : ConP Tryz.prog 56 [eLine a, eLine b] (.int .i64 (byWk a b)) := by
 refine Con.of_body Tryz.func56 rfl Tryz.ntmps56 rfl rfl ?_
 refine hw_reg ?_
 refine dp rfl (pop_box rfl rfl) ?_
 refine dp rfl (pop_box rfl rfl) ?_
 refine dp rfl (pop_assign rfl) ?_
 refine dn ?_
 refine hw_draw (fun _ => True) [] mixed ?_
 refine ahp 0 rfl rfl (by kernel_rfl) (by kernel_rfl) (pop_fieldAddr ty55 rfl ty9 (by decide) rfl) ?_
 refine ahp 1 rfl rfl (by kernel_rfl) (by kernel_rfl) (pop_load ty9 rfl rfl rfl) ?_
 refine ahp 2 rfl rfl (by kernel_rfl) (by kernel_rfl) (pop_fieldAddr ty55 rfl ty9 (by decide) rfl) ?_
 refine ahp 3 rfl rfl (by kernel_rfl) (by kernel_rfl) (pop_load ty9 rfl rfl rfl) ?_
 refine ahp 4 rfl rfl (by kernel_rfl) (by kernel_rfl) (pop_call ca66 rfl (WeakL.refl _) c_strings_Compare) ?_
 refine ahp 5 rfl rfl (by kernel_rfl) (by kernel_rfl) (pop_fieldAddr ty55 rfl ty3 (by decide) rfl) ?_
 refine ahp 6 rfl rfl (by kernel_rfl) (by kernel_rfl) (pop_load ty3 rfl rfl rfl) ?_
 refine ahp 7 rfl rfl (by kernel_rfl) (by kernel_rfl) (pop_fieldAddr ty55 rfl ty3 (by decide) rfl) ?_
 refine ahp 8 rfl rfl (by kernel_rfl) (by kernel_rfl) (pop_load ty3 rfl rfl rfl) ?_
 refine ahp 9 rfl rfl (by kernel_rfl) (by kernel_rfl) (pop_call ca67 rfl (WeakL.refl _) c_cmp_Compare_int) ?_
 refine ahp 10 rfl rfl (by kernel_rfl) (by kernel_rfl) (pop_buildSlice (hs := [_, _]) ty22 ty3 rfl rfl (by decide) (by decide) rfl) ?_
 refine ahp 11 rfl rfl (by kernel_rfl) (by kernel_rfl) (pop_call ca65 rfl (WeakL.refl _) (c_cmp_Or_int (l := [_, _]) (by simp))) ?_
 refine ahp 12 rfl rfl (by kernel_rfl) (by kernel_rfl) (pop_assign rfl) ?_
 refine ahz (by kernel_rfl) ?_
 refine hw_ret ?_
 refine ret_p rfl ?_
 rfl

/-- benchwarmer/play.statsFault -/
theorem c_play_statsFault [Tracks] {l : List StatS} (hl : l.length ≤ 1000000) : ConP Tryz.prog 55 [eStats l] (.int .i64 (statsE l)) := by
 refine Con.of_body Tryz.func55 rfl Tryz.ntmps55 rfl rfl ?_
 refine hw_reg ?_
 refine dp rfl (pop_assign rfl) ?_
 refine dn ?_
 refine hw_seq ?_
 refine hw_reg ?_
 refine dp rfl (pop_move rfl) ?_
 refine dp rfl (pop_lenm ty53 rfl) ?_
 refine dp rfl (pop_gtr rfl rfl) ?_
 refine dn ?_
 refine hw_cond rfl (fun h1 => ?_) (fun h2 => ?_)
 ·try simp at h1
  refine hw_reg ?_
  refine dp rfl (pop_assign rfl) ?_
  refine dn ?_
  refine hw_ret ?_
  refine ret_p rfl ?_
  show HVal.int .i64 _ = _
  first
  | (rw [statsE, if_pos (by omega)]; done)
  | (rw [statsE, if_neg (by omega), hg]; rfl)
  | (refine congrArg _ (stats_bad (c := 5) (by omega) hg (by decide) ?_)
     rw [statFault, if_pos]
     simp_all
     done)
  | (refine congrArg _ (stats_bad (c := 1) (by omega) hg (by decide) ?_)
     rw [statFault, if_neg, if_pos]
     all_goals simp_all
     done)
  | (refine congrArg _ (stats_ord (by omega) hg ?_ ?_ ?_)
     ·rw [statFault, if_neg, if_neg] <;> simp_all
     ·simp_all
     ·simp_all)
 ·try simp at h2
  refine hw_skip ?_
  refine seqQ_n ?_
  refine hw_seq ?_
  refine hw_reg ?_
  refine dp rfl (pop_move rfl) ?_
  refine dp rfl (pop_lenm ty53 rfl) ?_
  refine dp rfl (pop_move rfl) ?_
  refine dn ?_
  refine hw_block ?_
  refine hw_loopw [2, 3, 4, 10, 11, 12, 13, 14, 15, 16, 17, 18, 19, 20, 21, 22, 23, 24, 25, 26, 27, 28, 29, 30, 31, 32, 33, 34, 35, 36, 37, 38, 39, 40, 41, 42, 43] (fun (k : Nat) => [(10, .int .i64 k)]) (fun (k : Nat) => []) (fun (k : Nat) => k ≤ l.length ∧ (chkGo statFault byNm stat0 l 0 l = chkGo statFault byNm stat0 l k (l.drop k))) (fun (k : Nat) => l.length - k) (0) ?_ ?_ ?_ ?_
  ·exact ⟨Nat.zero_le _, rfl⟩
  ·exact ⟨rfl, trivial⟩
  ·exact List.Perm.refl _
  ·intro k hinv
   obtain ⟨hk, hg⟩ := hinv
   refine hw_reg ?_
   refine dp rfl (pop_lss rfl rfl) ?_
   refine dn ?_
   refine hw_seq ?_
   refine hw_cond rfl (fun h3 => ?_) (fun h4 => ?_)
   ·try simp at h3
    obtain ⟨x, hx⟩ : ∃ x, l[k]? = some x := ⟨_, List.getElem?_eq_getElem h3⟩
    have hdx := drop_cons hx
    rw [hdx] at hg
    refine hw_skip ?_
    refine seqQ_n ?_
    refine hw_seq ?_
    refine hw_block ?_
    refine hw_reg ?_
    refine dp rfl (pop_move rfl) ?_
    refine dp rfl (pop_idx ty53 ty81 rfl rfl rfl (by first | assumption | simp_all)) ?_
    refine dp rfl (pop_loadw ty81 rfl rfl rfl rfl) ?_
    refine de rfl (eop_alloc ty81 rfl fun b4 => ?_)
    refine dp rfl (pop_assign rfl) ?_
    refine de0 (eop_storew ty81 rfl rfl rfl rfl rfl ?_)
    refine dn ?_
    refine hw_ghost (Ghost.fc0 4 rfl) ?_
    refine hw_block ?_
    refine hw_reg ?_
    refine dp rfl (pop_fieldAddr ty81 rfl ty9 (by decide) rfl) ?_
    refine dp rfl (pop_load ty9 rfl rfl rfl) ?_
    refine dp rfl (pop_call ca54 rfl (WeakL.refl _) c_base_Key) ?_
    refine dp rfl (pop_not rfl) ?_
    refine dp rfl (pop_assign rfl) ?_
    refine dn ?_
    refine hw_cond rfl (fun h5 => ?_) (fun h6 => ?_)
    ·try simp at h5
     refine hw_reg ?_
     refine dp rfl (pop_assign rfl) ?_
     refine dn ?_
     refine hw_ret ?_
     refine ret_p rfl ?_
     show HVal.int .i64 _ = _
     first
     | (rw [statsE, if_pos (by omega)]; done)
     | (rw [statsE, if_neg (by omega), hg]; rfl)
     | (refine congrArg _ (stats_bad (c := 5) (by omega) hg (by decide) ?_)
        rw [statFault, if_pos]
        simp_all
        done)
     | (refine congrArg _ (stats_bad (c := 1) (by omega) hg (by decide) ?_)
        rw [statFault, if_neg, if_pos]
        all_goals simp_all
        done)
     | (refine congrArg _ (stats_ord (by omega) hg ?_ ?_ ?_)
        ·rw [statFault, if_neg, if_neg] <;> simp_all
        ·simp_all
        ·simp_all)
    ·try simp at h6
     refine hw_reg ?_
     refine dp rfl (pop_fieldAddr ty81 rfl ty3 (by decide) rfl) ?_
     refine dp rfl (pop_load ty3 rfl rfl rfl) ?_
     refine dp rfl (pop_call ca68 rfl (WeakL.refl _) c_base_Out) ?_
     refine dp rfl (pop_move rfl) ?_
     refine dg rfl rfl (fun hc => ⟨_, OpenTo.refl _, pop_fieldAddr ty81 rfl ty3 (by decide) rfl⟩) ?_
     refine dg rfl rfl (fun hc => ⟨_, OpenTo.upd (t := 25) rfl (by first | exact hc | simp_all) (OpenTo.refl _), pop_load ty3 rfl rfl rfl⟩) ?_
     refine dg rfl rfl (fun hc => ⟨_, OpenTo.upd (t := 26) rfl (by first | exact hc | simp_all) (OpenTo.refl _), pop_eql rfl rfl⟩) ?_
     refine dp rfl (pop_picko rfl (.inl rfl) (.inr ⟨_, rfl, fun h => by simp_all⟩)) ?_
     refine dp rfl (pop_assign rfl) ?_
     refine dn ?_
     refine hw_cond rfl (fun h7 => ?_) (fun h8 => ?_)
     ·try simp at h7
      refine hw_reg ?_
      refine dp rfl (pop_assign rfl) ?_
      refine dn ?_
      refine hw_ret ?_
      refine ret_p rfl ?_
      show HVal.int .i64 _ = _
      first
      | (rw [statsE, if_pos (by omega)]; done)
      | (rw [statsE, if_neg (by omega), hg]; rfl)
      | (refine congrArg _ (stats_bad (c := 5) (by omega) hg (by decide) ?_)
         rw [statFault, if_pos]
         simp_all
         done)
      | (refine congrArg _ (stats_bad (c := 1) (by omega) hg (by decide) ?_)
         rw [statFault, if_neg, if_pos]
         all_goals simp_all
         done)
      | (refine congrArg _ (stats_ord (by omega) hg ?_ ?_ ?_)
         ·rw [statFault, if_neg, if_neg] <;> simp_all
         ·simp_all
         ·simp_all)
     ·try simp at h8
      refine hw_draw (fun _ => True) [] mixed ?_
      refine ahp 0 rfl rfl (by kernel_rfl) (by kernel_rfl) (pop_move rfl) ?_
      refine ahp 1 rfl rfl (by kernel_rfl) (by kernel_rfl) (pop_gtr rfl rfl) ?_
      refine ahp 2 rfl rfl (by kernel_rfl) (by kernel_rfl) (pop_move rfl) ?_
      refine ahg 3 rfl rfl (by kernel_rfl) (by kernel_rfl) rfl (fun hc => ⟨_, OpenTo.refl _, pop_fieldAddr ty81 rfl ty9 (by decide) rfl⟩) ?_
      refine ahg 4 rfl rfl (by kernel_rfl) (by kernel_rfl) rfl (fun hc => ⟨_, OpenTo.upd (t := 33) rfl (by first | exact hc | simp_all) (OpenTo.refl _), pop_load ty9 rfl rfl rfl⟩) ?_
      refine ahg 5 rfl rfl (by kernel_rfl) (by kernel_rfl) rfl (fun hc => ⟨_, OpenTo.refl _, pop_move rfl⟩) ?_
      refine ahg 6 rfl rfl (by kernel_rfl) (by kernel_rfl) rfl (fun hc => ⟨_, OpenTo.refl _, pop_move rfl⟩) ?_
      refine ahg 7 rfl rfl (by kernel_rfl) (by kernel_rfl) rfl (fun hc => by have hq := hc; (try simp at hq); exact ⟨_, OpenTo.upd (t := 36) rfl (by first | exact hc | simp_all) (OpenTo.refl _), pop_sub64 rfl rfl (by omega) (by omega)⟩) ?_
      refine ahg 8 rfl rfl (by kernel_rfl) (by kernel_rfl) rfl (fun hc => by have hq := hc; (try simp at hq); exact ⟨_, OpenTo.upd (t := 37) rfl (by first | exact hc | simp_all) (OpenTo.upd (t := 35) rfl (by first | exact hc | simp_all) (OpenTo.refl _)), pop_idx (j := k - 1) (a := l.getD (k - 1) stat0) ty53 ty81 rfl rfl (by omega) (getD_some (by omega))⟩) ?_
      refine ahg 9 rfl rfl (by kernel_rfl) (by kernel_rfl) rfl (fun hc => ⟨_, OpenTo.upd (t := 38) rfl (by first | exact hc | simp_all) (OpenTo.refl _), pop_fieldAddr ty81 rfl ty9 (by decide) rfl⟩) ?_
      refine ahg 10 rfl rfl (by kernel_rfl) (by kernel_rfl) rfl (fun hc => ⟨_, OpenTo.upd (t := 39) rfl (by first | exact hc | simp_all) (OpenTo.refl _), pop_load ty9 rfl rfl rfl⟩) ?_
      refine ahg 11 rfl rfl (by kernel_rfl) (by kernel_rfl) rfl (fun hc => ⟨_, OpenTo.upd (t := 40) rfl (by first | exact hc | simp_all) (OpenTo.upd (t := 34) rfl (by first | exact hc | simp_all) (OpenTo.refl _)), pop_leqs rfl rfl⟩) ?_
      refine ahp 12 rfl rfl (by kernel_rfl) (by kernel_rfl) (pop_picko rfl (.inr ⟨_, rfl, fun h => by simp_all⟩) (.inl rfl)) ?_
      refine ahp 13 rfl rfl (by kernel_rfl) (by kernel_rfl) (pop_assign rfl) ?_
      refine ahz (by kernel_rfl) ?_
      refine hw_cond rfl (fun h9 => ?_) (fun h10 => ?_)
      ·try simp at h9
       refine hw_reg ?_
       refine dp rfl (pop_assign rfl) ?_
       refine dn ?_
       refine hw_ret ?_
       refine ret_p rfl ?_
       show HVal.int .i64 _ = _
       first
       | (rw [statsE, if_pos (by omega)]; done)
       | (rw [statsE, if_neg (by omega), hg]; rfl)
       | (refine congrArg _ (stats_bad (c := 5) (by omega) hg (by decide) ?_)
          rw [statFault, if_pos]
          simp_all
          done)
       | (refine congrArg _ (stats_bad (c := 1) (by omega) hg (by decide) ?_)
          rw [statFault, if_neg, if_pos]
          all_goals simp_all
          done)
       | (refine congrArg _ (stats_ord (by omega) hg ?_ ?_ ?_)
          ·rw [statFault, if_neg, if_neg] <;> simp_all
          ·simp_all
          ·simp_all)
      ·try simp at h10
       refine hw_skip ?_
       refine blockQ_n ?_
       refine blockQ_n ?_
       refine seqQ_n ?_
       refine hw_reg1 ?_
       refine dp rfl (pop_add64 rfl rfl (by omega) (by omega)) ?_
       refine dp rfl (pop_move rfl) ?_
       refine dn ?_
       refine ⟨k + 1, ?_, ?_, ⟨rfl, trivial⟩, (by repeat (first | exact keeps_refl | refine keeps_upd rfl ?_ | refine keeps_loop rfl rfl ?_)), List.Perm.refl _⟩
       ·refine ⟨by omega, ?_⟩
        rw [hg, stats_next (by rw [statFault, if_neg (by simp_all), if_neg (by simp_all)]) (by intro hk0; simp_all)]
       ·dsimp only; omega
   ·try simp at h4
    have hnk : l.length ≤ k := by omega
    obtain rfl : k = l.length := by omega
    rw [drop_all (Nat.le_refl _)] at hg
    refine hw_exit ?_
    refine seqQ_x ?_
    refine loopQ_x ?_
    refine blockQ_eq ?_
    refine seqQ_n ?_
    refine hw_reg ?_
    refine dp rfl (pop_assign rfl) ?_
    refine dn ?_
    refine hw_ret ?_
    refine ret_p rfl ?_
    show HVal.int .i64 _ = _
    first
    | (rw [statsE, if_pos (by omega)]; done)
    | (rw [statsE, if_neg (by omega), hg]; rfl)
    | (refine congrArg _ (stats_bad (c := 5) (by omega) hg (by decide) ?_)
       rw [statFault, if_pos]
       simp_all
       done)
    | (refine congrArg _ (stats_bad (c := 1) (by omega) hg (by decide) ?_)
       rw [statFault, if_neg, if_pos]
       all_goals simp_all
       done)
    | (refine congrArg _ (stats_ord (by omega) hg ?_ ?_ ?_)
       ·rw [statFault, if_neg, if_neg] <;> simp_all
       ·simp_all
       ·simp_all)

/-- benchwarmer/play.CheckLines -/
theorem c_play_CheckLines [Tracks] {l : List LineS} (hl : l.length ≤ 1000000) (hL : ∀ x ∈ l, x.Stats.length ≤ 1000000) : ConP Tryz.prog 26 [eLines l] (.int .i64 (linesFE l)) := by
 refine Con.of_body Tryz.func26 rfl Tryz.ntmps26 rfl rfl ?_
 refine hw_reg ?_
 refine dp rfl (pop_assign rfl) ?_
 refine dn ?_
 refine hw_seq ?_
 refine hw_reg ?_
 refine dp rfl (pop_move rfl) ?_
 refine dp rfl (pop_lenm ty49 rfl) ?_
 refine dp rfl (pop_gtr rfl rfl) ?_
 refine dn ?_
 refine hw_cond rfl (fun h1 => ?_) (fun h2 => ?_)
 ·try simp at h1
  refine hw_reg ?_
  refine dp rfl (pop_assign rfl) ?_
  refine dn ?_
  refine hw_ret ?_
  refine ret_p rfl ?_
  show HVal.int .i64 _ = _
  first
  | (rw [linesFE, if_pos (by omega)]; done)
  | (rw [linesFE, if_neg (by omega), hg]; rfl)
  | (refine congrArg _ (lines_bad (c := 5) (by omega) hg (by decide) ?_)
     rw [lineFault, if_pos]
     simp_all
     done)
  | (refine congrArg _ (lines_bad (c := 1) (by omega) hg (by decide) ?_)
     rw [lineFault, if_neg, if_pos]
     all_goals simp_all
     done)
  | (refine congrArg _ (lines_bad (c := statsE x.Stats) (by omega) hg ?_ ?_)
     ·simp_all
     ·rw [lineFault, if_neg, if_neg] <;> simp_all)
  | (refine congrArg _ (lines_ord (by omega) hg ?_ ?_ ?_)
     ·rw [lineFault, if_neg, if_neg] <;> simp_all
     ·simp_all
     ·simp_all)
 ·try simp at h2
  refine hw_skip ?_
  refine seqQ_n ?_
  refine hw_seq ?_
  refine hw_reg ?_
  refine dp rfl (pop_move rfl) ?_
  refine dp rfl (pop_lenm ty49 rfl) ?_
  refine dp rfl (pop_move rfl) ?_
  refine dn ?_
  refine hw_block ?_
  refine hw_loopw [2, 3, 4, 5, 11, 12, 13, 14, 15, 16, 17, 18, 19, 20, 21, 22, 23, 24, 25, 26, 27, 28, 29, 30, 31, 32, 33, 34, 35, 36, 37, 38, 39, 40, 41, 42, 43, 44] (fun (k : Nat) => [(11, .int .i64 k)]) (fun (k : Nat) => []) (fun (k : Nat) => k ≤ l.length ∧ (chkGo lineFault byWk line0 l 0 l = chkGo lineFault byWk line0 l k (l.drop k))) (fun (k : Nat) => l.length - k) (0) ?_ ?_ ?_ ?_
  ·exact ⟨Nat.zero_le _, rfl⟩
  ·exact ⟨rfl, trivial⟩
  ·exact List.Perm.refl _
  ·intro k hinv
   obtain ⟨hk, hg⟩ := hinv
   refine hw_reg ?_
   refine dp rfl (pop_lss rfl rfl) ?_
   refine dn ?_
   refine hw_seq ?_
   refine hw_cond rfl (fun h3 => ?_) (fun h4 => ?_)
   ·try simp at h3
    obtain ⟨x, hx⟩ : ∃ x, l[k]? = some x := ⟨_, List.getElem?_eq_getElem h3⟩
    have hdx := drop_cons hx
    rw [hdx] at hg
    refine hw_skip ?_
    refine seqQ_n ?_
    refine hw_seq ?_
    refine hw_block ?_
    refine hw_reg ?_
    refine dp rfl (pop_move rfl) ?_
    refine dp rfl (pop_idx ty49 ty55 rfl rfl rfl (by first | assumption | simp_all)) ?_
    refine dp rfl (pop_loadw ty55 rfl rfl rfl rfl) ?_
    refine de rfl (eop_alloc ty55 rfl fun b4 => ?_)
    refine dp rfl (pop_assign rfl) ?_
    refine de0 (eop_storew ty55 rfl rfl rfl rfl rfl ?_)
    refine dn ?_
    refine hw_ghost (Ghost.fc0 4 rfl) ?_
    refine hw_seq ?_
    refine hw_block ?_
    refine hw_reg ?_
    refine dp rfl (pop_fieldAddr ty55 rfl ty9 (by decide) rfl) ?_
    refine dp rfl (pop_load ty9 rfl rfl rfl) ?_
    refine dp rfl (pop_call ca54 rfl (WeakL.refl _) c_base_Key) ?_
    refine dp rfl (pop_not rfl) ?_
    refine dp rfl (pop_assign rfl) ?_
    refine dn ?_
    refine hw_cond rfl (fun h5 => ?_) (fun h6 => ?_)
    ·try simp at h5
     refine hw_reg ?_
     refine dp rfl (pop_assign rfl) ?_
     refine dn ?_
     refine hw_ret ?_
     refine ret_p rfl ?_
     show HVal.int .i64 _ = _
     first
     | (rw [linesFE, if_pos (by omega)]; done)
     | (rw [linesFE, if_neg (by omega), hg]; rfl)
     | (refine congrArg _ (lines_bad (c := 5) (by omega) hg (by decide) ?_)
        rw [lineFault, if_pos]
        simp_all
        done)
     | (refine congrArg _ (lines_bad (c := 1) (by omega) hg (by decide) ?_)
        rw [lineFault, if_neg, if_pos]
        all_goals simp_all
        done)
     | (refine congrArg _ (lines_bad (c := statsE x.Stats) (by omega) hg ?_ ?_)
        ·simp_all
        ·rw [lineFault, if_neg, if_neg] <;> simp_all)
     | (refine congrArg _ (lines_ord (by omega) hg ?_ ?_ ?_)
        ·rw [lineFault, if_neg, if_neg] <;> simp_all
        ·simp_all
        ·simp_all)
    ·try simp at h6
     refine hw_reg ?_
     refine dp rfl (pop_fieldAddr ty55 rfl ty3 (by decide) rfl) ?_
     refine dp rfl (pop_load ty3 rfl rfl rfl) ?_
     refine dp rfl (pop_call ca49 rfl (WeakL.refl _) c_base_Week) ?_
     refine dp rfl (pop_not rfl) ?_
     refine dp rfl (pop_assign rfl) ?_
     refine dn ?_
     refine hw_cond rfl (fun h7 => ?_) (fun h8 => ?_)
     ·try simp at h7
      refine hw_reg ?_
      refine dp rfl (pop_assign rfl) ?_
      refine dn ?_
      refine hw_ret ?_
      refine ret_p rfl ?_
      show HVal.int .i64 _ = _
      first
      | (rw [linesFE, if_pos (by omega)]; done)
      | (rw [linesFE, if_neg (by omega), hg]; rfl)
      | (refine congrArg _ (lines_bad (c := 5) (by omega) hg (by decide) ?_)
         rw [lineFault, if_pos]
         simp_all
         done)
      | (refine congrArg _ (lines_bad (c := 1) (by omega) hg (by decide) ?_)
         rw [lineFault, if_neg, if_pos]
         all_goals simp_all
         done)
      | (refine congrArg _ (lines_bad (c := statsE x.Stats) (by omega) hg ?_ ?_)
         ·simp_all
         ·rw [lineFault, if_neg, if_neg] <;> simp_all)
      | (refine congrArg _ (lines_ord (by omega) hg ?_ ?_ ?_)
         ·rw [lineFault, if_neg, if_neg] <;> simp_all
         ·simp_all
         ·simp_all)
     ·try simp at h8
      refine hw_skip ?_
      refine blockQ_n ?_
      refine seqQ_n ?_
      refine hw_seq ?_
      refine hw_reg ?_
      refine dp rfl (pop_fieldAddr ty55 rfl ty53 (by decide) rfl) ?_
      refine dp rfl (pop_load ty53 rfl rfl rfl) ?_
      refine dp rfl (pop_call ca55 rfl (WeakL.refl _) (c_play_statsFault (l := x.Stats) (hL x (List.mem_of_getElem? hx)))) ?_
      refine dp rfl (pop_assign rfl) ?_
      refine dn ?_
      refine hw_reg ?_
      refine dp rfl (pop_move rfl) ?_
      refine dp rfl (pop_neq rfl rfl) ?_
      refine dn ?_
      refine hw_cond rfl (fun h9 => ?_) (fun h10 => ?_)
      ·try simp at h9
       refine hw_reg ?_
       refine dp rfl (pop_move rfl) ?_
       refine dp rfl (pop_assign rfl) ?_
       refine dn ?_
       refine hw_ret ?_
       refine ret_p rfl ?_
       show HVal.int .i64 _ = _
       first
       | (rw [linesFE, if_pos (by omega)]; done)
       | (rw [linesFE, if_neg (by omega), hg]; rfl)
       | (refine congrArg _ (lines_bad (c := 5) (by omega) hg (by decide) ?_)
          rw [lineFault, if_pos]
          simp_all
          done)
       | (refine congrArg _ (lines_bad (c := 1) (by omega) hg (by decide) ?_)
          rw [lineFault, if_neg, if_pos]
          all_goals simp_all
          done)
       | (refine congrArg _ (lines_bad (c := statsE x.Stats) (by omega) hg ?_ ?_)
          ·simp_all
          ·rw [lineFault, if_neg, if_neg] <;> simp_all)
       | (refine congrArg _ (lines_ord (by omega) hg ?_ ?_ ?_)
          ·rw [lineFault, if_neg, if_neg] <;> simp_all
          ·simp_all
          ·simp_all)
      ·try simp at h10
       refine hw_skip ?_
       refine seqQ_n ?_
       refine hw_draw (fun _ => True) [] mixed ?_
       refine ahp 0 rfl rfl (by kernel_rfl) (by kernel_rfl) (pop_move rfl) ?_
       refine ahp 1 rfl rfl (by kernel_rfl) (by kernel_rfl) (pop_gtr rfl rfl) ?_
       refine ahp 2 rfl rfl (by kernel_rfl) (by kernel_rfl) (pop_move rfl) ?_
       refine ahg 3 rfl rfl (by kernel_rfl) (by kernel_rfl) rfl (fun hc => ⟨_, OpenTo.refl _, pop_loadw ty55 rfl rfl rfl rfl⟩) ?_
       refine ahg 4 rfl rfl (by kernel_rfl) (by kernel_rfl) rfl (fun hc => ⟨_, OpenTo.refl _, pop_move rfl⟩) ?_
       refine ahg 5 rfl rfl (by kernel_rfl) (by kernel_rfl) rfl (fun hc => ⟨_, OpenTo.refl _, pop_move rfl⟩) ?_
       refine ahg 6 rfl rfl (by kernel_rfl) (by kernel_rfl) rfl (fun hc => by have hq := hc; (try simp at hq); exact ⟨_, OpenTo.upd (t := 37) rfl (by first | exact hc | simp_all) (OpenTo.refl _), pop_sub64 rfl rfl (by omega) (by omega)⟩) ?_
       refine ahg 7 rfl rfl (by kernel_rfl) (by kernel_rfl) rfl (fun hc => by have hq := hc; (try simp at hq); exact ⟨_, OpenTo.upd (t := 38) rfl (by first | exact hc | simp_all) (OpenTo.upd (t := 36) rfl (by first | exact hc | simp_all) (OpenTo.refl _)), pop_idx (j := k - 1) (a := l.getD (k - 1) line0) ty49 ty55 rfl rfl (by omega) (getD_some (by omega))⟩) ?_
       refine ahg 8 rfl rfl (by kernel_rfl) (by kernel_rfl) rfl (fun hc => ⟨_, OpenTo.upd (t := 39) rfl (by first | exact hc | simp_all) (OpenTo.refl _), pop_loadw ty55 rfl rfl rfl rfl⟩) ?_
       refine ahg 9 rfl rfl (by kernel_rfl) (by kernel_rfl) rfl (fun hc => ⟨_, OpenTo.upd (t := 40) rfl (by first | exact hc | simp_all) (OpenTo.upd (t := 35) rfl (by first | exact hc | simp_all) (OpenTo.refl _)), pop_call ca56 rfl (WeakL.refl _) c_play_byWeek⟩) ?_
       refine ahg 10 rfl rfl (by kernel_rfl) (by kernel_rfl) rfl (fun hc => ⟨_, OpenTo.upd (t := 41) rfl (by first | exact hc | simp_all) (OpenTo.refl _), pop_leq rfl rfl⟩) ?_
       refine ahp 11 rfl rfl (by kernel_rfl) (by kernel_rfl) (pop_picko rfl (.inr ⟨_, rfl, fun h => by simp_all⟩) (.inl rfl)) ?_
       refine ahz (by kernel_rfl) ?_
       refine hw_cond rfl (fun h11 => ?_) (fun h12 => ?_)
       ·try simp at h11
        refine hw_reg ?_
        refine dp rfl (pop_assign rfl) ?_
        refine dn ?_
        refine hw_ret ?_
        refine ret_p rfl ?_
        show HVal.int .i64 _ = _
        first
        | (rw [linesFE, if_pos (by omega)]; done)
        | (rw [linesFE, if_neg (by omega), hg]; rfl)
        | (refine congrArg _ (lines_bad (c := 5) (by omega) hg (by decide) ?_)
           rw [lineFault, if_pos]
           simp_all
           done)
        | (refine congrArg _ (lines_bad (c := 1) (by omega) hg (by decide) ?_)
           rw [lineFault, if_neg, if_pos]
           all_goals simp_all
           done)
        | (refine congrArg _ (lines_bad (c := statsE x.Stats) (by omega) hg ?_ ?_)
           ·simp_all
           ·rw [lineFault, if_neg, if_neg] <;> simp_all)
        | (refine congrArg _ (lines_ord (by omega) hg ?_ ?_ ?_)
           ·rw [lineFault, if_neg, if_neg] <;> simp_all
           ·simp_all
           ·simp_all)
       ·try simp at h12
        refine hw_skip ?_
        refine blockQ_n ?_
        refine seqQ_n ?_
        refine hw_reg1 ?_
        refine dp rfl (pop_add64 rfl rfl (by omega) (by omega)) ?_
        refine dp rfl (pop_move rfl) ?_
        refine dn ?_
        refine ⟨k + 1, ?_, ?_, ⟨rfl, trivial⟩, (by repeat (first | exact keeps_refl | refine keeps_upd rfl ?_ | refine keeps_loop rfl rfl ?_)), List.Perm.refl _⟩
        ·refine ⟨by omega, ?_⟩
         rw [hg, chkGo_ne (by rw [lineFault, if_neg (by simp_all), if_neg (by simp_all)]; simp_all) (by intro hk0; simp_all; try omega)]
        ·dsimp only; omega
   ·try simp at h4
    have hnk : l.length ≤ k := by omega
    obtain rfl : k = l.length := by omega
    rw [drop_all (Nat.le_refl _)] at hg
    refine hw_exit ?_
    refine seqQ_x ?_
    refine loopQ_x ?_
    refine blockQ_eq ?_
    refine seqQ_n ?_
    refine hw_reg ?_
    refine dp rfl (pop_assign rfl) ?_
    refine dn ?_
    refine hw_ret ?_
    refine ret_p rfl ?_
    show HVal.int .i64 _ = _
    first
    | (rw [linesFE, if_pos (by omega)]; done)
    | (rw [linesFE, if_neg (by omega), hg]; rfl)
    | (refine congrArg _ (lines_bad (c := 5) (by omega) hg (by decide) ?_)
       rw [lineFault, if_pos]
       simp_all
       done)
    | (refine congrArg _ (lines_bad (c := 1) (by omega) hg (by decide) ?_)
       rw [lineFault, if_neg, if_pos]
       all_goals simp_all
       done)
    | (refine congrArg _ (lines_bad (c := statsE x.Stats) (by omega) hg ?_ ?_)
       ·simp_all
       ·rw [lineFault, if_neg, if_neg] <;> simp_all)
    | (refine congrArg _ (lines_ord (by omega) hg ?_ ?_ ?_)
       ·rw [lineFault, if_neg, if_neg] <;> simp_all
       ·simp_all
       ·simp_all)
end Go.Proofs.YtlankmahpaenhaaGreatDoor
end
section
namespace Go.Proofs.YtlankmahpaenhaaGreatDoor
open Go.HL
set_option maxRecDepth 100000
set_option linter.unusedVariables false
set_option linter.unusedSimpArgs false

end Go.Proofs.YtlankmahpaenhaaGreatDoor
end
section
namespace Go.Proofs.YtlankmahpaenhaaGreatDoor
open Go.HL
set_option maxRecDepth 100000
set_option linter.unusedVariables false
set_option linter.unusedSimpArgs false

end Go.Proofs.YtlankmahpaenhaaGreatDoor
end
section
namespace Go.Proofs.YtlankmahpaenhaaGreatDoor
open Go.HL
set_option maxRecDepth 100000
set_option linter.unusedVariables false
set_option linter.unusedSimpArgs false

end Go.Proofs.YtlankmahpaenhaaGreatDoor
end
section
namespace Go.Proofs.YtlankmahpaenhaaGreatDoor
open Go.HL
set_option maxRecDepth 100000
set_option linter.unusedVariables false
set_option linter.unusedSimpArgs false

end Go.Proofs.YtlankmahpaenhaaGreatDoor
end
section
namespace Go.Proofs.YtlankmahpaenhaaGreatDoor
open Go.HL
set_option maxRecDepth 100000
set_option linter.unusedVariables false
set_option linter.unusedSimpArgs false

end Go.Proofs.YtlankmahpaenhaaGreatDoor
end
section
namespace Go.Proofs.YtlankmahpaenhaaGreatDoor
open Go.HL
set_option maxRecDepth 100000
set_option linter.unusedVariables false
set_option linter.unusedSimpArgs false

end Go.Proofs.YtlankmahpaenhaaGreatDoor
end
section
namespace Go.Proofs.YtlankmahpaenhaaGreatDoor
open Go.HL
set_option maxRecDepth 100000
set_option linter.unusedVariables false
set_option linter.unusedSimpArgs false

end Go.Proofs.YtlankmahpaenhaaGreatDoor
end
section
namespace Go.Proofs.YtlankmahpaenhaaGreatDoor
open Go.HL
set_option maxRecDepth 100000
set_option linter.unusedVariables false
set_option linter.unusedSimpArgs false
/-- slices.Equal[[]benchwarmer/api.Stat,benchwarmer/api.Stat] -/
theorem c_slices_Equal_api_Stat_api_Stat [Tracks] {l m : List StatS} (hl : l.length ≤ 1000000) : ConP Tryz.prog 53 [eStats l, eStats m] (.bool (eqSts eStat l m)) := by
 refine Con.of_body Tryz.func53 rfl Tryz.ntmps53 rfl rfl ?_
 refine hw_reg ?_
 refine dp rfl (pop_assign rfl) ?_
 refine dn ?_
 refine hw_seq ?_
 refine hw_reg ?_
 refine dp rfl (pop_move rfl) ?_
 refine dp rfl (pop_lenm ty53 rfl) ?_
 refine dp rfl (pop_move rfl) ?_
 refine dp rfl (pop_lenm ty53 rfl) ?_
 refine dp rfl (pop_neq rfl rfl) ?_
 refine dn ?_
 refine hw_cond rfl (fun h1 => ?_) (fun h2 => ?_)
 ·try simp at h1
  refine hw_reg ?_
  refine dp rfl (pop_assign rfl) ?_
  refine dn ?_
  refine hw_ret ?_
  refine ret_p rfl ?_
  show HVal.bool _ = _
  (congr 1; symm; exact eqSts_len (by omega))
 ·try simp at h2
  refine hw_skip ?_
  refine seqQ_n ?_
  refine hw_seq ?_
  refine hw_reg ?_
  refine dp rfl (pop_move rfl) ?_
  refine dp rfl (pop_lenm ty53 rfl) ?_
  refine dp rfl (pop_move rfl) ?_
  refine dn ?_
  refine hw_block ?_
  refine hw_loopw [4, 5, 13, 14, 15, 16, 17, 18, 19, 20, 21, 22, 23, 24, 25] (fun (k : Nat) => [(13, .int .i64 k)]) (fun (k : Nat) => []) (fun (k : Nat) => k ≤ l.length ∧ (l.length = m.length ∧ eqSts eStat l m = eqSts eStat (l.drop k) (m.drop k))) (fun (k : Nat) => l.length - k) (0) ?_ ?_ ?_ ?_
  ·refine ⟨Nat.zero_le _, ?_, rfl⟩
   omega
  ·exact ⟨rfl, trivial⟩
  ·exact List.Perm.refl _
  ·intro k hinv
   obtain ⟨hk, hg⟩ := hinv
   refine hw_reg ?_
   refine dp rfl (pop_lss rfl rfl) ?_
   refine dn ?_
   refine hw_seq ?_
   refine hw_cond rfl (fun h3 => ?_) (fun h4 => ?_)
   ·try simp at h3
    obtain ⟨x, hx⟩ : ∃ x, l[k]? = some x := ⟨_, List.getElem?_eq_getElem h3⟩
    have hdx := drop_cons hx
    obtain ⟨y, hy⟩ : ∃ y, m[k]? = some y := ⟨_, List.getElem?_eq_getElem (by omega)⟩
    rw [hdx, drop_cons hy] at hg
    refine hw_skip ?_
    refine seqQ_n ?_
    refine hw_seq ?_
    refine hw_block ?_
    refine hw_reg ?_
    refine dp rfl (pop_move rfl) ?_
    refine dp rfl (pop_assign rfl) ?_
    refine dn ?_
    refine hw_draw (fun _ => True) [] mixed ?_
    refine ahp 0 rfl rfl (by kernel_rfl) (by kernel_rfl) (pop_move rfl) ?_
    refine ahp 1 rfl rfl (by kernel_rfl) (by kernel_rfl) (pop_move rfl) ?_
    refine ahp 2 rfl rfl (by kernel_rfl) (by kernel_rfl) (pop_idx ty53 ty81 rfl rfl rfl (by assumption)) ?_
    refine ahp 3 rfl rfl (by kernel_rfl) (by kernel_rfl) (pop_loadw ty81 rfl rfl rfl rfl) ?_
    refine ahp 4 rfl rfl (by kernel_rfl) (by kernel_rfl) (pop_move rfl) ?_
    refine ahp 5 rfl rfl (by kernel_rfl) (by kernel_rfl) (pop_move rfl) ?_
    refine ahp 6 rfl rfl (by kernel_rfl) (by kernel_rfl) (pop_idx ty53 ty81 rfl rfl rfl (by assumption)) ?_
    refine ahp 7 rfl rfl (by kernel_rfl) (by kernel_rfl) (pop_loadw ty81 rfl rfl rfl rfl) ?_
    refine ahp 8 rfl rfl (by kernel_rfl) (by kernel_rfl) (pop_neqst ty81 eq81 rfl rfl ⟨rfl, ⟨_, _, _, _, ty9, rfl⟩, ⟨rfl, ⟨_, _, _, _, ty3, rfl⟩, trivial⟩⟩) ?_
    refine ahz (by kernel_rfl) ?_
    refine hw_cond rfl (fun h5 => ?_) (fun h6 => ?_)
    ·try simp at h5
     refine hw_reg ?_
     refine dp rfl (pop_assign rfl) ?_
     refine dn ?_
     refine hw_ret ?_
     refine ret_p rfl ?_
     show HVal.bool _ = _
     (rw [hg.2, eqSts, show eqSt eStat x y = false from h5]; rfl)
    ·try simp at h6
     refine hw_skip ?_
     refine blockQ_n ?_
     refine seqQ_n ?_
     refine hw_reg1 ?_
     refine dp rfl (pop_add64 rfl rfl (by omega) (by omega)) ?_
     refine dp rfl (pop_move rfl) ?_
     refine dn ?_
     refine ⟨k + 1, ?_, ?_, ⟨rfl, trivial⟩, (by repeat (first | exact keeps_refl | refine keeps_upd rfl ?_ | refine keeps_loop rfl rfl ?_)), List.Perm.refl _⟩
     ·refine ⟨by omega, hg.1, ?_⟩
      rw [hg.2, eqSts, show eqSt eStat x y = true from h6]; rfl
     ·dsimp only; omega
   ·try simp at h4
    have hnk : l.length ≤ k := by omega
    obtain rfl : k = l.length := by omega
    rw [drop_all (Nat.le_refl _)] at hg
    refine hw_exit ?_
    refine seqQ_x ?_
    refine loopQ_x ?_
    refine blockQ_eq ?_
    refine seqQ_n ?_
    refine hw_reg ?_
    refine dp rfl (pop_assign rfl) ?_
    refine dn ?_
    refine hw_ret ?_
    refine ret_p rfl ?_
    show HVal.bool _ = _
    (rw [hg.2, drop_all (Nat.le_of_eq hg.1.symm)]; rfl)

/-- benchwarmer/benchref1.byLine -/
theorem c_benchref1_byLine [Tracks] {a b : LineS}  : ConP Tryz.prog 52 [eLine a, eLine b] (.int .i64 (byLn a b)) := by
 refine Con.of_body Tryz.func52 rfl Tryz.ntmps52 rfl rfl ?_
 refine hw_reg ?_
 refine dp rfl (pop_box rfl rfl) ?_
 refine dp rfl (pop_box rfl rfl) ?_
 refine dp rfl (pop_assign rfl) ?_
 refine dn ?_
 refine hw_draw (fun _ => True) [] mixed ?_
 refine ahp 0 rfl rfl (by kernel_rfl) (by kernel_rfl) (pop_fieldAddr ty55 rfl ty9 (by decide) rfl) ?_
 refine ahp 1 rfl rfl (by kernel_rfl) (by kernel_rfl) (pop_load ty9 rfl rfl rfl) ?_
 refine ahp 2 rfl rfl (by kernel_rfl) (by kernel_rfl) (pop_fieldAddr ty55 rfl ty9 (by decide) rfl) ?_
 refine ahp 3 rfl rfl (by kernel_rfl) (by kernel_rfl) (pop_load ty9 rfl rfl rfl) ?_
 refine ahp 4 rfl rfl (by kernel_rfl) (by kernel_rfl) (pop_call ca66 rfl (WeakL.refl _) c_strings_Compare) ?_
 refine ahp 5 rfl rfl (by kernel_rfl) (by kernel_rfl) (pop_fieldAddr ty55 rfl ty3 (by decide) rfl) ?_
 refine ahp 6 rfl rfl (by kernel_rfl) (by kernel_rfl) (pop_load ty3 rfl rfl rfl) ?_
 refine ahp 7 rfl rfl (by kernel_rfl) (by kernel_rfl) (pop_fieldAddr ty55 rfl ty3 (by decide) rfl) ?_
 refine ahp 8 rfl rfl (by kernel_rfl) (by kernel_rfl) (pop_load ty3 rfl rfl rfl) ?_
 refine ahp 9 rfl rfl (by kernel_rfl) (by kernel_rfl) (pop_call ca67 rfl (WeakL.refl _) c_cmp_Compare_int) ?_
 refine ahp 10 rfl rfl (by kernel_rfl) (by kernel_rfl) (pop_buildSlice (hs := [_, _]) ty22 ty3 rfl rfl (by decide) (by decide) rfl) ?_
 refine ahp 11 rfl rfl (by kernel_rfl) (by kernel_rfl) (pop_call ca65 rfl (WeakL.refl _) (c_cmp_Or_int (l := [_, _]) (by simp))) ?_
 refine ahp 12 rfl rfl (by kernel_rfl) (by kernel_rfl) (pop_assign rfl) ?_
 refine ahz (by kernel_rfl) ?_
 refine hw_ret ?_
 refine ret_p rfl ?_
 rfl

/-- benchwarmer/benchref1.SameLine -/
theorem c_benchref1_SameLine [Tracks] {x : LineS} (hs : x.Stats.length ≤ 1000000) : ConP Tryz.prog 25 [eLine x, eLine x] (.bool true) := by
 refine Con.of_body Tryz.func25 rfl Tryz.ntmps25 rfl rfl ?_
 refine hw_reg ?_
 refine dp rfl (pop_box rfl rfl) ?_
 refine dp rfl (pop_box rfl rfl) ?_
 refine dp rfl (pop_assign rfl) ?_
 refine dn ?_
 refine hw_reg ?_
 refine dp rfl (pop_loadw ty55 rfl rfl rfl rfl) ?_
 refine dp rfl (pop_loadw ty55 rfl rfl rfl rfl) ?_
 refine dp rfl (pop_call ca52 rfl (WeakL.refl _) c_benchref1_byLine) ?_
 refine dp rfl (pop_eql rfl rfl) ?_
 refine dp rfl (pop_move rfl) ?_
 refine dg rfl rfl (fun hc => ⟨_, OpenTo.refl _, pop_fieldAddr ty55 rfl ty53 (by decide) rfl⟩) ?_
 refine dg rfl rfl (fun hc => ⟨_, OpenTo.upd (t := 10) rfl (hc) (OpenTo.refl _), pop_load ty53 rfl rfl rfl⟩) ?_
 refine dg rfl rfl (fun hc => ⟨_, OpenTo.refl _, pop_fieldAddr ty55 rfl ty53 (by decide) rfl⟩) ?_
 refine dg rfl rfl (fun hc => ⟨_, OpenTo.upd (t := 12) rfl (hc) (OpenTo.refl _), pop_load ty53 rfl rfl rfl⟩) ?_
 refine dg rfl rfl (fun hc => ⟨_, OpenTo.upd (t := 13) rfl (hc) (OpenTo.upd (t := 11) rfl (hc) (OpenTo.refl _)), pop_call ca53 rfl (WeakL.refl _) (c_slices_Equal_api_Stat_api_Stat (l := x.Stats) (m := x.Stats) hs)⟩) ?_
 refine dp rfl (pop_picko rfl (.inr ⟨_, rfl, fun h => by simp_all⟩) (.inl rfl)) ?_
 refine dp rfl (pop_assign rfl) ?_
 refine dn ?_
 refine hw_ret ?_
 refine ret_p rfl ?_
 show HVal.bool _ = _
 simp [byLn_refl, eqStats_refl]

/-- slices.EqualFunc[[]benchwarmer/api.Line,[]benchwarmer/api.Line,benchwarmer/api.Line,benchwarmer/api.Line] -/
theorem c_EqualFunc_Line [Tracks] {l : List LineS} (hl : l.length ≤ 1000000) (hs : ∀ y ∈ l, y.Stats.length ≤ 1000000) : ConP Tryz.prog 24 [eLines l, eLines l, .fn (.func 25) [] []] (.bool true) := by
 refine Con.of_body Tryz.func24 rfl Tryz.ntmps24 rfl rfl ?_
 refine hw_reg ?_
 refine dp rfl (pop_assign rfl) ?_
 refine dn ?_
 refine hw_seq ?_
 refine hw_reg ?_
 refine dp rfl (pop_move rfl) ?_
 refine dp rfl (pop_lenm ty49 rfl) ?_
 refine dp rfl (pop_move rfl) ?_
 refine dp rfl (pop_lenm ty49 rfl) ?_
 refine dp rfl (pop_neq rfl rfl) ?_
 refine dn ?_
 refine hw_cond rfl (fun h1 => ?_) (fun h1 => ?_)
 ·exfalso
  try simp at h1
  done
 ·try simp at h1
  refine hw_skip ?_
  refine seqQ_n ?_
  refine hw_seq ?_
  refine hw_reg ?_
  refine dp rfl (pop_move rfl) ?_
  refine dp rfl (pop_lenm ty49 rfl) ?_
  refine dp rfl (pop_move rfl) ?_
  refine dn ?_
  refine hw_block ?_
  refine hw_loopw [6, 7, 8, 9, 17, 18, 19, 20, 21, 22, 23, 24, 25, 26, 27, 28, 29, 30, 31] (fun (k : Nat) => [(17, .int .i64 k)]) (fun (k : Nat) => []) (fun (k : Nat) => k ≤ l.length ∧ (True)) (fun (k : Nat) => l.length - k) (0) ?_ ?_ ?_ ?_
  ·exact ⟨Nat.zero_le _, trivial⟩
  ·exact ⟨rfl, trivial⟩
  ·exact List.Perm.refl _
  ·intro k hinv
   obtain ⟨hk, -⟩ := hinv
   refine hw_reg ?_
   refine dp rfl (pop_lss rfl rfl) ?_
   refine dn ?_
   refine hw_seq ?_
   refine hw_cond rfl (fun h2 => ?_) (fun h3 => ?_)
   ·try simp at h2
    obtain ⟨x, hx⟩ : ∃ x, l[k]? = some x := ⟨_, List.getElem?_eq_getElem h2⟩
    have hdx := drop_cons hx
    refine hw_skip ?_
    refine seqQ_n ?_
    refine hw_seq ?_
    refine hw_block ?_
    refine hw_reg ?_
    refine dp rfl (pop_move rfl) ?_
    refine dp rfl (pop_idx ty49 ty55 rfl rfl rfl (by assumption)) ?_
    refine dp rfl (pop_loadw ty55 rfl rfl rfl rfl) ?_
    refine de rfl (eop_alloc ty55 rfl fun b8 => ?_)
    refine dp rfl (pop_assign rfl) ?_
    refine de0 (eop_storew ty55 rfl rfl rfl rfl rfl ?_)
    refine dn ?_
    refine hw_ghost (Ghost.fc0 8 rfl) ?_
    refine hw_reg ?_
    refine dp rfl (pop_move rfl) ?_
    refine dp rfl (pop_move rfl) ?_
    refine dp rfl (pop_idx (j := k) (a := x) ty49 ty55 rfl rfl rfl hx) ?_
    refine dp rfl (pop_loadw ty55 rfl rfl rfl rfl) ?_
    refine de rfl (eop_alloc ty55 rfl fun b9 => ?_)
    refine de0 (eop_storew ty55 rfl rfl rfl rfl rfl ?_)
    refine dn ?_
    refine hw_ghost (Ghost.fc0 9 rfl) ?_
    refine hw_reg ?_
    refine dp rfl (pop_move rfl) ?_
    refine dp rfl (pop_loadw ty55 rfl rfl rfl rfl) ?_
    refine dp rfl (pop_loadw ty55 rfl rfl rfl rfl) ?_
    refine dp rfl (pop_callv ca25 rfl rfl (WeakL.refl _) (c_benchref1_SameLine (hs x (List.mem_of_getElem? hx)))) ?_
    refine dp rfl (pop_not rfl) ?_
    refine dn ?_
    refine hw_cond rfl (fun h4 => ?_) (fun h4 => ?_)
    ·exfalso
     try simp at h4
     done
    ·try simp at h4
     refine hw_skip ?_
     refine blockQ_n ?_
     refine seqQ_n ?_
     refine hw_reg1 ?_
     refine dp rfl (pop_add64 rfl rfl (by omega) (by omega)) ?_
     refine dp rfl (pop_move rfl) ?_
     refine dn ?_
     refine ⟨k + 1, ?_, ?_, ⟨rfl, trivial⟩, (by repeat (first | exact keeps_refl | refine keeps_upd rfl ?_ | refine keeps_loop rfl rfl ?_)), List.Perm.refl _⟩
     ·exact ⟨by omega, trivial⟩
     ·dsimp only; omega
   ·try simp at h3
    have hnk : l.length ≤ k := by omega
    obtain rfl : k = l.length := by omega
    refine hw_exit ?_
    refine seqQ_x ?_
    refine loopQ_x ?_
    refine blockQ_eq ?_
    refine seqQ_n ?_
    refine hw_reg ?_
    refine dp rfl (pop_assign rfl) ?_
    refine dn ?_
    refine hw_ret ?_
    refine ret_p rfl ?_
    rfl
end Go.Proofs.YtlankmahpaenhaaGreatDoor
end
section
namespace Go.Proofs.YtlankmahpaenhaaGreatDoor
open Go.HL
set_option maxRecDepth 100000
set_option linter.unusedVariables false
set_option linter.unusedSimpArgs false
/-- slices.Equal[[]benchwarmer/api.Play,benchwarmer/api.Play] -/
theorem c_slices_Equal_api_Play_api_Play [Tracks] {l m : List Play} (hl : l.length ≤ 1000000) : ConP Tryz.prog 16 [ePlays l, ePlays m] (.bool (eqSts ePlay l m)) := by
 refine Con.of_body Tryz.func16 rfl Tryz.ntmps16 rfl rfl ?_
 refine hw_reg ?_
 refine dp rfl (pop_assign rfl) ?_
 refine dn ?_
 refine hw_seq ?_
 refine hw_reg ?_
 refine dp rfl (pop_move rfl) ?_
 refine dp rfl (pop_lenm ty26 rfl) ?_
 refine dp rfl (pop_move rfl) ?_
 refine dp rfl (pop_lenm ty26 rfl) ?_
 refine dp rfl (pop_neq rfl rfl) ?_
 refine dn ?_
 refine hw_cond rfl (fun h1 => ?_) (fun h2 => ?_)
 ·try simp at h1
  refine hw_reg ?_
  refine dp rfl (pop_assign rfl) ?_
  refine dn ?_
  refine hw_ret ?_
  refine ret_p rfl ?_
  show HVal.bool _ = _
  first | (congr 1; symm; exact eqSts_len (by omega)) | (rw [hg.2, eqSts, show eqSt ePlay x y = false from h5]; rfl) | (rw [hg.2, drop_all (Nat.le_of_eq hg.1.symm)]; rfl)
 ·try simp at h2
  refine hw_skip ?_
  refine seqQ_n ?_
  refine hw_seq ?_
  refine hw_reg ?_
  refine dp rfl (pop_move rfl) ?_
  refine dp rfl (pop_lenm ty26 rfl) ?_
  refine dp rfl (pop_move rfl) ?_
  refine dn ?_
  refine hw_block ?_
  refine hw_loopw [4, 5, 13, 14, 15, 16, 17, 18, 19, 20, 21, 22, 23, 24, 25] (fun (k : Nat) => [(13, .int .i64 k)]) (fun (k : Nat) => []) (fun (k : Nat) => k ≤ l.length ∧ (l.length = m.length ∧ eqSts ePlay l m = eqSts ePlay (l.drop k) (m.drop k))) (fun (k : Nat) => l.length - k) (0) ?_ ?_ ?_ ?_
  ·refine ⟨Nat.zero_le _, ?_, rfl⟩
   omega
  ·exact ⟨rfl, trivial⟩
  ·exact List.Perm.refl _
  ·intro k hinv
   obtain ⟨hk, hg⟩ := hinv
   refine hw_reg ?_
   refine dp rfl (pop_lss rfl rfl) ?_
   refine dn ?_
   refine hw_seq ?_
   refine hw_cond rfl (fun h3 => ?_) (fun h4 => ?_)
   ·try simp at h3
    obtain ⟨x, hx⟩ : ∃ x, l[k]? = some x := ⟨_, List.getElem?_eq_getElem h3⟩
    have hdx := drop_cons hx
    obtain ⟨y, hy⟩ : ∃ y, m[k]? = some y := ⟨_, List.getElem?_eq_getElem (by omega)⟩
    rw [hdx, drop_cons hy] at hg
    refine hw_skip ?_
    refine seqQ_n ?_
    refine hw_seq ?_
    refine hw_block ?_
    refine hw_reg ?_
    refine dp rfl (pop_move rfl) ?_
    refine dp rfl (pop_assign rfl) ?_
    refine dn ?_
    refine hw_draw (fun _ => True) [] mixed ?_
    refine ahp 0 rfl rfl (by kernel_rfl) (by kernel_rfl) (pop_move rfl) ?_
    refine ahp 1 rfl rfl (by kernel_rfl) (by kernel_rfl) (pop_move rfl) ?_
    refine ahp 2 rfl rfl (by kernel_rfl) (by kernel_rfl) (pop_idx ty26 ty30 rfl rfl rfl (by first | assumption | simp_all)) ?_
    refine ahp 3 rfl rfl (by kernel_rfl) (by kernel_rfl) (pop_loadw ty30 rfl rfl rfl rfl) ?_
    refine ahp 4 rfl rfl (by kernel_rfl) (by kernel_rfl) (pop_move rfl) ?_
    refine ahp 5 rfl rfl (by kernel_rfl) (by kernel_rfl) (pop_move rfl) ?_
    refine ahp 6 rfl rfl (by kernel_rfl) (by kernel_rfl) (pop_idx ty26 ty30 rfl rfl rfl (by first | assumption | simp_all)) ?_
    refine ahp 7 rfl rfl (by kernel_rfl) (by kernel_rfl) (pop_loadw ty30 rfl rfl rfl rfl) ?_
    refine ahp 8 rfl rfl (by kernel_rfl) (by kernel_rfl) (pop_neqst ty30 eq30 rfl rfl ⟨rfl, ⟨_, _, _, _, ty9, rfl⟩, ⟨rfl, ⟨_, _, _, _, ty3, rfl⟩, ⟨rfl, ⟨_, _, _, _, ty3, rfl⟩, ⟨rfl, ⟨_, _, _, _, ty3, rfl⟩, ⟨rfl, ⟨_, _, _, _, ty9, rfl⟩, ⟨rfl, ⟨_, _, _, _, ty9, rfl⟩, ⟨rfl, ⟨_, _, _, _, ty9, rfl⟩, ⟨rfl, ⟨_, _, _, _, ty3, rfl⟩, ⟨rfl, ⟨_, _, _, _, ty3, rfl⟩, trivial⟩⟩⟩⟩⟩⟩⟩⟩⟩) ?_
    refine ahz (by kernel_rfl) ?_
    refine hw_cond rfl (fun h5 => ?_) (fun h6 => ?_)
    ·try simp at h5
     refine hw_reg ?_
     refine dp rfl (pop_assign rfl) ?_
     refine dn ?_
     refine hw_ret ?_
     refine ret_p rfl ?_
     show HVal.bool _ = _
     first | (congr 1; symm; exact eqSts_len (by omega)) | (rw [hg.2, eqSts, show eqSt ePlay x y = false from h5]; rfl) | (rw [hg.2, drop_all (Nat.le_of_eq hg.1.symm)]; rfl)
    ·try simp at h6
     refine hw_skip ?_
     refine blockQ_n ?_
     refine seqQ_n ?_
     refine hw_reg1 ?_
     refine dp rfl (pop_add64 rfl rfl (by omega) (by omega)) ?_
     refine dp rfl (pop_move rfl) ?_
     refine dn ?_
     refine ⟨k + 1, ?_, ?_, ⟨rfl, trivial⟩, (by repeat (first | exact keeps_refl | refine keeps_upd rfl ?_ | refine keeps_loop rfl rfl ?_)), List.Perm.refl _⟩
     ·refine ⟨by omega, hg.1, ?_⟩
      rw [hg.2, eqSts, show eqSt ePlay x y = true from h6]; rfl
     ·dsimp only; omega
   ·try simp at h4
    have hnk : l.length ≤ k := by omega
    obtain rfl : k = l.length := by omega
    rw [drop_all (Nat.le_refl _)] at hg
    refine hw_exit ?_
    refine seqQ_x ?_
    refine loopQ_x ?_
    refine blockQ_eq ?_
    refine seqQ_n ?_
    refine hw_reg ?_
    refine dp rfl (pop_assign rfl) ?_
    refine dn ?_
    refine hw_ret ?_
    refine ret_p rfl ?_
    show HVal.bool _ = _
    first | (congr 1; symm; exact eqSts_len (by omega)) | (rw [hg.2, eqSts, show eqSt ePlay x y = false from h5]; rfl) | (rw [hg.2, drop_all (Nat.le_of_eq hg.1.symm)]; rfl)

set_option maxHeartbeats 2000000 in
/-- benchwarmer/benchkeep1.FeedsAreOne -/
theorem c_benchkeep1_FeedsAreOne [Tracks] {l : List Int} (hT : Tracks.on = false) : ConP Tryz.prog 4 [.slice 1 (l.map (.int .i64))] (.bool true) := by
 refine Con.of_body Tryz.func4 rfl Tryz.ntmps4 rfl rfl ?_
 refine hw_reg ?_
 refine dp rfl (pop_assign rfl) ?_
 refine dn ?_
 refine hw_reg ?_
 refine dp rfl (pop_move rfl) ?_
 refine dp rfl (pop_build (cs := [_, _]) ty25 pl25 rfl) ?_
 refine de rfl (eop_box rfl rfl fun b => ?_)
 refine dghost (M' := [St b l 0]) rfl ?_
 refine dp rfl (pop_assign rfl) ?_
 refine dn ?_
 refine hw_reg ?_
 refine dp rfl (pop_move rfl) ?_
 first
 | refine de rfl (eop_callx (i := 0) ca21 rfl (WeakL.refl _) rfl (c_benchmake_Stream_RightTold (by first | assumption | omega | (simp; omega) | simp_all)) ?_)
 | refine de rfl (eop_callx (i := 1) ca21 rfl (WeakL.refl _) rfl (c_benchmake_Stream_RightTold (by first | assumption | omega | (simp; omega) | simp_all)) ?_)
 | refine de rfl (eop_callx (i := 2) ca21 rfl (WeakL.refl _) rfl (c_benchmake_Stream_RightTold (by first | assumption | omega | (simp; omega) | simp_all)) ?_)
 | refine de rfl (eop_callx (i := 3) ca21 rfl (WeakL.refl _) rfl (c_benchmake_Stream_RightTold (by first | assumption | omega | (simp; omega) | simp_all)) ?_)
 rintro _ _ ⟨p24, a24, rfl, hp24, ha24, rfl⟩
 refine dp rfl (pop_buildSlice (hs := [_, _, _]) ty47 ty9 rfl rfl (by decide) (by decide) rfl) ?_
 refine dp rfl (pop_move rfl) ?_
 first
 | refine de rfl (eop_callx (i := 0) ca22 rfl (WeakL.refl _) rfl (c_benchmake_Stream_Range (by first | assumption | omega | (simp; omega) | simp_all) (by first | assumption | omega | (simp; omega) | simp_all) (by first | assumption | omega | (simp; omega) | simp_all) (by first | assumption | omega | (simp; omega) | simp_all)) ?_)
 | refine de rfl (eop_callx (i := 1) ca22 rfl (WeakL.refl _) rfl (c_benchmake_Stream_Range (by first | assumption | omega | (simp; omega) | simp_all) (by first | assumption | omega | (simp; omega) | simp_all) (by first | assumption | omega | (simp; omega) | simp_all) (by first | assumption | omega | (simp; omega) | simp_all)) ?_)
 | refine de rfl (eop_callx (i := 2) ca22 rfl (WeakL.refl _) rfl (c_benchmake_Stream_Range (by first | assumption | omega | (simp; omega) | simp_all) (by first | assumption | omega | (simp; omega) | simp_all) (by first | assumption | omega | (simp; omega) | simp_all) (by first | assumption | omega | (simp; omega) | simp_all)) ?_)
 | refine de rfl (eop_callx (i := 3) ca22 rfl (WeakL.refl _) rfl (c_benchmake_Stream_Range (by first | assumption | omega | (simp; omega) | simp_all) (by first | assumption | omega | (simp; omega) | simp_all) (by first | assumption | omega | (simp; omega) | simp_all) (by first | assumption | omega | (simp; omega) | simp_all)) ?_)
 rintro _ _ ⟨y27, rfl, hy27, rfl⟩
 refine dp rfl (pop_assign rfl) ?_
 refine dp rfl (pop_assign rfl) ?_
 refine dp rfl (pop_assign rfl) ?_
 refine dn ?_
 refine hw_reg ?_
 refine dp rfl (pop_move rfl) ?_
 refine dp rfl (pop_move rfl) ?_
 refine de rfl (eop_callx (i := 0) ca8 rfl (WeakL.refl _) rfl (c_benchmake_Stream_HalfTold (L := p24) (by omega) (by have := hp24.1.len; omega)) ?_)
 rintro _ _ ⟨u31, A, B, rfl, hh, rfl⟩
 refine dp rfl (pop_move rfl) ?_
 refine dp rfl (pop_extract rfl rfl) ?_
 refine dp rfl (pop_extract rfl rfl) ?_
 refine dp rfl (pop_assign rfl) ?_
 refine dp rfl (pop_assign rfl) ?_
 refine dn ?_
 refine hw_ghost (Ghost.fa 8 (i := 1) rfl rfl) ?_
 refine hw_ghost Ghost.clear ?_
 have hpl := hp24.1.len
 have hAl := hh.sa.length_le
 have hBl := hh.sb.length_le
 have hLl := lack_len A B
 obtain ⟨m1, m2⟩ := half_law hp24.2 hh
 obtain ⟨m3, m4⟩ := half_law hp24.2 hh.swap
 obtain ⟨hk1, hk2⟩ := half_lack hp24.2 hh
 obtain ⟨m5, m6⟩ := half_law hp24.2 hk1
 have hz : orI [playsE A, playsE B] = 0 := by rw [plays_sub hp24.2 hh.sa, plays_sub hp24.2 hh.sb]; rfl
 have e1 : LackL A B = lackL A B := by rw [LackL, if_neg (by simp [hz])]
 have e2 : LackE A B = 0 := hz
 refine hw_reg ?_
 refine dp rfl (pop_move rfl) ?_
 refine dp rfl (pop_move rfl) ?_
 refine dp rfl (pop_call ca12 rfl (WeakL.refl _) (c_play_Merge (a := A) (b := B) (by omega) (by omega))) ?_
 refine dp rfl (pop_move rfl) ?_
 refine dp rfl (pop_extract rfl rfl) ?_
 refine dp rfl (pop_extract rfl rfl) ?_
 refine dp rfl (pop_assign rfl) ?_
 refine dp rfl (pop_assign rfl) ?_
 refine dn ?_
 rw [m1, m2]
 refine hw_reg ?_
 refine dp rfl (pop_move rfl) ?_
 refine dp rfl (pop_move rfl) ?_
 refine dp rfl (pop_call ca12 rfl (WeakL.refl _) (c_play_Merge (a := B) (b := A) (by omega) (by omega))) ?_
 refine dp rfl (pop_move rfl) ?_
 refine dp rfl (pop_extract rfl rfl) ?_
 refine dp rfl (pop_extract rfl rfl) ?_
 refine dp rfl (pop_assign rfl) ?_
 refine dp rfl (pop_assign rfl) ?_
 refine dn ?_
 rw [m3, m4]
 refine hw_seq ?_
 refine hw_reg ?_
 refine dp rfl (pop_move rfl) ?_
 refine dp rfl (pop_neq rfl rfl) ?_
 refine dp rfl (pop_move rfl) ?_
 refine dg rfl rfl (fun hc => ⟨_, OpenTo.refl _, pop_move rfl⟩) ?_
 refine dg rfl rfl (fun hc => ⟨_, OpenTo.upd (t := 49) rfl (by first | exact hc | simp_all) (OpenTo.refl _), pop_neq rfl rfl⟩) ?_
 refine dp rfl (pop_picko rfl (.inl rfl) (.inr ⟨_, rfl, fun h => by simp_all⟩)) ?_
 refine dp rfl (pop_move rfl) ?_
 refine dg rfl rfl (fun hc => ⟨_, OpenTo.refl _, pop_move rfl⟩) ?_
 refine dg rfl rfl (fun hc => ⟨_, OpenTo.refl _, pop_move rfl⟩) ?_
 refine dg rfl rfl (fun hc => by have hq := hc; (try simp at hq); exact ⟨_, OpenTo.upd (t := 54) rfl (by first | exact hc | simp_all) (OpenTo.upd (t := 53) rfl (by first | exact hc | simp_all) (OpenTo.refl _)), pop_call ca16 rfl (WeakL.refl _) (c_slices_Equal_api_Play_api_Play (l := p24) (m := p24) (by omega))⟩) ?_
 refine dg rfl rfl (fun hc => ⟨_, OpenTo.upd (t := 55) rfl (by first | exact hc | simp_all) (OpenTo.refl _), pop_not rfl⟩) ?_
 refine dp rfl (pop_picko rfl (.inl rfl) (.inr ⟨_, rfl, fun h => by simp_all⟩)) ?_
 refine dp rfl (pop_move rfl) ?_
 refine dg rfl rfl (fun hc => ⟨_, OpenTo.refl _, pop_move rfl⟩) ?_
 refine dg rfl rfl (fun hc => ⟨_, OpenTo.refl _, pop_move rfl⟩) ?_
 refine dg rfl rfl (fun hc => by have hq := hc; (try simp at hq); exact ⟨_, OpenTo.upd (t := 60) rfl (by first | exact hc | simp_all) (OpenTo.upd (t := 59) rfl (by first | exact hc | simp_all) (OpenTo.refl _)), pop_call ca16 rfl (WeakL.refl _) (c_slices_Equal_api_Play_api_Play (l := p24) (m := p24) (by omega))⟩) ?_
 refine dg rfl rfl (fun hc => ⟨_, OpenTo.upd (t := 61) rfl (by first | exact hc | simp_all) (OpenTo.refl _), pop_not rfl⟩) ?_
 refine dp rfl (pop_picko rfl (.inl rfl) (.inr ⟨_, rfl, fun h => by simp_all⟩)) ?_
 refine dn ?_
 refine hw_cond rfl (fun h1 => ?_) (fun h1 => ?_)
 ·exfalso
  try simp at h1
  all_goals (simp [eqPlays_refl] at h1)
 ·try simp at h1
  refine hw_skip ?_
  refine seqQ_n ?_
  refine hw_reg ?_
  refine dp rfl (pop_move rfl) ?_
  refine dp rfl (pop_move rfl) ?_
  refine dp rfl (pop_call ca13 rfl (WeakL.refl _) (c_play_Lacks (a := A) (b := B) (by omega) (by omega))) ?_
  refine dp rfl (pop_move rfl) ?_
  refine dp rfl (pop_extract rfl rfl) ?_
  refine dp rfl (pop_extract rfl rfl) ?_
  refine dp rfl (pop_assign rfl) ?_
  refine dp rfl (pop_assign rfl) ?_
  refine dn ?_
  rw [e1, e2]
  refine hw_reg ?_
  refine dp rfl (pop_move rfl) ?_
  refine dp rfl (pop_move rfl) ?_
  refine dp rfl (pop_call ca12 rfl (WeakL.refl _) (c_play_Merge (a := A) (b := lackL A B) (by omega) (by omega))) ?_
  refine dp rfl (pop_move rfl) ?_
  refine dp rfl (pop_extract rfl rfl) ?_
  refine dp rfl (pop_extract rfl rfl) ?_
  refine dp rfl (pop_assign rfl) ?_
  refine dp rfl (pop_assign rfl) ?_
  refine dn ?_
  rw [m5, m6]
  refine hw_seq ?_
  refine hw_reg ?_
  refine dp rfl (pop_move rfl) ?_
  refine dp rfl (pop_neq rfl rfl) ?_
  refine dp rfl (pop_move rfl) ?_
  refine dg rfl rfl (fun hc => ⟨_, OpenTo.refl _, pop_move rfl⟩) ?_
  refine dg rfl rfl (fun hc => ⟨_, OpenTo.upd (t := 79) rfl (by first | exact hc | simp_all) (OpenTo.refl _), pop_neq rfl rfl⟩) ?_
  refine dp rfl (pop_picko rfl (.inl rfl) (.inr ⟨_, rfl, fun h => by simp_all⟩)) ?_
  refine dp rfl (pop_move rfl) ?_
  refine dg rfl rfl (fun hc => ⟨_, OpenTo.refl _, pop_move rfl⟩) ?_
  refine dg rfl rfl (fun hc => ⟨_, OpenTo.refl _, pop_move rfl⟩) ?_
  refine dg rfl rfl (fun hc => by have hq := hc; (try simp at hq); exact ⟨_, OpenTo.upd (t := 84) rfl (by first | exact hc | simp_all) (OpenTo.upd (t := 83) rfl (by first | exact hc | simp_all) (OpenTo.refl _)), pop_call ca16 rfl (WeakL.refl _) (c_slices_Equal_api_Play_api_Play (l := p24) (m := p24) (by omega))⟩) ?_
  refine dg rfl rfl (fun hc => ⟨_, OpenTo.upd (t := 85) rfl (by first | exact hc | simp_all) (OpenTo.refl _), pop_not rfl⟩) ?_
  refine dp rfl (pop_picko rfl (.inl rfl) (.inr ⟨_, rfl, fun h => by simp_all⟩)) ?_
  refine dp rfl (pop_move rfl) ?_
  refine dg rfl rfl (fun hc => ⟨_, OpenTo.refl _, pop_move rfl⟩) ?_
  refine dg rfl rfl (fun hc => ⟨_, OpenTo.upd (t := 89) rfl (by first | exact hc | simp_all) (OpenTo.refl _), pop_lenm (f := ePlay) (l := A) ty26 rfl⟩) ?_
  refine dg rfl rfl (fun hc => ⟨_, OpenTo.refl _, pop_move rfl⟩) ?_
  refine dg rfl rfl (fun hc => ⟨_, OpenTo.upd (t := 91) rfl (by first | exact hc | simp_all) (OpenTo.refl _), pop_lenm (f := ePlay) (l := lackL A B) ty26 rfl⟩) ?_
  refine dg rfl rfl (fun hc => by have hq := hc; (try simp at hq); exact ⟨_, OpenTo.upd (t := 92) rfl (by first | exact hc | simp_all) (OpenTo.upd (t := 90) rfl (by first | exact hc | simp_all) (OpenTo.refl _)), pop_add64 rfl rfl (by omega) (by omega)⟩) ?_
  refine dg rfl rfl (fun hc => ⟨_, OpenTo.refl _, pop_move rfl⟩) ?_
  refine dg rfl rfl (fun hc => ⟨_, OpenTo.upd (t := 94) rfl (by first | exact hc | simp_all) (OpenTo.refl _), pop_lenm (f := ePlay) (l := p24) ty26 rfl⟩) ?_
  refine dg rfl rfl (fun hc => ⟨_, OpenTo.upd (t := 95) rfl (by first | exact hc | simp_all) (OpenTo.upd (t := 93) rfl (by first | exact hc | simp_all) (OpenTo.refl _)), pop_neq rfl rfl⟩) ?_
  refine dp rfl (pop_picko rfl (.inl rfl) (.inr ⟨_, rfl, fun h => by simp_all⟩)) ?_
  refine dn ?_
  refine hw_cond rfl (fun h2 => ?_) (fun h2 => ?_)
  ·exfalso
   try simp at h2
   simp [eqPlays_refl] at h2
   omega
  ·try simp at h2
   refine hw_skip ?_
   refine seqQ_n ?_
   refine hw_seq ?_
   refine hw_reg ?_
   refine dp rfl (pop_assign rfl) ?_
   refine dn ?_
   refine hw_block ?_
   refine hw_loopw [2, 15, 16, 17, 18, 19, 98, 99, 100, 101, 102, 103, 104, 105, 106, 107, 108, 109, 110, 111, 112, 113, 114, 115, 116, 117, 118, 119, 120, 121, 122, 123, 124, 125, 126, 127, 128, 129, 130, 131, 132, 133, 134, 135] (fun (w : Nat) => [(15, .int .i64 ((w : Int) + 1))]) (fun (w : Nat) => []) (fun (w : Nat) => w ≤ 2) (fun (w : Nat) => 2 - w) (0) ?_ ?_ ?_ ?_
   ·exact Nat.zero_le _
   ·exact ⟨some_int (by omega), trivial⟩
   ·exact List.Perm.refl _
   ·intro w hw
    refine hw_seq ?_
    refine hw_reg ?_
    refine dp rfl (pop_move rfl) ?_
    refine dp rfl (pop_leq rfl rfl) ?_
    refine dn ?_
    refine hw_cond rfl (fun h3 => ?_) (fun h4 => ?_)
    ·try simp at h3
     refine hw_skip ?_
     refine seqQ_n ?_
     refine hw_seq ?_
     refine hw_block ?_
     refine hw_reg ?_
     refine dp rfl (pop_move rfl) ?_
     refine dp rfl (pop_move rfl) ?_
     refine dp rfl (pop_move rfl) ?_
     refine dp rfl (pop_move rfl) ?_
     refine dp rfl (pop_call (hs' := [ePlays p24, eSs tr3, .int .i64 ((w : Int) + 1), .int .i64 y27]) ca23 rfl (WeakL.refl _) (c_play_Lines (l := p24) (trust := tr3) (week := (w : Int) + 1) (n := y27) hT (by omega) (by decide))) ?_
     refine dp rfl (pop_move rfl) ?_
     refine dp rfl (pop_extract rfl rfl) ?_
     refine dp rfl (pop_extract rfl rfl) ?_
     refine dp rfl (pop_assign rfl) ?_
     refine dp rfl (pop_assign rfl) ?_
     refine dn ?_
     refine hw_reg ?_
     refine dp rfl (pop_move rfl) ?_
     refine dp rfl (pop_move rfl) ?_
     refine dp rfl (pop_move rfl) ?_
     refine dp rfl (pop_move rfl) ?_
     refine dp rfl (pop_call (hs' := [ePlays p24, eSs tr3, .int .i64 ((w : Int) + 1), .int .i64 y27]) ca23 rfl (WeakL.refl _) (c_play_Lines (l := p24) (trust := tr3) (week := (w : Int) + 1) (n := y27) hT (by omega) (by decide))) ?_
     refine dp rfl (pop_move rfl) ?_
     refine dp rfl (pop_extract rfl rfl) ?_
     refine dp rfl (pop_extract rfl rfl) ?_
     refine dp rfl (pop_assign rfl) ?_
     refine dp rfl (pop_assign rfl) ?_
     refine dn ?_
     refine hw_reg ?_
     refine dp rfl (pop_move rfl) ?_
     refine dp rfl (pop_move rfl) ?_
     refine dp rfl (pop_neq rfl rfl) ?_
     refine dp rfl (pop_move rfl) ?_
     refine dg rfl rfl (fun hc => ⟨_, OpenTo.refl _, pop_move rfl⟩) ?_
     refine dg rfl rfl (fun hc => ⟨_, OpenTo.refl _, pop_move rfl⟩) ?_
     refine dg rfl rfl (fun hc => ⟨_, OpenTo.upd (t := 123) rfl (by first | exact hc | simp_all) (OpenTo.upd (t := 122) rfl (by first | exact hc | simp_all) (OpenTo.refl _)), pop_call ca24 rfl (WeakL.refl _) (c_EqualFunc_Line (l := (LinesL p24 tr3 ((w : Int) + 1) y27)) lines_bd.1 lines_bd.2)⟩) ?_
     refine dg rfl rfl (fun hc => ⟨_, OpenTo.upd (t := 124) rfl (by first | exact hc | simp_all) (OpenTo.refl _), pop_not rfl⟩) ?_
     refine dp rfl (pop_picko rfl (.inl rfl) (.inr ⟨_, rfl, fun h => by simp_all⟩)) ?_
     refine dp rfl (pop_move rfl) ?_
     refine dg rfl rfl (fun hc => ⟨_, OpenTo.refl _, pop_move rfl⟩) ?_
     refine dg rfl rfl (fun hc => ⟨_, OpenTo.upd (t := 128) rfl (by first | exact hc | simp_all) (OpenTo.refl _), pop_eql rfl rfl⟩) ?_
     refine dg rfl rfl (fun hc => ⟨_, OpenTo.upd (t := 129) rfl (by first | exact hc | simp_all) (OpenTo.refl _), pop_move rfl⟩) ?_
     refine dg rfl rfl (fun hc => ⟨_, OpenTo.refl _, pop_move rfl⟩) ?_
     refine dg rfl rfl (fun hc => ⟨_, OpenTo.upd (t := 131) rfl (by first | exact hc | simp_all) (OpenTo.refl _), pop_call ca26 rfl (WeakL.refl _) (c_play_CheckLines (l := (LinesL p24 tr3 ((w : Int) + 1) y27)) lines_bd.1 lines_bd.2)⟩) ?_
     refine dg rfl rfl (fun hc => ⟨_, OpenTo.upd (t := 132) rfl (by first | exact hc | simp_all) (OpenTo.refl _), pop_neq rfl rfl⟩) ?_
     refine dg rfl rfl (fun hc => ⟨_, OpenTo.upd (t := 130) rfl (by first | exact hc | simp_all) (OpenTo.refl _), pop_picko rfl (.inr ⟨_, rfl, fun h => by simp_all⟩) (.inl rfl)⟩) ?_
     refine dp rfl (pop_picko rfl (.inl rfl) (.inr ⟨_, rfl, fun h => by simp_all⟩)) ?_
     refine dn ?_
     refine hw_cond rfl (fun h5 => ?_) (fun h5 => ?_)
     ·exfalso
      try simp at h5
      have hr := LinesL_right (l := p24) (t := tr3) (w := (w : Int) + 1) (n := y27) hp24.2 hpl
      simp_all
     ·try simp at h5
      refine hw_skip ?_
      refine blockQ_n ?_
      refine seqQ_n ?_
      refine hw_reg1 ?_
      refine dp rfl (pop_move rfl) ?_
      refine dp rfl (pop_add64 rfl rfl (by omega) (by omega)) ?_
      refine dp rfl (pop_assign rfl) ?_
      refine dn ?_
      exact ⟨w + 1, by omega, by dsimp only; omega, ⟨some_int (by omega), trivial⟩, (by repeat (first | exact keeps_refl | refine keeps_upd rfl ?_ | refine keeps_loop rfl rfl ?_)), List.Perm.refl _⟩
    ·try simp at h4
     refine hw_exit ?_
     refine seqQ_x ?_
     refine loopQ_x ?_
     refine blockQ_eq ?_
     refine seqQ_n ?_
     refine hw_reg ?_
     refine dp rfl (pop_call ca27 rfl (WeakL.refl _) (c_benchkeep1_ready hT)) ?_
     refine dp rfl (pop_assign rfl) ?_
     refine dn ?_
     refine hw_ret ?_
     refine ret_p rfl ?_
     rfl
end Go.Proofs.YtlankmahpaenhaaGreatDoor
end
section
namespace Go.HL
theorem tabI_any (P : Program) (I : Imm) : TabI P I := trivial
end Go.HL
end
section
namespace Go.Proofs.YtlankmahpaenhaaGreatDoor
open Go.ChangeShapes Go.WideShapes Go.ChangeAt Go.RowKit Go.HL
theorem ownFeedsAreOne : ownKnob Tryz.prog.godebug = none := by kernel_rfl
theorem laidOutFeedsAreOne : laidOutB Tryz.prog = true := by kernel_rfl
theorem cellsFeedsAreOne : Tryz.prog.cellsOf 3 = 1 := by kernel_rfl
theorem tabFeedsAreOne {W : World} (_ : laidMetH Tryz.prog Rows.feedsAreOneRow.laid W) : TabI Tryz.prog (allI W) := tabI_any _ _
theorem callsFeedsAreOne {W : World} (ht : TabI Tryz.prog (allI W)) {a : Option Addr} {len cap : Nat} {H : Type} {enc : TypeId × Value → H} {d0 : DataW H} {p : List MemPlace} (h : DataW.Trod enc Tryz.prog W 0 (fun _ => true) true 22 (.slice a len cap) d0 p) :
 Calls Tryz.prog 4 #[.slice a len cap] W fun e W' => e = .returned (.bool true) ∧ Below W.heap.size W W' := by
 obtain ⟨fuel, hf⟩ := h
 rcases open_ints Tryz.underlying22 Tryz.underlying3 cellsFeedsAreOne hf with ⟨hcs, hx⟩ | ⟨a', len', cap', zs, hcs, _, hl, hm, hz, hx, hcell, hwz⟩
 ·simp [Value.cells] at hcs
  obtain ⟨rfl, rfl, rfl⟩ := hcs
  letI : Tracks := ⟨false⟩
  exact conp_law (l := []) (c_benchkeep1_FeedsAreOne rfl) ht (.slice0 _ _ _)
 ·simp [Value.cells] at hcs
  obtain ⟨rfl, rfl, rfl⟩ := hcs
  simp only [if_true] at hz
  letI : Tracks := ⟨false⟩
  exact conp_law (l := zs.take len) (c_benchkeep1_FeedsAreOne rfl) ht (v_ints hcell (by omega) hl)
set_option maxRecDepth 100000 in
theorem liftedFeedsAreOne (os : Os) (started : os.Started) (H : Type) (enc : TypeId × Value → H) :
 ReturnsInHanded {} Tryz.checked os 4 .any (fun w args => (Rows.feedsAreOneSpec.pre enc Tryz.prog Tryz.f4 Rows.feedsAreOneRow.domain false w args ∧ laidMetH Tryz.prog Rows.feedsAreOneRow.laid w) ∧ sizedMet enc Tryz.prog Tryz.f4 (OpenSpec.ofChange Rows.feedsAreOneSpec) false w args)
  (Rows.feedsAreOneSpec.post enc Tryz.prog Tryz.f4 false true false false) := by
 refine returnsInHanded_of_change_and (C := Tryz.checked) (X := fun w _ => laidMetH Tryz.prog Rows.feedsAreOneRow.laid w) (fun _ _ _ hh h => h.of_heap hh) ownFeedsAreOne started (by kernel_rfl) Tryz.func4
  (ChangeSpec.witness_shaped (enc := enc) (C := Tryz.checked) (os := os) (X := fun w _ => laidMetH Tryz.prog Rows.feedsAreOneRow.laid w) false (World.laidAll Tryz.prog os Rows.feedsAreOneRow.laid) #[.slice none 0 0] 8 (World.laidAll_os _ _ _)
    (World.shaped_of_ZipB (by kernel_rfl) (by kernel_rfl)) (by kernel_rfl) (by kernel_rfl) (by kernel_rfl)
    (by rw [MakeChecks.laidMetH_plain _ _ _ (by kernel_rfl)]; exact laidMet_laidAll _ (by kernel_rfl) (by kernel_rfl))) ?_
 intro W base args ds gs before hval0 hW _ _ hL _
 have hval : ∀ (j : Nat) t v, Tryz.f4.params[j]? = some t → args[j]? = some v → Value.okWide Tryz.prog W .any base t v := hval0
 have hW' := hW
 obtain ⟨p, q, hA0, hV, rfl, _, _⟩ := hW
 have hA : DataW.TrodAll enc Tryz.prog W 0 (fun _ => true) true Tryz.f4.params.toList args.toList ds p := hA0
 rw [Tryz.params4] at hA hval
 obtain ⟨v0, d0, rfl, rfl, h0⟩ := trodAll_one hA
 obtain ⟨rfl, rfl⟩ := trodVars_none hV
 obtain ⟨a0, len, cap, rfl⟩ := okWide_slice Tryz.underlying22 (hval 0 22 v0 rfl rfl)
 simp only [List.append_nil] at hW'
 have hlt : ∀ x ∈ p, x.block < W.heap.size := fun x hx => by simpa using hW'.lt x hx
 refine (callsFeedsAreOne (tabFeedsAreOne hL) h0).mono fun e W' ⟨he, hb⟩ => ?_
 subst he
 have hargs : DataW.Trod enc Tryz.prog W' 0 (fun b => decide (b < W.heap.size)) true 22 (.slice a0 len cap) d0 p :=
  Below.trod laidOutFeedsAreOne (by kernel_rfl) (of_decide_eq_true (by kernel_rfl)) h0 hb hlt
 exact ⟨_, rfl, _, _, _, [], p, [], hW', trodAll_mk1 (shut_bool Tryz.underlying4 _), trodAll_mk1 hargs, rfl, hb.frame _, fun h => by cases h⟩
theorem mapsFeedsAreOne : mapsRowed Tryz.prog = true := by kernel_rfl
theorem inplFeedsAreOne : (Rows.feedsAreOneRow.inPlace == Tryz.prog.inPlace 4) = true := by kernel_rfl
theorem unfoFeedsAreOne : (Rows.feedsAreOneRow.unfollowed == Tryz.prog.unfollowed 4) = true := by kernel_rfl
theorem recuFeedsAreOne : (Rows.feedsAreOneRow.recurses == Tryz.prog.recurses 4) = true := by kernel_rfl
theorem varsFeedsAreOne : (Rows.feedsAreOneRow.named == Tryz.prog.varsNamed 4) = true := by kernel_rfl
theorem joinFeedsAreOne : joinedFacts Tryz.prog 4 Tryz.f4 Rows.feedsAreOneSpec Rows.feedsAreOneRow = true := by
 simp only [joinedFacts, Bool.and_eq_true]
 repeat' apply And.intro
 all_goals first
  | with_reducible exact laidOutFeedsAreOne
  | with_reducible exact mapsFeedsAreOne
  | with_reducible exact inplFeedsAreOne
  | with_reducible exact unfoFeedsAreOne
  | with_reducible exact recuFeedsAreOne
  | with_reducible exact varsFeedsAreOne
  | kernel_rfl
theorem lookFeedsAreOne : false = Tryz.prog.looks [] := by kernel_rfl
theorem goesFeedsAreOne : false = Rows.feedsAreOneRow.goesBy Tryz.prog := by kernel_rfl
theorem wfbtFeedsAreOne : Rows.feedsAreOneRow.wfByText (OpenSpec.ofChange Rows.feedsAreOneSpec) = true := by kernel_rfl
theorem mainFeedsAreOne : Tryz.prog.mainIs = some ("c530e2c31924c3840c00026dd5f4cfb4044be8353d4aaeb796c567760c3067cc" |> fun h => (true, h.toList)) := by kernel_rfl
theorem stanFeedsAreOne : ([22].all fun u => !Tryz.prog.wantsStandIn u) = true := by kernel_rfl
theorem fnamFeedsAreOne : Tryz.prog.funcNamed Rows.feedsAreOneRow.func = some 4 := by kernel_rfl
theorem holdsFeedsAreOne : Rows.FeedsAreOneSaid :=
 OpenClaim.holds_of_wide 4 Tryz.f4 rfl rfl rfl rfl rfl rfl rfl ⟨rfl, rfl, rfl, rfl, rfl⟩ rfl rfl rfl rfl rfl fnamFeedsAreOne Tryz.func4 joinFeedsAreOne
  (of_decide_eq_true (by kernel_rfl)) (by unfold Func.isWrapper; first | (rw [if_pos (by decide +kernel)]; kernel_rfl) | (rw [if_neg (by decide +kernel)]; exact ⟨rfl, rfl⟩))
  (fun os started H enc _ => liftedFeedsAreOne os started H enc)
theorem cardFeedsAreOne : Rows.FeedsAreOneCardSaid :=
 Claim7.holds_tied_plain_at .later [] [.data, .pinned] true (true, "c530e2c31924c3840c00026dd5f4cfb4044be8353d4aaeb796c567760c3067cc") false holdsFeedsAreOne (fun _ h => by cases h) wfbtFeedsAreOne (fun _ h => by cases h) feedsAreOne_row_tie rfl ⟨rfl, rfl⟩ mainFeedsAreOne rfl
  (fun f fn hf hfn => by
    obtain rfl : f = 4 := Option.some.inj (fnamFeedsAreOne.symm.trans hf) |>.symm
    obtain rfl : fn = Tryz.f4 := (Option.some.inj (Tryz.func4.symm.trans hfn)).symm
    exact ⟨lookFeedsAreOne, fun j t ht => by
     rw [Tryz.params4] at ht
     have hm : t ∈ [22] := by simpa using Array.mem_of_getElem? ht
     have hall := stanFeedsAreOne
     exact (show Tryz.prog.wantsStandIn t = false by simpa using List.all_eq_true.1 hall t hm)⟩)
  goesFeedsAreOne
end Go.Proofs.YtlankmahpaenhaaGreatDoor
end
