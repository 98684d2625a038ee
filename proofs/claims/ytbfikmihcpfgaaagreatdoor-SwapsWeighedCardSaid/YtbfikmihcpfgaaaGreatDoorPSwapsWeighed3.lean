/- Part 3 of the proof: a program logic, contracts of functions and plain facts; no conditions. -/
import Derived.Test.YtbfikmihcpfgaaaGreatDoorPSwapsWeighed2
import Derived.Ground.GgzProg
import Derived.Ground.Names2Prog
import Derived.Ground.SlgmProg
import Derived.Ground.SlsfProg
import Derived.Lib.AppendStr
import Derived.Lib.AtoiBound
import Derived.Lib.ItoaMem
import Derived.Lib.Join
import Derived.Lib.SplitLaws
import Derived.Lib.UnsafeStr
import Derived.Shelf.Lay
import Derived.Shelf.LaySoft
import Derived.Shelf.SlIter.Collect
import Derived.Shelf.SlIter.Keys
import Derived.Shelf.SlIter.Sorted
import Derived.Shelf.SlSortCmp.Insertion
import Derived.Shelf.SlSortCmp.NoneTotal
import Derived.Shelf.Slices.CompactS
import Derived.Shelf.Slices.Delete
import Derived.Shelf.Small.Wraps
import Derived.Shelf.Sort.Plain
import Derived.Shelf.SortM.Plain
import Derived.Shelf.Strconv.Atoi
import Derived.Shelf.Strconv.Itoa3
import Derived.Shelf.Strings.Builder1
import Derived.Shelf.Strings.Count
import Derived.Shelf.Strings.Cut
import Derived.Shelf.Strings.OnBuilder
import Derived.Shelf.Strings.Prefix
import Derived.Shelf.Strings.Shaped
import Derived.Shelf.Strings.Split
import Derived.Test.YtbfikmihcpfgaaaGreatDoorProg
import Derived.WideKeyRuns
set_option linter.unusedVariables false
set_option linter.unusedSimpArgs false
section
namespace Go.Proofs.YtbfikmihcpfgaaaGreatDoor
open Go.HL
set_option maxRecDepth 100000
set_option linter.unusedVariables false
set_option linter.unusedSimpArgs false
set_option maxHeartbeats 2000000 in
/-- (*benchwarmer/benchmake.Stream).AssetList -/
theorem c_benchmake_Stream_AssetList [Tracks] {b : Nat} {l : List Int} {a : Nat} {fs : Str} (ha : a ≤ 800000) (hfs : fs.length ≤ 100) : Con Tryz.prog 5 [pAt b, .str fs] [St b l a] (fun x M' => ∃ k a', x = eAssets k ∧ GoodAs k ∧ a' ≤ a + 40 ∧ M' = [St b l a']) := by
 refine Con.of_body Tryz.func5 rfl Tryz.ntmps5 rfl rfl ?_
 refine hw_reg ?_
 refine dp rfl (pop_assign rfl) ?_
 refine dn ?_
 refine hw_reg ?_
 refine dp rfl (pop_assign rfl) ?_
 refine dn ?_
 refine hw_seq ?_
 refine hw_reg ?_
 refine dp rfl (pop_move rfl) ?_
 first
 | refine de rfl (eop_callx (i := 0) ca29 rfl (WeakL.refl _) rfl (c_benchmake_Stream_Range (by first | assumption | omega | (simp; omega) | simp_all) (by first | assumption | omega | (simp; omega) | simp_all) (by first | assumption | omega | (simp; omega) | simp_all) (by first | assumption | omega | (simp; omega) | simp_all)) ?_)
 | refine de rfl (eop_callx (i := 1) ca29 rfl (WeakL.refl _) rfl (c_benchmake_Stream_Range (by first | assumption | omega | (simp; omega) | simp_all) (by first | assumption | omega | (simp; omega) | simp_all) (by first | assumption | omega | (simp; omega) | simp_all) (by first | assumption | omega | (simp; omega) | simp_all)) ?_)
 | refine de rfl (eop_callx (i := 2) ca29 rfl (WeakL.refl _) rfl (c_benchmake_Stream_Range (by first | assumption | omega | (simp; omega) | simp_all) (by first | assumption | omega | (simp; omega) | simp_all) (by first | assumption | omega | (simp; omega) | simp_all) (by first | assumption | omega | (simp; omega) | simp_all)) ?_)
 | refine de rfl (eop_callx (i := 3) ca29 rfl (WeakL.refl _) rfl (c_benchmake_Stream_Range (by first | assumption | omega | (simp; omega) | simp_all) (by first | assumption | omega | (simp; omega) | simp_all) (by first | assumption | omega | (simp; omega) | simp_all) (by first | assumption | omega | (simp; omega) | simp_all)) ?_)
 rintro _ _ ⟨y9, rfl, hy9, rfl⟩
 refine dp rfl (pop_move rfl) ?_
 refine dn ?_
 refine hw_ghost (Ghost.perm (M' := [St b l (a + 1)]) (List.Perm.refl _)) ?_
 refine hw_ghost (Ghost.arr_nil 3) ?_
 refine hw_block ?_
 refine hw_loopw2 [5, 6, 10, 11, 12, 13, 14, 15, 16, 17, 18, 19, 20, 21, 22, 23, 24, 25, 26, 27] (fun (k : Nat) (q : GL Asset) => [(10, .int .i64 (k : Int)), (5, .raw q.u)]) (fun (k : Nat) (q : GL Asset) => [St b l q.a, .arr q.u 3 (q.out.map eAsset)]) (fun (k : Nat) (q : GL Asset) => k ≤ 7 ∧ GLok GoodA k (a + 1 + 2 * k) q) (fun (k : Nat) (q : GL Asset) => 7 - k) (0) (⟨.slice none 0 0, [], a + 1⟩) ?_ ?_ ?_ ?_
 ·exact ⟨by omega, ⟨by simp, by simp, by dsimp only; omega⟩⟩
 ·exact ⟨rfl, rfl, trivial⟩
 ·repeat (first | exact List.Perm.nil | refine permTo 0 rfl ?_ | refine permTo 1 rfl ?_ | refine permTo 2 rfl ?_ | refine permTo 3 rfl ?_ | (refine permToE 0 rfl ?hq ?_; (case hq => simp [setL, hcells]; done)) | (refine permToE 1 rfl ?hq ?_; (case hq => simp [setL, hcells]; done)) | (refine permToE 2 rfl ?hq ?_; (case hq => simp [setL, hcells]; done)) | (refine permToE 3 rfl ?hq ?_; (case hq => simp [setL, hcells]; done)) | fail)
 ·intro k q hinv
  obtain ⟨hk, hq⟩ := hinv
  obtain ⟨u, out, a2⟩ := q
  obtain ⟨g1, g2, g3⟩ := id hq
  dsimp only at g1 g2 g3
  refine hw_reg ?_
  refine dp rfl (pop_lss rfl rfl) ?_
  refine dn ?_
  refine hw_seq ?_
  refine hw_cond rfl (fun h1 => ?_) (fun h2 => ?_)
  ·try simp at h1
   have hk7 : k < 7 := by omega
   refine hw_skip ?_
   refine seqQ_n ?_
   refine hw_seq ?_
   refine hw_block ?_
   refine hw_reg ?_
   refine dp rfl (pop_move rfl) ?_
   refine dp rfl (pop_assign rfl) ?_
   refine dn ?_
   refine hw_reg1 ?_
   refine dp rfl (pop_move rfl) ?_
   refine dp rfl (pop_move rfl) ?_
   refine dp rfl (pop_move rfl) ?_
   refine dp rfl (pop_call ca30 rfl (WeakL.refl _) (c_strconv_Itoa (i := k) (by omega))) ?_
   have hdl := dec_len (i := k) (by omega)
   refine dp rfl (pop_adds rfl rfl (by omega)) ?_
   refine dp rfl (pop_move rfl) ?_
   refine dp rfl (pop_buildSlice (hs := [_, _, _, _]) ty44 ty9 rfl rfl (by decide) (by decide) rfl) ?_
   first
   | refine de rfl (eop_callx (i := 0) ca15 rfl (WeakL.refl _) rfl (c_benchmake_Stream_Some (L := [_, _, _, _]) (by first | assumption | omega | (simp; omega) | simp_all) (by first | assumption | omega | (simp; omega) | simp_all) (by first | assumption | omega | (simp; omega) | simp_all)) ?_)
   | refine de rfl (eop_callx (i := 1) ca15 rfl (WeakL.refl _) rfl (c_benchmake_Stream_Some (L := [_, _, _, _]) (by first | assumption | omega | (simp; omega) | simp_all) (by first | assumption | omega | (simp; omega) | simp_all) (by first | assumption | omega | (simp; omega) | simp_all)) ?_)
   | refine de rfl (eop_callx (i := 2) ca15 rfl (WeakL.refl _) rfl (c_benchmake_Stream_Some (L := [_, _, _, _]) (by first | assumption | omega | (simp; omega) | simp_all) (by first | assumption | omega | (simp; omega) | simp_all) (by first | assumption | omega | (simp; omega) | simp_all)) ?_)
   | refine de rfl (eop_callx (i := 3) ca15 rfl (WeakL.refl _) rfl (c_benchmake_Stream_Some (L := [_, _, _, _]) (by first | assumption | omega | (simp; omega) | simp_all) (by first | assumption | omega | (simp; omega) | simp_all) (by first | assumption | omega | (simp; omega) | simp_all)) ?_)
   rintro _ _ ⟨y20, rfl, hy20, rfl⟩
   refine dp rfl (pop_move rfl) ?_
   refine dp rfl (pop_buildSlice (hs := [_, _, _, _, _, _, _, _]) ty22 ty3 rfl rfl (by decide) (by decide) rfl) ?_
   first
   | refine de rfl (eop_callx (i := 0) ca13 rfl (WeakL.refl _) rfl (c_benchmake_Stream_Pick (L := [_, _, _, _, _, _, _, _]) (by first | assumption | omega | (simp; omega) | simp_all) (by first | assumption | omega | (simp; omega) | simp_all) (by first | assumption | omega | (simp; omega) | simp_all)) ?_)
   | refine de rfl (eop_callx (i := 1) ca13 rfl (WeakL.refl _) rfl (c_benchmake_Stream_Pick (L := [_, _, _, _, _, _, _, _]) (by first | assumption | omega | (simp; omega) | simp_all) (by first | assumption | omega | (simp; omega) | simp_all) (by first | assumption | omega | (simp; omega) | simp_all)) ?_)
   | refine de rfl (eop_callx (i := 2) ca13 rfl (WeakL.refl _) rfl (c_benchmake_Stream_Pick (L := [_, _, _, _, _, _, _, _]) (by first | assumption | omega | (simp; omega) | simp_all) (by first | assumption | omega | (simp; omega) | simp_all) (by first | assumption | omega | (simp; omega) | simp_all)) ?_)
   | refine de rfl (eop_callx (i := 3) ca13 rfl (WeakL.refl _) rfl (c_benchmake_Stream_Pick (L := [_, _, _, _, _, _, _, _]) (by first | assumption | omega | (simp; omega) | simp_all) (by first | assumption | omega | (simp; omega) | simp_all) (by first | assumption | omega | (simp; omega) | simp_all)) ?_)
   rintro _ _ ⟨y23, rfl, hy23, rfl⟩
   refine dp rfl (pop_build (cs := [_, _, _]) ty36 pl36 rfl) ?_
   refine dp rfl (pop_buildSlice (hs := [_]) ty26 ty36 rfl rfl (by decide) (by decide) rfl) ?_
   first
   | refine de rfl (eop_append (i := 0) ty26 ty36 rfl rfl rfl rfl rfl (by simp [flat, hcells]) (by first | omega | (simp; omega)) fun v26 => ?_)
   | refine de rfl (eop_append (i := 1) ty26 ty36 rfl rfl rfl rfl rfl (by simp [flat, hcells]) (by first | omega | (simp; omega)) fun v26 => ?_)
   | refine de rfl (eop_append (i := 2) ty26 ty36 rfl rfl rfl rfl rfl (by simp [flat, hcells]) (by first | omega | (simp; omega)) fun v26 => ?_)
   | refine de rfl (eop_append (i := 3) ty26 ty36 rfl rfl rfl rfl rfl (by simp [flat, hcells]) (by first | omega | (simp; omega)) fun v26 => ?_)
   refine dp rfl (pop_assign rfl) ?_
   refine dn ?_
   refine blockQ_n ?_
   refine seqQ_n ?_
   refine hw_reg1 ?_
   refine dp rfl (pop_add64 rfl rfl (by omega) (by omega)) ?_
   refine dp rfl (pop_move rfl) ?_
   refine dn ?_
   exact ⟨k + 1, ⟨v26, out ++ [⟨fs ++ Lib.decDigits k, y20, y23⟩], a2 + 2⟩, ⟨by omega, hq.add ⟨by unfold Sh; simp; omega, by unfold Sh; simp at hy20; rcases hy20 with rfl | rfl | rfl <;> simp⟩ (by omega)⟩, by dsimp only; omega, ⟨rfl, rfl, trivial⟩, (by repeat (first | exact keeps_refl | refine keeps_upd rfl ?_ | refine keeps_loop rfl rfl ?_)), by repeat (first | exact List.Perm.nil | refine permTo 0 rfl ?_ | refine permTo 1 rfl ?_ | refine permTo 2 rfl ?_ | refine permTo 3 rfl ?_ | (refine permToE 0 rfl ?hq ?_; (case hq => simp [setL, hcells]; done)) | (refine permToE 1 rfl ?hq ?_; (case hq => simp [setL, hcells]; done)) | (refine permToE 2 rfl ?hq ?_; (case hq => simp [setL, hcells]; done)) | (refine permToE 3 rfl ?hq ?_; (case hq => simp [setL, hcells]; done)) | fail)⟩
  ·try simp at h2
   refine hw_exit ?_
   refine seqQ_x ?_
   refine loopQ2_x ?_
   refine blockQ_eq ?_
   refine seqQ_n ?_
   refine hw_join [7, 28, 29, 30, 31, 32, 33, 34, 35, 36, 37, 38, 39, 40, 41, 42, 43, 44, 45, 46, 47, 48, 49, 50, 51, 52, 53, 54, 55, 56, 57, 58, 59, 60, 61, 62, 63, 64, 65, 66, 67] (fun (q : List Asset × Nat) => []) (fun (q : List Asset × Nat) => [St b l q.2, .arr u 3 (q.1.map eAsset)]) (fun (q : List Asset × Nat) => q.1.length ≤ 7 ∧ (∀ x ∈ q.1, Sh x.Player ∧ Sh x.Position) ∧ q.2 ≤ a + 40) ?_ ?_
   ·skip
    refine hw_reg ?_
    refine dp rfl (pop_move rfl) ?_
    first
    | refine de rfl (eop_lenm (i := 0) ty26 rfl rfl ?_)
    | refine de rfl (eop_lenm (i := 1) ty26 rfl rfl ?_)
    | refine de rfl (eop_lenm (i := 2) ty26 rfl rfl ?_)
    | refine de rfl (eop_lenm (i := 3) ty26 rfl rfl ?_)
    refine dp rfl (pop_gtr rfl rfl) ?_
    refine dp rfl (pop_move rfl) ?_
    refine dg rfl rfl (fun hc => ⟨_, OpenTo.refl _, pop_move rfl⟩) ?_
    refine dgx (fun x M' => ∃ (y : Bool) (a3 : Nat), x = .bool y ∧ a3 ≤ a2 + 1 ∧ M' = [St b l a3, .arr u 3 (out.map eAsset)]) rfl rfl (fun hc => ⟨_, false, a2, rfl, by omega, rfl⟩) (fun hc => ⟨_, OpenTo.upd (t := 32) rfl (by first | exact hc | simp_all) (OpenTo.refl _), eop_callx (i := 0) ca14 rfl (WeakL.refl _) rfl (c_benchmake_Stream_Flip (a := a2) (by omega) (by omega)) (fun h M' hh => by
     obtain ⟨y, h1, h2⟩ := hh
     exact ⟨y, a2 + 1, h1, by omega, by rw [h2]; rfl⟩)⟩) ?_
    rintro _ _ ⟨y, a3, rfl, ha3, rfl⟩
    refine dp rfl (pop_picko rfl (.inr ⟨_, rfl, fun h => by simp_all⟩) (.inl rfl)) ?_
    refine dn ?_
    refine hw_cond rfl (fun h3 => ?_) (fun h4 => ?_)
    ·try simp at h3
     have ho0 : 0 < out.length := by simp_all
     refine hw_arrc (i := 1) rfl (fun h0 he => ?_) (fun ob off cap hv hcap => ?_)
     ·exfalso; have := congrArg List.length he; simp at this; subst this; simp at ho0
     subst hv
     refine hw_reg ?_
     refine dp rfl (pop_move rfl) ?_
     refine dp rfl (pop_move rfl) ?_
     refine dp rfl (pop_move rfl) ?_
     first
     | refine de rfl (eop_lenm (i := 0) ty26 rfl rfl ?_)
     | refine de rfl (eop_lenm (i := 1) ty26 rfl rfl ?_)
     | refine de rfl (eop_lenm (i := 2) ty26 rfl rfl ?_)
     | refine de rfl (eop_lenm (i := 3) ty26 rfl rfl ?_)
     first
     | refine de rfl (eop_callx (i := 0) ca31 rfl (WeakL.refl _) rfl (c_benchmake_Stream_Next (by first | assumption | omega | (simp; omega) | simp_all) (by first | assumption | omega | (simp; omega) | simp_all)) ?_)
     | refine de rfl (eop_callx (i := 1) ca31 rfl (WeakL.refl _) rfl (c_benchmake_Stream_Next (by first | assumption | omega | (simp; omega) | simp_all) (by first | assumption | omega | (simp; omega) | simp_all)) ?_)
     | refine de rfl (eop_callx (i := 2) ca31 rfl (WeakL.refl _) rfl (c_benchmake_Stream_Next (by first | assumption | omega | (simp; omega) | simp_all) (by first | assumption | omega | (simp; omega) | simp_all)) ?_)
     | refine de rfl (eop_callx (i := 3) ca31 rfl (WeakL.refl _) rfl (c_benchmake_Stream_Next (by first | assumption | omega | (simp; omega) | simp_all) (by first | assumption | omega | (simp; omega) | simp_all)) ?_)
     rintro _ _ ⟨y39, rfl, hy39, rfl⟩
     refine dp rfl (pop_idxraw (j := y39) ty26 ty36 rfl rfl rfl (by simp; omega)) ?_
     refine dp rfl (pop_assign rfl) ?_
     refine dn ?_
     obtain ⟨x, hx⟩ : ∃ x, out[y39]? = some x := ⟨_, List.getElem?_eq_getElem (by omega)⟩
     refine hw_draw1 (fun M => ∃ i : Nat, M[i]? = some (.arr (.slice (some ⟨ob, off, none⟩) (out.map eAsset).length cap) 3 (out.map eAsset))) [7, 16] mixed ?_
     refine ahp 0 rfl rfl (by kernel_rfl) (by kernel_rfl) (pop_move rfl) ?_
     refine ahp 1 rfl rfl (by kernel_rfl) (by kernel_rfl) (pop_move rfl) ?_
     refine ahp 2 rfl rfl (by kernel_rfl) (by kernel_rfl) (pop_move rfl) ?_
     refine ahp 3 rfl rfl (by kernel_rfl) (by kernel_rfl) (pop_move rfl) ?_
     refine ahp 4 rfl rfl (by kernel_rfl) (by kernel_rfl) (pop_move rfl) ?_
     refine ahp 5 rfl rfl (by kernel_rfl) (by kernel_rfl) ((by first | exact pop_nilCheck rfl | exact pop_nilCheck_raw rfl)) ?_
     refine ahp 6 rfl rfl (by kernel_rfl) (by kernel_rfl) ((by first | exact pop_fieldAddr ty36 rfl ty9 (by decide) rfl | exact pop_fieldAddr_raw ty36 rfl ty9 (by decide) rfl)) ?_
     refine ahl 7 rfl rfl (by kernel_rfl) (by kernel_rfl) (by simp) ⟨1, rfl⟩ (fun M hM => by obtain ⟨i, hi⟩ := hM; exact eop_load_el (i := i) (j := y39) 0 ty9 rfl (by omega) hi hx rfl rfl ⟨rfl, rfl⟩) ?_
     refine ahp 8 rfl rfl (by kernel_rfl) (by kernel_rfl) (pop_move rfl) ?_
     refine ahp 9 rfl rfl (by kernel_rfl) (by kernel_rfl) (pop_adds rfl rfl (by simp; omega)) ?_
     refine ahp 10 rfl rfl (by kernel_rfl) (by kernel_rfl) (pop_buildSlice (hs := [_, _, _]) ty44 ty9 rfl rfl (by decide) (by decide) rfl) ?_
     refine ahp 12 rfl rfl (by kernel_rfl) (by kernel_rfl) (pop_move rfl) ?_
     refine ahp 13 rfl rfl (by kernel_rfl) (by kernel_rfl) (pop_move rfl) ?_
     refine ahp 14 rfl rfl (by kernel_rfl) (by kernel_rfl) ((by first | exact pop_nilCheck rfl | exact pop_nilCheck_raw rfl)) ?_
     refine ahp 15 rfl rfl (by kernel_rfl) (by kernel_rfl) ((by first | exact pop_fieldAddr ty36 rfl ty9 (by decide) rfl | exact pop_fieldAddr_raw ty36 rfl ty9 (by decide) rfl)) ?_
     refine ahl 16 rfl rfl (by kernel_rfl) (by kernel_rfl) (by simp) ⟨1, rfl⟩ (fun M hM => by obtain ⟨i, hi⟩ := hM; exact eop_load_el (i := i) (j := y39) 1 ty9 rfl (by omega) hi hx rfl rfl ⟨rfl, rfl⟩) ?_
     refine ahp 17 rfl rfl (by kernel_rfl) (by kernel_rfl) (pop_buildSlice (hs := [_, _]) ty44 ty9 rfl rfl (by decide) (by decide) rfl) ?_
     refine ahp 19 rfl rfl (by kernel_rfl) (by kernel_rfl) (pop_move rfl) ?_
     refine ahe 11 rfl (by kernel_rfl) ?_
     first
     | refine hop_e rfl (eop_callx (i := 0) ca15 rfl (WeakL.refl _) rfl (c_benchmake_Stream_Some (L := [_, _, _]) (by first | assumption | omega | (simp; omega) | simp_all) (by first | assumption | omega | (simp; omega) | simp_all) (by first | assumption | omega | (simp; omega) | simp_all)) ?_)
     | refine hop_e rfl (eop_callx (i := 1) ca15 rfl (WeakL.refl _) rfl (c_benchmake_Stream_Some (L := [_, _, _]) (by first | assumption | omega | (simp; omega) | simp_all) (by first | assumption | omega | (simp; omega) | simp_all) (by first | assumption | omega | (simp; omega) | simp_all)) ?_)
     | refine hop_e rfl (eop_callx (i := 2) ca15 rfl (WeakL.refl _) rfl (c_benchmake_Stream_Some (L := [_, _, _]) (by first | assumption | omega | (simp; omega) | simp_all) (by first | assumption | omega | (simp; omega) | simp_all) (by first | assumption | omega | (simp; omega) | simp_all)) ?_)
     | refine hop_e rfl (eop_callx (i := 3) ca15 rfl (WeakL.refl _) rfl (c_benchmake_Stream_Some (L := [_, _, _]) (by first | assumption | omega | (simp; omega) | simp_all) (by first | assumption | omega | (simp; omega) | simp_all) (by first | assumption | omega | (simp; omega) | simp_all)) ?_)
     rintro _ _ ⟨y52, rfl, hy52, rfl⟩
     refine ⟨fun _ => by first | exact .inl ⟨0, rfl⟩ | exact .inl ⟨1, rfl⟩ | exact .inl ⟨2, rfl⟩ | exact .inr (by simp [Before, Region.binds]), ?_⟩
     refine ahe 18 rfl (by kernel_rfl) ?_
     first
     | refine hop_e rfl (eop_callx (i := 0) ca15 rfl (WeakL.refl _) rfl (c_benchmake_Stream_Some (L := [_, _]) (by first | assumption | omega | (simp; omega) | simp_all) (by first | assumption | omega | (simp; omega) | simp_all) (by first | assumption | omega | (simp; omega) | simp_all)) ?_)
     | refine hop_e rfl (eop_callx (i := 1) ca15 rfl (WeakL.refl _) rfl (c_benchmake_Stream_Some (L := [_, _]) (by first | assumption | omega | (simp; omega) | simp_all) (by first | assumption | omega | (simp; omega) | simp_all) (by first | assumption | omega | (simp; omega) | simp_all)) ?_)
     | refine hop_e rfl (eop_callx (i := 2) ca15 rfl (WeakL.refl _) rfl (c_benchmake_Stream_Some (L := [_, _]) (by first | assumption | omega | (simp; omega) | simp_all) (by first | assumption | omega | (simp; omega) | simp_all) (by first | assumption | omega | (simp; omega) | simp_all)) ?_)
     | refine hop_e rfl (eop_callx (i := 3) ca15 rfl (WeakL.refl _) rfl (c_benchmake_Stream_Some (L := [_, _]) (by first | assumption | omega | (simp; omega) | simp_all) (by first | assumption | omega | (simp; omega) | simp_all) (by first | assumption | omega | (simp; omega) | simp_all)) ?_)
     rintro _ _ ⟨y59, rfl, hy59, rfl⟩
     refine ⟨fun _ => by first | exact .inl ⟨0, rfl⟩ | exact .inl ⟨1, rfl⟩ | exact .inl ⟨2, rfl⟩ | exact .inr (by simp [Before, Region.binds]), ?_⟩
     refine ahe 20 rfl (by kernel_rfl) ?_
     first
     | refine hop_e rfl (eop_callx (i := 0) ca32 rfl (WeakL.refl _) rfl (c_benchmake_Stream_Odd (by first | assumption | omega | (simp; omega) | simp_all) (by first | assumption | omega | (simp; omega) | simp_all) (by first | assumption | omega | (simp; omega) | simp_all) (by first | assumption | omega | (simp; omega) | simp_all)) ?_)
     | refine hop_e rfl (eop_callx (i := 1) ca32 rfl (WeakL.refl _) rfl (c_benchmake_Stream_Odd (by first | assumption | omega | (simp; omega) | simp_all) (by first | assumption | omega | (simp; omega) | simp_all) (by first | assumption | omega | (simp; omega) | simp_all) (by first | assumption | omega | (simp; omega) | simp_all)) ?_)
     | refine hop_e rfl (eop_callx (i := 2) ca32 rfl (WeakL.refl _) rfl (c_benchmake_Stream_Odd (by first | assumption | omega | (simp; omega) | simp_all) (by first | assumption | omega | (simp; omega) | simp_all) (by first | assumption | omega | (simp; omega) | simp_all) (by first | assumption | omega | (simp; omega) | simp_all)) ?_)
     | refine hop_e rfl (eop_callx (i := 3) ca32 rfl (WeakL.refl _) rfl (c_benchmake_Stream_Odd (by first | assumption | omega | (simp; omega) | simp_all) (by first | assumption | omega | (simp; omega) | simp_all) (by first | assumption | omega | (simp; omega) | simp_all) (by first | assumption | omega | (simp; omega) | simp_all)) ?_)
     rintro _ _ ⟨y61, rfl, rfl⟩
     refine ⟨fun _ => by first | exact .inl ⟨0, rfl⟩ | exact .inl ⟨1, rfl⟩ | exact .inl ⟨2, rfl⟩ | exact .inr (by simp [Before, Region.binds]), ?_⟩
     refine ahp 21 rfl rfl (by kernel_rfl) (by kernel_rfl) ((by first | exact pop_nilCheck rfl | exact pop_nilCheck_raw rfl)) ?_
     refine ahp 22 rfl rfl (by kernel_rfl) (by kernel_rfl) ((by first | exact pop_fieldAddr ty36 rfl ty9 (by decide) rfl | exact pop_fieldAddr_raw ty36 rfl ty9 (by decide) rfl)) ?_
     refine ahe 23 rfl (by kernel_rfl) ?_
     refine hop_e0 (eop_store_arr (i := 1) (j := y39) (f := 0) (y := eAsset x) (y' := eAsset ⟨y52, x.Position, x.Value⟩) ty9 rfl (by omega) rfl rfl (map_get hx) rfl rfl (by simp [hcells]) rfl ?_)
     refine ⟨fun _ => .inr (by simp [Before, Region.binds]), ?_⟩
     refine ahp 24 rfl rfl (by kernel_rfl) (by kernel_rfl) ((by first | exact pop_nilCheck rfl | exact pop_nilCheck_raw rfl)) ?_
     refine ahp 25 rfl rfl (by kernel_rfl) (by kernel_rfl) ((by first | exact pop_fieldAddr ty36 rfl ty9 (by decide) rfl | exact pop_fieldAddr_raw ty36 rfl ty9 (by decide) rfl)) ?_
     refine ahe 26 rfl (by kernel_rfl) ?_
     refine hop_e0 (eop_store_arr (i := 1) (j := y39) (f := 1) (y := eAsset ⟨y52, x.Position, x.Value⟩) (y' := eAsset ⟨y52, y59, x.Value⟩) ty9 rfl (by omega) rfl rfl (set_self (map_get hx)) rfl rfl (by simp [hcells]) rfl ?_)
     refine ⟨fun _ => .inr (by simp [Before, Region.binds]), ?_⟩
     refine ahp 27 rfl rfl (by kernel_rfl) (by kernel_rfl) ((by first | exact pop_nilCheck rfl | exact pop_nilCheck_raw rfl)) ?_
     refine ahp 28 rfl rfl (by kernel_rfl) (by kernel_rfl) ((by first | exact pop_fieldAddr ty36 rfl ty3 (by decide) rfl | exact pop_fieldAddr_raw ty36 rfl ty3 (by decide) rfl)) ?_
     refine ahe 29 rfl (by kernel_rfl) ?_
     refine hop_e0 (eop_store_arr (i := 1) (j := y39) (f := 2) (y := eAsset ⟨y52, y59, x.Value⟩) (y' := eAsset ⟨y52, y59, y61⟩) ty3 rfl (by omega) rfl rfl (set_self (set_self (map_get hx))) rfl rfl (by simp [hcells]) rfl ?_)
     refine ⟨fun _ => .inr (by simp [Before, Region.binds]), ?_⟩
     refine ahz (by kernel_rfl) ?_
     exact ⟨(out.set y39 ⟨y52, y59, y61⟩, a3 + 5), ⟨by simp; omega, all_set (P := GoodA) g2 ⟨by simp at hy52; rcases hy52 with rfl | rfl | rfl; exact (g2 x (List.mem_of_getElem? hx)).1; exact nil_sh; (unfold Sh; simp; omega), by simp at hy59; rcases hy59 with rfl | rfl; exact (g2 x (List.mem_of_getElem? hx)).2; exact nil_sh⟩, by dsimp only; omega⟩, trivial, (by repeat (first | exact keeps_refl | refine keeps_upd rfl ?_ | refine keeps_loop rfl rfl ?_)), by repeat (first | exact List.Perm.nil | refine permTo 0 rfl ?_ | refine permTo 1 rfl ?_ | refine permTo 2 rfl ?_ | refine permTo 3 rfl ?_ | (refine permToE 0 rfl ?hq ?_; (case hq => simp [setL, hcells]; done)) | (refine permToE 1 rfl ?hq ?_; (case hq => simp [setL, hcells]; done)) | (refine permToE 2 rfl ?hq ?_; (case hq => simp [setL, hcells]; done)) | (refine permToE 3 rfl ?hq ?_; (case hq => simp [setL, hcells]; done)) | fail)⟩
    ·try simp at h4
     refine hw_skip ?_
     exact ⟨(out, a3), ⟨by dsimp only; omega, g2, by dsimp only; omega⟩, trivial, (by repeat (first | exact keeps_refl | refine keeps_upd rfl ?_ | refine keeps_loop rfl rfl ?_)), by repeat (first | exact List.Perm.nil | refine permTo 0 rfl ?_ | refine permTo 1 rfl ?_ | refine permTo 2 rfl ?_ | refine permTo 3 rfl ?_ | (refine permToE 0 rfl ?hq ?_; (case hq => simp [setL, hcells]; done)) | (refine permToE 1 rfl ?hq ?_; (case hq => simp [setL, hcells]; done)) | (refine permToE 2 rfl ?hq ?_; (case hq => simp [setL, hcells]; done)) | (refine permToE 3 rfl ?hq ?_; (case hq => simp [setL, hcells]; done)) | fail)⟩
   ·intro q hq3
    obtain ⟨k1, a4⟩ := q
    dsimp only at hq3
    obtain ⟨q1, q2, q3⟩ := hq3
    refine hw_reg ?_
    refine dp rfl (pop_move rfl) ?_
    refine dp rfl (pop_assign rfl) ?_
    refine dn ?_
    refine hw_ret ?_
    refine ret_g (Ghost.fa 4 (i := 1) rfl rfl) rfl ⟨k1, a4, rfl, ⟨by omega, q2⟩, by omega, rfl⟩

set_option maxHeartbeats 2000000 in
/-- (*benchwarmer/benchmake.Stream).PlaceList -/
theorem c_benchmake_Stream_PlaceList [Tracks] {b : Nat} {l : List Int} {a : Nat}  (ha : a ≤ 800000) : Con Tryz.prog 12 [pAt b] [St b l a] (fun x M' => ∃ k a', x = ePlaces k ∧ GoodPs k ∧ a' ≤ a + 40 ∧ M' = [St b l a']) := by
 refine Con.of_body Tryz.func12 rfl Tryz.ntmps12 rfl rfl ?_
 refine hw_reg ?_
 refine dp rfl (pop_assign rfl) ?_
 refine dn ?_
 refine hw_reg ?_
 refine dp rfl (pop_assign rfl) ?_
 refine dn ?_
 refine hw_seq ?_
 refine hw_reg ?_
 refine dp rfl (pop_buildSlice (hs := [_, _, _, _]) ty44 ty9 rfl rfl (by decide) (by decide) rfl) ?_
 refine dp rfl (pop_lenm (f := HVal.str) (l := place4) ty44 rfl) ?_
 refine dp rfl (pop_move rfl) ?_
 refine dn ?_
 refine hw_ghost (Ghost.arr_nil 2) ?_
 refine hw_block ?_
 refine hw_loopw2 [3, 5, 9, 10, 11, 12, 13, 14, 15, 16, 17, 18, 19, 20, 21, 22, 23, 24] (fun (k : Nat) (q : GL HL.Place) => [(9, .int .i64 k), (3, .raw q.u)]) (fun (k : Nat) (q : GL HL.Place) => [St b l q.a, .arr q.u 2 (q.out.map ePlace)]) (fun (k : Nat) (q : GL HL.Place) => k ≤ place4.length ∧ (GLok GoodP k (a + 2 * k) q)) (fun (k : Nat) (q : GL HL.Place) => place4.length - k) (0) (⟨.slice none 0 0, [], a⟩) ?_ ?_ ?_ ?_
 ·exact ⟨by decide, ⟨by simp, by simp, by dsimp only; omega⟩⟩
 ·exact ⟨rfl, rfl, trivial⟩
 ·repeat (first | exact List.Perm.nil | refine permTo 0 rfl ?_ | refine permTo 1 rfl ?_ | refine permTo 2 rfl ?_ | refine permTo 3 rfl ?_ | (refine permToE 0 rfl ?hq ?_; (case hq => simp [setL, hcells]; done)) | (refine permToE 1 rfl ?hq ?_; (case hq => simp [setL, hcells]; done)) | (refine permToE 2 rfl ?hq ?_; (case hq => simp [setL, hcells]; done)) | (refine permToE 3 rfl ?hq ?_; (case hq => simp [setL, hcells]; done)) | fail)
 ·intro k q hinv
  obtain ⟨hk, hq⟩ := hinv
  obtain ⟨u, out, a2⟩ := q
  obtain ⟨g1, g2, g3⟩ := id hq
  dsimp only at g1 g2 g3
  have h4 : place4.length = 4 := rfl
  refine hw_reg ?_
  refine dp rfl (pop_lss rfl rfl) ?_
  refine dn ?_
  refine hw_seq ?_
  refine hw_cond rfl (fun h1 => ?_) (fun h2 => ?_)
  ·try simp at h1
   obtain ⟨x, hx⟩ : ∃ x, place4[k]? = some x := ⟨_, List.getElem?_eq_getElem h1⟩
   have hdx := drop_cons hx
   refine hw_skip ?_
   refine seqQ_n ?_
   refine hw_seq ?_
   refine hw_block ?_
   refine hw_reg ?_
   refine dp rfl (pop_idx (f := HVal.str) (l := place4) (j := k) (a := x) ty44 ty9 rfl rfl rfl hx) ?_
   refine dp rfl (pop_load ty9 rfl rfl rfl) ?_
   refine dp rfl (pop_assign rfl) ?_
   refine dn ?_
   refine hw_reg ?_
   refine dp rfl (pop_move rfl) ?_
   first
   | refine de rfl (eop_callx (i := 0) ca14 rfl (WeakL.refl _) rfl (c_benchmake_Stream_Flip (by first | assumption | omega | (simp; omega) | simp_all) (by first | assumption | omega | (simp; omega) | simp_all)) ?_)
   | refine de rfl (eop_callx (i := 1) ca14 rfl (WeakL.refl _) rfl (c_benchmake_Stream_Flip (by first | assumption | omega | (simp; omega) | simp_all) (by first | assumption | omega | (simp; omega) | simp_all)) ?_)
   | refine de rfl (eop_callx (i := 2) ca14 rfl (WeakL.refl _) rfl (c_benchmake_Stream_Flip (by first | assumption | omega | (simp; omega) | simp_all) (by first | assumption | omega | (simp; omega) | simp_all)) ?_)
   | refine de rfl (eop_callx (i := 3) ca14 rfl (WeakL.refl _) rfl (c_benchmake_Stream_Flip (by first | assumption | omega | (simp; omega) | simp_all) (by first | assumption | omega | (simp; omega) | simp_all)) ?_)
   rintro _ _ ⟨y14, rfl, rfl⟩
   refine dp rfl (pop_not rfl) ?_
   refine dn ?_
   refine hw_cond rfl (fun h3 => ?_) (fun h4 => ?_)
   ·try simp at h3
    refine hw_reg1 ?_
    refine dp rfl (pop_move rfl) ?_
    refine dp rfl (pop_move rfl) ?_
    refine dp rfl (pop_move rfl) ?_
    refine dp rfl (pop_buildSlice (hs := [_, _, _, _, _]) ty22 ty3 rfl rfl (by decide) (by decide) rfl) ?_
    first
    | refine de rfl (eop_callx (i := 0) ca13 rfl (WeakL.refl _) rfl (c_benchmake_Stream_Pick (L := [_, _, _, _, _]) (by first | assumption | omega | (simp; omega) | simp_all) (by first | assumption | omega | (simp; omega) | simp_all) (by first | assumption | omega | (simp; omega) | simp_all)) ?_)
    | refine de rfl (eop_callx (i := 1) ca13 rfl (WeakL.refl _) rfl (c_benchmake_Stream_Pick (L := [_, _, _, _, _]) (by first | assumption | omega | (simp; omega) | simp_all) (by first | assumption | omega | (simp; omega) | simp_all) (by first | assumption | omega | (simp; omega) | simp_all)) ?_)
    | refine de rfl (eop_callx (i := 2) ca13 rfl (WeakL.refl _) rfl (c_benchmake_Stream_Pick (L := [_, _, _, _, _]) (by first | assumption | omega | (simp; omega) | simp_all) (by first | assumption | omega | (simp; omega) | simp_all) (by first | assumption | omega | (simp; omega) | simp_all)) ?_)
    | refine de rfl (eop_callx (i := 3) ca13 rfl (WeakL.refl _) rfl (c_benchmake_Stream_Pick (L := [_, _, _, _, _]) (by first | assumption | omega | (simp; omega) | simp_all) (by first | assumption | omega | (simp; omega) | simp_all) (by first | assumption | omega | (simp; omega) | simp_all)) ?_)
    rintro _ _ ⟨y20, rfl, hy20, rfl⟩
    refine dp rfl (pop_build (cs := [_, _]) ty95 pl95 rfl) ?_
    refine dp rfl (pop_buildSlice (hs := [_]) ty40 ty95 rfl rfl (by decide) (by decide) rfl) ?_
    first
    | refine de rfl (eop_append (i := 0) ty40 ty95 rfl rfl rfl rfl rfl (by simp [flat, hcells]) (by first | omega | (simp; omega)) fun v23 => ?_)
    | refine de rfl (eop_append (i := 1) ty40 ty95 rfl rfl rfl rfl rfl (by simp [flat, hcells]) (by first | omega | (simp; omega)) fun v23 => ?_)
    | refine de rfl (eop_append (i := 2) ty40 ty95 rfl rfl rfl rfl rfl (by simp [flat, hcells]) (by first | omega | (simp; omega)) fun v23 => ?_)
    | refine de rfl (eop_append (i := 3) ty40 ty95 rfl rfl rfl rfl rfl (by simp [flat, hcells]) (by first | omega | (simp; omega)) fun v23 => ?_)
    refine dp rfl (pop_assign rfl) ?_
    refine dn ?_
    refine blockQ_n ?_
    refine seqQ_n ?_
    refine hw_reg1 ?_
    refine dp rfl (pop_add64 rfl rfl (by omega) (by omega)) ?_
    refine dp rfl (pop_move rfl) ?_
    refine dn ?_
    exact ⟨k + 1, ⟨v23, out ++ [⟨x, y20⟩], a2 + 2⟩, ⟨by omega, hq.add (x := (⟨x, y20⟩ : HL.Place)) (place4_sh x (List.mem_of_getElem? hx)) (by omega)⟩, by dsimp only; omega, ⟨rfl, rfl, trivial⟩, (by repeat (first | exact keeps_refl | refine keeps_upd rfl ?_ | refine keeps_loop rfl rfl ?_)), by repeat (first | exact List.Perm.nil | refine permTo 0 rfl ?_ | refine permTo 1 rfl ?_ | refine permTo 2 rfl ?_ | refine permTo 3 rfl ?_ | (refine permToE 0 rfl ?hq ?_; (case hq => simp [setL, hcells]; done)) | (refine permToE 1 rfl ?hq ?_; (case hq => simp [setL, hcells]; done)) | (refine permToE 2 rfl ?hq ?_; (case hq => simp [setL, hcells]; done)) | (refine permToE 3 rfl ?hq ?_; (case hq => simp [setL, hcells]; done)) | fail)⟩
   ·try simp at h4
    refine hw_skip ?_
    refine blockQ_n ?_
    refine seqQ_n ?_
    refine hw_reg1 ?_
    refine dp rfl (pop_add64 rfl rfl (by omega) (by omega)) ?_
    refine dp rfl (pop_move rfl) ?_
    refine dn ?_
    exact ⟨k + 1, ⟨u, out, a2 + 1⟩, ⟨by omega, hq.same (by omega)⟩, by dsimp only; omega, ⟨rfl, rfl, trivial⟩, (by repeat (first | exact keeps_refl | refine keeps_upd rfl ?_ | refine keeps_loop rfl rfl ?_)), by repeat (first | exact List.Perm.nil | refine permTo 0 rfl ?_ | refine permTo 1 rfl ?_ | refine permTo 2 rfl ?_ | refine permTo 3 rfl ?_ | (refine permToE 0 rfl ?hq ?_; (case hq => simp [setL, hcells]; done)) | (refine permToE 1 rfl ?hq ?_; (case hq => simp [setL, hcells]; done)) | (refine permToE 2 rfl ?hq ?_; (case hq => simp [setL, hcells]; done)) | (refine permToE 3 rfl ?hq ?_; (case hq => simp [setL, hcells]; done)) | fail)⟩
  ·try simp at h2
   have hnk : place4.length ≤ k := by omega
   obtain rfl : k = place4.length := by omega
   refine hw_exit ?_
   refine seqQ_x ?_
   refine loopQ2_x ?_
   refine blockQ_eq ?_
   refine seqQ_n ?_
   refine hw_join [6, 25, 26, 27, 28, 29, 30, 31, 32, 33, 34, 35, 36, 37, 38, 39, 40, 41, 42, 43, 44, 45, 46, 47, 48, 49, 50, 51, 52] (fun (q : List HL.Place × Nat) => []) (fun (q : List HL.Place × Nat) => [St b l q.2, .arr u 2 (q.1.map ePlace)]) (fun (q : List HL.Place × Nat) => q.1.length ≤ 4 ∧ (∀ x ∈ q.1, Sh x.Position) ∧ q.2 ≤ a + 40) ?_ ?_
   ·skip
    refine hw_reg ?_
    refine dp rfl (pop_move rfl) ?_
    first
    | refine de rfl (eop_lenm (i := 0) ty40 rfl rfl ?_)
    | refine de rfl (eop_lenm (i := 1) ty40 rfl rfl ?_)
    | refine de rfl (eop_lenm (i := 2) ty40 rfl rfl ?_)
    | refine de rfl (eop_lenm (i := 3) ty40 rfl rfl ?_)
    refine dp rfl (pop_gtr rfl rfl) ?_
    refine dp rfl (pop_move rfl) ?_
    refine dg rfl rfl (fun hc => ⟨_, OpenTo.refl _, pop_move rfl⟩) ?_
    refine dgx (fun x M' => ∃ (y : Bool) (a3 : Nat), x = .bool y ∧ a3 ≤ a2 + 1 ∧ M' = [St b l a3, .arr u 2 (out.map ePlace)]) rfl rfl (fun hc => ⟨_, false, a2, rfl, by omega, rfl⟩) (fun hc => ⟨_, OpenTo.upd (t := 29) rfl (by first | exact hc | simp_all) (OpenTo.refl _), eop_callx (i := 0) ca14 rfl (WeakL.refl _) rfl (c_benchmake_Stream_Flip (a := a2) (by omega) (by omega)) (fun h M' hh => by
     obtain ⟨y, h1, h2⟩ := hh
     exact ⟨y, a2 + 1, h1, by omega, by rw [h2]; rfl⟩)⟩) ?_
    rintro _ _ ⟨y, a3, rfl, ha3, rfl⟩
    refine dp rfl (pop_picko rfl (.inr ⟨_, rfl, fun h => by simp_all⟩) (.inl rfl)) ?_
    refine dn ?_
    refine hw_cond rfl (fun h5 => ?_) (fun h6 => ?_)
    ·try simp at h5
     have ho0 : 0 < out.length := by simp_all
     refine hw_arrc (i := 1) rfl (fun h0 he => ?_) (fun ob off cap hv hcap => ?_)
     ·exfalso; have := congrArg List.length he; simp at this; subst this; simp at ho0
     subst hv
     refine hw_reg ?_
     refine dp rfl (pop_move rfl) ?_
     refine dp rfl (pop_move rfl) ?_
     refine dp rfl (pop_move rfl) ?_
     first
     | refine de rfl (eop_lenm (i := 0) ty40 rfl rfl ?_)
     | refine de rfl (eop_lenm (i := 1) ty40 rfl rfl ?_)
     | refine de rfl (eop_lenm (i := 2) ty40 rfl rfl ?_)
     | refine de rfl (eop_lenm (i := 3) ty40 rfl rfl ?_)
     first
     | refine de rfl (eop_callx (i := 0) ca31 rfl (WeakL.refl _) rfl (c_benchmake_Stream_Next (by first | assumption | omega | (simp; omega) | simp_all) (by first | assumption | omega | (simp; omega) | simp_all)) ?_)
     | refine de rfl (eop_callx (i := 1) ca31 rfl (WeakL.refl _) rfl (c_benchmake_Stream_Next (by first | assumption | omega | (simp; omega) | simp_all) (by first | assumption | omega | (simp; omega) | simp_all)) ?_)
     | refine de rfl (eop_callx (i := 2) ca31 rfl (WeakL.refl _) rfl (c_benchmake_Stream_Next (by first | assumption | omega | (simp; omega) | simp_all) (by first | assumption | omega | (simp; omega) | simp_all)) ?_)
     | refine de rfl (eop_callx (i := 3) ca31 rfl (WeakL.refl _) rfl (c_benchmake_Stream_Next (by first | assumption | omega | (simp; omega) | simp_all) (by first | assumption | omega | (simp; omega) | simp_all)) ?_)
     rintro _ _ ⟨y36, rfl, hy36, rfl⟩
     refine dp rfl (pop_idxraw (j := y36) ty40 ty95 rfl rfl rfl (by simp; omega)) ?_
     refine dp rfl (pop_assign rfl) ?_
     refine dn ?_
     obtain ⟨x, hx⟩ : ∃ x, out[y36]? = some x := ⟨_, List.getElem?_eq_getElem (by omega)⟩
     refine hw_reg1 ?_
     refine dp rfl (pop_move rfl) ?_
     refine dp rfl (pop_move rfl) ?_
     refine dp rfl (pop_move rfl) ?_
     refine dp rfl (pop_move rfl) ?_
     refine dp rfl ((by first | exact pop_nilCheck rfl | exact pop_nilCheck_raw rfl)) ?_
     refine dp rfl ((by first | exact pop_fieldAddr ty95 rfl ty9 (by decide) rfl | exact pop_fieldAddr_raw ty95 rfl ty9 (by decide) rfl)) ?_
     refine de rfl (eop_load_el (i := 1) (j := y36) 0 ty9 rfl (by omega) rfl hx rfl rfl ?_)
     refine dp rfl (pop_buildSlice (hs := [_, _, _]) ty44 ty9 rfl rfl (by decide) (by decide) rfl) ?_
     first
     | refine de rfl (eop_callx (i := 0) ca15 rfl (WeakL.refl _) rfl (c_benchmake_Stream_Some (L := [_, _, _]) (by first | assumption | omega | (simp; omega) | simp_all) (by first | assumption | omega | (simp; omega) | simp_all) (by first | assumption | omega | (simp; omega) | simp_all)) ?_)
     | refine de rfl (eop_callx (i := 1) ca15 rfl (WeakL.refl _) rfl (c_benchmake_Stream_Some (L := [_, _, _]) (by first | assumption | omega | (simp; omega) | simp_all) (by first | assumption | omega | (simp; omega) | simp_all) (by first | assumption | omega | (simp; omega) | simp_all)) ?_)
     | refine de rfl (eop_callx (i := 2) ca15 rfl (WeakL.refl _) rfl (c_benchmake_Stream_Some (L := [_, _, _]) (by first | assumption | omega | (simp; omega) | simp_all) (by first | assumption | omega | (simp; omega) | simp_all) (by first | assumption | omega | (simp; omega) | simp_all)) ?_)
     | refine de rfl (eop_callx (i := 3) ca15 rfl (WeakL.refl _) rfl (c_benchmake_Stream_Some (L := [_, _, _]) (by first | assumption | omega | (simp; omega) | simp_all) (by first | assumption | omega | (simp; omega) | simp_all) (by first | assumption | omega | (simp; omega) | simp_all)) ?_)
     rintro _ _ ⟨y46, rfl, hy46, rfl⟩
     refine dp rfl (pop_move rfl) ?_
     first
     | refine de rfl (eop_callx (i := 0) ca32 rfl (WeakL.refl _) rfl (c_benchmake_Stream_Odd (by first | assumption | omega | (simp; omega) | simp_all) (by first | assumption | omega | (simp; omega) | simp_all) (by first | assumption | omega | (simp; omega) | simp_all) (by first | assumption | omega | (simp; omega) | simp_all)) ?_)
     | refine de rfl (eop_callx (i := 1) ca32 rfl (WeakL.refl _) rfl (c_benchmake_Stream_Odd (by first | assumption | omega | (simp; omega) | simp_all) (by first | assumption | omega | (simp; omega) | simp_all) (by first | assumption | omega | (simp; omega) | simp_all) (by first | assumption | omega | (simp; omega) | simp_all)) ?_)
     | refine de rfl (eop_callx (i := 2) ca32 rfl (WeakL.refl _) rfl (c_benchmake_Stream_Odd (by first | assumption | omega | (simp; omega) | simp_all) (by first | assumption | omega | (simp; omega) | simp_all) (by first | assumption | omega | (simp; omega) | simp_all) (by first | assumption | omega | (simp; omega) | simp_all)) ?_)
     | refine de rfl (eop_callx (i := 3) ca32 rfl (WeakL.refl _) rfl (c_benchmake_Stream_Odd (by first | assumption | omega | (simp; omega) | simp_all) (by first | assumption | omega | (simp; omega) | simp_all) (by first | assumption | omega | (simp; omega) | simp_all) (by first | assumption | omega | (simp; omega) | simp_all)) ?_)
     rintro _ _ ⟨y48, rfl, rfl⟩
     refine dp rfl ((by first | exact pop_nilCheck rfl | exact pop_nilCheck_raw rfl)) ?_
     refine dp rfl ((by first | exact pop_fieldAddr ty95 rfl ty9 (by decide) rfl | exact pop_fieldAddr_raw ty95 rfl ty9 (by decide) rfl)) ?_
     refine de0 (eop_store_arr (i := 1) (j := y36) (f := 0) (y := ePlace x) (y' := ePlace ⟨y46, x.Many⟩) ty9 rfl (by omega) rfl rfl (map_get hx) rfl rfl (by simp [hcells]) rfl ?_)
     refine dp rfl ((by first | exact pop_nilCheck rfl | exact pop_nilCheck_raw rfl)) ?_
     refine dp rfl ((by first | exact pop_fieldAddr ty95 rfl ty3 (by decide) rfl | exact pop_fieldAddr_raw ty95 rfl ty3 (by decide) rfl)) ?_
     refine de0 (eop_store_arr (i := 1) (j := y36) (f := 1) (y := ePlace ⟨y46, x.Many⟩) (y' := ePlace ⟨y46, y48⟩) ty3 rfl (by omega) rfl rfl (set_self (map_get hx)) rfl rfl (by simp [hcells]) rfl ?_)
     refine dn ?_
     exact ⟨(out.set y36 ⟨y46, y48⟩, a3 + 4), ⟨by simp; omega, all_set (P := GoodP) g2 (by simp at hy46; rcases hy46 with rfl | rfl | rfl; exact g2 x (List.mem_of_getElem? hx); exact nil_sh; (unfold GoodP Sh; simp)), by dsimp only; omega⟩, trivial, (by repeat (first | exact keeps_refl | refine keeps_upd rfl ?_ | refine keeps_loop rfl rfl ?_)), by repeat (first | exact List.Perm.nil | refine permTo 0 rfl ?_ | refine permTo 1 rfl ?_ | refine permTo 2 rfl ?_ | refine permTo 3 rfl ?_ | (refine permToE 0 rfl ?hq ?_; (case hq => simp [setL, hcells]; done)) | (refine permToE 1 rfl ?hq ?_; (case hq => simp [setL, hcells]; done)) | (refine permToE 2 rfl ?hq ?_; (case hq => simp [setL, hcells]; done)) | (refine permToE 3 rfl ?hq ?_; (case hq => simp [setL, hcells]; done)) | fail)⟩
    ·try simp at h6
     refine hw_skip ?_
     exact ⟨(out, a3), ⟨by dsimp only; omega, g2, by dsimp only; omega⟩, trivial, (by repeat (first | exact keeps_refl | refine keeps_upd rfl ?_ | refine keeps_loop rfl rfl ?_)), by repeat (first | exact List.Perm.nil | refine permTo 0 rfl ?_ | refine permTo 1 rfl ?_ | refine permTo 2 rfl ?_ | refine permTo 3 rfl ?_ | (refine permToE 0 rfl ?hq ?_; (case hq => simp [setL, hcells]; done)) | (refine permToE 1 rfl ?hq ?_; (case hq => simp [setL, hcells]; done)) | (refine permToE 2 rfl ?hq ?_; (case hq => simp [setL, hcells]; done)) | (refine permToE 3 rfl ?hq ?_; (case hq => simp [setL, hcells]; done)) | fail)⟩
   ·intro q hq3
    obtain ⟨k1, a4⟩ := q
    dsimp only at hq3
    obtain ⟨q1, q2, q3⟩ := hq3
    refine hw_reg ?_
    refine dp rfl (pop_move rfl) ?_
    refine dp rfl (pop_assign rfl) ?_
    refine dn ?_
    refine hw_ret ?_
    refine ret_g (Ghost.fa 2 (i := 1) rfl rfl) rfl ⟨k1, a4, rfl, ⟨by omega, q2⟩, by omega, rfl⟩
end Go.Proofs.YtbfikmihcpfgaaaGreatDoor
end
section
namespace Go.Proofs.YtbfikmihcpfgaaaGreatDoor
open Go.HL
set_option maxRecDepth 100000
set_option linter.unusedVariables false
set_option linter.unusedSimpArgs false

end Go.Proofs.YtbfikmihcpfgaaaGreatDoor
end
section
namespace Go.Proofs.YtbfikmihcpfgaaaGreatDoor
open Go.HL
set_option maxRecDepth 100000
set_option linter.unusedVariables false
set_option linter.unusedSimpArgs false

end Go.Proofs.YtbfikmihcpfgaaaGreatDoor
end
section
namespace Go.Proofs.YtbfikmihcpfgaaaGreatDoor
open Go.HL
set_option maxRecDepth 100000
set_option linter.unusedVariables false
set_option linter.unusedSimpArgs false

end Go.Proofs.YtbfikmihcpfgaaaGreatDoor
end
section
namespace Go.HL
end Go.HL
end
section
namespace Go.HL
open Op (bytesLess)
abbrev pick0 : Pick := ⟨0, [], [], 0, false⟩
theorem pw_tri {α : Type} {R : α → α → Prop} : ∀ {l : List α}, l.Pairwise R → ∀ x ∈ l, ∀ y ∈ l, x = y ∨ R x y ∨ R y x
 | [], _, x, hx, _, _ => by simp at hx
 | a :: l, h, x, hx, y, hy => by
   obtain ⟨h1, h2⟩ := List.pairwise_cons.1 h
   rcases List.mem_cons.1 hx with e | hx' <;> rcases List.mem_cons.1 hy with e' | hy'
   ·exact .inl (e.trans e'.symm)
   ·exact .inr (.inl (e ▸ h1 y hy'))
   ·exact .inr (.inr (e' ▸ h1 x hx'))
   ·exact pw_tri h2 x hx' y hy'
/-! keeps that are right -/
def kLt (a b : Keep) : Prop := bytesLess a.Team b.Team = true ∨ (a.Team = b.Team ∧ a.Round < b.Round)
structure KeepsOk (r : Room) (k : List Keep) : Prop where
 all : ∀ x ∈ k, x.Team ∈ r.Teams ∧ x.Player ∈ r.Players ∧ 1 ≤ x.Round ∧ x.Round ≤ r.Rounds
 lt : k.Pairwise kLt
theorem risingGo_key {l : List Str} : ∀ (r : List Str) (k : Nat), risingGo l k r = 0 → ∀ s ∈ r, key s = true
 | [], _, _, s, hs => by simp at hs
 | x :: r, k, h, s, hs => by
   simp only [risingGo] at h
   split at h
   ·omega
   ·rename_i h1
    split at h
    ·omega
    ·rcases List.mem_cons.1 hs with rfl | hs
     ·simpa using h1
     ·exact risingGo_key r (k + 1) h s hs
structure RoomOk (r : Room) : Prop where
 sorted : SortedS r.Players
 t20 : r.Teams.length ≤ 20
 t0 : 0 < r.Teams.length
 r1 : 1 ≤ r.Rounds
 r30 : r.Rounds ≤ 30
 p500 : r.Players.length ≤ 500
 ne : ∀ s ∈ r.Players, s ≠ []
 many : (r.Teams.length : Int) * r.Rounds ≤ r.Players.length
 clock : 1000 ≤ r.Clock ∧ r.Clock ≤ 86400000
 start : moment r.Start = true
theorem room_ok {r : Room} (h : checkRoom r = 0) : RoomOk r := by
 obtain ⟨a1, a2, a3, a4, a5, a6⟩ := checkRoom_ok h
 unfold checkRoom at h
 split at h
 ·rename_i hc; simp [h] at hc
 ·split at h
  ·omega
  ·split at h
   ·omega
   ·split at h
    ·rename_i hc; simp [h] at hc
    ·rename_i hp
     split at h
     ·omega
     ·rename_i hcl
      split at h
      ·omega
      ·rename_i hm
       simp at hcl hp
       refine ⟨a1, a2, a3, a4, a5, a6, fun s hs e => ?_, by omega, out_f hcl.1, hcl.2⟩
       unfold playersFault at hp
       split at hp
       ·omega
       ·have := risingGo_key _ 0 hp s hs
        subst e; simp [key, keyHd] at this
def fits (t : Turn) (x : Keep) : Bool := decide (x.Team = t.of ∧ x.Round = t.round)
theorem keepIn_fix (r : Room) (t : Turn) : ∀ (k : List Keep) (p : Pick), (keepIn r t p k).No = p.No ∧ (keepIn r t p k).Team = p.Team
 | [], p => ⟨rfl, rfl⟩
 | x :: k, p => by
   obtain ⟨h1, h2⟩ := keepIn_fix r t k (if x.Team = t.of ∧ x.Round = t.round then { p with Player := x.Player, At := r.Start } else p)
   simp only [keepIn]; rw [h1, h2]
   split <;> exact ⟨rfl, rfl⟩
theorem KeepsOk.one {r : Room} {k : List Keep} (h : KeepsOk r k) {t : Turn} {x y : Keep} (hx : x ∈ k) (hy : y ∈ k) (fx : fits t x = true) (fy : fits t y = true) : y = x := by
 simp [fits] at fx fy
 rcases pw_tri h.lt x hx y hy with e | e | e
 ·exact e.symm
 ·exfalso
  rcases e with e | ⟨e1, e2⟩
  ·rw [fx.1, fy.1, less_irrefl] at e; cases e
  ·omega
 ·exfalso
  rcases e with e | ⟨e1, e2⟩
  ·rw [fx.1, fy.1, less_irrefl] at e; cases e
  ·omega
def freeP (r : Room) (k : List Keep) (s : List Swap) : List Pick := (open1 r k s).filter fun p => p.Player == []
def goneB (k : List Keep) (l : List Pick) (s : Str) : Bool := k.any (fun x => x.Player == s) || l.any (fun p => p.Player == s)
end Go.HL
end
section
namespace Go.HL
end Go.HL
end
section
namespace Go.HL
open Op (bytesLess)
end Go.HL
end
section
namespace Go.HL
end Go.HL
end
section
namespace Go.HL
end Go.HL
end
section
namespace Go.HL
end Go.HL
end
section
namespace Go.HL
end Go.HL
end
section
namespace Go.HL
end Go.HL
end
section
namespace Go.HL
def eqSt {α : Type} (e : α → HVal) (a b : α) : Bool := eqHL (hcells (e a)) (hcells (e b))
def eqSts {α : Type} (e : α → HVal) : List α → List α → Bool
 | [], [] => true
 | a :: l, b :: m => eqSt e a b && eqSts e l m
 | _, _ => false
theorem eqSts_len {α : Type} {e : α → HVal} : ∀ {l m : List α}, l.length ≠ m.length → eqSts e l m = false
 | [], [], h => absurd rfl h
 | [], _ :: _, _ => rfl
 | _ :: _, [], _ => rfl
 | a :: l, b :: m, h => by
   rw [eqSts, eqSts_len (by intro q; apply h; simp [q])]; simp
end Go.HL
end
section
namespace Go.HL
end Go.HL
end
section
namespace Go.HL
structure Hall where
 Teams : List Str
 Players : List Str
 Budget : Int
 Places : Int
structure Sale where
 Player : Str
 Team : Str
 Price : Int
def spent : List Sale → Str → Int
 | [], _ => 0
 | x :: r, t => (if x.Team = t then x.Price else 0) + spent r t
def many : List Sale → Str → Int
 | [], _ => 0
 | x :: r, t => (if x.Team = t then 1 else 0) + many r t
theorem spent_snoc (l : List Sale) (x : Sale) (t : Str) : spent (l ++ [x]) t = spent l t + (if x.Team = t then x.Price else 0) := by
 induction l with
 | nil => simp [spent]
 | cons y r ih => simp only [List.cons_append, spent, ih]; omega
theorem many_snoc (l : List Sale) (x : Sale) (t : Str) : many (l ++ [x]) t = many l t + (if x.Team = t then 1 else 0) := by
 induction l with
 | nil => simp [many]
 | cons y r ih => simp only [List.cons_append, many, ih]; omega
abbrev SMap := List (Str × HVal)
def lkI (L : SMap) (t : Str) : HVal := match sfind t L with | some p => p.2 | none => .int .i64 0
theorem sfind_append_none {s t : Str} {v : HVal} : ∀ {L : SMap}, sfind s L = none → sfind t (L ++ [(s, v)]) = if t = s then some (L.length, v) else sfind t L
 | [], _ => by by_cases h : t = s <;> simp [sfind, h]
 | (k, h) :: r, hn => by
   simp only [sfind] at hn
   by_cases hk : s = k
   ·rw [if_pos hk] at hn; cases hn
   ·rw [if_neg hk] at hn
    have hr : sfind s r = none := by cases hq : sfind s r with
     | none => rfl
     | some p => rw [hq] at hn; cases hn
    have ih := sfind_append_none (t := t) (v := v) hr
    simp only [List.cons_append, sfind]
    by_cases ht : t = k
    ·have : ¬ t = s := fun e => hk (e ▸ ht)
     rw [if_pos ht, if_neg this, if_pos ht]
    ·rw [if_neg ht, ih]
     by_cases hs : t = s
     ·rw [if_pos hs, if_pos hs]; simp
     ·rw [if_neg hs, if_neg hs, if_neg ht]
theorem sfind_set {s t : Str} {v : HVal} : ∀ {L : SMap} {j : Nat} {h : HVal}, sfind s L = some (j, h) → (sfind t (L.set j (s, v))) = if t = s then some (j, v) else sfind t L
 | [], j, h, hh => by simp [sfind] at hh
 | (k, x) :: r, j, h, hh => by
   simp only [sfind] at hh
   by_cases hk : s = k
   ·rw [if_pos hk] at hh
    simp only [Option.some.injEq, Prod.mk.injEq] at hh
    obtain ⟨rfl, rfl⟩ := hh
    subst hk
    simp only [List.set_cons_zero, sfind]
    by_cases ht : t = s
    ·rw [if_pos ht, if_pos ht]
    ·rw [if_neg ht, if_neg ht, if_neg ht]
   ·rw [if_neg hk] at hh
    cases hq : sfind s r with
    | none => rw [hq] at hh; cases hh
    | some p =>
      rw [hq] at hh
      simp only [Option.map_some, Option.some.injEq, Prod.mk.injEq] at hh
      obtain ⟨rfl, rfl⟩ := hh
      have ih := sfind_set (t := t) (v := v) (L := r) (j := p.1) (h := p.2) (by rw [hq])
      simp only [List.set_cons_succ, sfind]
      by_cases ht : t = k
      ·have : ¬ t = s := fun e => hk (e ▸ ht)
       rw [if_pos ht, if_neg this, if_pos ht]
      ·rw [if_neg ht, ih, if_neg ht]
       by_cases hs : t = s
       ·rw [if_pos hs, if_pos hs]; rfl
       ·rw [if_neg hs, if_neg hs]
theorem sfind_put (s t : Str) (v : HVal) (L : SMap) : (sfind t (sput s v L)).map (·.2) = if t = s then some v else (sfind t L).map (·.2) := by
 unfold sput
 cases hq : sfind s L with
 | none => simp only []; rw [sfind_append_none hq]; split <;> rfl
 | some p => obtain ⟨j, h⟩ := p; simp only []; rw [sfind_set hq]; split <;> rfl
theorem lkI_eq (L : SMap) (t : Str) : lkI L t = ((sfind t L).map (·.2)).getD (.int .i64 0) := by
 unfold lkI; cases sfind t L <;> rfl
theorem lkI_put (s t : Str) (v : HVal) (L : SMap) : lkI (sput s v L) t = if t = s then v else lkI L t := by
 rw [lkI_eq, sfind_put, lkI_eq]; split <;> rfl
theorem sfind_some_iff (L : SMap) (t : Str) : (sfind t L).isSome = ((sfind t L).map (·.2)).isSome := by cases sfind t L <;> rfl
/-- An auction after sales. -/
structure AucOk (h : Hall) (l : List Sale) (S : List Str) (L H : SMap) : Prop where
 sold : ∀ s, S.contains s = l.any (fun y => y.Player == s)
 left : ∀ t, h.Teams.contains t = true → lkI L t = .int .i64 (h.Budget - spent l t)
 got : ∀ t, lkI H t = .int .i64 (many l t)
theorem sadd_contains (s t : Str) (l : List Str) : (sadd s l).contains t = (l.contains t || s == t) := by
 unfold sadd
 by_cases hc : l.contains s = true
 ·rw [if_pos hc]
  by_cases h : s = t
  ·subst h; rw [hc]; simp
  ·have : (s == t) = false := by simpa using h
   simp [this]
 ·rw [if_neg hc, List.contains_eq_any_beq, List.any_append, ← List.contains_eq_any_beq]
  congr 1
  simp only [List.any_cons, List.any_nil, Bool.or_false]
  rw [Bool.eq_iff_iff, beq_iff_eq, beq_iff_eq]; exact eq_comm
theorem AucOk.add {h : Hall} {l : List Sale} {S : List Str} {L H : SMap} (ok : AucOk h l S L H) (x : Sale) (hx : h.Teams.contains x.Team = true) :
 AucOk h (l ++ [x]) (sadd x.Player S) (sput x.Team (.int .i64 (h.Budget - spent l x.Team - x.Price)) L) (sput x.Team (.int .i64 (many l x.Team + 1)) H) where
 sold s := by rw [sadd_contains, ok.sold, List.any_append]; simp
 left t ht := by
  rw [lkI_put, spent_snoc]
  by_cases e : t = x.Team
  ·subst e; rw [if_pos rfl, if_pos rfl]; congr 1; omega
  ·rw [if_neg e, if_neg (fun q => e q.symm), ok.left t ht]; congr 1; omega
 got t := by
  rw [lkI_put, many_snoc]
  by_cases e : t = x.Team
  ·subst e; rw [if_pos rfl, if_pos rfl]
  ·rw [if_neg e, if_neg (fun q => e q.symm), ok.got t]; congr 1; omega
end Go.HL
end
section
namespace Go.HL
def lastAt (r : Room) (l : List Pick) : Int := match l.getLast? with | some p => p.At | none => r.Start
def pkF (r : Room) (k : List Keep) (fr l : List Pick) (p : Pick) : Int :=
 if !(moment p.At) then 1 else if !(p.No == (fr.getD l.length pick0).No) then 7 else if !(p.Team == (fr.getD l.length pick0).Team) then 13
 else if !(r.Players.contains p.Player) then 8 else if goneB k l p.Player then 6 else if p.At < lastAt r l then 11 else 0
def pksGo (r : Room) (k : List Keep) (fr l : List Pick) : Nat → List Pick → Int
 | _, [] => 0
 | i, p :: t => if pkF r k fr (l.take i) p != 0 then pkF r k fr (l.take i) p else pksGo r k fr l (i + 1) t
def pksR (r : Room) (k : List Keep) (s : List Swap) (l : List Pick) : Int := if (freeP r k s).length < l.length then 2 else pksGo r k (freeP r k s) l 0 l
def picksE (r : Room) (k : List Keep) (s : List Swap) (l : List Pick) : Int := if openFault r k s != 0 then openFault r k s else pksR r k s l
theorem pgo_ne {r : Room} {k : List Keep} {fr l : List Pick} {i : Nat} {p : Pick} {t : List Pick} (h : pkF r k fr (l.take i) p ≠ 0) : pksGo r k fr l i (p :: t) = pkF r k fr (l.take i) p := by
 rw [pksGo, if_pos (by simpa using h)]
theorem pgo_z {r : Room} {k : List Keep} {fr l : List Pick} {i : Nat} {p : Pick} {t : List Pick} (h : pkF r k fr (l.take i) p = 0) : pksGo r k fr l i (p :: t) = pksGo r k fr l (i + 1) t := by
 rw [pksGo, if_neg (by simp [h])]
section
variable {r : Room} {k : List Keep} {fr l : List Pick} {p : Pick}
theorem pkF_ok (h : pkF r k fr l p = 0) : moment p.At = true ∧ p.No = (fr.getD l.length pick0).No ∧ p.Team = (fr.getD l.length pick0).Team ∧ p.Player ∈ r.Players ∧ goneB k l p.Player = false := by
 unfold pkF at h
 split at h
 ·omega
 ·rename_i h1
  split at h
  ·omega
  ·rename_i h2
   split at h
   ·omega
   ·rename_i h3
    split at h
    ·omega
    ·rename_i h4
     split at h
     ·omega
     ·rename_i h5
      simp at h1 h2 h3 h4 h5
      exact ⟨h1, h2, h3, h4, h5⟩
end
theorem picksE_ok {r : Room} {k : List Keep} {s : List Swap} {l : List Pick} (h : picksE r k s l = 0) : openFault r k s = 0 ∧ l.length ≤ (freeP r k s).length ∧ pksGo r k (freeP r k s) l 0 l = 0 := by
 unfold picksE at h
 split at h
 ·rename_i hc; simp [h] at hc
 ·rename_i hc
  unfold pksR at h
  split at h
  ·omega
  ·exact ⟨by simpa using hc, by omega, h⟩
theorem pksGo_at {r : Room} {k : List Keep} {fr l : List Pick} : ∀ (t : List Pick) (i : Nat), l.drop i = t → pksGo r k fr l i t = 0 → ∀ (j : Nat) (p : Pick), i ≤ j → l[j]? = some p → pkF r k fr (l.take j) p = 0
 | [], i, hd, _, j, p, hj, hp => by
   have := lt_of_get hp
   have h2 : l.length ≤ i := by rw [← List.drop_eq_nil_iff]; exact hd
   omega
 | x :: t, i, hd, h, j, p, hj, hp => by
   have hk : l[i]? = some x := by
    have := congrArg (fun q => q[0]?) hd
    simpa using this
   have hd' : l.drop (i + 1) = t := by
    have := drop_cons hk
    rw [hd] at this; simp at this; exact this.symm
   by_cases e : pkF r k fr (l.take i) x = 0
   ·rw [pgo_z e] at h
    by_cases hij : i = j
    ·subst hij; rw [hk] at hp; cases hp; exact e
    ·exact pksGo_at t (i + 1) hd' h j p (by omega) hp
   ·rw [pgo_ne e] at h; exact absurd h e
structure Wish where
 Team : Str
 Players : List Str
theorem goneB_snoc (k : List Keep) (l : List Pick) (p : Pick) (s : Str) : goneB k (l ++ [p]) s = (goneB k l s || p.Player == s) := by
 simp [goneB, Bool.or_assoc]
/-! what a run holds -/
structure RunOk (r : Room) (k : List Keep) (s : List Swap) (l : List Pick) (S : List Str) : Prop where
 gone : ∀ x ∈ r.Players, S.contains x = goneB k l x
theorem RunOk.add {r : Room} {k : List Keep} {s : List Swap} {l : List Pick} {S : List Str} (ok : RunOk r k s l S) (p : Pick) : RunOk r k s (l ++ [p]) (sadd p.Player S) :=
 ⟨fun x hx => by rw [goneB_snoc, sadd_contains, ok.gone x hx]⟩
end Go.HL
end
section
namespace Go.HL
section
variable {P : Program} {e : Env} {dst : Option Tmp} {ty : TypeId} {pos : String} {af : Array Edge} {g : Option (Nat × Bool)} {M : List MObj} {K : HVal → List MObj → Prop}
theorem V.tup2 [Tracks] {I : Imm} {c d : HVal} {u v : Value} (h1 : V I c u) (h2 : V I d v) : V I (.tup [c, d]) (.tuple #[u, v]) :=
 .tup (by simp) (fun j c v h3 h4 => (VL.cons h1 (VL.cons h2 VL.nil)).2 j c v h3 (by simpa using h4))
theorem run_equal_nilI {t : TypeId} {ms : Array (String × TypeId)} (hu : P.underlying t = some (.interface ms)) (w : World) : (Op.equal t .nilIface .nilIface).run P w = .ok true w := by
 have h : ∀ d, (Op.equalIn (d + 1) t .nilIface .nilIface).run P w = .ok true w := fun d => by
  simp only [Op.equalIn, Sem.run_bind, run_underlying hu, Result.andThen_ok, Sem.run_pure]
 exact h 9999
/-- No error. -/
theorem pop_eqnilI [Tracks] {x : Operand} {t t' : TypeId} {ms : Array (String × TypeId)} (hu : P.underlying t = some (.interface ms)) (hx : evalO e x = some (.raw .nilIface)) :
 POp P e ⟨dst, .binOp .eql t x (.const .nilIface) t', ty, pos, af, g⟩ (.bool true) :=
 POp.of_val fun I a w ho => by
  have h1 := (ho.one (x := x) (by simp [Op.operands]) hx).raw_inv
  have h2 : a.eval (.const .nilIface) = .nilIface := rfl
  exact ⟨_, by simp [execOp, h1, h2, eqGuard, binOp, run_equal_nilI hu], .bool _⟩
end
section
variable {P : Program}
theorem conp_atoi [Tracks] {f : FuncId} {s : List UInt8} {n : Int} {el : TypeId} (hc : ∀ w : World, Calls P f #[.string ⟨s.toArray⟩] w fun e w' => e = .returned (.tuple #[.int .i64 n, .nilIface]) ∧ ∃ t, w' = Lib.bytesWorld w el t) :
 ConP P f [.str s] (.tup [.int .i64 n, .raw .nilIface]) := by
 intro I F w args ha hs
 obtain ⟨u, rfl, hu⟩ := ha.one
 obtain rfl := hu.str_inv
 refine (hc w).mono ?_
 rintro e w' ⟨rfl, t, rfl⟩
 refine ⟨_, .tup [.int .i64 n, .raw .nilIface], [], I, rfl, .refl I, ⟨rfl, rfl⟩, V.tup2 (.int _ _) (.raw _ rfl), ?_⟩
 obtain ⟨h1, h2⟩ := hs.lt
 have hb : ∀ b, b < w.heap.size → (Lib.bytesWorld w el t).heap[b]? = w.heap[b]? := fun b hb => Lib.bytesWorld_at_old w el t b hb
 have hf : ∀ (w : World) (a : Addr) (n : Nat), (w.freeze a n).os = w.os ∧ (w.freeze a n).output = w.output ∧ (w.freeze a n).tape = w.tape ∧ (w.freeze a n).drawn = w.drawn := fun w a n => by
  unfold World.freeze; split <;> exact ⟨rfl, rfl, rfl, rfl⟩
 exact hs.of_same (fun b hb' => hb b (h1 b hb')) (fun b hb' => hb b (h2 b hb')) (hf _ _ _).1 (hf _ _ _).2.1 (hf _ _ _).2.2.1 (fun _ => by unfold Lib.bytesWorld; rw [(hf _ _ _).2.2.2]; exact Nat.le_succ _)
end
end Go.HL
end
section
namespace Go.HL
/-! numbers in decimal -/
def dig (c : UInt8) : Bool := decide (48 ≤ c.toNat) && decide (c.toNat ≤ 57)
def cutMinus (s : Str) : Str := match s with | 45 :: r => r | _ => s
def numC (s : Str) (n : Int) : Bool := decide ((cutMinus s = [] ∨ n < ((cutMinus s).length : Int)) ∨ ((((cutMinus s).head?).getD 0).toNat : Int) = 48 ∧ ((1 : Int) < ((cutMinus s).length : Int) ∨ (cutMinus s).length < s.length))
def numB (s : Str) (n : Int) : Bool := !(numC s n) && (cutMinus s).all dig
theorem dig_f {x : UInt8} (h : (x.toNat : Int) < 48 ∨ 57 < (x.toNat : Int)) : dig x = false := by
 unfold dig; rw [Bool.and_eq_false_iff]
 rcases h with h | h
 ·exact .inl (decide_eq_false (by omega))
 ·exact .inr (decide_eq_false (by omega))
theorem dig_t {x : UInt8} (h : 48 ≤ (x.toNat : Int) ∧ (x.toNat : Int) ≤ 57) : dig x = true := by
 unfold dig; rw [decide_eq_true (show 48 ≤ x.toNat by omega), decide_eq_true (show x.toNat ≤ 57 by omega)]; rfl
theorem cutMinus_len (s : Str) : (cutMinus s).length ≤ s.length := by
 unfold cutMinus; split <;> simp
def numV (s : Str) : Int := (Lib.atoi s).getD 0
def numR (s : Str) (n : Int) : Int := if numB s n then numV s else 0
def dig10 : List UInt8 := [48, 49, 50, 51, 52, 53, 54, 55, 56, 57]
def trim10 (s : Str) : Str := (rtrim (dig10.contains ·) s).dropWhile (dig10.contains ·)
def intC (s : Str) (n : Int) : Bool := out ((cutMinus s).length : Int) 1 n || trim10 (cutMinus s) != []
def intR (s : Str) (n : Int) : Int := if intC s n then 0 else numV s
def intB (s : Str) (n : Int) : Bool := !(intC s n) && (Lib.itoa (numV s) == s)
/-- The map of limits. -/
def LimOk (l : List PairS) (L : SMap) : Prop := ∀ t, (sfind t L).map (·.2) = (l.find? (fun p => p.Name == t)).map (fun p => .int .i64 (numR p.Val 9))
theorem LimOk.add {l : List PairS} {L : SMap} (ok : LimOk l L) (x : PairS) (hx : l.any (fun y => y.Name == x.Name) = false) : LimOk (l ++ [x]) (sput x.Name (.int .i64 (numR x.Val 9)) L) := fun t => by
 rw [sfind_put, List.find?_append, ok t]
 by_cases e : t = x.Name
 ·subst e
  rw [if_pos rfl]
  have : l.find? (fun p => p.Name == x.Name) = none := by
   rw [List.find?_eq_none]; intro y hy
   have := List.any_eq_false.1 hx y hy
   simpa using this
  rw [this]; simp
 ·rw [if_neg e]
  have hn : (x.Name == t) = false := by simpa using fun q => e q.symm
  cases l.find? (fun p => p.Name == t) with
  | none => simp [List.find?, hn]
  | some p => simp
theorem LimOk.is {l : List PairS} {L : SMap} (ok : LimOk l L) (t : Str) : (sfind t L).isSome = l.any (fun y => y.Name == t) := by
 rw [sfind_some_iff, ok t]
 rw [Bool.eq_iff_iff]; simp
structure Top where
 team : Str
 first : Int
 second : Int
def Top.step (q : Top) (t : Str) (n : Int) : Top := if q.first < n then ⟨t, n, q.first⟩ else ⟨q.team, q.first, max q.second n⟩
end Go.HL
end
section
namespace Go.HL
section
variable {h : Hall} {l : List Sale} {x : Sale} (h6 : x.Player ∈ h.Players ∧ x.Team ∈ h.Teams) (h8 : ∀ y ∈ l, ¬ y.Player = x.Player)
include h6 h8
end
end Go.HL
end
section
namespace Go.HL
end Go.HL
end
section
namespace Go.HL
theorem Ghost.clear [Tracks] {e : Env} : ∀ {M : List MObj}, Ghost e M e []
 | [] => Ghost.perm (List.Perm.refl _)
 | _ :: _ => Ghost.trans Ghost.drop Ghost.clear
theorem Ghost.last [Tracks] {e : Env} {m : MObj} : ∀ {R : List MObj}, Ghost e (R ++ [m]) e [m]
 | [] => Ghost.perm (List.Perm.refl _)
 | x :: R => Ghost.trans (M' := R ++ [m]) Ghost.drop Ghost.last
theorem Ghost.only [Tracks] {e : Env} {M : List MObj} {i : Nat} {m : MObj} (h : M[i]? = some m) : Ghost e M e [m] :=
 Ghost.trans (Ghost.perm ((perm_erase h).trans (List.perm_append_comm (l₁ := [m]) (l₂ := M.eraseIdx i)))) Ghost.last
end Go.HL
end
section
namespace Go.HL
section
variable {P : Program} {e : Env} {dst : Option Tmp} {ty : TypeId} {pos : String} {af : Array Edge} {g : Option (Nat × Bool)} {M : List MObj} {K : HVal → List MObj → Prop}
end
end Go.HL
end
section
namespace Go.HL
variable {P : Program}
/-- A frozen map keyed by strings. -/
abbrev hsm (L : SMap) : HVal := .hmap (L.map fun p => .str p.1) (L.map (·.2))
abbrev hset (S : List (List UInt8)) : HVal := hsm (mset S)
theorem sk_fst (L : SMap) : (sk L).map (·.1) = L.map fun p => HVal.str p.1 := by simp [sk, Function.comp_def]
theorem sk_snd (L : SMap) : (sk L).map (·.2) = L.map (·.2) := by simp [sk, Function.comp_def]
section
variable {e : Env} {dst : Option Tmp} {ty : TypeId} {pos : String} {af : Array Edge} {g : Option (Nat × Bool)}
end
/-- h, seen as h' while it is only read; objects may hold others. -/
inductive Bow (M : List MObj) : HVal → HVal → Prop
 | weak {h h' : HVal} (hw : Weak h h') : Bow M h h'
 | arr {i : Nat} {v : Value} {sz : Nat} {es : List HVal} (hm : M[i]? = some (.arr v sz es)) : Bow M (.raw v) (.slice sz es)
 | cells {i b off : Nat} {cs cs' : List HVal} (hm : M[i]? = some (.cells b cs)) (hl : cs.length = cs'.length) (h : ∀ (j : Nat) (c c' : HVal), cs[j]? = some c → cs'[j]? = some c' → Bow M c c') : Bow M (.raw (.pointer (some ⟨b, off, none⟩))) (.vptr cs' off)
 | map {i b : Nat} {L : SMap} (hm : M[i]? = some (.map b (sk L))) : Bow M (.raw (.map (some b))) (hsm L)
 | vptr {off : Nat} {l l' : List HVal} (hl : l.length = l'.length) (h : ∀ (j : Nat) (c c' : HVal), l[j]? = some c → l'[j]? = some c' → Bow M c c') : Bow M (.vptr l off) (.vptr l' off)
 | fn {f : Fn} {c1 l l' : List HVal} (hl : l.length = l'.length) (h : ∀ (j : Nat) (c c' : HVal), l[j]? = some c → l'[j]? = some c' → Bow M c c') : Bow M (.fn f c1 l) (.fn f c1 l')
def BowL (M : List MObj) : List HVal → List HVal → Prop
 | [], [] => True
 | h :: r, h' :: r' => Bow M h h' ∧ BowL M r r'
 | _, _ => False
theorem BowL.pt {M : List MObj} : ∀ {l l' : List HVal}, BowL M l l' → l.length = l'.length ∧ ∀ (j : Nat) (c c' : HVal), l[j]? = some c → l'[j]? = some c' → Bow M c c'
 | [], [], _ => ⟨rfl, fun j c c' h => by simp at h⟩
 | h :: r, h' :: r', hb => by
   obtain ⟨h1, h2⟩ := BowL.pt hb.2
   refine ⟨by simp [h1], fun j c c' a1 a2 => ?_⟩
   cases j with
   | zero => simp at a1 a2; subst a1 a2; exact hb.1
   | succ j => exact h2 j c c' (by simpa using a1) (by simpa using a2)
 | [], _ :: _, hb => hb.elim
 | _ :: _, [], hb => hb.elim
theorem Bow.refl {M : List MObj} {h : HVal} : Bow M h h := .weak (Weak.refl _)
theorem V.vptr_inv' {I : Imm} {cs : List HVal} {off : Nat} {v : Value} (h : V I (.vptr cs off) v) : ∃ b base rc el fr, v = .pointer (some ⟨b, base + off, none⟩) ∧ I.heap b = some (.cells rc el fr) ∧ base + cs.length ≤ rc.size ∧
 ∀ (j : Nat) (c : HVal) (v : Value), cs[j]? = some c → rc[base + j]? = some v → V I c v := by
 cases h with
 | vptr h1 h2 h3 => exact ⟨_, _, _, _, _, rfl, h1, h2, h3⟩
theorem Bow.v [Tracks] {M : List MObj} {I : Imm} {F : List MObj} {w : World} {h h' : HVal} (hb : Bow M h h') (hs : Sat P I (M ++ F) w) : ∀ {v : Value}, V I h v → V (allI w) h' v := by
 induction hb with
 | weak hw => intro v hv; exact hw _ _ (hv.mono hs.le_all)
 | arr hm => intro v hv; exact (Bor.arr hm).v hs hv
 | @cells i b off cs cs' hm hl _ ih =>
   intro v hv
   rw [hv.raw_inv]
   obtain ⟨rc, el, fr, h2, h3, h4⟩ := hs.obj _ (List.mem_append_left _ (List.mem_of_getElem? hm))
   have := V.vptr (I := allI w) (cs := cs') (off := off) (base := 0) h2 (by have := h4.1; simp at this; omega) fun j c v a1 a2 => by
    have hj := lt_of_get a1
    have hj' := List.getElem?_eq_getElem (l := cs) (i := j) (by omega)
    exact ih j _ c hj' a1 (h4.2 j _ v hj' (by simpa using a2))
   rwa [Nat.zero_add] at this
 | @map i b L hm =>
   intro v hv
   rw [hv.raw_inv]
   obtain ⟨es, clk, h1, h2, h3⟩ := hs.obj _ (List.mem_append_left _ (List.mem_of_getElem? hm))
   have hn : es.size = L.length := by simpa [sk] using h2.1
   refine .hmap (I := allI w) h1 (by simp [hn]) (by simp [hn]) (fun j c m a1 a2 => ?_) (fun j c m a1 a2 => ?_)
   ·rw [← sk_fst, List.getElem?_map] at a1
    cases hq : (sk L)[j]? with
    | none => rw [hq] at a1; simp at a1
    | some p => rw [hq] at a1; simp at a1; subst a1; exact ((h3 j p m hq a2).1).mono hs.le_all
   ·rw [← sk_snd, List.getElem?_map] at a1
    cases hq : (sk L)[j]? with
    | none => rw [hq] at a1; simp at a1
    | some p => rw [hq] at a1; simp at a1; subst a1; exact ((h3 j p m hq a2).2).mono hs.le_all
 | @vptr off l l' hl _ ih =>
   intro v hv
   obtain ⟨b, base, rc, el, fr, rfl, h1, h2, h3⟩ := hv.vptr_inv'
   refine .vptr (I := allI w) (hs.imm _ _ h1) (by omega) fun j c u a1 a2 => ?_
   have hj := lt_of_get a1
   have hj' := List.getElem?_eq_getElem (l := l) (i := j) (by omega)
   exact ih j _ c hj' a1 (h3 j _ u hj' a2)
 | @fn f c1 l l' hl _ ih =>
   intro v hv
   cases hv with
   | fn g1 g2 g3 g4 =>
     refine .fn g1 (by omega) (fun j c u a1 a2 => (g3 j c u a1 a2).mono hs.le_all) fun j c u a1 a2 => ?_
     have hj := lt_of_get a1
     have hj' := List.getElem?_eq_getElem (l := l) (i := j) (by omega)
     exact ih j _ c hj' a1 (g4 j _ u hj' a2)
end Go.HL
end
section
namespace Go.HL
section
variable {r : Room} {w : List Wish} {k : Nat} {x : Wish} {t : List Wish}
end
end Go.HL
end
section
namespace Go.Proofs.YtbfikmihcpfgaaaGreatDoor
open Go.HL
set_option maxRecDepth 100000
set_option linter.unusedVariables false
set_option linter.unusedSimpArgs false

end Go.Proofs.YtbfikmihcpfgaaaGreatDoor
end
section
namespace Go.Proofs.YtbfikmihcpfgaaaGreatDoor
open Go.HL
set_option maxRecDepth 100000
set_option linter.unusedVariables false
set_option linter.unusedSimpArgs false

end Go.Proofs.YtbfikmihcpfgaaaGreatDoor
end
section
namespace Go.Proofs.YtbfikmihcpfgaaaGreatDoor
open Go.HL
set_option maxRecDepth 100000
set_option linter.unusedVariables false
set_option linter.unusedSimpArgs false
/-- strconv.Itoa of any number -/
theorem c_Itoa [Tracks] {n : Int} (h0 : -9223372036854775808 ≤ n) (h1 : n ≤ 9223372036854775807) : ConP Tryz.prog 30 [.int .i64 n] (.str (Lib.itoa n)) :=
 conp_itoa (by kernel_rfl) fun w ht => Any.strconv_Itoa Tryz.laysm171 n h0 h1 w ht
end Go.Proofs.YtbfikmihcpfgaaaGreatDoor
end
section
namespace Go.Proofs.YtbfikmihcpfgaaaGreatDoor
open Go.HL
set_option maxRecDepth 100000
set_option linter.unusedVariables false
set_option linter.unusedSimpArgs false

end Go.Proofs.YtbfikmihcpfgaaaGreatDoor
end
section
namespace Go.Proofs.YtbfikmihcpfgaaaGreatDoor
open Go.HL
set_option maxRecDepth 100000
set_option linter.unusedVariables false
set_option linter.unusedSimpArgs false

end Go.Proofs.YtbfikmihcpfgaaaGreatDoor
end
section
namespace Go.Proofs.YtbfikmihcpfgaaaGreatDoor
open Go.HL
set_option maxRecDepth 100000
set_option linter.unusedVariables false
set_option linter.unusedSimpArgs false

end Go.Proofs.YtbfikmihcpfgaaaGreatDoor
end
section
namespace Go.HL
variable {P : Program}
end Go.HL
end
section
namespace Go.Proofs.YtbfikmihcpfgaaaGreatDoor
open Go.HL
set_option maxRecDepth 100000
set_option linter.unusedVariables false
set_option linter.unusedSimpArgs false

end Go.Proofs.YtbfikmihcpfgaaaGreatDoor
end
section
namespace Go.Proofs.YtbfikmihcpfgaaaGreatDoor
open Go.HL
set_option maxRecDepth 100000
set_option linter.unusedVariables false
set_option linter.unusedSimpArgs false

end Go.Proofs.YtbfikmihcpfgaaaGreatDoor
end
section
namespace Go.HL
section
variable {r : Room} {k : List Keep} {s : List Swap} {l : List Pick} {w : List Wish} {n : Int}
end
end Go.HL
end
section
namespace Go.HL
section
variable {r : Room} {k : List Keep} {s : List Swap} {l : List Pick}
def putNo (A : List Pick) (p : Pick) : List Pick := A.set p.No.toNat p
def NoInc (A : List Pick) : Prop := ∀ (i : Nat) (p : Pick), A[i]? = some p → p.No = (i : Int)
theorem openFrom_no : ∀ (t : List Turn) (i j : Nat) (p : Pick), (openFrom r k i t)[j]? = some p → p.No = ((i + j : Nat) : Int)
 | [], i, j, p, h => by simp [openFrom] at h
 | x :: t, i, 0, p, h => by
   simp only [openFrom, List.getElem?_cons_zero, Option.some.injEq] at h
   subst h; rw [(keepIn_fix r x k _).1]; rfl
 | x :: t, i, j + 1, p, h => by
   simp only [openFrom, List.getElem?_cons_succ] at h
   rw [openFrom_no t (i + 1) j p h]; congr 1; omega
theorem open_no : NoInc (open1 r k s) := fun i p h => by
 have := openFrom_no _ 0 i p h
 rw [this]; congr 1; omega
theorem NoInc.pw {A : List Pick} (h : NoInc A) : A.Pairwise fun a b => a.No < b.No :=
 List.pairwise_iff_getElem.2 fun i j hi hj hij => by
  rw [h i _ (List.getElem?_eq_getElem hi), h j _ (List.getElem?_eq_getElem hj)]; omega
theorem NoInc.put {A : List Pick} (h : NoInc A) {p : Pick} (hp : 0 ≤ p.No) : NoInc (putNo A p) := fun i x hx => by
 unfold putNo at hx
 by_cases e : p.No.toNat = i
 ·subst e
  have hlt := lt_of_get hx
  rw [List.length_set] at hlt
  rw [List.getElem?_set_self hlt] at hx; cases hx; omega
 ·rw [List.getElem?_set_ne e] at hx; exact h i x hx
theorem filter_set {α : Type} (q : α → Bool) {x y : α} (hx : q x = true) (hy : q y = false) : ∀ {A : List α} {j : Nat}, A[j]? = some y → ((A.set j x).filter q).Perm (A.filter q ++ [x])
 | [], j, h => by simp at h
 | a :: A, 0, h => by
   simp at h; subst h
   simp only [List.set_cons_zero, List.filter_cons, hx, hy, if_true, Bool.false_eq_true, if_false]
   exact (List.perm_append_comm (l₁ := [x]))
 | a :: A, j + 1, h => by
   simp only [List.getElem?_cons_succ] at h
   have := filter_set q hx hy h
   simp only [List.set_cons_succ, List.filter_cons]
   split
   ·exact this.cons a
   ·exact this
def isP (p : Pick) : Bool := !(p.Player == [])
structure AllOk (r : Room) (k : List Keep) (s : List Swap) (l : List Pick) (i : Nat) (A : List Pick) : Prop where
 inc : NoInc A
 len : A.length = (open1 r k s).length
 free : ∀ (j : Nat) (p : Pick), i ≤ j → (freeP r k s)[j]? = some p → A[p.No.toNat]? = some p
 perm : (A.filter isP).Perm ((open1 r k s).filter isP ++ l.take i)
theorem free_mem {j : Nat} {p : Pick} (h : (freeP r k s)[j]? = some p) : p ∈ open1 r k s ∧ p.Player = [] := by
 have := List.mem_filter.1 (List.mem_of_getElem? h)
 exact ⟨this.1, by simpa using this.2⟩
theorem free_at {j : Nat} {p : Pick} (h : (freeP r k s)[j]? = some p) : 0 ≤ p.No ∧ (open1 r k s)[p.No.toNat]? = some p := by
 obtain ⟨m, hm⟩ := List.getElem?_of_mem (free_mem h).1
 have := open_no m p hm
 exact ⟨by omega, by rw [this]; simpa using hm⟩
theorem pick_at (h : picksE r k s l = 0) {i : Nat} {x : Pick} (hx : l[i]? = some x) : ∃ p, (freeP r k s)[i]? = some p ∧ x.No = p.No ∧ x.Player ≠ [] := by
 obtain ⟨h1, h2, h3⟩ := picksE_ok h
 have hi := lt_of_get hx
 obtain ⟨_, a2, _, a4, _⟩ := pkF_ok (pksGo_at l 0 rfl h3 i x (Nat.zero_le _) hx)
 have hg := getD_some (d := pick0) (show i < (freeP r k s).length by omega)
 refine ⟨_, hg, ?_, (room_ok (openFault_ok h1).1).ne _ a4⟩
 rw [a2]; congr 2; simp; omega
theorem AllOk.step (h : picksE r k s l = 0) {i : Nat} {x : Pick} (hx : l[i]? = some x) {A : List Pick} (ok : AllOk r k s l i A) : AllOk r k s l (i + 1) (putNo A x) ∧ 0 ≤ x.No ∧ x.No.toNat < A.length ∧ ∃ y, A[x.No.toNat]? = some y := by
 obtain ⟨p, hp, hn, hpl⟩ := pick_at h hx
 obtain ⟨n0, _⟩ := free_at hp
 have hA := ok.free i p (Nat.le_refl _) hp
 have hlt := lt_of_get hA
 refine ⟨⟨ok.inc.put (by omega), by unfold putNo; rw [List.length_set]; exact ok.len, fun j q hj hq => ?_, ?_⟩, by omega, by rw [hn]; exact hlt, p, by rw [hn]; exact hA⟩
 ·have hq1 := ok.free j q (by omega) hq
  have hne : p.No < q.No := by
   have hpw : (freeP r k s).Pairwise fun a b => a.No < b.No := (open_no (r := r) (k := k) (s := s)).pw.sublist List.filter_sublist
   obtain ⟨hi', e1⟩ := List.getElem?_eq_some_iff.1 hp
   obtain ⟨hj', e2⟩ := List.getElem?_eq_some_iff.1 hq
   have := List.pairwise_iff_getElem.1 hpw i j hi' hj' (by omega)
   rw [e1, e2] at this; exact this
  unfold putNo
  rw [List.getElem?_set_ne (by omega)]; exact hq1
 ·have hf := filter_set isP (x := x) (y := p) (by unfold isP; simpa using hpl) (by unfold isP; simp [(free_mem hp).2]) hA
  unfold putNo
  rw [hn, take_snoc' hx, ← List.append_assoc]
  exact hf.trans (ok.perm.append_right _)
end
end Go.HL
end
section
namespace Go.HL
section
variable {P : Program} {e : Env} {dst : Option Tmp} {ty : TypeId} {pos : String} {af : Array Edge} {g : Option (Nat × Bool)} {M : List MObj} {K : HVal → List MObj → Prop}
end
end Go.HL
end
section
namespace Go.Proofs.YtbfikmihcpfgaaaGreatDoor
open Go.HL
set_option maxRecDepth 100000
set_option linter.unusedVariables false
set_option linter.unusedSimpArgs false

end Go.Proofs.YtbfikmihcpfgaaaGreatDoor
end
section
namespace Go.HL
def tradedL (a b : List Asset) (give take : List Str) : List Asset := a.filter (fun x => !(give.contains x.Player)) ++ b.filter (fun x => take.contains x.Player)
def gainL (a b : List Asset) (p : List Place) (give take : List Str) : Int := sumF (tradedL a b give take) p - sumF a p
structure OfferS where
 give : List Str
 take : List Str
 less : Int
 sum : Int
abbrev eOffer (x : OfferS) : HVal := .agg [eSs x.give, eSs x.take, .int .i64 x.less, .int .i64 x.sum]
def mkO (a b : List Asset) (p : List Place) (give take : List Str) : OfferS := ⟨give, take, min (gainL a b p give take) (gainL b a p take give), gainL a b p give take + gainL b a p take give⟩
def betterO (x y : OfferS) : Bool := decide (0 < orI [cmpI x.less y.less, cmpI x.sum y.sum, cmpI ((y.give.length : Int) + y.take.length) ((x.give.length : Int) + x.take.length)])
def stepO (s : Option OfferS) (x : OfferS) : Option OfferS :=
 if 1 ≤ x.less then
  match s with
  | none => some x
  | some o => if betterO x o then some x else some o
 else s
/-! the lists of players -/
def chAt (n : Int) (l : List Asset) (i : Nat) : List (List Str) :=
 match l[i]? with
 | none => []
 | some x => [x.Player] :: (if 1 < n then (l.drop (i + 1)).map (fun y => [x.Player, y.Player]) else [])
def chPre (n : Int) (l : List Asset) (k : Nat) : List (List Str) := (List.range k).flatMap (chAt n l)
def choicesL (n : Int) (l : List Asset) : List (List Str) := chPre n l l.length
theorem chPre_succ (n : Int) (l : List Asset) (k : Nat) : chPre n l (k + 1) = chPre n l k ++ chAt n l k := by
 unfold chPre; rw [List.range_succ, List.flatMap_append]; simp
theorem chAt_some {n : Int} {l : List Asset} {i : Nat} {x : Asset} (h : l[i]? = some x) : chAt n l i = [x.Player] :: (if 1 < n then (l.drop (i + 1)).map (fun y => [x.Player, y.Player]) else []) := by unfold chAt; rw [h]
theorem chAt_len (n : Int) (l : List Asset) (i : Nat) : (chAt n l i).length ≤ 1 + l.length := by
 unfold chAt
 split
 ·simp
 ·split <;> simp <;> omega
theorem chPre_len (n : Int) (l : List Asset) : ∀ k, (chPre n l k).length ≤ k * (1 + l.length)
 | 0 => by simp [chPre]
 | k + 1 => by
   have h1 := chPre_len n l k
   have h2 := chAt_len n l k
   rw [chPre_succ, List.length_append, Nat.succ_mul]
   omega
theorem choices_len {n : Int} {l : List Asset} (h : l.length ≤ 8) : (choicesL n l).length ≤ 72 := by
 have h1 := chPre_len n l l.length
 have h2 : l.length * (1 + l.length) ≤ 8 * 9 := Nat.mul_le_mul h (by omega)
 unfold choicesL; omega
theorem ch_mem {n : Int} {l : List Asset} {t : List Str} (h : t ∈ choicesL n l) : ∃ (i : Nat) (x : Asset), l[i]? = some x ∧ (t = [x.Player] ∨ (1 < n ∧ ∃ (j : Nat) (y : Asset), i < j ∧ l[j]? = some y ∧ t = [x.Player, y.Player])) := by
 unfold choicesL chPre at h
 obtain ⟨i, _, hi⟩ := List.mem_flatMap.1 h
 unfold chAt at hi
 cases hx : l[i]? with
 | none => rw [hx] at hi; cases hi
 | some x =>
   rw [hx] at hi
   refine ⟨i, x, hx, ?_⟩
   rcases List.mem_cons.1 hi with rfl | hi
   ·exact .inl rfl
   ·split at hi
    ·rename_i hn
     obtain ⟨y, hy, rfl⟩ := List.mem_map.1 hi
     obtain ⟨j, hj⟩ := List.getElem?_of_mem hy
     rw [List.getElem?_drop] at hj
     exact .inr ⟨hn, i + 1 + j, y, by omega, hj, rfl⟩
    ·cases hi
theorem ch_small {n : Int} {l : List Asset} {t : List Str} (hn : 1 ≤ n ∧ n ≤ 2) (h : t ∈ choicesL n l) : 1 ≤ t.length ∧ (t.length : Int) ≤ n := by
 obtain ⟨i, x, _, h1 | ⟨h1, j, y, _, _, h2⟩⟩ := ch_mem h
 ·subst h1; simp; omega
 ·subst h2; simp; omega
/-! who is named -/
def hasP (l : List Asset) (s : Str) : Bool := l.any (fun y => y.Player == s)
def giveGo (l : List Asset) (who : List Str) : Nat → List Str → Int
 | _, [] => 0
 | k, s :: r => if !(hasP l s) then 8 else if (who.take k).contains s then 6 else giveGo l who (k + 1) r
def giveE (l : List Asset) (who : List Str) : Int := giveGo l who 0 who
def bothP (a b : List Asset) : Bool := a.any (fun x => hasP b x.Player)
def swapE (a b : List Asset) (p : List Place) : Int := if orI [checkAssets a, checkAssets b, checkPlaces p] ≠ 0 then orI [checkAssets a, checkAssets b, checkPlaces p] else if bothP a b then 6 else 0
theorem swapE_ok {a b : List Asset} {p : List Place} (h : swapE a b p = 0) : checkAssets a = 0 ∧ checkAssets b = 0 ∧ checkPlaces p = 0 ∧ bothP a b = false := by
 unfold swapE at h
 split at h
 ·contradiction
 ·rename_i h1
  obtain ⟨h2, h3, h4⟩ := orI3 (by simpa using h1)
  split at h
  ·omega
  ·rename_i h5
   exact ⟨h2, h3, h4, by simpa using h5⟩
/-! lengths and sums -/
theorem filter_or_len {α : Type} {p q r : α → Bool} (h : ∀ x, r x = true → p x = true ∨ q x = true) : ∀ l : List α, (l.filter r).length ≤ (l.filter p).length + (l.filter q).length
 | [] => by simp
 | x :: l => by
   have ih := filter_or_len h l
   have hx := h x
   simp only [List.filter_cons]
   cases c1 : r x <;> cases c2 : p x <;> cases c3 : q x <;> simp_all <;> omega
theorem one_named {t : Str} : ∀ {l : List Asset}, (l.map (·.Player)).Nodup → (l.filter (fun x => x.Player == t)).length ≤ 1
 | [], _ => by simp
 | x :: l, h => by
   simp only [List.map_cons, List.nodup_cons, List.mem_map, not_exists, not_and] at h
   rw [List.filter_cons]
   split
   ·rename_i hx
    have : l.filter (fun x => x.Player == t) = [] := by
     refine List.filter_eq_nil_iff.2 fun y hy => ?_
     have := h.1 y hy
     simp only [beq_iff_eq] at hx ⊢
     rw [← hx]; exact this
    rw [this]; simp
   ·exact one_named h.2
theorem named_len {l : List Asset} (h : (l.map (·.Player)).Nodup) : ∀ t : List Str, (l.filter (fun x => t.contains x.Player)).length ≤ t.length
 | [] => by simp
 | s :: t => by
   have h1 := filter_or_len (p := fun x : Asset => x.Player == s) (q := fun x => t.contains x.Player) (r := fun x => (s :: t).contains x.Player) (fun x hx => by simpa using hx) l
   have h2 := one_named (t := s) h
   have h3 := named_len h t
   simp only [List.length_cons]; omega
theorem traded_len {a b : List Asset} {give take : List Str} (h : (b.map (·.Player)).Nodup) : (tradedL a b give take).length ≤ a.length + take.length := by
 have h1 := named_len h take
 have h2 := List.length_filter_le (fun x : Asset => !(give.contains x.Player)) a
 unfold tradedL; rw [List.length_append]; omega
theorem traded_mem {a b : List Asset} {give take : List Str} {x : Asset} (h : x ∈ tradedL a b give take) : x ∈ a ∨ x ∈ b := by
 unfold tradedL at h
 rcases List.mem_append.1 h with h | h
 ·exact .inl (List.mem_filter.1 h).1
 ·exact .inr (List.mem_filter.1 h).1
theorem sumF_bd {l : List Asset} {p : List Place} (hl : l.length ≤ 12) (hp : p.length ≤ 10) (hv : ∀ x ∈ l, -1000000 ≤ x.Value ∧ x.Value ≤ 1000000) : -120000000 ≤ sumF l p ∧ sumF l p ≤ 120000000 := by
 have h := field_bd (f := ofP l) (p := p) (i := p.length) (fun s m y => mem_chosen) (fun s => Nat.le_trans (ofP_len l s) hl) hp hv
 rw [List.take_length] at h
 exact h.2
/-! the best offer -/
theorem orI_pos {a b c : Int} : 0 < orI [a, b, c] ↔ 0 < a ∨ (a = 0 ∧ (0 < b ∨ (b = 0 ∧ 0 < c))) := by
 simp only [orI]
 by_cases ha : a = 0 <;> by_cases hb : b = 0 <;> by_cases hc : c = 0 <;> simp [ha, hb, hc] <;> omega
theorem cmpI_pos {a b : Int} : 0 < cmpI a b ↔ b < a := by unfold cmpI; split <;> (try split) <;> omega
theorem better_le {x y : OfferS} (h : betterO x y = true) : y.less ≤ x.less := by
 unfold betterO at h
 rw [decide_eq_true_eq, orI_pos, cmpI_pos] at h
 rcases h with h | ⟨h, _⟩
 ·omega
 ·unfold cmpI at h; split at h <;> (try split at h) <;> omega
theorem better_not {x y : OfferS} (h : betterO x y = false) : x.less ≤ y.less := by
 unfold betterO at h
 rw [decide_eq_false_iff_not, orI_pos, cmpI_pos] at h
 omega
structure BestOk (s : Option OfferS) (xs : List OfferS) : Prop where
 no : s = none → ∀ x ∈ xs, x.less < 1
 yes : ∀ o, s = some o → 1 ≤ o.less ∧ o ∈ xs ∧ ∀ x ∈ xs, x.less < 1 ∨ x.less ≤ o.less
theorem BestOk.step {s : Option OfferS} {xs : List OfferS} (h : BestOk s xs) (x : OfferS) : BestOk (stepO s x) (xs ++ [x]) := by
 have mem : ∀ z ∈ xs ++ [x], z ∈ xs ∨ z = x := fun z hz => by simpa using hz
 unfold stepO
 by_cases c : 1 ≤ x.less
 ·rw [if_pos c]
  cases s with
  | none =>
    refine ⟨fun e => (by cases e), fun o e => ?_⟩
    simp only [Option.some.injEq] at e
    subst e
    refine ⟨c, by simp, fun z hz => ?_⟩
    rcases mem z hz with hz | rfl
    ·exact .inl (h.no rfl z hz)
    ·exact .inr (Int.le_refl _)
  | some o0 =>
    obtain ⟨h1, h2, h3⟩ := h.yes o0 rfl
    dsimp only
    cases cb : betterO x o0 with
    | true =>
      rw [if_pos rfl]
      refine ⟨fun e => (by cases e), fun o e => ?_⟩
      simp only [Option.some.injEq] at e
      subst e
      have hle := better_le cb
      refine ⟨c, by simp, fun z hz => ?_⟩
      rcases mem z hz with hz | rfl
      ·rcases h3 z hz with q | q
       ·exact .inl q
       ·exact .inr (by omega)
      ·exact .inr (Int.le_refl _)
    | false =>
      rw [if_neg (by simp)]
      refine ⟨fun e => (by cases e), fun o e => ?_⟩
      simp only [Option.some.injEq] at e
      subst e
      have hle := better_not cb
      refine ⟨h1, by simp [h2], fun z hz => ?_⟩
      rcases mem z hz with hz | rfl
      ·exact h3 z hz
      ·exact .inr hle
 ·rw [if_neg c]
  refine ⟨fun e z hz => ?_, fun o e => ?_⟩
  ·rcases mem z hz with hz | rfl
   ·exact h.no e z hz
   ·omega
  ·obtain ⟨h1, h2, h3⟩ := h.yes o e
   refine ⟨h1, by simp [h2], fun z hz => ?_⟩
   rcases mem z hz with hz | rfl
   ·exact h3 z hz
   ·exact .inl (by omega)
def foldO (xs : List OfferS) : Option OfferS := xs.foldl stepO none
theorem foldO_snoc (xs : List OfferS) (x : OfferS) : foldO (xs ++ [x]) = stepO (foldO xs) x := by simp [foldO]
theorem foldO_ok (xs : List OfferS) : BestOk (foldO xs) xs := by
 have key : ∀ k, k ≤ xs.length → BestOk (foldO (xs.take k)) (xs.take k) := by
  intro k
  induction k with
  | zero => intro _; exact ⟨fun _ x hx => by simp at hx, fun o e => by simp [foldO] at e⟩
  | succ k ih =>
    intro hk
    have hx := List.getElem?_eq_getElem (l := xs) (i := k) (by omega)
    rw [take_snoc' hx, foldO_snoc]
    exact (ih (by omega)).step _
 have := key xs.length (Nat.le_refl _)
 rwa [List.take_length] at this
/-- The offers in the order in which they are looked at. -/
def offersL (a b : List Asset) (p : List Place) (G T : List (List Str)) : List OfferS := G.flatMap fun g => T.map (mkO a b p g)
theorem offers_snoc (a b : List Asset) (p : List Place) (G T : List (List Str)) (g : List Str) : offersL a b p (G ++ [g]) T = offersL a b p G T ++ T.map (mkO a b p g) := by simp [offersL]
def bestO (a b : List Asset) (p : List Place) (n : Int) : Option OfferS := foldO (offersL a b p (choicesL n a) (choicesL n b))
structure BestIs (a b : List Asset) (p : List Place) (n : Int) (o : OfferS) : Prop where
 give : o.give ∈ choicesL n a
 take : o.take ∈ choicesL n b
 is : o = mkO a b p o.give o.take
 one : 1 ≤ o.less
 top : ∀ g ∈ choicesL n a, ∀ t ∈ choicesL n b, (mkO a b p g t).less < 1 ∨ (mkO a b p g t).less ≤ o.less
theorem best_is {a b : List Asset} {p : List Place} {n : Int} {o : OfferS} (h : bestO a b p n = some o) : BestIs a b p n o := by
 obtain ⟨h1, h2, h3⟩ := (foldO_ok _).yes o h
 unfold offersL at h2
 obtain ⟨g, hg, ht⟩ := List.mem_flatMap.1 h2
 obtain ⟨t, ht, e⟩ := List.mem_map.1 ht
 have e1 : o.give = g := by rw [← e]; rfl
 have e2 : o.take = t := by rw [← e]; rfl
 exact ⟨by rw [e1]; exact hg, by rw [e2]; exact ht, by rw [e1, e2, e], h1, fun g' hg' t' ht' => h3 _ (List.mem_flatMap.2 ⟨g', hg', List.mem_map.2 ⟨t', ht', rfl⟩⟩)⟩
end Go.HL
end
section
namespace Go.HL
section
variable {P : Program} {e : Env} {dst : Option Tmp} {ty : TypeId} {pos : String} {af : Array Edge} {g : Option (Nat × Bool)}
theorem run_equal_ptrnil {t el : TypeId} (hu : P.underlying t = some (.pointer el)) (a : Option Addr) (w : World) : (Op.equal t (.pointer a) (.pointer none)).run P w = .ok a.isNone w := by
 have h : ∀ d, (Op.equalIn (d + 1) t (.pointer a) (.pointer none)).run P w = .ok a.isNone w := fun d => by
  cases a <;> simp only [Op.equalIn, Sem.run_bind, run_underlying hu, Result.andThen_ok, Sem.run_pure, Option.isNone]
 exact h 9999
/-- What a variable holds that is nil or points to contents. -/
def ptrO : Option (List HVal) → HVal
 | none => .raw (.pointer none)
 | some cs => .vptr cs 0
theorem pop_eqnilP [Tracks] {x y : Operand} {t t' el : TypeId} {size bytes : Nat} {zero : Value} {o : Option (List HVal)} (hf : Fits P t (.ptr el) size bytes zero) (hx : evalO e x = some (ptrO o)) (hy : evalO e y = some (.raw (.pointer none))) :
 POp P e ⟨dst, .binOp .eql t x y t', ty, pos, af, g⟩ (.bool o.isNone) :=
 POp.of_val fun I a w ho => by
  have hv := ho.one (x := x) (by simp [Op.operands]) hx
  have h2 := (ho.one (x := y) (by simp [Op.operands]) hy).raw_inv
  cases o with
  | none =>
    have h1 := hv.raw_inv
    refine ⟨_, ?_, .bool _⟩
    simp [execOp, h1, h2, eqGuard, binOp, run_equal_ptrnil hf.ptrD]
  | some cs =>
    obtain ⟨b, base, rc, el', fr, h1, h3, h4, h5⟩ := hv.vptr_inv
    refine ⟨_, ?_, .bool _⟩
    simp [execOp, h1, h2, eqGuard, binOp, run_equal_ptrnil hf.ptrD]
end
end Go.HL
namespace Go.HL
theorem weak_tup4 [Tracks] {a b c d a' b' c' d' : HVal} (h1 : Weak a a') (h2 : Weak b b') (h3 : Weak c c') (h4 : Weak d d') : Weak (.tup [a, b, c, d]) (.tup [a', b', c', d']) :=
 weak_tup rfl fun j h h' x y => by
  match j, x, y with
  | 0, x, y => simp at x y; subst x y; exact h1
  | 1, x, y => simp at x y; subst x y; exact h2
  | 2, x, y => simp at x y; subst x y; exact h3
  | 3, x, y => simp at x y; subst x y; exact h4
end Go.HL
end
section
namespace Go.HL
def off0 : OfferS := ⟨[], [], 0, 0⟩
def bestV (s : Option OfferS) : HVal := ptrO (s.map fun o => hcells (eOffer o))
theorem bestV_some {s : Option OfferS} (h : s.isNone = false) : bestV s = .vptr (hcells (eOffer (s.getD off0))) 0 := by
 cases s with
 | none => cases h
 | some o => rfl
theorem stepO_is (s : Option OfferS) (x : OfferS) : stepO s x = if (decide (1 ≤ x.less) && (s.isNone || betterO x (s.getD off0))) = true then some x else s := by
 unfold stepO
 by_cases c : 1 ≤ x.less
 ·rw [if_pos c]
  cases s with
  | none => simp [c]
  | some o => simp [c]
 ·rw [if_neg c, if_neg (by simp [c])]
def giveS (s : Option OfferS) : List Str := match s with | none => [] | some o => o.give
def takeS (s : Option OfferS) : List Str := match s with | none => [] | some o => o.take
def bothR (a b : List Asset) : Int := if a.any (fun x => b.any (fun y => x.Player == y.Player)) then 6 else 0
theorem offers_take {a b : List Asset} {p : List Place} {G T : List (List Str)} {i : Nat} {g : List Str} (h : G[i]? = some g) : offersL a b p (G.take (i + 1)) T = offersL a b p (G.take i) T ++ T.map (mkO a b p g) := by rw [take_snoc' h, offers_snoc]
theorem fold_take {xs : List OfferS} {a b : List Asset} {p : List Place} {T : List (List Str)} {j : Nat} {g t : List Str} (h : T[j]? = some t) : foldO (xs ++ (T.take (j + 1)).map (mkO a b p g)) = stepO (foldO (xs ++ (T.take j).map (mkO a b p g))) (mkO a b p g t) := by
 rw [take_snoc' h, List.map_append, ← List.append_assoc]
 exact foldO_snoc _ _
theorem min_iteI {x y : Int} : (if y < x then y else x) = min x y := by split <;> omega
structure SwapOk (a b : List Asset) (p : List Place) : Prop where
 ca : checkAssets a = 0
 cb : checkAssets b = 0
 da : (a.map (·.Player)).Nodup
 db : (b.map (·.Player)).Nodup
 p10 : p.length ≤ 10
 many : ∀ x ∈ p, 0 ≤ x.Many
 va : ∀ x ∈ a, -1000000 ≤ x.Value ∧ x.Value ≤ 1000000
 vb : ∀ x ∈ b, -1000000 ≤ x.Value ∧ x.Value ≤ 1000000
theorem swap_ok {a b : List Asset} {p : List Place} (h : swapE a b p = 0) : SwapOk a b p := by
 obtain ⟨h1, h2, h3, _⟩ := swapE_ok h
 obtain ⟨a1, a2⟩ := checkAssets_ok h1
 obtain ⟨b1, b2⟩ := checkAssets_ok h2
 obtain ⟨c1, c2⟩ := checkPlaces_ok h3
 exact ⟨h1, h2, sortedS_nodup a1, sortedS_nodup b1, c2, fun x hx => (c1 x hx).1, fun x hx => (assetFault_ok (a2 x hx)).2.2, fun x hx => (assetFault_ok (b2 x hx)).2.2⟩
theorem SwapOk.flip {a b : List Asset} {p : List Place} (h : SwapOk a b p) : SwapOk b a p := ⟨h.cb, h.ca, h.db, h.da, h.p10, h.many, h.vb, h.va⟩
theorem SwapOk.gain {a b : List Asset} {p : List Place} {give take : List Str} (h : SwapOk a b p) (hla : a.length ≤ 8) (ht : take.length ≤ 4) :
 ((tradedL a b give take).length ≤ 12 ∧ ∀ x ∈ tradedL a b give take, -1000000 ≤ x.Value ∧ x.Value ≤ 1000000) ∧ (-120000000 ≤ sumF a p ∧ sumF a p ≤ 120000000) ∧ (-120000000 ≤ sumF (tradedL a b give take) p ∧ sumF (tradedL a b give take) p ≤ 120000000) := by
 have h1 := traded_len (a := a) (give := give) (take := take) h.db
 have h2 : ∀ x ∈ tradedL a b give take, -1000000 ≤ x.Value ∧ x.Value ≤ 1000000 := fun x hx => by
  rcases traded_mem hx with hx | hx
  ·exact h.va x hx
  ·exact h.vb x hx
 exact ⟨⟨by omega, h2⟩, sumF_bd (by omega) h.p10 h.va, sumF_bd (by omega) h.p10 h2⟩
theorem fold_small {n : Int} (hn : 1 ≤ n ∧ n ≤ 2) {a b : List Asset} {p : List Place} {i j : Nat} {g : List Str} (hg : (choicesL n a)[i]? = some g) :
 ((foldO (offersL a b p ((choicesL n a).take i) (choicesL n b) ++ ((choicesL n b).take j).map (mkO a b p g))).getD off0).give.length ≤ 1000 ∧ ((foldO (offersL a b p ((choicesL n a).take i) (choicesL n b) ++ ((choicesL n b).take j).map (mkO a b p g))).getD off0).take.length ≤ 1000 := by
 generalize hx : offersL a b p ((choicesL n a).take i) (choicesL n b) ++ ((choicesL n b).take j).map (mkO a b p g) = xs
 cases e : foldO xs with
 | none => simp [off0]
 | some o =>
   have hm := ((foldO_ok xs).yes o e).2.1
   rw [← hx] at hm
   have key : ∃ g' ∈ choicesL n a, ∃ t' ∈ choicesL n b, o = mkO a b p g' t' := by
    rcases List.mem_append.1 hm with hm | hm
    ·unfold offersL at hm
     obtain ⟨g', h1, h2⟩ := List.mem_flatMap.1 hm
     obtain ⟨t', h3, h4⟩ := List.mem_map.1 h2
     exact ⟨g', List.mem_of_mem_take h1, t', h3, h4.symm⟩
    ·obtain ⟨t', h3, h4⟩ := List.mem_map.1 hm
     exact ⟨g, List.mem_of_getElem? hg, t', List.mem_of_mem_take h3, h4.symm⟩
   obtain ⟨g', h1, t', h2, rfl⟩ := key
   have h3 := ch_small hn h1
   have h4 := ch_small hn h2
   show g'.length ≤ 1000 ∧ t'.length ≤ 1000
   omega
end Go.HL
end
section
namespace Go.Proofs.YtbfikmihcpfgaaaGreatDoor
open Go.HL
set_option maxRecDepth 100000
set_option linter.unusedVariables false
set_option linter.unusedSimpArgs false
/-- benchwarmer/benchref1.BothFault$1 -/
theorem c_benchref1_BothFault_1 [Tracks] {y x : Asset}  : ConP Tryz.prog 48 [eAsset y, .vptr (hcells (eAsset x)) 0] (.bool (x.Player == y.Player)) := by
 refine Con.of_body Tryz.func48 rfl Tryz.ntmps48 rfl rfl ?_
 refine hw_reg ?_
 refine dp rfl (pop_box rfl rfl) ?_
 refine dp rfl (pop_assign rfl) ?_
 refine dn ?_
 refine hw_reg ?_
 refine dp rfl (pop_fieldAddr ty36 rfl ty9 (by decide) rfl) ?_
 refine dp rfl (pop_load ty9 rfl rfl rfl) ?_
 refine dp rfl (pop_fieldAddr ty36 rfl ty9 (by decide) rfl) ?_
 refine dp rfl (pop_load ty9 rfl rfl rfl) ?_
 refine dp rfl (pop_eqls rfl rfl) ?_
 refine dp rfl (pop_assign rfl) ?_
 refine dn ?_
 refine hw_ret ?_
 refine ret_p rfl ?_
 rfl

/-- benchwarmer/benchref1.BothFault -/
theorem c_benchref1_BothFault [Tracks] {a b : List Asset} (hla : a.length ≤ 8) (hlb : b.length ≤ 8) : ConP Tryz.prog 18 [eAssets a, eAssets b] (.int .i64 (bothR a b)) := by
 refine Con.of_body Tryz.func18 rfl Tryz.ntmps18 rfl rfl ?_
 refine hw_reg ?_
 refine dp rfl (pop_assign rfl) ?_
 refine dn ?_
 refine hw_seq ?_
 refine hw_reg ?_
 refine dp rfl (pop_move rfl) ?_
 refine dp rfl (pop_lenm ty26 rfl) ?_
 refine dp rfl (pop_move rfl) ?_
 refine dn ?_
 refine hw_block ?_
 refine hw_loopw [4, 6, 9, 10, 11, 12, 13, 14, 15, 16] (fun (k : Nat) => [(9, .int .i64 k)]) (fun (k : Nat) => []) (fun (k : Nat) => k ≤ a.length ∧ (a.any (fun x => b.any (fun y => x.Player == y.Player)) = (a.drop k).any (fun x => b.any (fun y => x.Player == y.Player)))) (fun (k : Nat) => a.length - k) (0) ?_ ?_ ?_ ?_
 ·exact ⟨Nat.zero_le _, rfl⟩
 ·exact ⟨rfl, trivial⟩
 ·exact List.Perm.refl _
 ·intro k hinv
  obtain ⟨hk, hg⟩ := hinv
  refine hw_reg ?_
  refine dp rfl (pop_lss rfl rfl) ?_
  refine dn ?_
  refine hw_seq ?_
  refine hw_cond rfl (fun h1 => ?_) (fun h2 => ?_)
  ·try simp at h1
   obtain ⟨x, hx⟩ : ∃ x, a[k]? = some x := ⟨_, List.getElem?_eq_getElem h1⟩
   have hdx := drop_cons hx
   rw [hdx, List.any_cons] at hg
   refine hw_skip ?_
   refine seqQ_n ?_
   refine hw_seq ?_
   refine hw_block ?_
   refine hw_reg ?_
   refine dp rfl (pop_idx ty26 ty36 rfl rfl rfl (by first | assumption | simp_all)) ?_
   refine dp rfl (pop_loadw ty36 rfl rfl rfl rfl) ?_
   refine de rfl (eop_alloc ty36 rfl fun b6 => ?_)
   refine de0 (eop_storew ty36 rfl rfl rfl rfl rfl ?_)
   refine dn ?_
   refine hw_ghost (Ghost.fc0 6 rfl) ?_
   refine hw_reg ?_
   refine dp rfl (pop_move rfl) ?_
   refine dp rfl (pop_makeFunc rfl rfl) ?_
   refine dp rfl (pop_call ca47 rfl (WeakL.refl _) (c_slices_ContainsFunc_api_Asset_api_Asset (l := b) (p := fun y => x.Player == y.Player) ca48 (fun _ => c_benchref1_BothFault_1) (by omega))) ?_
   refine dn ?_
   refine hw_cond rfl (fun h3 => ?_) (fun h4 => ?_)
   ·try simp at h3
    refine hw_reg ?_
    refine dp rfl (pop_assign rfl) ?_
    refine dn ?_
    refine hw_ret ?_
    refine ret_p rfl ?_
    show HVal.int .i64 _ = _
    unfold bothR
    rw [hg]; simp_all
   ·try simp at h4
    refine hw_skip ?_
    refine blockQ_n ?_
    refine seqQ_n ?_
    refine hw_reg1 ?_
    refine dp rfl (pop_add64 rfl rfl (by omega) (by omega)) ?_
    refine dp rfl (pop_move rfl) ?_
    refine dn ?_
    refine ⟨k + 1, ?_, ?_, ⟨rfl, trivial⟩, (by repeat (first | exact keeps_refl | refine keeps_upd rfl ?_ | refine keeps_loop rfl rfl ?_)), List.Perm.refl _⟩
    ·refine ⟨by omega, ?_⟩
     rw [hg]; simp_all
    ·dsimp only; omega
  ·try simp at h2
   have hnk : a.length ≤ k := by omega
   obtain rfl : k = a.length := by omega
   rw [drop_all (Nat.le_refl _)] at hg
   refine hw_exit ?_
   refine seqQ_x ?_
   refine loopQ_x ?_
   refine blockQ_eq ?_
   refine seqQ_n ?_
   refine hw_reg ?_
   refine dp rfl (pop_assign rfl) ?_
   refine dn ?_
   refine hw_ret ?_
   refine ret_p rfl ?_
   show HVal.int .i64 _ = _
   unfold bothR
   rw [hg]; simp_all

/-- benchwarmer/value.swapFault$1 -/
theorem c_value_swapFault_1 [Tracks] {x : Asset} {b : List Asset} (hlb : b.length ≤ 1000000) : ConP Tryz.prog 93 [eAsset x, .vptr [eAssets b] 0] (.bool (hasP b x.Player)) := by
 refine Con.of_body Tryz.func93 rfl Tryz.ntmps93 rfl rfl ?_
 refine hw_reg ?_
 refine dp rfl (pop_box rfl rfl) ?_
 refine dp rfl (pop_assign rfl) ?_
 refine dn ?_
 refine hw_reg ?_
 refine dp rfl (pop_load ty26 rfl rfl rfl) ?_
 refine dp rfl (pop_fieldAddr ty36 rfl ty9 (by decide) rfl) ?_
 refine dp rfl (pop_load ty9 rfl rfl rfl) ?_
 refine dp rfl (pop_call ca94 rfl (WeakL.refl _) (c_value_isIn (l := b) (s := x.Player) hlb)) ?_
 refine dp rfl (pop_assign rfl) ?_
 refine dn ?_
 refine hw_ret ?_
 refine ret_p rfl ?_
 rfl

/-- benchwarmer/value.swapFault -/
theorem c_value_swapFault [Tracks] {a b : List Asset} {p : List HL.Place} (hla : a.length ≤ 8) (hlb : b.length ≤ 8) (hp : p.length ≤ 1000000) : ConP Tryz.prog 50 [eAssets a, eAssets b, ePlaces p] (.int .i64 (swapE a b p)) := by
 refine Con.of_body Tryz.func50 rfl Tryz.ntmps50 rfl rfl ?_
 refine hw_reg ?_
 refine dp rfl (pop_box rfl rfl) ?_
 refine dp rfl (pop_assign rfl) ?_
 refine dn ?_
 refine hw_seq ?_
 refine hw_draw (fun _ => True) [] mixed ?_
 refine ahp 0 rfl rfl (by kernel_rfl) (by kernel_rfl) (pop_move rfl) ?_
 refine ahp 1 rfl rfl (by kernel_rfl) (by kernel_rfl) (pop_call ca35 rfl (WeakL.refl _) (c_value_CheckAssets (by first | assumption | omega | (simp; omega) | simp_all))) ?_
 refine ahp 2 rfl rfl (by kernel_rfl) (by kernel_rfl) (pop_load ty26 rfl rfl rfl) ?_
 refine ahp 3 rfl rfl (by kernel_rfl) (by kernel_rfl) (pop_call ca35 rfl (WeakL.refl _) (c_value_CheckAssets (by first | assumption | omega | (simp; omega) | simp_all))) ?_
 refine ahp 4 rfl rfl (by kernel_rfl) (by kernel_rfl) (pop_move rfl) ?_
 refine ahp 5 rfl rfl (by kernel_rfl) (by kernel_rfl) (pop_call ca90 rfl (WeakL.refl _) (c_value_CheckPlaces (by first | assumption | omega | (simp; omega) | simp_all))) ?_
 refine ahp 6 rfl rfl (by kernel_rfl) (by kernel_rfl) (pop_buildSlice (hs := [_, _, _]) ty100 ty28 rfl rfl (by decide) (by decide) rfl) ?_
 refine ahp 7 rfl rfl (by kernel_rfl) (by kernel_rfl) (pop_call ca49 rfl (WeakL.refl _) (c_base_First (l := [_, _, _]) (by simp))) ?_
 refine ahp 8 rfl rfl (by kernel_rfl) (by kernel_rfl) (pop_assign rfl) ?_
 refine ahz (by kernel_rfl) ?_
 refine hw_reg ?_
 refine dp rfl (pop_move rfl) ?_
 refine dp rfl (pop_neq rfl rfl) ?_
 refine dn ?_
 refine hw_cond rfl (fun h1 => ?_) (fun h2 => ?_)
 ·try simp at h1
  refine hw_reg ?_
  refine dp rfl (pop_move rfl) ?_
  refine dp rfl (pop_assign rfl) ?_
  refine dn ?_
  refine hw_ret ?_
  refine ret_p rfl ?_
  show HVal.int .i64 _ = _
  unfold swapE bothP
  simp_all
 ·try simp at h2
  refine hw_skip ?_
  refine seqQ_n ?_
  refine hw_seq ?_
  refine hw_reg ?_
  refine dp rfl (pop_move rfl) ?_
  refine dp rfl (pop_makeFunc rfl rfl) ?_
  refine dp rfl (pop_call ca47 rfl (WeakL.refl _) (c_slices_ContainsFunc_api_Asset_api_Asset (l := a) (p := fun x => hasP b x.Player) ca93 (fun _ => c_value_swapFault_1 (by omega)) (by omega))) ?_
  refine dn ?_
  refine hw_cond rfl (fun h3 => ?_) (fun h4 => ?_)
  ·try simp at h3
   refine hw_reg ?_
   refine dp rfl (pop_assign rfl) ?_
   refine dn ?_
   refine hw_ret ?_
   refine ret_p rfl ?_
   show HVal.int .i64 _ = _
   unfold swapE bothP
   simp_all
  ·try simp at h4
   refine hw_skip ?_
   refine seqQ_n ?_
   refine hw_reg ?_
   refine dp rfl (pop_assign rfl) ?_
   refine dn ?_
   refine hw_ret ?_
   refine ret_p rfl ?_
   show HVal.int .i64 _ = _
   unfold swapE bothP
   simp_all

/-- benchwarmer/value.giveFault -/
theorem c_value_giveFault [Tracks] {l : List Asset} {who : List Str} (hl : l.length ≤ 1000000) (hw : who.length ≤ 1000000) : ConP Tryz.prog 51 [eAssets l, eSs who] (.int .i64 (giveE l who)) := by
 refine Con.of_body Tryz.func51 rfl Tryz.ntmps51 rfl rfl ?_
 refine hw_reg ?_
 refine dp rfl (pop_assign rfl) ?_
 refine dn ?_
 refine hw_seq ?_
 refine hw_reg ?_
 refine dp rfl (pop_move rfl) ?_
 refine dp rfl (pop_lenm ty44 rfl) ?_
 refine dp rfl (pop_move rfl) ?_
 refine dn ?_
 refine hw_block ?_
 refine hw_loopw [4, 5, 6, 9, 10, 11, 12, 13, 14, 15, 16, 17, 18, 19, 20, 21, 22, 23] (fun (k : Nat) => [(9, .int .i64 k)]) (fun (k : Nat) => []) (fun (k : Nat) => k ≤ who.length ∧ (giveGo l who 0 who = giveGo l who k (who.drop k))) (fun (k : Nat) => who.length - k) (0) ?_ ?_ ?_ ?_
 ·exact ⟨Nat.zero_le _, rfl⟩
 ·exact ⟨rfl, trivial⟩
 ·exact List.Perm.refl _
 ·intro k hinv
  obtain ⟨hk, hg⟩ := hinv
  refine hw_reg ?_
  refine dp rfl (pop_lss rfl rfl) ?_
  refine dn ?_
  refine hw_seq ?_
  refine hw_cond rfl (fun h1 => ?_) (fun h2 => ?_)
  ·try simp at h1
   obtain ⟨x, hx⟩ : ∃ x, who[k]? = some x := ⟨_, List.getElem?_eq_getElem h1⟩
   have hdx := drop_cons hx
   rw [hdx] at hg
   refine hw_skip ?_
   refine seqQ_n ?_
   refine hw_seq ?_
   refine hw_block ?_
   refine hw_reg ?_
   refine dp rfl (pop_move rfl) ?_
   refine dp rfl (pop_idx ty44 ty9 rfl rfl rfl (by first | assumption | simp_all)) ?_
   refine dp rfl (pop_load ty9 rfl rfl rfl) ?_
   refine dp rfl (pop_assign rfl) ?_
   refine dp rfl (pop_assign rfl) ?_
   refine dn ?_
   refine hw_seq ?_
   refine hw_reg ?_
   refine dp rfl (pop_move rfl) ?_
   refine dp rfl (pop_move rfl) ?_
   refine dp rfl (pop_call ca94 rfl (WeakL.refl _) (c_value_isIn (l := l) (s := x) hl)) ?_
   refine dp rfl (pop_not rfl) ?_
   refine dn ?_
   refine hw_cond rfl (fun h3 => ?_) (fun h4 => ?_)
   ·try simp at h3
    refine hw_reg ?_
    refine dp rfl (pop_assign rfl) ?_
    refine dn ?_
    refine hw_ret ?_
    refine ret_p rfl ?_
    show HVal.int .i64 _ = _
    unfold giveE
    first
    | (rw [hg]; rfl)
    | (rw [hg, giveGo, if_pos (by simp_all [hasP])]; done)
    | (rw [hg, giveGo, if_neg (by simp_all [hasP]), if_pos (by simp_all)]; done)
   ·try simp at h4
    refine hw_skip ?_
    refine seqQ_n ?_
    refine hw_reg ?_
    refine dp rfl (pop_move rfl) ?_
    refine dp rfl (pop_move rfl) ?_
    refine dp rfl (pop_slicem (h := k) ty44 ty9 rfl rfl ⟨_, _, rfl, rfl⟩ (by omega) (by omega)) ?_
    refine dp rfl (pop_move rfl) ?_
    refine dp rfl (pop_call ca57 rfl (WeakL.refl _) (c_slices_Contains_string_string (l := List.drop 0 (who.take k)) (s := x) (by simp; omega))) ?_
    refine dn ?_
    refine hw_cond rfl (fun h5 => ?_) (fun h6 => ?_)
    ·try simp at h5
     refine hw_reg ?_
     refine dp rfl (pop_assign rfl) ?_
     refine dn ?_
     refine hw_ret ?_
     refine ret_p rfl ?_
     show HVal.int .i64 _ = _
     unfold giveE
     first
     | (rw [hg]; rfl)
     | (rw [hg, giveGo, if_pos (by simp_all [hasP])]; done)
     | (rw [hg, giveGo, if_neg (by simp_all [hasP]), if_pos (by simp_all)]; done)
    ·try simp at h6
     refine hw_skip ?_
     refine blockQ_n ?_
     refine seqQ_n ?_
     refine hw_reg1 ?_
     refine dp rfl (pop_add64 rfl rfl (by omega) (by omega)) ?_
     refine dp rfl (pop_move rfl) ?_
     refine dn ?_
     refine ⟨k + 1, ?_, ?_, ⟨rfl, trivial⟩, (by repeat (first | exact keeps_refl | refine keeps_upd rfl ?_ | refine keeps_loop rfl rfl ?_)), List.Perm.refl _⟩
     ·refine ⟨by omega, ?_⟩
      rw [hg, giveGo, if_neg (by simp_all [hasP]), if_neg (by simp_all)]
     ·dsimp only; omega
  ·try simp at h2
   have hnk : who.length ≤ k := by omega
   obtain rfl : k = who.length := by omega
   rw [drop_all (Nat.le_refl _)] at hg
   refine hw_exit ?_
   refine seqQ_x ?_
   refine loopQ_x ?_
   refine blockQ_eq ?_
   refine seqQ_n ?_
   refine hw_reg ?_
   refine dp rfl (pop_assign rfl) ?_
   refine dn ?_
   refine hw_ret ?_
   refine ret_p rfl ?_
   show HVal.int .i64 _ = _
   unfold giveE
   first
   | (rw [hg]; rfl)
   | (rw [hg, giveGo, if_pos (by simp_all [hasP])]; done)
   | (rw [hg, giveGo, if_neg (by simp_all [hasP]), if_pos (by simp_all)]; done)

/-- benchwarmer/value.choices -/
theorem c_value_choices [Tracks] {l : List Asset} {n : Int} (hl : l.length ≤ 8) : ConP Tryz.prog 54 [eAssets l, .int .i64 n] (.slice 1 ((choicesL n l).map eSs)) := by
 refine Con.of_body Tryz.func54 rfl Tryz.ntmps54 rfl rfl ?_
 refine hw_reg ?_
 refine dp rfl (pop_assign rfl) ?_
 refine dn ?_
 refine hw_reg ?_
 refine dp rfl (pop_assign rfl) ?_
 refine dn ?_
 refine hw_ghost (Ghost.arr_nil 1) ?_
 refine hw_seq ?_
 refine hw_reg ?_
 refine dp rfl (pop_move rfl) ?_
 refine dp rfl (pop_lenm ty26 rfl) ?_
 refine dp rfl (pop_move rfl) ?_
 refine dn ?_
 refine hw_block ?_
 refine hw_loopw2 [5, 6, 7, 9, 12, 13, 14, 15, 16, 17, 18, 19, 20, 21, 22, 23, 24, 25, 26, 27, 28, 29, 30, 31, 32, 33, 34, 35, 36, 37, 38, 39, 40, 41, 42, 43] (fun (i : Nat) (u : Value) => [(12, .int .i64 i), (5, .raw u)]) (fun (i : Nat) (u : Value) => [.arr u 1 ((chPre n l i).map eSs)]) (fun (i : Nat) (u : Value) => i ≤ l.length ∧ (True)) (fun (i : Nat) (u : Value) => l.length - i) (0) (.slice none 0 0) ?_ ?_ ?_ ?_
 ·exact ⟨Nat.zero_le _, trivial⟩
 ·exact ⟨rfl, rfl, trivial⟩
 ·exact perm_eq (by simp [chPre])
 ·intro i u hinv
  obtain ⟨hi, -⟩ := hinv
  refine hw_reg ?_
  refine dp rfl (pop_lss rfl rfl) ?_
  refine dn ?_
  refine hw_seq ?_
  refine hw_cond rfl (fun h1 => ?_) (fun h2 => ?_)
  ·try simp at h1
   obtain ⟨x, hx⟩ : ∃ x, l[i]? = some x := ⟨_, List.getElem?_eq_getElem h1⟩
   have hdx := drop_cons hx
   refine hw_skip ?_
   refine seqQ_n ?_
   refine hw_seq ?_
   refine hw_block ?_
   refine hw_reg ?_
   refine dp rfl (pop_move rfl) ?_
   refine dp rfl (pop_idx ty26 ty36 rfl rfl rfl (by first | assumption | simp_all)) ?_
   refine dp rfl (pop_loadw ty36 rfl rfl rfl rfl) ?_
   refine de rfl (eop_alloc ty36 rfl fun b7 => ?_)
   refine dp rfl (pop_assign rfl) ?_
   refine de0 (eop_storew ty36 rfl rfl rfl rfl rfl ?_)
   refine dn ?_
   refine hw_ghost (Ghost.fc0 7 rfl) ?_
   refine hw_reg ?_
   refine dp rfl (pop_move rfl) ?_
   refine dp rfl ((by first | exact pop_fieldAddr ty36 rfl ty9 (by decide) rfl | exact pop_fieldAddr_raw ty36 rfl ty9 (by decide) rfl)) ?_
   refine dp rfl (pop_load ty9 rfl rfl rfl) ?_
   refine dp rfl (pop_buildSlice (hs := [_]) ty44 ty9 rfl rfl (by decide) (by decide) rfl) ?_
   refine dp rfl (pop_buildSlice (hs := [_]) ty105 ty44 rfl rfl (by decide) (by decide) rfl) ?_
   refine de rfl (eop_append (i := 0) ty105 ty44 rfl rfl rfl rfl rfl (by simp [flat, hcells]) (by have := chPre_len n l i; have : i * (1 + l.length) ≤ 8 * 9 := Nat.mul_le_mul (by omega) (by omega); simp only [List.length_map, List.length_cons, List.length_nil]; omega) fun v22 => ?_)
   refine dp rfl (pop_assign rfl) ?_
   refine dn ?_
   refine hw_reg ?_
   refine dp rfl (pop_move rfl) ?_
   refine dp rfl (pop_move rfl) ?_
   refine dp rfl (pop_add64 rfl rfl (by omega) (by omega)) ?_
   refine dp rfl (pop_slicem (l := i + 1) (h := l.length) ty26 ty36 rfl ⟨_, _, rfl, by omega⟩ rfl (by omega) (by omega)) ?_
   refine dp rfl (pop_lenm ty26 rfl) ?_
   refine dp rfl (pop_move rfl) ?_
   refine dn ?_
   rw [List.take_length]
   refine hw_block ?_
   refine hw_loopw2 [5, 9, 28, 29, 30, 31, 32, 33, 34, 35, 36, 37, 38, 39, 40, 41, 42] (fun (j : Nat) (w : Value) => [(28, .int .i64 j), (5, .raw w)]) (fun (j : Nat) (w : Value) => [.arr w 1 ((chPre n l i ++ [x.Player] :: (if 1 < n then ((l.drop (i + 1)).take j).map (fun y => [x.Player, y.Player]) else [])).map eSs)]) (fun (j : Nat) (w : Value) => j ≤ (l.drop (i + 1)).length ∧ (True)) (fun (j : Nat) (w : Value) => (l.drop (i + 1)).length - j) (0) (v22) ?_ ?_ ?_ ?_
   ·exact ⟨Nat.zero_le _, trivial⟩
   ·exact ⟨rfl, rfl, trivial⟩
   ·exact perm_eq (by simp)
   ·intro j w hinv
    obtain ⟨hj, -⟩ := hinv
    refine hw_reg ?_
    refine dp rfl (pop_lss rfl rfl) ?_
    refine dn ?_
    refine hw_seq ?_
    refine hw_cond rfl (fun h3 => ?_) (fun h4 => ?_)
    ·try simp at h3
     obtain ⟨y, hy⟩ : ∃ y, (l.drop (i + 1))[j]? = some y := ⟨_, List.getElem?_eq_getElem (by simp only [List.length_drop]; omega)⟩
     have hdy := drop_cons hy
     have hjd := lt_of_get hy
     have hjl : j < l.length := by have h9 := hjd; simp only [List.length_drop] at h9; omega
     refine hw_skip ?_
     refine seqQ_n ?_
     refine hw_seq ?_
     refine hw_block ?_
     refine hw_reg ?_
     refine dp rfl (pop_idx ty26 ty36 rfl rfl rfl (by first | assumption | simp_all)) ?_
     refine dp rfl (pop_loadw ty36 rfl rfl rfl rfl) ?_
     refine de rfl (eop_alloc ty36 rfl fun b9 => ?_)
     refine de0 (eop_storew ty36 rfl rfl rfl rfl rfl ?_)
     refine dn ?_
     refine hw_ghost (Ghost.fc0 9 rfl) ?_
     refine hw_reg ?_
     refine dp rfl (pop_move rfl) ?_
     refine dp rfl (pop_gtr rfl rfl) ?_
     refine dn ?_
     refine hw_cond rfl (fun h5 => ?_) (fun h6 => ?_)
     ·try simp at h5
      refine hw_reg1 ?_
      refine dp rfl (pop_move rfl) ?_
      refine dp rfl ((by first | exact pop_fieldAddr ty36 rfl ty9 (by decide) rfl | exact pop_fieldAddr_raw ty36 rfl ty9 (by decide) rfl)) ?_
      refine dp rfl (pop_load ty9 rfl rfl rfl) ?_
      refine dp rfl ((by first | exact pop_fieldAddr ty36 rfl ty9 (by decide) rfl | exact pop_fieldAddr_raw ty36 rfl ty9 (by decide) rfl)) ?_
      refine dp rfl (pop_load ty9 rfl rfl rfl) ?_
      refine dp rfl (pop_buildSlice (hs := [_, _]) ty44 ty9 rfl rfl (by decide) (by decide) rfl) ?_
      refine dp rfl (pop_buildSlice (hs := [_]) ty105 ty44 rfl rfl (by decide) (by decide) rfl) ?_
      refine de rfl (eop_append (i := 0) ty105 ty44 rfl rfl rfl rfl rfl (by simp [flat, hcells]) (by have h1 := chPre_len n l i; have h2 : i * (1 + l.length) ≤ 8 * 9 := Nat.mul_le_mul (by omega) (by omega); simp only [List.length_map, List.length_append, List.length_cons, List.length_nil]; split <;> simp <;> omega) fun v41 => ?_)
      refine dp rfl (pop_assign rfl) ?_
      refine dn ?_
      refine blockQ_n ?_
      refine seqQ_n ?_
      refine hw_reg1 ?_
      refine dp rfl (pop_add64 rfl rfl (by omega) (by omega)) ?_
      refine dp rfl (pop_move rfl) ?_
      refine dn ?_
      exact ⟨j + 1, _, ⟨by omega, trivial⟩, by dsimp only; omega, ⟨rfl, rfl, trivial⟩, (by repeat (first | exact keeps_refl | refine keeps_upd rfl ?_ | refine keeps_loop rfl rfl ?_)), perm_eq (by dsimp only; rw [take_snoc' hy]; simp [if_pos (show 1 < n by omega)])⟩
     ·try simp at h6
      refine hw_skip ?_
      refine blockQ_n ?_
      refine seqQ_n ?_
      refine hw_reg1 ?_
      refine dp rfl (pop_add64 rfl rfl (by omega) (by omega)) ?_
      refine dp rfl (pop_move rfl) ?_
      refine dn ?_
      exact ⟨j + 1, _, ⟨by omega, trivial⟩, by dsimp only; omega, ⟨rfl, rfl, trivial⟩, (by repeat (first | exact keeps_refl | refine keeps_upd rfl ?_ | refine keeps_loop rfl rfl ?_)), perm_eq (by dsimp only; rw [take_snoc' hy]; simp [if_neg (show ¬ 1 < n by omega)])⟩
    ·try simp at h4
     have hnj : (l.drop (i + 1)).length ≤ j := by simpa using h4
     obtain rfl : j = (l.drop (i + 1)).length := by omega
     refine hw_exit ?_
     refine seqQ_x ?_
     refine loopQ2_x ?_
     refine blockQ_eq ?_
     refine blockQ_n ?_
     refine seqQ_n ?_
     refine hw_reg1 ?_
     refine dp rfl (pop_add64 rfl rfl (by omega) (by omega)) ?_
     refine dp rfl (pop_move rfl) ?_
     refine dn ?_
     exact ⟨i + 1, w, ⟨by omega, trivial⟩, by dsimp only; omega, ⟨rfl, rfl, trivial⟩, (by repeat (first | exact keeps_refl | refine keeps_upd rfl ?_ | refine keeps_loop rfl rfl ?_)), perm_eq (by dsimp only; rw [chPre_succ, chAt_some hx, List.take_length])⟩
  ·try simp at h2
   have hni : l.length ≤ i := by omega
   obtain rfl : i = l.length := by omega
   refine hw_exit ?_
   refine seqQ_x ?_
   refine loopQ2_x ?_
   refine blockQ_eq ?_
   refine seqQ_n ?_
   refine hw_reg ?_
   refine dp rfl (pop_move rfl) ?_
   refine dp rfl (pop_assign rfl) ?_
   refine dn ?_
   refine hw_ret ?_
   exact ret_fa (M := []) 4 rfl rfl rfl

/-- (*benchwarmer/value.offer).better -/
theorem c_value_offer_better [Tracks] {x y : OfferS} (hx : x.give.length ≤ 1000 ∧ x.take.length ≤ 1000) (hy : y.give.length ≤ 1000 ∧ y.take.length ≤ 1000) : ConP Tryz.prog 55 [.vptr (hcells (eOffer x)) 0, .vptr (hcells (eOffer y)) 0] (.bool (betterO x y)) := by
 refine Con.of_body Tryz.func55 rfl Tryz.ntmps55 rfl rfl ?_
 refine hw_reg ?_
 refine dp rfl (pop_assign rfl) ?_
 refine dn ?_
 refine hw_draw (fun _ => True) [] mixed ?_
 refine ahp 0 rfl rfl (by kernel_rfl) (by kernel_rfl) (pop_move rfl) ?_
 refine ahp 1 rfl rfl (by kernel_rfl) (by kernel_rfl) ((by first | exact pop_nilCheck rfl | exact pop_nilCheck_raw rfl)) ?_
 refine ahp 2 rfl rfl (by kernel_rfl) (by kernel_rfl) (pop_fieldAddr ty108 rfl ty3 (by decide) rfl) ?_
 refine ahp 3 rfl rfl (by kernel_rfl) (by kernel_rfl) (pop_load ty3 rfl rfl rfl) ?_
 refine ahp 4 rfl rfl (by kernel_rfl) (by kernel_rfl) (pop_move rfl) ?_
 refine ahp 5 rfl rfl (by kernel_rfl) (by kernel_rfl) ((by first | exact pop_nilCheck rfl | exact pop_nilCheck_raw rfl)) ?_
 refine ahp 6 rfl rfl (by kernel_rfl) (by kernel_rfl) (pop_fieldAddr ty108 rfl ty3 (by decide) rfl) ?_
 refine ahp 7 rfl rfl (by kernel_rfl) (by kernel_rfl) (pop_load ty3 rfl rfl rfl) ?_
 refine ahp 8 rfl rfl (by kernel_rfl) (by kernel_rfl) (pop_call ca68 rfl (WeakL.refl _) c_cmp_Compare_int) ?_
 refine ahp 9 rfl rfl (by kernel_rfl) (by kernel_rfl) (pop_move rfl) ?_
 refine ahp 10 rfl rfl (by kernel_rfl) (by kernel_rfl) ((by first | exact pop_nilCheck rfl | exact pop_nilCheck_raw rfl)) ?_
 refine ahp 11 rfl rfl (by kernel_rfl) (by kernel_rfl) (pop_fieldAddr ty108 rfl ty3 (by decide) rfl) ?_
 refine ahp 12 rfl rfl (by kernel_rfl) (by kernel_rfl) (pop_load ty3 rfl rfl rfl) ?_
 refine ahp 13 rfl rfl (by kernel_rfl) (by kernel_rfl) (pop_move rfl) ?_
 refine ahp 14 rfl rfl (by kernel_rfl) (by kernel_rfl) ((by first | exact pop_nilCheck rfl | exact pop_nilCheck_raw rfl)) ?_
 refine ahp 15 rfl rfl (by kernel_rfl) (by kernel_rfl) (pop_fieldAddr ty108 rfl ty3 (by decide) rfl) ?_
 refine ahp 16 rfl rfl (by kernel_rfl) (by kernel_rfl) (pop_load ty3 rfl rfl rfl) ?_
 refine ahp 17 rfl rfl (by kernel_rfl) (by kernel_rfl) (pop_call ca68 rfl (WeakL.refl _) c_cmp_Compare_int) ?_
 refine ahp 18 rfl rfl (by kernel_rfl) (by kernel_rfl) (pop_move rfl) ?_
 refine ahp 19 rfl rfl (by kernel_rfl) (by kernel_rfl) ((by first | exact pop_nilCheck rfl | exact pop_nilCheck_raw rfl)) ?_
 refine ahp 20 rfl rfl (by kernel_rfl) (by kernel_rfl) (pop_fieldAddr ty108 rfl ty44 (by decide) rfl) ?_
 refine ahp 21 rfl rfl (by kernel_rfl) (by kernel_rfl) (pop_load ty44 rfl rfl rfl) ?_
 refine ahp 22 rfl rfl (by kernel_rfl) (by kernel_rfl) (pop_lenm ty44 rfl) ?_
 refine ahp 23 rfl rfl (by kernel_rfl) (by kernel_rfl) (pop_move rfl) ?_
 refine ahp 24 rfl rfl (by kernel_rfl) (by kernel_rfl) ((by first | exact pop_nilCheck rfl | exact pop_nilCheck_raw rfl)) ?_
 refine ahp 25 rfl rfl (by kernel_rfl) (by kernel_rfl) (pop_fieldAddr ty108 rfl ty44 (by decide) rfl) ?_
 refine ahp 26 rfl rfl (by kernel_rfl) (by kernel_rfl) (pop_load ty44 rfl rfl rfl) ?_
 refine ahp 27 rfl rfl (by kernel_rfl) (by kernel_rfl) (pop_lenm ty44 rfl) ?_
 refine ahp 28 rfl rfl (by kernel_rfl) (by kernel_rfl) (pop_add64 rfl rfl (by omega) (by omega)) ?_
 refine ahp 29 rfl rfl (by kernel_rfl) (by kernel_rfl) (pop_move rfl) ?_
 refine ahp 30 rfl rfl (by kernel_rfl) (by kernel_rfl) ((by first | exact pop_nilCheck rfl | exact pop_nilCheck_raw rfl)) ?_
 refine ahp 31 rfl rfl (by kernel_rfl) (by kernel_rfl) (pop_fieldAddr ty108 rfl ty44 (by decide) rfl) ?_
 refine ahp 32 rfl rfl (by kernel_rfl) (by kernel_rfl) (pop_load ty44 rfl rfl rfl) ?_
 refine ahp 33 rfl rfl (by kernel_rfl) (by kernel_rfl) (pop_lenm ty44 rfl) ?_
 refine ahp 34 rfl rfl (by kernel_rfl) (by kernel_rfl) (pop_move rfl) ?_
 refine ahp 35 rfl rfl (by kernel_rfl) (by kernel_rfl) ((by first | exact pop_nilCheck rfl | exact pop_nilCheck_raw rfl)) ?_
 refine ahp 36 rfl rfl (by kernel_rfl) (by kernel_rfl) (pop_fieldAddr ty108 rfl ty44 (by decide) rfl) ?_
 refine ahp 37 rfl rfl (by kernel_rfl) (by kernel_rfl) (pop_load ty44 rfl rfl rfl) ?_
 refine ahp 38 rfl rfl (by kernel_rfl) (by kernel_rfl) (pop_lenm ty44 rfl) ?_
 refine ahp 39 rfl rfl (by kernel_rfl) (by kernel_rfl) (pop_add64 rfl rfl (by omega) (by omega)) ?_
 refine ahp 40 rfl rfl (by kernel_rfl) (by kernel_rfl) (pop_call ca68 rfl (WeakL.refl _) c_cmp_Compare_int) ?_
 refine ahp 41 rfl rfl (by kernel_rfl) (by kernel_rfl) (pop_buildSlice (hs := [_, _, _]) ty22 ty3 rfl rfl (by decide) (by decide) rfl) ?_
 refine ahp 42 rfl rfl (by kernel_rfl) (by kernel_rfl) (pop_call ca67 rfl (WeakL.refl _) (c_cmp_Or_int (l := [_, _, _]) (by simp))) ?_
 refine ahp 43 rfl rfl (by kernel_rfl) (by kernel_rfl) (pop_gtr rfl rfl) ?_
 refine ahp 44 rfl rfl (by kernel_rfl) (by kernel_rfl) (pop_assign rfl) ?_
 refine ahz (by kernel_rfl) ?_
 refine hw_ret ?_
 refine ret_p rfl ?_
 rfl

end Go.Proofs.YtbfikmihcpfgaaaGreatDoor
end
section
namespace Go.HL
section
variable {κ : Type} [DecidableEq κ]
def kput (x : κ) (h : HVal) : List (κ × HVal) → List (κ × HVal)
 | [] => [(x, h)]
 | p :: r => if x = p.1 then (x, h) :: r else p :: kput x h r
def KNodup (l : List (κ × HVal)) : Prop := (l.map (·.1)).Nodup
theorem kput_keys {x y : κ} {h : HVal} : ∀ {l : List (κ × HVal)}, y ∈ (kput x h l).map (·.1) ↔ y = x ∨ y ∈ l.map (·.1)
 | [] => by simp [kput]
 | p :: r => by
   simp only [kput]
   split
   ·rename_i e; subst e; simp
   ·simp only [List.map_cons, List.mem_cons, kput_keys]
    constructor
    ·rintro (a | a | a)
     ·exact .inr (.inl a)
     ·exact .inl a
     ·exact .inr (.inr a)
    ·rintro (a | a | a)
     ·exact .inr (.inl a)
     ·exact .inl a
     ·exact .inr (.inr a)
theorem KNodup.put {x : κ} {h : HVal} : ∀ {l : List (κ × HVal)}, KNodup l → KNodup (kput x h l)
 | [], _ => by simp [KNodup, kput]
 | p :: r, hn => by
   unfold KNodup at *
   simp only [List.map_cons, List.nodup_cons] at hn
   simp only [kput]
   split
   ·rename_i e; subst e; simpa using hn
   ·rename_i e
    simp only [List.map_cons, List.nodup_cons]
    refine ⟨fun q => ?_, KNodup.put (l := r) hn.2⟩
    rcases kput_keys.1 q with q | q
    ·exact e q.symm
    ·exact hn.1 q
variable {P : Program} {kt : TypeId} {ek : κ → HVal}
variable [Tracks] {e : Env} {dst : Option Tmp} {ty : TypeId} {pos : String} {af : Array Edge} {g : Option (Nat × Bool)} {M : List MObj} {K : HVal → List MObj → Prop}
end
end Go.HL
end
section
namespace Go.HL
section
variable {P : Program}
end
/-! ranges -/
section
variable {P : Program} {e : Env} {dst : Option Tmp} {ty : TypeId} {pos : String} {af : Array Edge} {g : Option (Nat × Bool)} {M : List MObj} {K : HVal → List MObj → Prop}
end
end Go.HL
end
section
namespace Go.HL
section
variable {P : Program} {e : Env} {dst : Option Tmp} {ty : TypeId} {pos : String} {af : Array Edge} {g : Option (Nat × Bool)} {M : List MObj} {K : HVal → List MObj → Prop}
end
section
variable {κ : Type} [DecidableEq κ]
variable {P : Program} {kt : TypeId} {ek : κ → HVal} {e : Env} {dst : Option Tmp} {ty : TypeId} {pos : String} {af : Array Edge} {g : Option (Nat × Bool)} {M : List MObj} {K : HVal → List MObj → Prop}
end
end Go.HL
end
section
namespace Go.HL
section
variable {κ : Type} [DecidableEq κ] {α : Type}
def aput (x : κ) (v : α) : List (κ × α) → List (κ × α)
 | [] => [(x, v)]
 | p :: r => if x = p.1 then (x, v) :: r else p :: aput x v r
theorem aput_keys {x y : κ} {v : α} : ∀ {l : List (κ × α)}, y ∈ (aput x v l).map (·.1) ↔ y = x ∨ y ∈ l.map (·.1)
 | [] => by simp [aput]
 | p :: r => by
   have ih := aput_keys (x := x) (y := y) (v := v) (l := r)
   simp only [aput]
   by_cases h : x = p.1
   ·subst h; rw [if_pos rfl]; simp
   ·rw [if_neg h]; simp only [List.map_cons, List.mem_cons, ih]
    constructor
    ·rintro (h | h | h)
     ·exact .inr (.inl h)
     ·exact .inl h
     ·exact .inr (.inr h)
    ·rintro (h | h | h)
     ·exact .inr (.inl h)
     ·exact .inl h
     ·exact .inr (.inr h)
def ANodup (l : List (κ × α)) : Prop := (l.map (·.1)).Nodup
theorem ANodup.nil {A B : Type} : ANodup ([] : List (A × B)) := List.nodup_nil
theorem ANodup.put {x : κ} {v : α} : ∀ {l : List (κ × α)}, ANodup l → ANodup (aput x v l)
 | [], _ => by simp [ANodup, aput]
 | p :: r, hn => by
   have h1 := (List.nodup_cons.1 hn)
   by_cases h : x = p.1
   ·subst h
    have e : aput p.1 v (p :: r) = (p.1, v) :: r := by simp [aput]
    rw [e]; exact List.nodup_cons.2 h1
   ·have e : aput x v (p :: r) = p :: aput x v r := by simp [aput, h]
    rw [e]
    refine List.nodup_cons.2 ⟨fun hm => ?_, ANodup.put (l := r) h1.2⟩
    rcases aput_keys.1 hm with e | e
    ·exact h e.symm
    ·exact h1.1 e
end
section
variable {κ : Type} [DecidableEq κ] {α : Type}
variable {P : Program} {e : Env} {dst : Option Tmp} {ty : TypeId} {pos : String} {af : Array Edge} {g : Option (Nat × Bool)} {M : List MObj} {K : HVal → List MObj → Prop}
variable {kt : TypeId} {ek : κ → HVal}
end
end Go.HL
end
section
namespace Go.HL
open Go.Sort Go.Proofs
theorem swo_cmp {α : Type} {c : α → α → Int} (hc : Cmp c fun _ => True) : SWO (ltOf c) := by
 have h : ∀ a b, ltOf c a b = decide (c a b < 0) := fun a b => rfl
 refine ⟨fun x => ?_, fun x y z h1 h2 => ?_, fun x y z h1 h2 => ?_⟩
 ·rw [h]; have := hc.flip x x trivial trivial; simp; omega
 ·rw [h] at *
  simp only [decide_eq_true_eq] at *
  have a1 := hc.trans x y z trivial trivial trivial (by omega) (by omega)
  rcases Int.lt_or_eq_of_le a1 with e | e
  ·exact e
  ·exfalso
   have f1 := hc.flip x z trivial trivial
   have a2 := hc.trans z x y trivial trivial trivial (by have := hc.flip z x trivial trivial; omega) (by omega)
   have f2 := hc.flip y z trivial trivial
   omega
 ·rw [h] at *
  simp only [decide_eq_false_iff_not] at *
  have f1 := hc.flip x y trivial trivial
  have f2 := hc.flip y z trivial trivial
  have f3 := hc.flip x z trivial trivial
  have g1 := hc.flip y x trivial trivial
  have g2 := hc.flip z y trivial trivial
  have g3 := hc.flip z x trivial trivial
  have := hc.trans z y x trivial trivial trivial (by omega) (by omega)
  omega
end Go.HL
end
section
namespace Go.HL
open Go.Sort Go.Proofs
theorem field_bdN {f : Str → List Asset} {l : List Asset} {p : List Place} {i : Nat} (hf : ∀ s m y, y ∈ chosen (f s) m → y ∈ l) (hn : ∀ s, (f s).length ≤ 16) (hp : p.length ≤ 10) (hv : ∀ x ∈ l, -1000000 ≤ x.Value ∧ x.Value ≤ 1000000) :
 (fieldedL f (p.take i)).length ≤ 160 ∧ -160000000 ≤ sumV (fieldedL f (p.take i)) ∧ sumV (fieldedL f (p.take i)) ≤ 160000000 := by
 have h1 := fieldedL_len hn (p.take i)
 have h2 : (p.take i).length ≤ 10 := by simp; omega
 have h3 := sumV_bd (L := fieldedL f (p.take i)) fun y hy => hv y (mem_fieldedL hf hy)
 have h4 : (fieldedL f (p.take i)).length ≤ 160 := by omega
 omega
theorem pos_bdN {C l : List Asset} {k : Nat} (hC : ∀ y ∈ C, y ∈ l) (hn : C.length ≤ 16) (hv : ∀ x ∈ l, -1000000 ≤ x.Value ∧ x.Value ≤ 1000000) :
 ((C.take k).filter (fun y => decide (0 < y.Value))).length ≤ 16 ∧ -16000000 ≤ sumV ((C.take k).filter (fun y => decide (0 < y.Value))) ∧ sumV ((C.take k).filter (fun y => decide (0 < y.Value))) ≤ 16000000 := by
 have h1 := List.length_filter_le (fun y : Asset => decide (0 < y.Value)) (C.take k)
 have h2 : (C.take k).length ≤ 16 := by simp; omega
 have h3 := sumV_bd (L := (C.take k).filter (fun y => decide (0 < y.Value))) fun y hy => hv y (hC y (List.mem_of_mem_take (List.mem_filter.1 hy).1))
 omega
theorem sumF_bdN {l : List Asset} {p : List Place} (hl : l.length ≤ 16) (hp : p.length ≤ 10) (hv : ∀ x ∈ l, -1000000 ≤ x.Value ∧ x.Value ≤ 1000000) : -160000000 ≤ sumF l p ∧ sumF l p ≤ 160000000 := by
 have h := field_bdN (f := ofP l) (p := p) (i := p.length) (fun s m y => mem_chosen) (fun s => Nat.le_trans (ofP_len l s) hl) hp hv
 rw [List.take_length] at h
 exact h.2
/-! a list that is sorted is what the plain sort makes of it -/
theorem isort_id {α : Type} {c : α → α → Int} (hc : Cmp c fun _ => True) {l : List α} (hw : l.Pairwise fun a b => ¬ c b a < 0) : isort c l = l := by
 have key : ∀ k, k ≤ l.length → isort c (l.take k) = l.take k := by
  intro k
  induction k with
  | zero => intro _; simp [isort]
  | succ k ih =>
    intro hk
    have hx := List.getElem?_eq_getElem (l := l) (i := k) (by omega)
    rw [take_snoc' hx, isort_snoc, ih (by omega)]
    rcases List.eq_nil_or_concat (l.take k) with h0 | ⟨S, y, h0⟩
    ·rw [h0]; rfl
    ·rw [List.concat_eq_append] at h0
     have hy : y ∈ l.take k := by rw [h0]; simp
     obtain ⟨i, hi⟩ := List.getElem?_of_mem hy
     have hik : i < k := by have := lt_of_get hi; simp at this; omega
     rw [List.getElem?_take_of_lt hik] at hi
     have hil := lt_of_get hi
     have h1 := List.pairwise_iff_getElem.1 hw i k hil (by omega) hik
     rw [List.getElem?_eq_getElem hil, Option.some.injEq] at hi
     rw [hi] at h1
     rw [h0, insB_snoc, if_neg h1]
     simp
 have := key l.length (Nat.le_refl _)
 rwa [List.take_length] at this
theorem sort_is {α : Type} {c : α → α → Int} (hc : Cmp c fun _ => True) {l' m : List α} (he : ∀ x y, x ∈ m → y ∈ m → c x y = 0 → x = y) (hp : l'.Perm m) (hw : l'.Pairwise fun a b => ¬ c b a < 0) : l' = isort c m := by
 rw [← isort_id hc hw]
 exact isort_unique hc (fun _ _ => trivial) (fun x y hx hy e => he x y (hp.mem_iff.1 hx) (hp.mem_iff.1 hy) e) hp
theorem ofP_sorted {l l' : List Asset} {pos : Str} (hn : (l.map (·.Player)).Nodup) (hp : l'.Perm (atPos l pos)) (hw : l'.Pairwise fun a b => ¬ byValue b a < 0) : l' = ofP l pos :=
 sort_is byValue_cmp (fun x y hx hy e => nodup_inj hn (List.mem_filter.1 hx).1 (List.mem_filter.1 hy).1 (byValue_player e)) hp hw
theorem with_is {l l' : List Asset} (hn : (l.map (·.Player)).Nodup) (hp : l'.Perm l) (hw : l'.Pairwise fun a b => ¬ byPlayer b a < 0) : l' = isort byPlayer l :=
 sort_is byPlayer_cmp (fun x y hx hy e => nodup_inj hn hx hy (cmpS_zero.1 e)) hp hw
/-! the teams after an offer -/
theorem hasP_f {l : List Asset} {s : Str} (h : hasP l s = false) : ∀ y ∈ l, y.Player ≠ s := fun y hy e => by
 have := List.any_eq_false.1 h y hy
 simp [e] at this
theorem both_ne {a b : List Asset} (h : bothP a b = false) : ∀ x ∈ a, ∀ y ∈ b, x.Player ≠ y.Player := fun x hx y hy e => hasP_f (by simpa using List.any_eq_false.1 h x hx) y hy e.symm
theorem both_flip {a b : List Asset} (h : bothP a b = false) : bothP b a = false := by
 unfold bothP hasP
 refine List.any_eq_false.2 fun y hy => ?_
 simp only [Bool.not_eq_true]
 refine List.any_eq_false.2 fun x hx => ?_
 have := both_ne h x hx y hy
 simpa using this
theorem traded_nodup {a b : List Asset} {give take : List Str} (ha : (a.map (·.Player)).Nodup) (hb : (b.map (·.Player)).Nodup) (h : bothP a b = false) : ((tradedL a b give take).map (·.Player)).Nodup := by
 unfold tradedL
 rw [List.map_append, List.nodup_append]
 refine ⟨ha.sublist (List.filter_sublist.map _), hb.sublist (List.filter_sublist.map _), fun u hu v hv => ?_⟩
 obtain ⟨x, hx, rfl⟩ := List.mem_map.1 hu
 obtain ⟨y, hy, rfl⟩ := List.mem_map.1 hv
 exact both_ne h x (List.mem_filter.1 hx).1 y (List.mem_filter.1 hy).1
theorem traded_lenN {a b : List Asset} {give take : List Str} (ha : a.length ≤ 8) (hb : b.length ≤ 8) : (tradedL a b give take).length ≤ 16 := by
 have h1 := List.length_filter_le (fun x : Asset => !(give.contains x.Player)) a
 have h2 := List.length_filter_le (fun x : Asset => take.contains x.Player) b
 unfold tradedL; rw [List.length_append]; omega
theorem gain_bd {a b : List Asset} {p : List Place} {give take : List Str} (h : SwapOk a b p) (ha : a.length ≤ 8) (hb : b.length ≤ 8) :
 ((tradedL a b give take).length ≤ 16 ∧ ∀ x ∈ tradedL a b give take, -1000000 ≤ x.Value ∧ x.Value ≤ 1000000) ∧ (-160000000 ≤ sumF a p ∧ sumF a p ≤ 160000000) ∧ (-160000000 ≤ sumF (tradedL a b give take) p ∧ sumF (tradedL a b give take) p ≤ 160000000) := by
 have h1 := traded_lenN (give := give) (take := take) ha hb
 have h2 : ∀ x ∈ tradedL a b give take, -1000000 ≤ x.Value ∧ x.Value ≤ 1000000 := fun x hx => by
  rcases traded_mem hx with hx | hx
  ·exact h.va x hx
  ·exact h.vb x hx
 exact ⟨⟨h1, h2⟩, sumF_bdN (by omega) h.p10 h.va, sumF_bdN h1 h.p10 h2⟩
def withL (base zs : List Asset) : List Asset := zs.foldl (fun acc z => isort byPlayer (acc ++ [z])) base
theorem withL_snoc {base zs : List Asset} {k : Nat} {z : Asset} (h : zs[k]? = some z) : withL base (zs.take (k + 1)) = isort byPlayer (withL base (zs.take k) ++ [z]) := by
 unfold withL; rw [take_snoc' h, List.foldl_append]; rfl
theorem withL_perm (base : List Asset) : ∀ zs : List Asset, (withL base zs).Perm (base ++ zs) := by
 have key : ∀ (zs acc : List Asset), (zs.foldl (fun acc z => isort byPlayer (acc ++ [z])) acc).Perm (acc ++ zs) := by
  intro zs
  induction zs with
  | nil => intro acc; simp
  | cons z r ih =>
    intro acc
    refine (ih _).trans ?_
    have := ((isort_perm byPlayer (acc ++ [z])).append_right r)
    refine this.trans ?_
    simp
 exact fun zs => key zs base
theorem withL_sorted {base : List Asset} (hs : SortedS (base.map (·.Player))) {zs : List Asset} (hn : ((base ++ zs).map (·.Player)).Nodup) : SortedS ((withL base zs).map (·.Player)) := by
 rcases List.eq_nil_or_concat zs with rfl | ⟨r, z, h⟩
 ·exact hs
 ·rw [List.concat_eq_append] at h
  subst h
  have e : withL base (r ++ [z]) = isort byPlayer (withL base r ++ [z]) := by unfold withL; rw [List.foldl_append]; rfl
  rw [e]
  refine with_sorted ?_
  have hp : (withL base r ++ [z]).Perm (base ++ (r ++ [z])) := by
   have := (withL_perm base r).append_right [z]
   rwa [List.append_assoc] at this
  exact ((hp.map (·.Player)).nodup_iff).2 hn
theorem sumF_perm {l m : List Asset} (p : List Place) (hn : (l.map (·.Player)).Nodup) (hp : l.Perm m) : sumF l p = sumF m p := by
 unfold sumF
 rw [fieldedL_congr (p := p) fun x _ => ofP_perm hn hp x.Position]
/-- What the reference says a team brings that gives players and gets others. -/
theorem swapped_ref {a b : List Asset} {p : List Place} {give take : List Str} (ha : SortedS (a.map (·.Player))) (hb : (b.map (·.Player)).Nodup) (h : bothP a b = false) :
 sumV (fieldedL (ofR (withL (a.filter fun x => !(give.contains x.Player)) (b.filter fun x => take.contains x.Player))) p) - sumV (fieldedL (ofR a) p) = gainL a b p give take := by
 have hn := traded_nodup (give := give) (take := take) (sortedS_nodup ha) hb h
 have hs := withL_sorted (base := a.filter fun x => !(give.contains x.Player)) (zs := b.filter fun x => take.contains x.Player) (sorted_filter ha _) hn
 have hp := withL_perm (a.filter fun x => !(give.contains x.Player)) (b.filter fun x => take.contains x.Player)
 rw [fielded_ref hs, fielded_ref ha]
 show sumF _ p - sumF a p = _
 unfold gainL
 rw [sumF_perm p (sortedS_nodup hs) hp]; rfl
/-! the faults -/
theorem swapE_is (a b : List Asset) (p : List Place) : orI [checkAssets a, checkAssets b, checkPlaces p, bothR a b] = swapE a b p := by
 have hb : bothR a b = if bothP a b then 6 else 0 := by
  unfold bothR bothP hasP
  have : (a.any fun x => b.any fun y => x.Player == y.Player) = a.any fun x => b.any fun y => y.Player == x.Player := by
   congr 1; funext x; congr 1; funext y; exact Bool.beq_comm
  rw [this]
 unfold swapE
 rw [hb]
 by_cases h1 : checkAssets a = 0
 ·by_cases h2 : checkAssets b = 0
  ·by_cases h3 : checkPlaces p = 0
   ·simp [orI, h1, h2, h3]
   ·simp [orI, h1, h2, h3]
  ·simp [orI, h1, h2]
 ·simp [orI, h1]
def swapG (a b : List Asset) (p : List Place) (give take : List Str) : Int := orI [swapE a b p, giveE a give, giveE b take]
def swapN (a b : List Asset) (p : List Place) (give take : List Str) : Int := if swapG a b p give take = 0 then gainL a b p give take else 0
def swapM (a b : List Asset) (p : List Place) (give take : List Str) : Int := if swapG a b p give take = 0 then gainL b a p take give else 0
def bestE (a b : List Asset) (p : List Place) (n : Int) : Int := orI [swapE a b p, if out n 1 2 then 1 else 0]
def bestS (a b : List Asset) (p : List Place) (n : Int) : Option OfferS := if bestE a b p n = 0 then bestO a b p n else none
theorem swapG_z {a b : List Asset} {p : List Place} {give take : List Str} (h : swapG a b p give take = 0) : swapE a b p = 0 ∧ giveE a give = 0 ∧ giveE b take = 0 := orI3 h
theorem bestE_z {a b : List Asset} {p : List Place} {n : Int} (h : bestE a b p n = 0) : swapE a b p = 0 ∧ 1 ≤ n ∧ n ≤ 2 := by
 obtain ⟨h1, h2⟩ := orI_zero h
 refine ⟨h1, ?_⟩
 cases ho : out n 1 2 with
 | false => exact out_f ho
 | true => rw [ho] at h2; simp at h2
/-! lists of names in order -/
def cmpSs : List Str → List Str → Int
 | [], [] => 0
 | [], _ :: _ => -1
 | _ :: _, [] => 1
 | a :: l, b :: m => if cmpS a b ≠ 0 then cmpS a b else cmpSs l m
theorem cmpSs_refl : ∀ l : List Str, cmpSs l l = 0
 | [] => rfl
 | a :: l => by
   have : cmpS a a = 0 := cmpS_zero.2 rfl
   rw [cmpSs, if_neg (by simp [this]), cmpSs_refl l]
theorem cmpS_later {l : List Asset} (h : SortedS (l.map (·.Player))) {i j : Nat} {x y : Asset} (hx : l[i]? = some x) (hy : l[j]? = some y) (hij : i < j) : 0 < cmpS y.Player x.Player := by
 have hi := lt_of_get hx
 have hj := lt_of_get hy
 have h1 := List.pairwise_iff_getElem.1 (List.pairwise_map.1 h) i j hi hj hij
 rw [List.getElem?_eq_getElem hi, Option.some.injEq] at hx
 rw [List.getElem?_eq_getElem hj, Option.some.injEq] at hy
 rw [hx, hy] at h1
 have h2 : ¬ cmpS y.Player x.Player ≤ 0 := by rw [cmpS_le, h1]; simp
 omega
/-- Of two lists of players the later one is the greater one. -/
theorem choices_rise {n : Int} {l : List Asset} (h : SortedS (l.map (·.Player))) : (choicesL n l).Pairwise fun g g' => 0 < cmpSs g' g := by
 unfold choicesL chPre
 rw [List.pairwise_flatMap]
 refine ⟨fun i hi => ?_, ?_⟩
 ·have hi' := List.mem_range.1 hi
  have hx := List.getElem?_eq_getElem hi'
  rw [chAt_some hx]
  have self : cmpS (l[i]).Player (l[i]).Player = 0 := cmpS_zero.2 rfl
  rw [List.pairwise_cons]
  refine ⟨fun g hg => ?_, ?_⟩
  ·split at hg
   ·obtain ⟨y, _, rfl⟩ := List.mem_map.1 hg
    simp [cmpSs, self]
   ·cases hg
  ·split
   ·rw [List.pairwise_map]
    have h2 : (l.drop (i + 1)).Pairwise fun a b => Op.bytesLess a.Player b.Player = true := (List.pairwise_map.1 h).sublist (List.drop_sublist _ _)
    refine h2.imp fun {x y} hxy => ?_
    have h3 : ¬ cmpS y.Player x.Player ≤ 0 := by rw [cmpS_le, hxy]; simp
    have h4 : cmpS y.Player x.Player ≠ 0 := by omega
    simp only [cmpSs, self, ne_eq, not_true_eq_false, if_false, h4, not_false_eq_true, if_true]
    omega
   ·exact .nil
 ·refine List.pairwise_lt_range.imp_of_mem ?_
  intro i j hi hj hij g hg g' hg'
  have hi' := List.mem_range.1 hi
  have hj' := List.mem_range.1 hj
  have hx := List.getElem?_eq_getElem hi'
  have hy := List.getElem?_eq_getElem hj'
  have hc := cmpS_later h hx hy hij
  have hne : cmpS (l[j]).Player (l[i]).Player ≠ 0 := by omega
  have heads : ∀ {k : Nat} (hk : k < l.length) {t : List Str}, t ∈ chAt n l k → ∃ r, t = (l[k]).Player :: r := by
   intro k hk t ht
   rw [chAt_some (List.getElem?_eq_getElem hk)] at ht
   rcases List.mem_cons.1 ht with rfl | ht
   ·exact ⟨[], rfl⟩
   ·split at ht
    ·obtain ⟨y, _, rfl⟩ := List.mem_map.1 ht
     exact ⟨[y.Player], rfl⟩
    ·cases ht
  obtain ⟨r, rfl⟩ := heads hi' hg
  obtain ⟨r', rfl⟩ := heads hj' hg'
  rw [cmpSs, if_pos hne]; exact hc
/-! the reference's order of offers -/
def ordR (o x : OfferS) : Int := orI [cmpI o.less x.less, cmpI o.sum x.sum, cmpI ((x.give.length : Int) + x.take.length) ((o.give.length : Int) + o.take.length), cmpSs x.give o.give, cmpSs x.take o.take]
theorem cmpI_neg {a b : Int} : cmpI a b < 0 ↔ a < b := by unfold cmpI; split <;> (try split) <;> omega
theorem ordR_better {o x : OfferS} (h : 0 < cmpSs x.give o.give ∨ (cmpSs x.give o.give = 0 ∧ 0 < cmpSs x.take o.take)) : decide (ordR o x < 0) = betterO x o := by
 unfold betterO ordR
 refine decide_eq_decide.2 ?_
 rw [orI_pos, cmpI_pos, cmpI_pos, cmpI_pos, cmpI_zero, cmpI_zero]
 have e : ∀ (A B C D E : Int), 0 < D ∨ (D = 0 ∧ 0 < E) → (orI [A, B, C, D, E] < 0 ↔ A < 0 ∨ (A = 0 ∧ (B < 0 ∨ (B = 0 ∧ C < 0)))) := by
  intro A B C D E hDE
  simp only [orI]
  by_cases hA : A = 0 <;> by_cases hB : B = 0 <;> by_cases hC : C = 0 <;> by_cases hD : D = 0 <;> by_cases hE : E = 0 <;> simp [hA, hB, hC, hD, hE] <;> omega
 rw [e _ _ _ _ _ h, cmpI_neg, cmpI_neg, cmpI_neg, cmpI_zero, cmpI_zero]
 constructor
 ·rintro (q | ⟨q1, q2 | ⟨q2, q3⟩⟩)
  ·exact .inl q
  ·exact .inr ⟨q1.symm, .inl q2⟩
  ·exact .inr ⟨q1.symm, .inr ⟨q2.symm, q3⟩⟩
 ·rintro (q | ⟨q1, q2 | ⟨q2, q3⟩⟩)
  ·exact .inl q
  ·exact .inr ⟨q1.symm, .inl q2⟩
  ·exact .inr ⟨q1.symm, .inr ⟨q2.symm, q3⟩⟩
/-- The best offer so far came earlier. -/
theorem fold_earlier {n : Int} {a b : List Asset} {p : List Place} (ha : SortedS (a.map (·.Player))) (hb : SortedS (b.map (·.Player))) {i j : Nat} {g t : List Str} (hg : (choicesL n a)[i]? = some g) (ht : (choicesL n b)[j]? = some t) {o : OfferS}
 (ho : foldO (offersL a b p ((choicesL n a).take i) (choicesL n b) ++ ((choicesL n b).take j).map (mkO a b p g)) = some o) : decide (ordR o (mkO a b p g t) < 0) = betterO (mkO a b p g t) o := by
 refine ordR_better ?_
 have hm := ((foldO_ok _).yes o ho).2.1
 show 0 < cmpSs g o.give ∨ (cmpSs g o.give = 0 ∧ 0 < cmpSs t o.take)
 have later : ∀ {l : List Asset} (_ : SortedS (l.map (·.Player))) {k : Nat} {u v : List Str}, (choicesL n l)[k]? = some u → v ∈ (choicesL n l).take k → 0 < cmpSs u v := by
  intro l hl k u v hu hv
  obtain ⟨q, hq⟩ := List.getElem?_of_mem hv
  have hqk : q < k := by have := lt_of_get hq; simp at this; omega
  rw [List.getElem?_take_of_lt hqk] at hq
  have h1 := List.pairwise_iff_getElem.1 (choices_rise (n := n) hl) q k (lt_of_get hq) (lt_of_get hu) hqk
  rw [List.getElem?_eq_getElem (lt_of_get hq), Option.some.injEq] at hq
  rw [List.getElem?_eq_getElem (lt_of_get hu), Option.some.injEq] at hu
  rw [hq, hu] at h1; exact h1
 rcases List.mem_append.1 hm with hm | hm
 ·unfold offersL at hm
  obtain ⟨g', hg', hm⟩ := List.mem_flatMap.1 hm
  obtain ⟨t', _, rfl⟩ := List.mem_map.1 hm
  exact .inl (later ha hg hg')
 ·obtain ⟨t', ht', rfl⟩ := List.mem_map.1 hm
  exact .inr ⟨cmpSs_refl g, later hb ht ht'⟩
def leastS (s : Option OfferS) : Int := match s with | none => 0 | some o => o.less
def bothS (s : Option OfferS) : Int := match s with | none => 0 | some o => o.sum
/-- The step of the reference. -/
theorem step_ref {n : Int} {a b : List Asset} {p : List Place} (ha : SortedS (a.map (·.Player))) (hb : SortedS (b.map (·.Player))) {i j : Nat} {g t : List Str} (hg : (choicesL n a)[i]? = some g) (ht : (choicesL n b)[j]? = some t) {s : Option OfferS}
 (hs : foldO (offersL a b p ((choicesL n a).take i) (choicesL n b) ++ ((choicesL n b).take j).map (mkO a b p g)) = s) :
 stepO s (mkO a b p g t) = if (decide (1 ≤ (mkO a b p g t).less) && (s.isNone || decide (ordR (s.getD off0) (mkO a b p g t) < 0))) = true then some (mkO a b p g t) else s := by
 rw [stepO_is]
 cases s with
 | none => rfl
 | some o => rw [Option.getD_some, fold_earlier ha hb hg ht hs]
end Go.HL
end
section
namespace Go.HL
variable {P : Program}
open Go.Sort Go.Proofs Go.Shelf Go.RowKit
theorem grown_of_sat [Tracks] {w w' : World} {J : Imm} {M : List MObj} (hT : Tracks.on = true) (hl : Le (allI w) J) (hs : Sat P J M w') : ∃ q os, w' = grow (w.drewN q) os := by
 have hb := below_of_sat hl hs
 have hd : w.drawn ≤ w'.drawn := Nat.le_trans (hl.low hT) (hs.low hT)
 refine ⟨w'.drawn - w.drawn, w'.heap.extract w.heap.size w'.heap.size, ?_⟩
 have hh : w'.heap = w.heap ++ w'.heap.extract w.heap.size w'.heap.size := by
  apply Array.ext_getElem?
  intro i
  by_cases hi : i < w.heap.size
  ·rw [Array.getElem?_append_left hi]; exact hb.block i hi
  ·rw [Array.getElem?_append_right (by omega), Array.getElem?_extract]
   have := hb.size
   split
   ·congr 1; omega
   ·rw [Array.getElem?_eq_none (by omega)]
 have h1 := hb.os
 have h2 := hb.tape
 have h3 := hb.output
 obtain ⟨a1, a2, a3, a4, a5⟩ := w'
 obtain ⟨b1, b2, b3, b4, b5⟩ := w
 simp only at h1 h2 h3 hd hh
 subst h1 h2 h3
 simp only [grow, World.drewN, World.mk.injEq]
 exact ⟨hh, trivial, by omega, trivial, trivial⟩
theorem ConP.calls [Tracks] {f : FuncId} {hargs : List HVal} {h : HVal} (hT : Tracks.on = true) (hc : ConP P f hargs h) {w : World} (ht : TabI P (allI w)) {args : List Value} (ha : VL (allI w) hargs args) :
 Calls P f args.toArray w fun e w' => ∃ v, e = .returned v ∧ V (allI w') h v ∧ ∃ q os, w' = grow (w.drewN q) os := by
 refine (hc (allI w) [] w args ha (sat_now ht)).mono ?_
 rintro e w' ⟨v, x, M', J, rfl, hle, ⟨rfl, rfl⟩, hV, hs⟩
 exact ⟨v, rfl, hV.mono hs.le_all, grown_of_sat hT hle hs⟩
@[reducible] def trackOn : Tracks := ⟨true⟩
/-- A row of cells that reads as an element. -/
abbrev RowT {A : Type} (I : Imm) (e : A → HVal) (k : Nat) : Type := { p : A × List Value // p.2.length = k ∧ (∀ v ∈ p.2, v.oneCell' = true) ∧ VL I (hcells (e p.1)) p.2 }
theorem rows_ex [Tracks] {A : Type} {I : Imm} {e : A → HVal} {k : Nat} (hk : ∀ x, (hcells (e x)).length = k) (hf : ∀ x, flat (hcells (e x)) = true) {rc : Array Value} : ∀ (l : List A) (off : Nat), off + l.length * k ≤ rc.size →
 (∀ (i j : Nat) (x : A) (c : HVal) (v : Value), l[i]? = some x → (hcells (e x))[j]? = some c → rc[off + i * k + j]? = some v → V I c v) →
 ∃ d : List (RowT I e k), d.map (·.1.1) = l ∧ ∀ (i j : Nat) (p : RowT I e k), d[i]? = some p → j < k → rc[off + i * k + j]? = p.1.2[j]?
 | [], off, _, _ => ⟨[], rfl, fun i j p h => by simp at h⟩
 | x :: l, off, hb, hV => by
   have hb' : off + k + l.length * k ≤ rc.size := by simp [Nat.add_mul] at hb; omega
   obtain ⟨d, h1, h2⟩ := rows_ex hk hf l (off + k) hb' fun i j y c v a1 a2 a3 => hV (i + 1) j y c v (by simpa using a1) a2 (by rw [Nat.add_mul, Nat.one_mul]; rw [show off + (i * k + k) + j = off + k + i * k + j by omega]; exact a3)
   have hlen : (rc.extract off (off + k)).toList.length = k := by simp; omega
   have hg : ∀ j, j < k → (rc.extract off (off + k)).toList[j]? = rc[off + j]? := fun j hj => by
    rw [Array.getElem?_toList, Array.getElem?_extract, if_pos (by omega)]
   have hvl : VL I (hcells (e x)) (rc.extract off (off + k)).toList := ⟨by rw [hlen, hk], fun j c v a1 a2 => by
    have hj : j < k := by have := lt_of_get a1; rw [hk] at this; exact this
    rw [hg j hj] at a2
    exact hV 0 j x c v rfl a1 (by simpa using a2)⟩
   refine ⟨⟨(x, (rc.extract off (off + k)).toList), hlen, flat_one hvl (hf x), hvl⟩ :: d, by simp [h1], fun i j p hp hj => ?_⟩
   cases i with
   | zero =>
     simp only [List.getElem?_cons_zero, Option.some.injEq] at hp
     subst hp
     simp only [Nat.zero_mul, Nat.add_zero]
     exact (hg j hj).symm
   | succ i =>
     simp only [List.getElem?_cons_succ] at hp
     rw [← h2 i j p hp hj, Nat.add_mul, Nat.one_mul]
     congr 1; omega
section
variable {A : Type} {e : A → HVal} {k : Nat}
theorem sortW_get {α : Type} [Inhabited α] {enc : α → List Value} {w : World} {b off m : Nat} {dk : Array α} {os : Array Obj} {c : Nat} (hc : c < w.heap.size) (hb : c ≠ b) : (sortWorldK enc k w b off m dk os).heap[c]? = w.heap[c]? := by
 simp only [sortWorldK, grow, putRowK, putRow, mapBlock, Sort.ahead]
 rw [Array.getElem?_append_left (by simpa using hc), Array.getElem?_modify, if_neg (Ne.symm hb)]
theorem sortW_blk {α : Type} [Inhabited α] {enc : α → List Value} {w : World} {b off m : Nat} {dk : Array α} {os : Array Obj} {rc : Array Value} {el : TypeId} {fr : Nat × Nat} (hb : w.heap[b]? = some (.cells rc el fr)) :
 (sortWorldK enc k w b off m dk os).heap[b]? = some (.cells (putCells id off (flatK enc k dk) rc) el fr) := by
 have hlt : b < w.heap.size := lt_of_get' hb
 simp only [sortWorldK, grow, putRowK, putRow, mapBlock, Sort.ahead]
 rw [Array.getElem?_append_left (by simpa using hlt), Array.getElem?_modify, if_pos rfl, hb]
 rfl
where
 lt_of_get' {α : Type} {a : Array α} {i : Nat} {x : α} (h : a[i]? = some x) : i < a.size := by
  rcases Nat.lt_or_ge i a.size with h' | h'
  ·exact h'
  ·simp [Array.getElem?_eq_none h'] at h
theorem flatK_get {α : Type} [Inhabited α] {enc : α → List Value} (hk : ∀ x, (enc x).length = k) {dk : Array α} {i j : Nat} {x : α} (hx : dk[i]? = some x) (hj : j < k) : some ((flatK enc k dk)[i * k + j]!) = (enc x)[j]? := by
 have hi : i < dk.size := by
  rcases Nat.lt_or_ge i dk.size with h' | h'
  ·exact h'
  ·simp [Array.getElem?_eq_none h'] at hx
 have hle : (i + 1) * k ≤ dk.size * k := Nat.mul_le_mul_right _ hi
 rw [Nat.add_mul, Nat.one_mul] at hle
 rw [get_flatK enc k dk _ (by omega)]
 have e1 : (i * k + j) / k = i := by rw [Nat.mul_comm, Nat.mul_add_div (by omega), Nat.div_eq_of_lt hj]; rfl
 have e2 : (i * k + j) % k = j := by rw [Nat.mul_comm, Nat.mul_add_mod, Nat.mod_eq_of_lt hj]
 rw [e1, e2]
 have e3 : dk[i]! = x := by rw [getElem!_pos dk i hi]; rw [Array.getElem?_eq_getElem hi] at hx; exact Option.some.inj hx
 rw [e3]
 have hjl : j < (enc x).length := by rw [hk]; exact hj
 rw [List.getElem?_eq_getElem hjl, getElem!_pos (enc x) j hjl]
set_option maxHeartbeats 1000000 in
/-- slices.SortFunc: a permutation that is sorted. -/
theorem con_sortf [Tracks] {ρ : Ren} (L : SlLaysF0.n6 P ρ) (aE : ∀ w, (isAgg (ρ.t 24)).run P w = .ok true w) (zE : ∀ w, (Go.sizeOf (ρ.t 24)).run P w = .ok k w) (hk : ∀ x, (hcells (e x)).length = k) (ha : ∀ x, e x = .agg (hcells (e x))) (hf : ∀ x, flat (hcells (e x)) = true)
 {c : A → A → Int} (hO : SWO (ltOf c)) {g : FuncId} (hg : Callable P g) {cap : List HVal} (hc : ∀ x y, @ConP trackOn P g (e x :: e y :: cap) (.int .i64 (c x y))) {l : List A} (hl : l.length ≤ 1000000) {v : Value} :
 Con P (ρ.f 6) [.raw v, .fn (.func g) [] cap] [.arr v k (l.map e)] fun x M' => ∃ l' : List A, x = .tup [] ∧ l'.Perm l ∧ l'.Pairwise (fun a b => ¬ c b a < 0) ∧ M' = [.arr v k (l'.map e)] := by
 intro I F w args hargs hs
 obtain ⟨n1, n2⟩ := hargs
 match args, n1, n2 with
 | [u, fv], _, n2 =>
   obtain rfl : u = v := (n2 0 _ _ rfl rfl).raw_inv
   obtain ⟨f1, cb, rfl, f2, f3⟩ := (n2 1 _ _ rfl rfl).fn_inv
   have hf1 : f1 = #[] := by have := f2.1; simp at this; exact this
   subst hf1
   by_cases h0 : l = []
   ·subst h0
    have hu : ∃ p cp, u = .slice p 0 cp := by
     rcases hs.obj (.arr u k (([] : List A).map e)) (by simp) with ⟨rfl, _⟩ | ⟨b, off, cp, rc, el, fr, rfl, _⟩
     ·exact ⟨_, _, rfl⟩
     ·exact ⟨_, _, rfl⟩
    obtain ⟨p, cp, rfl⟩ := hu
    refine (AnyF.slices_SortFunc_none L p cp _ w).mono ?_
    rintro _ _ ⟨rfl, rfl⟩
    exact ⟨_, .tup [], _, I, rfl, .refl I, ⟨[], rfl, .refl _, .nil, rfl⟩, .tup (by simp) (fun j c v h _ => by simp at h), hs⟩
   ·rcases hs.obj (.arr u k (l.map e)) (by simp) with ⟨_, hn⟩ | ⟨b, off, cp, rc, el, fr, rfl, _⟩
    ·simp at hn; exact absurd hn h0
    ·rw [List.length_map] at hs ⊢
     obtain ⟨_, rc, el, fr, h2, h3, h4, h5, h6, h7⟩ := arr_some hs
     rw [List.length_map] at h5
     have hblt : b < w.heap.size := sortW_blk.lt_of_get' h2
     have hsz : off + l.length * k ≤ rc.size := by
      have : l.length * k ≤ cp * k := Nat.mul_le_mul_right _ h5.1
      omega
     obtain ⟨d, d1, d2⟩ := rows_ex (I := I) (e := e) hk hf (rc := rc) l off hsz fun i j x c v a1 a2 a3 => h7 i j (e x) c v (by simp [a1]) a2 a3
     have dl : d.length = l.length := by rw [← d1]; simp
     obtain ⟨p0, hp0⟩ : ∃ p, d[0]? = some p := ⟨_, List.getElem?_eq_getElem (by have := List.length_pos_iff.2 h0; omega)⟩
     haveI : Inhabited (RowT I e k) := ⟨p0⟩
     have hkr : ∀ x : RowT I e k, (x.1.2).length = k := fun x => x.2.1
     have hH : HoldsK (fun x : RowT I e k => x.1.2) k w b off d.toArray := fun j hj => by
      simp only [size_flatK, List.size_toArray, dl] at hj
      have hk0 : 0 < k := by rcases Nat.eq_zero_or_pos k with h | h; (subst h; simp at hj); exact h
      have hi : j / k < d.length := by rw [dl]; exact Nat.div_lt_of_lt_mul (by rw [Nat.mul_comm]; exact hj)
      have hjk := Nat.mod_lt j hk0
      have hdj : j / k * k + j % k = j := by rw [Nat.mul_comm]; exact Nat.div_add_mod j k
      have hg1 := d2 (j / k) (j % k) d[j / k] (List.getElem?_eq_getElem hi) hjk
      have hg2 := flatK_get (enc := fun x : RowT I e k => x.1.2) (k := k) hkr (dk := d.toArray) (i := j / k) (j := j % k) (x := d[j / k]) (by simp [hi]) hjk
      rw [hdj] at hg2
      constructor
      ·rw [cell_of h2]
       rw [show off + j = off + j / k * k + j % k by omega, hg1, ← hg2]; rfl
      ·simp only [World.frozen?, h2]
       have := h3 (off + j) (by omega)
       simpa using this
     have hle : ∀ (m : Nat) (dk : Array (RowT I e k)) (os : Array Obj), Le I (allI (sortWorldK (fun x : RowT I e k => x.1.2) k w b off m dk os)) := fun m dk os =>
      ⟨fun c o ho => by
       have hcb : c ≠ b := fun hh => by
        subst hh
        have := hs.apart c (by simp [blocks, MObj.blocks])
        rw [this] at ho; cases ho
       have h9 := hs.imm c o ho
       show (sortWorldK _ k w b off m dk os).heap[c]? = some o
       rw [sortW_get (sortW_blk.lt_of_get' h9) hcb]; exact h9, hs.os, hs.output, hs.tape, fun ht => Nat.le_trans (hs.low ht) (Nat.le_add_right _ _)⟩
     have hcmp : CmpLays P g cb (fun x : RowT I e k => x.1.2) k (fun x y => c x.1.1 y.1.1) b off d.toArray.size w := fun m os dk _ x y => by
      have hI := hle m dk os
      have hxa : ∀ z : RowT I e k, V (allI (sortWorldK (fun x : RowT I e k => x.1.2) k w b off m dk os)) (e z.1.1) (.agg z.1.2.toArray) := fun z => by
       rw [ha]; exact V.mk_agg (by simpa using z.2.2.2.mono hI)
      have e9 : (#[Value.agg x.1.2.toArray, .agg y.1.2.toArray] ++ cb) = (Value.agg x.1.2.toArray :: .agg y.1.2.toArray :: cb.toList).toArray := by simp
      rw [e9]
      refine (@ConP.calls P trackOn g _ _ rfl (hc x.1.1 y.1.1) _ (hs.tab.mono hI) _ (VL.cons (hxa x) (VL.cons (hxa y) (f3.mono hI)))).mono ?_
      rintro _ w' ⟨u, rfl, hu, q, os', rfl⟩
      exact ⟨by rw [hu.int_inv], q, os', rfl⟩
     have hO' : SWO (ltOf fun x y : RowT I e k => c x.1.1 y.1.1) := ⟨fun x => hO.irrefl x.1.1, fun x y z => hO.trans x.1.1 y.1.1 z.1.1, fun x y z => hO.ntrans x.1.1 y.1.1 z.1.1⟩
     have hrun := AnyQ.slices_SortFunc L k aE zE (fun x : RowT I e k => x.1.2) hkr (fun x => x.2.2.1) (fun x y => c x.1.1 y.1.1) hO' g cb b off cp d.toArray w (run_callFunc hg) hcmp hH hblt (by simp; omega)
     rw [List.size_toArray, dl] at hrun
     refine hrun.mono ?_
     rintro _ w' ⟨rfl, d', m, os, ⟨q1, _, q3⟩, q4, rfl⟩
     simp only [List.size_toArray, dl] at q1
     have q3' : d'.toList.Perm d := by
      have e1 : (d'.extract 0 l.length) = d' := by rw [← q1]; exact Array.extract_size
      have e2 : (d.toArray.extract 0 l.length) = d.toArray := by have := Array.extract_size (xs := d.toArray); rw [List.size_toArray, dl] at this; exact this
      rw [e1, e2] at q3; simpa using q3
     refine ⟨_, .tup [], [.arr (.slice (some ⟨b, off, none⟩) l.length cp) k ((d'.toList.map (·.1.1)).map e)], I, rfl, .refl I, ⟨d'.toList.map (·.1.1), rfl, by rw [← d1]; exact q3'.map _, ?_, rfl⟩, .tup (by simp) (fun j c v h _ => by simp at h), ?_⟩
     ·refine List.pairwise_iff_getElem.2 fun i j hi hj hij => ?_
      simp only [List.length_map, Array.length_toList] at hi hj
      have := q4 i j (Nat.zero_le _) hij (by omega)
      rw [getElem!_pos d' i hi, getElem!_pos d' j hj] at this
      simp only [ltOf, decide_eq_false_iff_not] at this
      simpa using this
     ·have hchg : ∀ x, x < w.heap.size → x ∉ (MObj.arr (.slice (some ⟨b, off, none⟩) l.length cp) k (l.map e)).blocks → (sortWorldK (fun x : RowT I e k => x.1.2) k w b off m d' os).heap[x]? = w.heap[x]? := fun x hx hnx => sortW_get hx fun hh => hnx (by rw [hh]; simp [MObj.blocks])
      refine hs.change (m' := .arr (.slice (some ⟨b, off, none⟩) l.length cp) k ((d'.toList.map (·.1.1)).map e)) hchg (fun x hx => .inl hx) (by simp [MObj.blocks]) ?_ rfl rfl rfl (fun _ => Nat.le_add_right _ _)
      refine .inr ⟨b, off, cp, putCells id off (flatK (fun x : RowT I e k => x.1.2) k d') rc, el, fr, by simp [q1], sortW_blk h2, by simpa [putCells] using h3, ?_, by simp [q1]; exact h5, by simpa [putCells] using h6, ?_⟩
      ·intro y hy; obtain ⟨z, _, rfl⟩ := List.mem_map.1 hy; exact hk z
      ·intro i j y z v a1 a2 a3
       rw [List.map_map, List.getElem?_map] at a1
       cases hq : d'.toList[i]? with
       | none => rw [hq] at a1; simp at a1
       | some r =>
         rw [hq] at a1
         simp only [Option.map_some, Function.comp_apply, Option.some.injEq] at a1
         subst a1
         have hj : j < k := by have := lt_of_get a2; rw [hk] at this; exact this
         have hi : i < l.length := by have := lt_of_get hq; simp at this; omega
         have hle : (i + 1) * k ≤ l.length * k := Nat.mul_le_mul_right _ hi
         rw [Nat.add_mul, Nat.one_mul] at hle
         have hr : off + i * k + j < rc.size := by omega
         rw [putCells, Array.getElem?_mapIdx, Array.getElem?_eq_getElem hr, Option.map_some, if_pos ⟨by omega, by rw [size_flatK, q1]; omega⟩] at a3
         rw [show off + i * k + j - off = i * k + j by omega] at a3
         have hg2 := flatK_get (enc := fun x : RowT I e k => x.1.2) (k := k) hkr (dk := d') (i := i) (j := j) (x := r) (by simpa using hq) hj
         rw [show (id (flatK (fun x : RowT I e k => x.1.2) k d')[i * k + j]!) = (flatK (fun x : RowT I e k => x.1.2) k d')[i * k + j]! from rfl, hg2] at a3
         exact r.2.2.2.2 j z v a2 a3
end
end Go.HL
end
section
namespace Go.Proofs
open Go.Shelf
def Tryz.g164_ren : Go.Shelf.Ren := ⟨fun | 6 => 164 | 15 => 138 | 14 => 206 | 28 => 179 | 29 => 180 | 20 => 226 | 21 => 227 | 22 => 228 | 23 => 229 | 24 => 230 | 25 => 231 | 26 => 232 | 27 => 233 | 46 => 238 | 47 => 210 | 48 => 211 | 49 => 239 | 50 => 240 | 57 => 242 | n => n, fun | 22 => 96 | 24 => 205 | 25 => 211 | 3 => 3 | 39 => 181 | 0 => 0 | 53 => 221 | 55 => 185 | 4 => 4 | 46 => 215 | 45 => 214 | 50 => 76 | 5 => 5 | 9 => 9 | 66 => 239 | 70 => 243 | 76 => 262 | 77 => 55 | n => n, fun | n => n⟩
def Tryz.g100_ren : Go.Shelf.Ren := ⟨fun | 6 => 100 | 15 => 138 | 14 => 139 | 28 => 179 | 29 => 180 | 20 => 181 | 21 => 182 | 22 => 183 | 23 => 184 | 24 => 185 | 25 => 186 | 26 => 187 | 27 => 188 | 46 => 214 | 47 => 210 | 48 => 211 | 49 => 215 | 50 => 216 | 57 => 236 | n => n, fun | 22 => 26 | 24 => 36 | 25 => 141 | 3 => 3 | 39 => 181 | 0 => 0 | 53 => 221 | 55 => 185 | 4 => 4 | 46 => 215 | 45 => 214 | 50 => 76 | 5 => 5 | 9 => 9 | 66 => 239 | 70 => 243 | 76 => 262 | 77 => 55 | n => n, fun | n => n⟩
theorem Tryz.g100 : Go.Proofs.SlLaysF0.n6 Tryz.prog Tryz.g100_ren := {
 mixed := by kernel_rfl
 f6 := ⟨Tryz.f100.name, by decide, Tryz.func100.trans (congrArg some (by kernel_rfl))⟩
 f14 := ⟨Tryz.f139.name, by decide, Tryz.func139.trans (congrArg some (by kernel_rfl))⟩
 f15 := Tryz.func138.trans (congrArg some (by kernel_rfl))
 f20 := ⟨Tryz.f181.name, by decide, Tryz.func181.trans (congrArg some (by kernel_rfl))⟩
 f21 := ⟨Tryz.f182.name, by decide, Tryz.func182.trans (congrArg some (by kernel_rfl))⟩
 f22 := ⟨Tryz.f183.name, by decide, Tryz.func183.trans (congrArg some (by kernel_rfl))⟩
 f23 := ⟨Tryz.f184.name, by decide, Tryz.func184.trans (congrArg some (by kernel_rfl))⟩
 f24 := ⟨Tryz.f185.name, by decide, Tryz.func185.trans (congrArg some (by kernel_rfl))⟩
 f25 := ⟨Tryz.f186.name, by decide, Tryz.func186.trans (congrArg some (by kernel_rfl))⟩
 f26 := ⟨Tryz.f187.name, by decide, Tryz.func187.trans (congrArg some (by kernel_rfl))⟩
 f27 := ⟨Tryz.f188.name, by decide, Tryz.func188.trans (congrArg some (by kernel_rfl))⟩
 f28 := Tryz.func179.trans (congrArg some (by kernel_rfl))
 f29 := Tryz.func180.trans (congrArg some (by kernel_rfl))
 f46 := ⟨Tryz.f214.name, by decide, Tryz.func214.trans (congrArg some (by kernel_rfl))⟩
 f47 := Tryz.func210.trans (congrArg some (by kernel_rfl))
 f48 := Tryz.func211.trans (congrArg some (by kernel_rfl))
 f49 := ⟨Tryz.f215.name, by decide, Tryz.func215.trans (congrArg some (by kernel_rfl))⟩
 f50 := ⟨Tryz.f216.name, by decide, Tryz.func216.trans (congrArg some (by kernel_rfl))⟩
 f57 := ⟨Tryz.f236.name, by decide, Tryz.func236.trans (congrArg some (by kernel_rfl))⟩
 t0 := Tryz.underlying0
 a0 := Tryz.isAgg0
 z0 := Tryz.sizeOf0
 v0 := Tryz.zeroValue0
 t3 := Tryz.underlying3
 a3 := Tryz.isAgg3
 z3 := Tryz.sizeOf3
 v3 := Tryz.zeroValue3
 t4 := Tryz.underlying4
 a4 := Tryz.isAgg4
 z4 := Tryz.sizeOf4
 v4 := Tryz.zeroValue4
 t5 := Tryz.underlying5
 a5 := Tryz.isAgg5
 z5 := Tryz.sizeOf5
 v5 := Tryz.zeroValue5
 t9 := Tryz.underlying9
 a9 := Tryz.isAgg9
 z9 := Tryz.sizeOf9
 v9 := Tryz.zeroValue9
 t22 := Tryz.underlying26
 a22 := Tryz.isAgg26
 z22 := Tryz.sizeOf26
 v22 := Tryz.zeroValue26
 t25 := Tryz.underlying141
 a25 := Tryz.isAgg141
 z25 := Tryz.sizeOf141
 v25 := Tryz.zeroValue141
 t39 := Tryz.underlying181
 a39 := Tryz.isAgg181
 z39 := Tryz.sizeOf181
 v39 := Tryz.zeroValue181
 t45 := Tryz.underlying214
 a45 := Tryz.isAgg214
 z45 := Tryz.sizeOf214
 v45 := Tryz.zeroValue214
 t46 := Tryz.underlying215
 a46 := Tryz.isAgg215
 z46 := Tryz.sizeOf215
 v46 := Tryz.zeroValue215
 t50 := Tryz.underlying76
 a50 := Tryz.isAgg76
 z50 := Tryz.sizeOf76
 v50 := Tryz.zeroValue76
 t53 := Tryz.underlying221
 a53 := Tryz.isAgg221
 z53 := Tryz.sizeOf221
 v53 := Tryz.zeroValue221
 t55 := Tryz.underlying185
 a55 := Tryz.isAgg185
 z55 := Tryz.sizeOf185
 v55 := Tryz.zeroValue185
 t66 := Tryz.underlying239
 a66 := Tryz.isAgg239
 z66 := Tryz.sizeOf239
 v66 := Tryz.zeroValue239
 t70 := Tryz.underlying243
 a70 := Tryz.isAgg243
 z70 := Tryz.sizeOf243
 v70 := Tryz.zeroValue243
 t76 := Tryz.underlying262
 a76 := Tryz.isAgg262
 z76 := Tryz.sizeOf262
 v76 := Tryz.zeroValue262
 t77 := Tryz.underlying55
 a77 := Tryz.isAgg55
 z77 := Tryz.sizeOf55
 v77 := Tryz.zeroValue55 }
end Go.Proofs
end
section
namespace Go.Proofs.YtbfikmihcpfgaaaGreatDoor
open Go.HL
set_option maxRecDepth 100000
set_option linter.unusedVariables false
set_option linter.unusedSimpArgs false
/-- slices.SortFunc -/
theorem c_sort_Asset [Tracks] {c : Asset → Asset → Int} (hO : Go.Sort.SWO (Go.Proofs.ltOf c)) {g : FuncId} (hg : Callable Tryz.prog g) {cap : List HVal} (hc : ∀ x y, @ConP trackOn Tryz.prog g (eAsset x :: eAsset y :: cap) (.int .i64 (c x y))) {l : List Asset} (hl : l.length ≤ 1000000) {v : Value} :
 Con Tryz.prog 100 [.raw v, .fn (.func g) [] cap] [.arr v 3 (l.map eAsset)] fun x M' => ∃ l' : List Asset, x = .tup [] ∧ l'.Perm l ∧ l'.Pairwise (fun a b => ¬ c b a < 0) ∧ M' = [.arr v 3 (l'.map eAsset)] :=
 con_sortf (e := eAsset) Tryz.g100 (Tryz.isAgg36) (Tryz.sizeOf36) (fun _ => rfl) (fun _ => rfl) (fun _ => rfl) hO hg hc hl

/-- benchwarmer/value.of -/
theorem c_value_of_g [Tracks] {l : List Asset} {pos : Str} (hl : l.length ≤ 16) (hn : (l.map (·.Player)).Nodup) : ConP Tryz.prog 132 [eAssets l, .str pos] (eAssets (ofP l pos)) := by
 refine Con.of_body Tryz.func132 rfl Tryz.ntmps132 rfl rfl ?_
 refine hw_reg ?_
 refine dp rfl (pop_assign rfl) ?_
 refine dn ?_
 refine hw_reg ?_
 refine dp rfl (pop_assign rfl) ?_
 refine dn ?_
 refine hw_ghost (Ghost.arr_nil 3) ?_
 refine hw_seq ?_
 refine hw_reg ?_
 refine dp rfl (pop_move rfl) ?_
 refine dp rfl (pop_lenm ty26 rfl) ?_
 refine dp rfl (pop_move rfl) ?_
 refine dn ?_
 refine hw_block ?_
 refine hw_loopw2 [5, 7, 10, 11, 12, 13, 14, 15, 16, 17, 18, 19, 20, 21, 22] (fun (k : Nat) (u : Value) => [(10, .int .i64 k), (5, .raw u)]) (fun (k : Nat) (u : Value) => [.arr u 3 ((atPos (l.take k) pos).map eAsset)]) (fun (k : Nat) (u : Value) => k ≤ l.length ∧ (True)) (fun (k : Nat) (u : Value) => l.length - k) (0) (.slice none 0 0) ?_ ?_ ?_ ?_
 ·exact ⟨Nat.zero_le _, by simp_all⟩
 ·exact ⟨rfl, rfl, trivial⟩
 ·exact perm_eq (by simp [atPos])
 ·intro k u hinv
  obtain ⟨hk, -⟩ := hinv
  refine hw_reg ?_
  refine dp rfl (pop_lss rfl rfl) ?_
  refine dn ?_
  refine hw_seq ?_
  refine hw_cond rfl (fun h1 => ?_) (fun h2 => ?_)
  ·try simp at h1
   obtain ⟨x, hx⟩ : ∃ x, l[k]? = some x := ⟨_, List.getElem?_eq_getElem h1⟩
   have hdx := drop_cons hx
   refine hw_skip ?_
   refine seqQ_n ?_
   refine hw_seq ?_
   refine hw_block ?_
   refine hw_reg ?_
   refine dp rfl (pop_idx ty26 ty36 rfl rfl rfl (by first | assumption | simp_all)) ?_
   refine dp rfl (pop_loadw ty36 rfl rfl rfl rfl) ?_
   refine de rfl (eop_alloc ty36 rfl fun b7 => ?_)
   refine de0 (eop_storew ty36 rfl rfl rfl rfl rfl ?_)
   refine dn ?_
   refine hw_ghost (Ghost.fc0 7 rfl) ?_
   refine hw_reg ?_
   refine dp rfl (pop_fieldAddr ty36 rfl ty9 (by decide) rfl) ?_
   refine dp rfl (pop_load ty9 rfl rfl rfl) ?_
   refine dp rfl (pop_move rfl) ?_
   refine dp rfl (pop_eqls rfl rfl) ?_
   refine dn ?_
   refine hw_cond rfl (fun h3 => ?_) (fun h4 => ?_)
   ·try simp at h3
    refine hw_reg1 ?_
    refine dp rfl (pop_move rfl) ?_
    refine dp rfl (pop_loadw ty36 rfl rfl rfl rfl) ?_
    refine dp rfl (pop_buildSlice (hs := [_]) ty26 ty36 rfl rfl (by decide) (by decide) rfl) ?_
    have hal : (atPos (l.take k) pos).length ≤ 16 := Nat.le_trans (atPos_le _ _) (by simp; omega)
    refine de rfl (eop_append (i := 0) ty26 ty36 rfl rfl rfl rfl rfl (by simp [flat, hcells]) (by simp; omega) fun v21 => ?_)
    refine dp rfl (pop_assign rfl) ?_
    refine dn ?_
    refine blockQ_n ?_
    refine seqQ_n ?_
    refine hw_reg1 ?_
    refine dp rfl (pop_add64 rfl rfl (by omega) (by omega)) ?_
    refine dp rfl (pop_move rfl) ?_
    refine dn ?_
    exact ⟨k + 1, _, ⟨by omega, trivial⟩, by dsimp only; omega, ⟨rfl, rfl, trivial⟩, (by repeat (first | exact keeps_refl | refine keeps_upd rfl ?_ | refine keeps_loop rfl rfl ?_)), perm_eq (by dsimp only; rw [atPos_snoc hx, if_pos (by simp_all)]; simp)⟩
   ·try simp at h4
    refine hw_skip ?_
    refine blockQ_n ?_
    refine seqQ_n ?_
    refine hw_reg1 ?_
    refine dp rfl (pop_add64 rfl rfl (by omega) (by omega)) ?_
    refine dp rfl (pop_move rfl) ?_
    refine dn ?_
    exact ⟨k + 1, _, ⟨by omega, trivial⟩, by dsimp only; omega, ⟨rfl, rfl, trivial⟩, (by repeat (first | exact keeps_refl | refine keeps_upd rfl ?_ | refine keeps_loop rfl rfl ?_)), perm_eq (by dsimp only; rw [atPos_snoc hx, if_neg (by simp_all)]; simp)⟩
  ·try simp at h2
   have hnk : l.length ≤ k := by omega
   obtain rfl : k = l.length := by omega
   rw [List.take_length]
   refine hw_exit ?_
   refine seqQ_x ?_
   refine loopQ2_x ?_
   refine blockQ_eq ?_
   refine seqQ_n ?_
   have hal := atPos_le l pos
   refine hw_reg ?_
   refine dp rfl (pop_move rfl) ?_
   refine de rfl (eop_callx (i := 0) ca100 rfl (WeakL.refl _) rfl (c_sort_Asset (c := byValue) (swo_cmp byValue_cmp) ca168 (fun _ _ => @c_value_byValue trackOn _ _) (l := atPos l pos) (by omega)) ?_)
   rintro _ _ ⟨l', rfl, hp', hw', rfl⟩
   obtain rfl := ofP_sorted hn hp' hw'
   refine dn ?_
   refine hw_reg ?_
   refine dp rfl (pop_move rfl) ?_
   refine dp rfl (pop_assign rfl) ?_
   refine dn ?_
   refine hw_ret ?_
   exact ret_fa (M := []) 4 rfl rfl rfl

set_option maxHeartbeats 1000000 in
/-- benchwarmer/value.fielded -/
theorem c_value_fielded_g [Tracks] {l : List Asset} {p : List HL.Place} (hl : l.length ≤ 16) (hp : p.length ≤ 10) (hm : ∀ x ∈ p, 0 ≤ x.Many) (hv : ∀ x ∈ l, -1000000 ≤ x.Value ∧ x.Value ≤ 1000000) (hn : (l.map (·.Player)).Nodup) : ConP Tryz.prog 91 [eAssets l, ePlaces p] (.tup [.int .i64 (sumV (fieldedL (ofP l) p)), eSs (namesV (fieldedL (ofP l) p))]) := by
 have hon : ∀ s, (ofP l s).length ≤ 16 := fun s => Nat.le_trans (ofP_len l s) hl
 refine Con.of_body Tryz.func91 rfl Tryz.ntmps91 rfl rfl ?_
 refine hw_reg ?_
 refine dp rfl (pop_assign rfl) ?_
 refine dp rfl (pop_assign rfl) ?_
 refine dn ?_
 refine hw_reg ?_
 refine dp rfl (pop_assign rfl) ?_
 refine dn ?_
 refine hw_reg ?_
 refine dp rfl (pop_assign rfl) ?_
 refine dn ?_
 refine hw_ghost (Ghost.arr_nil 1) ?_
 refine hw_seq ?_
 refine hw_reg ?_
 refine dp rfl (pop_move rfl) ?_
 refine dp rfl (pop_lenm ty40 rfl) ?_
 refine dp rfl (pop_move rfl) ?_
 refine dn ?_
 refine hw_block ?_
 refine hw_loopw2 [6, 7, 9, 10, 12, 15, 16, 17, 18, 19, 20, 21, 22, 23, 24, 25, 26, 27, 28, 29, 30, 31, 32, 33, 34, 35, 36, 37, 38, 39, 40, 41, 42, 43, 44, 45, 46, 47, 48] (fun (i : Nat) (u : Value) => [(15, .int .i64 i), (6, .int .i64 (sumV (fieldedL (ofP l) (p.take i)))), (7, .raw u)]) (fun (i : Nat) (u : Value) => [.arr u 1 (((fieldedL (ofP l) (p.take i)).map (·.Player)).map .str)]) (fun (i : Nat) (u : Value) => i ≤ p.length ∧ (True)) (fun (i : Nat) (u : Value) => p.length - i) (0) (.slice none 0 0) ?_ ?_ ?_ ?_
 ·exact ⟨Nat.zero_le _, by simp_all⟩
 ·exact ⟨rfl, some_int (by simp [fieldedL, sumV]), rfl, trivial⟩
 ·exact perm_eq (by simp [fieldedL])
 ·intro i u hinv
  obtain ⟨hi, -⟩ := hinv
  refine hw_reg ?_
  refine dp rfl (pop_lss rfl rfl) ?_
  refine dn ?_
  refine hw_seq ?_
  refine hw_cond rfl (fun h1 => ?_) (fun h2 => ?_)
  ·try simp at h1
   obtain ⟨x, hx⟩ : ∃ x, p[i]? = some x := ⟨_, List.getElem?_eq_getElem h1⟩
   have hdx := drop_cons hx
   refine hw_skip ?_
   refine seqQ_n ?_
   refine hw_seq ?_
   refine hw_block ?_
   refine hw_reg ?_
   refine dp rfl (pop_idx ty40 ty95 rfl rfl rfl (by first | assumption | simp_all)) ?_
   refine dp rfl (pop_loadw ty95 rfl rfl rfl rfl) ?_
   refine de rfl (eop_alloc ty95 rfl fun b9 => ?_)
   refine de0 (eop_storew ty95 rfl rfl rfl rfl rfl ?_)
   refine dn ?_
   refine hw_ghost (Ghost.fc0 9 rfl) ?_
   refine hw_reg ?_
   refine dp rfl (pop_move rfl) ?_
   refine dp rfl (pop_fieldAddr ty95 rfl ty9 (by decide) rfl) ?_
   refine dp rfl (pop_load ty9 rfl rfl rfl) ?_
   refine dp rfl (pop_call ca132 rfl (WeakL.refl _) (c_value_of_g (l := l) (pos := x.Position) (by omega) hn)) ?_
   refine dp rfl (pop_assign rfl) ?_
   refine dn ?_
   have hx0 := hm x (List.mem_of_getElem? hx)
   have hon1 := hon x.Position
   obtain ⟨N, hN⟩ : ∃ N : Nat, (if ((ofP l x.Position).length : Int) < x.Many then ((ofP l x.Position).length : Int) else x.Many) = (N : Int) := ⟨_, (Int.toNat_of_nonneg (by split <;> omega)).symm⟩
   have hNle : N ≤ (ofP l x.Position).length := by split at hN <;> omega
   refine hw_reg ?_
   refine dp rfl (pop_move rfl) ?_
   refine dp rfl (pop_fieldAddr ty95 rfl ty3 (by decide) rfl) ?_
   refine dp rfl (pop_load ty3 rfl rfl rfl) ?_
   refine dp rfl (pop_move rfl) ?_
   refine dp rfl (pop_lenm ty26 rfl) ?_
   refine dp rfl (pop_eq (pop_min rfl rfl) (congrArg _ hN)) ?_
   refine dp rfl (pop_slicem (h := N) ty26 ty36 rfl rfl ⟨_, _, rfl, rfl⟩ (by omega) hNle) ?_
   refine dp rfl (pop_lenm ty26 rfl) ?_
   refine dp rfl (pop_move rfl) ?_
   refine dn ?_
   have hCl : ((List.drop 0 (List.take N (ofP l x.Position)))).length ≤ 16 := by simp; omega
   have hCm : ∀ y ∈ (List.drop 0 (List.take N (ofP l x.Position))), y ∈ l := fun y hy => by
    have := List.mem_of_mem_take (List.mem_of_mem_drop hy)
    unfold ofP atPos at this
    exact (List.mem_filter.1 ((isort_mem _).1 this)).1
   generalize hCd : List.drop 0 (List.take N (ofP l x.Position)) = C at *
   refine hw_block ?_
   refine hw_loopw2 [6, 7, 12, 31, 32, 33, 34, 35, 36, 37, 38, 39, 40, 41, 42, 43, 44, 45, 46, 47] (fun (k : Nat) (w : Value) => [(31, .int .i64 k), (6, .int .i64 (sumV ((fieldedL (ofP l) (p.take i)) ++ ((C.take k).filter (fun y => decide (0 < y.Value)))))), (7, .raw w)]) (fun (k : Nat) (w : Value) => [.arr w 1 ((((fieldedL (ofP l) (p.take i)) ++ ((C.take k).filter (fun y => decide (0 < y.Value)))).map (·.Player)).map .str)]) (fun (k : Nat) (w : Value) => k ≤ C.length ∧ (True)) (fun (k : Nat) (w : Value) => C.length - k) (0) (u) ?_ ?_ ?_ ?_
   ·exact ⟨Nat.zero_le _, by simp_all⟩
   ·exact ⟨rfl, some_int (by simp), rfl, trivial⟩
   ·exact perm_eq (by simp)
   ·intro k w hinv
    obtain ⟨hk, -⟩ := hinv
    refine hw_reg ?_
    refine dp rfl (pop_lss rfl rfl) ?_
    refine dn ?_
    refine hw_seq ?_
    refine hw_cond rfl (fun h3 => ?_) (fun h4 => ?_)
    ·try simp at h3
     obtain ⟨y, hy⟩ : ∃ y, C[k]? = some y := ⟨_, List.getElem?_eq_getElem h3⟩
     have hdy := drop_cons hy
     refine hw_skip ?_
     refine seqQ_n ?_
     refine hw_seq ?_
     refine hw_block ?_
     refine hw_reg ?_
     refine dp rfl (pop_idx ty26 ty36 rfl rfl rfl (by first | assumption | simp_all)) ?_
     refine dp rfl (pop_loadw ty36 rfl rfl rfl rfl) ?_
     refine de rfl (eop_alloc ty36 rfl fun b12 => ?_)
     refine de0 (eop_storew ty36 rfl rfl rfl rfl rfl ?_)
     refine dn ?_
     refine hw_ghost (Ghost.fc0 12 rfl) ?_
     refine hw_reg ?_
     refine dp rfl (pop_fieldAddr ty36 rfl ty3 (by decide) rfl) ?_
     refine dp rfl (pop_load ty3 rfl rfl rfl) ?_
     refine dp rfl (pop_gtr rfl rfl) ?_
     refine dn ?_
     refine hw_cond rfl (fun h5 => ?_) (fun h6 => ?_)
     ·try simp at h5
      refine hw_reg ?_
      refine dp rfl (pop_move rfl) ?_
      refine dp rfl (pop_fieldAddr ty36 rfl ty3 (by decide) rfl) ?_
      refine dp rfl (pop_load ty3 rfl rfl rfl) ?_
      have hb1 := field_bdN (f := ofP l) (p := p) (i := i) (fun s m y => mem_chosen) hon hp hv
      have hb2 := pos_bdN (k := k) hCm hCl hv
      have hb3 := hv y (hCm y (List.mem_of_getElem? hy))
      have hb4 := sumV_app (fieldedL (ofP l) (p.take i)) ((C.take k).filter (fun y => decide (0 < y.Value)))
      refine dp rfl (pop_add64 rfl rfl (by omega) (by omega)) ?_
      refine dp rfl (pop_assign rfl) ?_
      refine dn ?_
      refine hw_reg1 ?_
      refine dp rfl (pop_move rfl) ?_
      refine dp rfl (pop_fieldAddr ty36 rfl ty9 (by decide) rfl) ?_
      refine dp rfl (pop_load ty9 rfl rfl rfl) ?_
      refine dp rfl (pop_buildSlice (hs := [_]) ty44 ty9 rfl rfl (by decide) (by decide) rfl) ?_
      refine de rfl (eop_append (i := 0) ty44 ty9 rfl rfl rfl rfl rfl (by simp [flat, hcells]) (by simp only [List.length_map, List.length_append, List.length_cons, List.length_nil]; omega) fun v46 => ?_)
      refine dp rfl (pop_assign rfl) ?_
      refine dn ?_
      refine blockQ_n ?_
      refine seqQ_n ?_
      refine hw_reg1 ?_
      refine dp rfl (pop_add64 rfl rfl (by omega) (by omega)) ?_
      refine dp rfl (pop_move rfl) ?_
      refine dn ?_
      exact ⟨k + 1, _, ⟨by omega, trivial⟩, by dsimp only; omega, ⟨rfl, some_int (by rw [pos_snoc hy, if_pos (by simp_all), ← List.append_assoc, sumV_app _ [y]]; simp [sumV]), rfl, trivial⟩, (by repeat (first | exact keeps_refl | refine keeps_upd rfl ?_ | refine keeps_loop rfl rfl ?_)), perm_eq (by dsimp only; rw [pos_snoc hy, if_pos (by simp_all)]; simp)⟩
     ·try simp at h6
      refine hw_skip ?_
      refine blockQ_n ?_
      refine seqQ_n ?_
      refine hw_reg1 ?_
      refine dp rfl (pop_add64 rfl rfl (by omega) (by omega)) ?_
      refine dp rfl (pop_move rfl) ?_
      refine dn ?_
      exact ⟨k + 1, _, ⟨by omega, trivial⟩, by dsimp only; omega, ⟨rfl, some_int (by rw [pos_snoc hy, if_neg (by omega)]; simp), rfl, trivial⟩, (by repeat (first | exact keeps_refl | refine keeps_upd rfl ?_ | refine keeps_loop rfl rfl ?_)), perm_eq (by dsimp only; rw [pos_snoc hy, if_neg (by omega)]; simp)⟩
    ·try simp at h4
     have hnk : C.length ≤ k := by omega
     obtain rfl : k = C.length := by omega
     refine hw_exit ?_
     refine seqQ_x ?_
     refine loopQ2_x ?_
     refine blockQ_eq ?_
     refine blockQ_n ?_
     refine seqQ_n ?_
     refine hw_reg1 ?_
     refine dp rfl (pop_add64 rfl rfl (by omega) (by omega)) ?_
     refine dp rfl (pop_move rfl) ?_
     refine dn ?_
     exact ⟨i + 1, _, ⟨by omega, trivial⟩, by dsimp only; omega, ⟨rfl, some_int (by rw [fieldedL_snoc _ hx, chosen_eq hN, hCd, List.take_length]), rfl, trivial⟩, (by repeat (first | exact keeps_refl | refine keeps_upd rfl ?_ | refine keeps_loop rfl rfl ?_)), perm_eq (by dsimp only; rw [fieldedL_snoc _ hx, chosen_eq hN, hCd, List.take_length])⟩
  ·try simp at h2
   have hni : p.length ≤ i := by omega
   obtain rfl : i = p.length := by omega
   refine hw_exit ?_
   refine seqQ_x ?_
   refine loopQ2_x ?_
   refine blockQ_eq ?_
   refine seqQ_n ?_
   rw [List.take_length]
   refine hw_reg ?_
   refine dp rfl (pop_move rfl) ?_
   refine de rfl (eop_callx (i := 0) ca98 rfl (WeakL.refl _) rfl (c_slices_Sort (l := (fieldedL (ofP l) p).map (·.Player)) (by have hb1 := field_bdN (f := ofP l) (p := p) (i := p.length) (fun s m y => mem_chosen) hon hp hv; rw [List.take_length] at hb1; simp; omega)) ?_)
   rintro _ _ ⟨rfl, rfl⟩
   refine dn ?_
   refine hw_reg ?_
   refine dp rfl (pop_move rfl) ?_
   refine dp rfl (pop_move rfl) ?_
   refine dp rfl (pop_assign rfl) ?_
   refine dp rfl (pop_assign rfl) ?_
   refine dn ?_
   refine hw_ret ?_
   exact ret_fa (M := []) 5 rfl rfl rfl

/-- benchwarmer/value.traded -/
theorem c_value_traded_g [Tracks] {a b : List Asset} {give take : List Str} (hla : a.length ≤ 8) (hlb : b.length ≤ 8) (hg : give.length ≤ 1000) (ht : take.length ≤ 1000) : ConP Tryz.prog 95 [eAssets a, eAssets b, eSs give, eSs take] (eAssets (tradedL a b give take)) := by
 refine Con.of_body Tryz.func95 rfl Tryz.ntmps95 rfl rfl ?_
 refine hw_reg ?_
 refine dp rfl (pop_assign rfl) ?_
 refine dn ?_
 refine hw_reg ?_
 refine dp rfl (pop_assign rfl) ?_
 refine dn ?_
 refine hw_ghost (Ghost.arr_nil 3) ?_
 refine hw_seq ?_
 refine hw_reg ?_
 refine dp rfl (pop_move rfl) ?_
 refine dp rfl (pop_lenm ty26 rfl) ?_
 refine dp rfl (pop_move rfl) ?_
 refine dn ?_
 refine hw_block ?_
 refine hw_loopw2 [9, 11, 16, 17, 18, 19, 20, 21, 22, 23, 24, 25, 26, 27, 28, 29] (fun (k : Nat) (u : Value) => [(16, .int .i64 k), (9, .raw u)]) (fun (k : Nat) (u : Value) => [.arr u 3 ((((a.take k).filter (fun x => !(give.contains x.Player)))).map eAsset)]) (fun (k : Nat) (u : Value) => k ≤ a.length ∧ (True)) (fun (k : Nat) (u : Value) => a.length - k) (0) (.slice none 0 0) ?_ ?_ ?_ ?_
 ·exact ⟨Nat.zero_le _, trivial⟩
 ·exact ⟨rfl, rfl, trivial⟩
 ·exact perm_eq (by simp)
 ·intro k u hinv
  obtain ⟨hk, -⟩ := hinv
  refine hw_reg ?_
  refine dp rfl (pop_lss rfl rfl) ?_
  refine dn ?_
  refine hw_seq ?_
  refine hw_cond rfl (fun h1 => ?_) (fun h2 => ?_)
  ·try simp at h1
   obtain ⟨x, hx⟩ : ∃ x, a[k]? = some x := ⟨_, List.getElem?_eq_getElem h1⟩
   have hdx := drop_cons hx
   refine hw_skip ?_
   refine seqQ_n ?_
   refine hw_seq ?_
   refine hw_block ?_
   refine hw_reg ?_
   refine dp rfl (pop_idx ty26 ty36 rfl rfl rfl (by first | assumption | simp_all)) ?_
   refine dp rfl (pop_loadw ty36 rfl rfl rfl rfl) ?_
   refine de rfl (eop_alloc ty36 rfl fun b11 => ?_)
   refine de0 (eop_storew ty36 rfl rfl rfl rfl rfl ?_)
   refine dn ?_
   refine hw_ghost (Ghost.fc0 11 rfl) ?_
   refine hw_reg ?_
   refine dp rfl (pop_move rfl) ?_
   refine dp rfl ((by first | exact pop_fieldAddr ty36 rfl ty9 (by decide) rfl | exact pop_fieldAddr_raw ty36 rfl ty9 (by decide) rfl)) ?_
   refine dp rfl (pop_load ty9 rfl rfl rfl) ?_
   refine dp rfl (pop_call ca57 rfl (WeakL.refl _) (c_slices_Contains_string_string (l := give) (s := x.Player) (by omega))) ?_
   refine dp rfl (pop_not rfl) ?_
   refine dn ?_
   refine hw_cond rfl (fun h3 => ?_) (fun h4 => ?_)
   ·try simp at h3
    refine hw_reg1 ?_
    refine dp rfl (pop_move rfl) ?_
    refine dp rfl (pop_loadw ty36 rfl rfl rfl rfl) ?_
    refine dp rfl (pop_buildSlice (hs := [_]) ty26 ty36 rfl rfl (by decide) (by decide) rfl) ?_
    refine de rfl (eop_append (i := 0) ty26 ty36 rfl rfl rfl rfl rfl (by simp [flat, hcells]) (by have h9 := List.length_filter_le (fun x : Asset => !(give.contains x.Player)) (a.take k); simp only [List.length_take] at h9; simp only [List.length_map, List.length_cons, List.length_nil]; omega) fun v28 => ?_)
    refine dp rfl (pop_assign rfl) ?_
    refine dn ?_
    refine blockQ_n ?_
    refine seqQ_n ?_
    refine hw_reg1 ?_
    refine dp rfl (pop_add64 rfl rfl (by omega) (by omega)) ?_
    refine dp rfl (pop_move rfl) ?_
    refine dn ?_
    exact ⟨k + 1, _, ⟨by omega, trivial⟩, by dsimp only; omega, ⟨rfl, rfl, trivial⟩, (by repeat (first | exact keeps_refl | refine keeps_upd rfl ?_ | refine keeps_loop rfl rfl ?_)), perm_eq (by dsimp only; rw [take_snoc' hx, List.filter_append]; simp_all)⟩
   ·try simp at h4
    refine hw_skip ?_
    refine blockQ_n ?_
    refine seqQ_n ?_
    refine hw_reg1 ?_
    refine dp rfl (pop_add64 rfl rfl (by omega) (by omega)) ?_
    refine dp rfl (pop_move rfl) ?_
    refine dn ?_
    exact ⟨k + 1, _, ⟨by omega, trivial⟩, by dsimp only; omega, ⟨rfl, rfl, trivial⟩, (by repeat (first | exact keeps_refl | refine keeps_upd rfl ?_ | refine keeps_loop rfl rfl ?_)), perm_eq (by dsimp only; rw [take_snoc' hx, List.filter_append]; simp_all)⟩
  ·try simp at h2
   have hnk : a.length ≤ k := by omega
   obtain rfl : k = a.length := by omega
   rw [List.take_length]
   refine hw_exit ?_
   refine seqQ_x ?_
   refine loopQ2_x ?_
   refine blockQ_eq ?_
   refine seqQ_n ?_
   refine hw_seq ?_
   refine hw_reg ?_
   refine dp rfl (pop_move rfl) ?_
   refine dp rfl (pop_lenm ty26 rfl) ?_
   refine dp rfl (pop_move rfl) ?_
   refine dn ?_
   refine hw_block ?_
   refine hw_loopw2 [9, 13, 32, 33, 34, 35, 36, 37, 38, 39, 40, 41, 42, 43, 44] (fun (k : Nat) (w : Value) => [(32, .int .i64 k), (9, .raw w)]) (fun (k : Nat) (w : Value) => [.arr w 3 ((a.filter (fun x => !(give.contains x.Player)) ++ ((b.take k).filter (fun x => take.contains x.Player))).map eAsset)]) (fun (k : Nat) (w : Value) => k ≤ b.length ∧ (True)) (fun (k : Nat) (w : Value) => b.length - k) (0) (u) ?_ ?_ ?_ ?_
   ·exact ⟨Nat.zero_le _, trivial⟩
   ·exact ⟨rfl, rfl, trivial⟩
   ·exact perm_eq (by simp)
   ·intro k w hinv
    obtain ⟨hk, -⟩ := hinv
    refine hw_reg ?_
    refine dp rfl (pop_lss rfl rfl) ?_
    refine dn ?_
    refine hw_seq ?_
    refine hw_cond rfl (fun h5 => ?_) (fun h6 => ?_)
    ·try simp at h5
     obtain ⟨x, hx⟩ : ∃ x, b[k]? = some x := ⟨_, List.getElem?_eq_getElem h5⟩
     have hdx := drop_cons hx
     refine hw_skip ?_
     refine seqQ_n ?_
     refine hw_seq ?_
     refine hw_block ?_
     refine hw_reg ?_
     refine dp rfl (pop_idx ty26 ty36 rfl rfl rfl (by first | assumption | simp_all)) ?_
     refine dp rfl (pop_loadw ty36 rfl rfl rfl rfl) ?_
     refine de rfl (eop_alloc ty36 rfl fun b13 => ?_)
     refine de0 (eop_storew ty36 rfl rfl rfl rfl rfl ?_)
     refine dn ?_
     refine hw_ghost (Ghost.fc0 13 rfl) ?_
     refine hw_reg ?_
     refine dp rfl (pop_move rfl) ?_
     refine dp rfl ((by first | exact pop_fieldAddr ty36 rfl ty9 (by decide) rfl | exact pop_fieldAddr_raw ty36 rfl ty9 (by decide) rfl)) ?_
     refine dp rfl (pop_load ty9 rfl rfl rfl) ?_
     refine dp rfl (pop_call ca57 rfl (WeakL.refl _) (c_slices_Contains_string_string (l := take) (s := x.Player) (by omega))) ?_
     refine dn ?_
     refine hw_cond rfl (fun h7 => ?_) (fun h8 => ?_)
     ·try simp at h7
      refine hw_reg1 ?_
      refine dp rfl (pop_move rfl) ?_
      refine dp rfl (pop_loadw ty36 rfl rfl rfl rfl) ?_
      refine dp rfl (pop_buildSlice (hs := [_]) ty26 ty36 rfl rfl (by decide) (by decide) rfl) ?_
      refine de rfl (eop_append (i := 0) ty26 ty36 rfl rfl rfl rfl rfl (by simp [flat, hcells]) (by have h9 := List.length_filter_le (fun x : Asset => !(give.contains x.Player)) a; have h8 := List.length_filter_le (fun x : Asset => take.contains x.Player) (b.take k); simp only [List.length_take] at h8; simp only [List.length_map, List.length_append, List.length_cons, List.length_nil]; omega) fun v43 => ?_)
      refine dp rfl (pop_assign rfl) ?_
      refine dn ?_
      refine blockQ_n ?_
      refine seqQ_n ?_
      refine hw_reg1 ?_
      refine dp rfl (pop_add64 rfl rfl (by omega) (by omega)) ?_
      refine dp rfl (pop_move rfl) ?_
      refine dn ?_
      exact ⟨k + 1, _, ⟨by omega, trivial⟩, by dsimp only; omega, ⟨rfl, rfl, trivial⟩, (by repeat (first | exact keeps_refl | refine keeps_upd rfl ?_ | refine keeps_loop rfl rfl ?_)), perm_eq (by dsimp only; rw [take_snoc' hx, List.filter_append]; simp_all)⟩
     ·try simp at h8
      refine hw_skip ?_
      refine blockQ_n ?_
      refine seqQ_n ?_
      refine hw_reg1 ?_
      refine dp rfl (pop_add64 rfl rfl (by omega) (by omega)) ?_
      refine dp rfl (pop_move rfl) ?_
      refine dn ?_
      exact ⟨k + 1, _, ⟨by omega, trivial⟩, by dsimp only; omega, ⟨rfl, rfl, trivial⟩, (by repeat (first | exact keeps_refl | refine keeps_upd rfl ?_ | refine keeps_loop rfl rfl ?_)), perm_eq (by dsimp only; rw [take_snoc' hx, List.filter_append]; simp_all)⟩
    ·try simp at h6
     have hnk : b.length ≤ k := by omega
     obtain rfl : k = b.length := by omega
     rw [List.take_length]
     refine hw_exit ?_
     refine seqQ_x ?_
     refine loopQ2_x ?_
     refine blockQ_eq ?_
     refine seqQ_n ?_
     refine hw_reg ?_
     refine dp rfl (pop_move rfl) ?_
     refine dp rfl (pop_assign rfl) ?_
     refine dn ?_
     refine hw_ret ?_
     exact ret_fa (M := []) 8 rfl rfl rfl

/-- benchwarmer/value.gains -/
theorem c_value_gains_g [Tracks] {a b : List Asset} {p : List HL.Place} {give take : List Str} (ok : SwapOk a b p) (hb0 : bothP a b = false) (hla : a.length ≤ 8) (hlb : b.length ≤ 8) (hg : give.length ≤ 1000) (ht : take.length ≤ 1000) : ConP Tryz.prog 52 [eAssets a, eAssets b, ePlaces p, eSs give, eSs take] (.tup [.int .i64 (gainL a b p give take), .int .i64 (gainL b a p take give)]) := by
 obtain ⟨⟨ha1, ha2⟩, ha3, ha4⟩ := gain_bd (give := give) (take := take) ok hla hlb
 obtain ⟨⟨hb1, hb2⟩, hb3, hb4⟩ := gain_bd (give := take) (take := give) ok.flip hlb hla
 have hna := traded_nodup (give := give) (take := take) ok.da ok.db hb0
 have hnb := traded_nodup (give := take) (take := give) ok.db ok.da (both_flip hb0)
 unfold sumF at ha3 ha4 hb3 hb4
 refine Con.of_body Tryz.func52 rfl Tryz.ntmps52 rfl rfl ?_
 refine hw_reg ?_
 refine dp rfl (pop_assign rfl) ?_
 refine dp rfl (pop_assign rfl) ?_
 refine dn ?_
 refine hw_reg ?_
 refine dp rfl (pop_move rfl) ?_
 refine dp rfl (pop_move rfl) ?_
 refine dp rfl (pop_call ca91 rfl (WeakL.refl _) (c_value_fielded_g (l := a) (p := p) (by omega) ok.p10 ok.many ok.va ok.da)) ?_
 refine dp rfl (pop_move rfl) ?_
 refine dp rfl (pop_extract rfl rfl) ?_
 refine dp rfl (pop_extract rfl rfl) ?_
 refine dp rfl (pop_assign rfl) ?_
 refine dp rfl (pop_assign rfl) ?_
 refine dn ?_
 refine hw_reg ?_
 refine dp rfl (pop_move rfl) ?_
 refine dp rfl (pop_move rfl) ?_
 refine dp rfl (pop_call ca91 rfl (WeakL.refl _) (c_value_fielded_g (l := b) (p := p) (by omega) ok.p10 ok.many ok.vb ok.db)) ?_
 refine dp rfl (pop_move rfl) ?_
 refine dp rfl (pop_extract rfl rfl) ?_
 refine dp rfl (pop_extract rfl rfl) ?_
 refine dp rfl (pop_assign rfl) ?_
 refine dp rfl (pop_assign rfl) ?_
 refine dn ?_
 refine hw_reg ?_
 refine dp rfl (pop_move rfl) ?_
 refine dp rfl (pop_move rfl) ?_
 refine dp rfl (pop_move rfl) ?_
 refine dp rfl (pop_move rfl) ?_
 refine dp rfl (pop_call ca95 rfl (WeakL.refl _) (c_value_traded_g (a := a) (b := b) (give := give) (take := take) hla hlb hg ht)) ?_
 refine dp rfl (pop_move rfl) ?_
 refine dp rfl (pop_call ca91 rfl (WeakL.refl _) (c_value_fielded_g (l := (tradedL a b give take)) (p := p) ha1 ok.p10 ok.many ha2 hna)) ?_
 refine dp rfl (pop_move rfl) ?_
 refine dp rfl (pop_extract rfl rfl) ?_
 refine dp rfl (pop_extract rfl rfl) ?_
 refine dp rfl (pop_assign rfl) ?_
 refine dp rfl (pop_assign rfl) ?_
 refine dn ?_
 refine hw_reg ?_
 refine dp rfl (pop_move rfl) ?_
 refine dp rfl (pop_move rfl) ?_
 refine dp rfl (pop_move rfl) ?_
 refine dp rfl (pop_move rfl) ?_
 refine dp rfl (pop_call ca95 rfl (WeakL.refl _) (c_value_traded_g (a := b) (b := a) (give := take) (take := give) hlb hla ht hg)) ?_
 refine dp rfl (pop_move rfl) ?_
 refine dp rfl (pop_call ca91 rfl (WeakL.refl _) (c_value_fielded_g (l := (tradedL b a take give)) (p := p) hb1 ok.p10 ok.many hb2 hnb)) ?_
 refine dp rfl (pop_move rfl) ?_
 refine dp rfl (pop_extract rfl rfl) ?_
 refine dp rfl (pop_extract rfl rfl) ?_
 refine dp rfl (pop_assign rfl) ?_
 refine dp rfl (pop_assign rfl) ?_
 refine dn ?_
 refine hw_reg ?_
 refine dp rfl (pop_move rfl) ?_
 refine dp rfl (pop_move rfl) ?_
 refine dp rfl (pop_sub64 rfl rfl (by omega) (by omega)) ?_
 refine dp rfl (pop_move rfl) ?_
 refine dp rfl (pop_move rfl) ?_
 refine dp rfl (pop_sub64 rfl rfl (by omega) (by omega)) ?_
 refine dp rfl (pop_assign rfl) ?_
 refine dp rfl (pop_assign rfl) ?_
 refine dn ?_
 refine hw_ret ?_
 refine ret_p rfl ?_
 rfl

/-- benchwarmer/value.Swap -/
theorem c_value_Swap_g [Tracks] {a b : List Asset} {p : List HL.Place} {give take : List Str} (hla : a.length ≤ 8) (hlb : b.length ≤ 8) (hg : give.length ≤ 1000) (ht : take.length ≤ 1000) (hp : p.length ≤ 1000000) : ConP Tryz.prog 19 [eAssets a, eAssets b, ePlaces p, eSs give, eSs take] (.tup [.int .i64 (swapN a b p give take), .int .i64 (swapM a b p give take), .int .i64 (swapG a b p give take)]) := by
 refine Con.of_body Tryz.func19 rfl Tryz.ntmps19 rfl rfl ?_
 refine hw_reg ?_
 refine dp rfl (pop_assign rfl) ?_
 refine dp rfl (pop_assign rfl) ?_
 refine dp rfl (pop_assign rfl) ?_
 refine dn ?_
 refine hw_seq ?_
 refine hw_reg ?_
 refine dp rfl (pop_move rfl) ?_
 refine dp rfl (pop_move rfl) ?_
 refine dp rfl (pop_move rfl) ?_
 refine dp rfl (pop_call ca50 rfl (WeakL.refl _) (c_value_swapFault (a := a) (b := b) (p := p) hla hlb hp)) ?_
 refine dp rfl (pop_move rfl) ?_
 refine dp rfl (pop_move rfl) ?_
 refine dp rfl (pop_call ca51 rfl (WeakL.refl _) (c_value_giveFault (l := a) (who := give) (by omega) (by omega))) ?_
 refine dp rfl (pop_move rfl) ?_
 refine dp rfl (pop_move rfl) ?_
 refine dp rfl (pop_call ca51 rfl (WeakL.refl _) (c_value_giveFault (l := b) (who := take) (by omega) (by omega))) ?_
 refine dp rfl (pop_buildSlice (hs := [_, _, _]) ty100 ty28 rfl rfl (by decide) (by decide) rfl) ?_
 refine dp rfl (pop_call ca49 rfl (WeakL.refl _) (c_base_First (l := [_, _, _]) (by simp))) ?_
 refine dp rfl (pop_assign rfl) ?_
 refine dn ?_
 refine hw_reg ?_
 refine dp rfl (pop_move rfl) ?_
 refine dp rfl (pop_neq rfl rfl) ?_
 refine dn ?_
 refine hw_cond rfl (fun h1 => ?_) (fun h2 => ?_)
 ·try simp at h1
  refine hw_reg ?_
  refine dp rfl (pop_move rfl) ?_
  refine dp rfl (pop_assign rfl) ?_
  refine dp rfl (pop_assign rfl) ?_
  refine dp rfl (pop_assign rfl) ?_
  refine dn ?_
  refine hw_ret ?_
  refine ret_p rfl ?_
  show HVal.tup _ = _
  first
  | (have hz : swapG a b p give take ≠ 0 := by simpa [swapG] using h1
     rw [swapN, swapM, if_neg hz, if_neg hz]; rfl)
  | (rw [swapN, swapM, if_pos hz, if_pos hz, hz]; rfl)
 ·try simp at h2
  refine hw_skip ?_
  refine seqQ_n ?_
  have hz : swapG a b p give take = 0 := by simpa [swapG] using h2
  obtain ⟨he, hga, hgb⟩ := swapG_z hz
  have ok := swap_ok he
  have hb0 := (swapE_ok he).2.2.2
  refine hw_reg ?_
  refine dp rfl (pop_move rfl) ?_
  refine dp rfl (pop_move rfl) ?_
  refine dp rfl (pop_move rfl) ?_
  refine dp rfl (pop_move rfl) ?_
  refine dp rfl (pop_move rfl) ?_
  refine dp rfl (pop_call ca52 rfl (WeakL.refl _) (c_value_gains_g (a := a) (b := b) (p := p) (give := give) (take := take) ok hb0 hla hlb hg ht)) ?_
  refine dp rfl (pop_move rfl) ?_
  refine dp rfl (pop_extract rfl rfl) ?_
  refine dp rfl (pop_extract rfl rfl) ?_
  refine dp rfl (pop_assign rfl) ?_
  refine dp rfl (pop_assign rfl) ?_
  refine dn ?_
  refine hw_reg ?_
  refine dp rfl (pop_move rfl) ?_
  refine dp rfl (pop_move rfl) ?_
  refine dp rfl (pop_assign rfl) ?_
  refine dp rfl (pop_assign rfl) ?_
  refine dp rfl (pop_assign rfl) ?_
  refine dn ?_
  refine hw_ret ?_
  refine ret_p rfl ?_
  show HVal.tup _ = _
  first
  | (have hz : swapG a b p give take ≠ 0 := by simpa [swapG] using h1
     rw [swapN, swapM, if_neg hz, if_neg hz]; rfl)
  | (rw [swapN, swapM, if_pos hz, if_pos hz, hz]; rfl)

set_option maxHeartbeats 1000000 in
/-- benchwarmer/value.BestSwap -/
theorem c_value_BestSwap_g [Tracks] {a b : List Asset} {p : List HL.Place} {n : Int} (hla : a.length ≤ 8) (hlb : b.length ≤ 8) (hp : p.length ≤ 1000000) : ConP Tryz.prog 20 [eAssets a, eAssets b, ePlaces p, .int .i64 n] (.tup [eSs (giveS (bestS a b p n)), eSs (takeS (bestS a b p n)), .bool (bestS a b p n).isSome, .int .i64 (bestE a b p n)]) := by
 have hca := choices_len (n := n) hla
 have hcb := choices_len (n := n) hlb
 refine Con.of_body Tryz.func20 rfl Tryz.ntmps20 rfl rfl ?_
 refine hw_reg ?_
 refine dp rfl (pop_assign rfl) ?_
 refine dp rfl (pop_assign rfl) ?_
 refine dp rfl (pop_assign rfl) ?_
 refine dp rfl (pop_assign rfl) ?_
 refine dn ?_
 refine hw_seq ?_
 refine hw_reg ?_
 refine dp rfl (pop_move rfl) ?_
 refine dp rfl (pop_move rfl) ?_
 refine dp rfl (pop_move rfl) ?_
 refine dp rfl (pop_call ca50 rfl (WeakL.refl _) (c_value_swapFault (a := a) (b := b) (p := p) hla hlb hp)) ?_
 refine dp rfl (pop_assign rfl) ?_
 refine dn ?_
 refine hw_reg ?_
 refine dp rfl (pop_move rfl) ?_
 refine dp rfl (pop_neq rfl rfl) ?_
 refine dn ?_
 refine hw_cond rfl (fun h1 => ?_) (fun h2 => ?_)
 ·try simp at h1
  refine hw_reg ?_
  refine dp rfl (pop_move rfl) ?_
  refine dp rfl (pop_assign rfl) ?_
  refine dp rfl (pop_assign rfl) ?_
  refine dp rfl (pop_assign rfl) ?_
  refine dp rfl (pop_assign rfl) ?_
  refine dn ?_
  refine hw_ret ?_
  first
  | (have he : swapE a b p ≠ 0 := by simpa using h1
     have q1 : bestE a b p n = swapE a b p := by simp [bestE, orI, he]
     refine ret_w rfl ?_
     rw [bestS, if_neg (by rw [q1]; exact he), q1]
     exact weak_tup4 (weak_nil 1) (weak_nil 1) (Weak.refl _) (Weak.refl _))
  | (have he : swapE a b p = 0 := by simpa using h2
     have ho1 : out n 1 2 = true := by simpa using h3
     have q1 : bestE a b p n = 1 := by simp [bestE, orI, he, ho1]
     refine ret_w rfl ?_
     rw [bestS, if_neg (by rw [q1]; decide), q1]
     exact weak_tup4 (weak_nil 1) (weak_nil 1) (Weak.refl _) (Weak.refl _))
  | (have hnn : bestO a b p n = none := by simpa using h12
     refine ret_w rfl ?_
     rw [hnn]
     exact weak_tup4 (weak_nil 1) (weak_nil 1) (Weak.refl _) (Weak.refl _))
  | (refine ret_p rfl ?_
     show HVal.tup [eSs o.give, eSs o.take, .bool true, .int .i64 0] = .tup [eSs (giveS (some o)), eSs (takeS (some o)), .bool (some o).isSome, .int .i64 0]
     rfl)
 ·try simp at h2
  refine hw_skip ?_
  refine seqQ_n ?_
  refine hw_seq ?_
  refine hw_block ?_
  refine hw_reg ?_
  refine dp rfl (pop_move rfl) ?_
  refine dp rfl (pop_call ca53 rfl (WeakL.refl _) c_base_Out) ?_
  refine dp rfl (pop_assign rfl) ?_
  refine dn ?_
  refine hw_cond rfl (fun h3 => ?_) (fun h4 => ?_)
  ·try simp at h3
   refine hw_reg ?_
   refine dp rfl (pop_assign rfl) ?_
   refine dp rfl (pop_assign rfl) ?_
   refine dp rfl (pop_assign rfl) ?_
   refine dp rfl (pop_assign rfl) ?_
   refine dn ?_
   refine hw_ret ?_
   first
   | (have he : swapE a b p ≠ 0 := by simpa using h1
      have q1 : bestE a b p n = swapE a b p := by simp [bestE, orI, he]
      refine ret_w rfl ?_
      rw [bestS, if_neg (by rw [q1]; exact he), q1]
      exact weak_tup4 (weak_nil 1) (weak_nil 1) (Weak.refl _) (Weak.refl _))
   | (have he : swapE a b p = 0 := by simpa using h2
      have ho1 : out n 1 2 = true := by simpa using h3
      have q1 : bestE a b p n = 1 := by simp [bestE, orI, he, ho1]
      refine ret_w rfl ?_
      rw [bestS, if_neg (by rw [q1]; decide), q1]
      exact weak_tup4 (weak_nil 1) (weak_nil 1) (Weak.refl _) (Weak.refl _))
   | (have hnn : bestO a b p n = none := by simpa using h12
      refine ret_w rfl ?_
      rw [hnn]
      exact weak_tup4 (weak_nil 1) (weak_nil 1) (Weak.refl _) (Weak.refl _))
   | (refine ret_p rfl ?_
      show HVal.tup [eSs o.give, eSs o.take, .bool true, .int .i64 0] = .tup [eSs (giveS (some o)), eSs (takeS (some o)), .bool (some o).isSome, .int .i64 0]
      rfl)
  ·try simp at h4
   refine hw_reg ?_
   refine dp rfl (pop_move rfl) ?_
   refine dp rfl (pop_lenm ty26 rfl) ?_
   refine dp rfl (pop_gtr rfl rfl) ?_
   refine dp rfl (pop_move rfl) ?_
   refine dg rfl rfl (fun hc => ⟨_, OpenTo.refl _, pop_move rfl⟩) ?_
   refine dg rfl rfl (fun hc => ⟨_, OpenTo.upd (t := 36) rfl (by first | exact hc | simp_all) (OpenTo.refl _), pop_lenm ty26 rfl⟩) ?_
   refine dg rfl rfl (fun hc => ⟨_, OpenTo.upd (t := 37) rfl (by first | exact hc | simp_all) (OpenTo.refl _), pop_gtr rfl rfl⟩) ?_
   refine dp rfl (pop_picko rfl (.inl rfl) (.inr ⟨_, rfl, fun h => by simp_all⟩)) ?_
   refine dp rfl (pop_assign rfl) ?_
   refine dn ?_
   refine hw_cond rfl (fun h5 => ?_) (fun h5 => ?_)
   ·exfalso
    try simp at h5
    omega
   ·try simp at h5
    refine hw_skip ?_
    refine blockQ_n ?_
    refine seqQ_n ?_
    have he : swapE a b p = 0 := by simpa using h2
    have hout : out n 1 2 = false := by simpa using h4
    have hn := out_f hout
    have hz : bestE a b p n = 0 := by simp [bestE, orI, he, hout]
    have ok := swap_ok he
    have hb0 := (swapE_ok he).2.2.2
    have hp10 := ok.p10
    have hbs : bestS a b p n = bestO a b p n := by unfold bestS; rw [if_pos hz]
    rw [hbs, hz]
    refine hw_reg ?_
    refine dp rfl (pop_assign rfl) ?_
    refine dn ?_
    refine hw_seq ?_
    refine hw_reg ?_
    refine dp rfl (pop_move rfl) ?_
    refine dp rfl (pop_move rfl) ?_
    refine dp rfl (pop_call ca54 rfl (WeakL.refl _) (c_value_choices (l := a) (n := n) hla)) ?_
    refine dp rfl (pop_lenm (f := eSs) (l := choicesL n a) ty105 rfl) ?_
    refine dp rfl (pop_move rfl) ?_
    refine dn ?_
    refine hw_block ?_
    refine hw_loopw [13, 15, 17, 18, 19, 20, 44, 45, 46, 47, 48, 49, 50, 51, 52, 53, 54, 55, 56, 57, 58, 59, 60, 61, 62, 63, 64, 65, 66, 67, 68, 69, 70, 71, 72, 73, 74, 75, 76, 77, 78, 79, 80, 81, 82, 83, 84, 85, 86, 87, 88, 89, 90, 91] (fun (i : Nat) => [(44, .int .i64 i), (13, bestV (foldO (offersL a b p ((choicesL n a).take i) (choicesL n b))))]) (fun (i : Nat) => []) (fun (i : Nat) => i ≤ (choicesL n a).length ∧ (True)) (fun (i : Nat) => (choicesL n a).length - i) (0) ?_ ?_ ?_ ?_
    ·exact ⟨Nat.zero_le _, trivial⟩
    ·exact ⟨rfl, rfl, trivial⟩
    ·exact List.Perm.refl _
    ·intro i hinv
     obtain ⟨hi, -⟩ := hinv
     refine hw_reg ?_
     refine dp rfl (pop_lss rfl rfl) ?_
     refine dn ?_
     refine hw_seq ?_
     refine hw_cond rfl (fun h6 => ?_) (fun h7 => ?_)
     ·try simp at h6
      obtain ⟨g, hg⟩ : ∃ g, (choicesL n a)[i]? = some g := ⟨_, List.getElem?_eq_getElem h6⟩
      have hdg := drop_cons hg
      refine hw_skip ?_
      refine seqQ_n ?_
      refine hw_seq ?_
      refine hw_block ?_
      refine hw_reg ?_
      refine dp rfl (pop_idx (f := eSs) (l := choicesL n a) (j := i) (a := g) ty105 ty44 rfl rfl rfl hg) ?_
      refine dp rfl (pop_load ty44 rfl rfl rfl) ?_
      refine dp rfl (pop_assign rfl) ?_
      refine dn ?_
      refine hw_reg ?_
      refine dp rfl (pop_move rfl) ?_
      refine dp rfl (pop_move rfl) ?_
      refine dp rfl (pop_call ca54 rfl (WeakL.refl _) (c_value_choices (l := b) (n := n) hlb)) ?_
      refine dp rfl (pop_lenm (f := eSs) (l := choicesL n b) ty105 rfl) ?_
      refine dp rfl (pop_move rfl) ?_
      refine dn ?_
      refine hw_block ?_
      refine hw_loopw [13, 17, 18, 19, 20, 52, 53, 54, 55, 56, 57, 58, 59, 60, 61, 62, 63, 64, 65, 66, 67, 68, 69, 70, 71, 72, 73, 74, 75, 76, 77, 78, 79, 80, 81, 82, 83, 84, 85, 86, 87, 88, 89, 90] (fun (j : Nat) => [(52, .int .i64 j), (13, bestV (foldO (offersL a b p ((choicesL n a).take i) (choicesL n b) ++ ((choicesL n b).take j).map (mkO a b p g))))]) (fun (j : Nat) => []) (fun (j : Nat) => j ≤ (choicesL n b).length ∧ (True)) (fun (j : Nat) => (choicesL n b).length - j) (0) ?_ ?_ ?_ ?_
      ·exact ⟨Nat.zero_le _, trivial⟩
      ·exact ⟨rfl, by rw [List.take_zero, List.map_nil, List.append_nil]; rfl, trivial⟩
      ·exact List.Perm.refl _
      ·intro j hinv
       obtain ⟨hj, -⟩ := hinv
       refine hw_reg ?_
       refine dp rfl (pop_lss rfl rfl) ?_
       refine dn ?_
       refine hw_seq ?_
       refine hw_cond rfl (fun h8 => ?_) (fun h9 => ?_)
       ·try simp at h8
        obtain ⟨t, ht⟩ : ∃ t, (choicesL n b)[j]? = some t := ⟨_, List.getElem?_eq_getElem h8⟩
        have hdt := drop_cons ht
        refine hw_skip ?_
        refine seqQ_n ?_
        refine hw_seq ?_
        refine hw_block ?_
        refine hw_reg ?_
        refine dp rfl (pop_idx (f := eSs) (l := choicesL n b) (j := j) (a := t) ty105 ty44 rfl rfl rfl ht) ?_
        refine dp rfl (pop_load ty44 rfl rfl rfl) ?_
        refine dp rfl (pop_assign rfl) ?_
        refine dn ?_
        have hgs := ch_small hn (List.mem_of_getElem? hg)
        have hts := ch_small hn (List.mem_of_getElem? ht)
        obtain ⟨_, hga3, hga4⟩ := ok.gain (give := g) (take := t) hla (by omega)
        obtain ⟨_, hgb3, hgb4⟩ := ok.flip.gain (give := t) (take := g) hlb (by omega)
        have hgA : gainL a b p g t = sumF (tradedL a b g t) p - sumF a p := rfl
        have hgB : gainL b a p t g = sumF (tradedL b a t g) p - sumF b p := rfl
        have hsl := fold_small hn (a := a) (b := b) (p := p) (i := i) (j := j) hg
        generalize hs : foldO (offersL a b p ((choicesL n a).take i) (choicesL n b) ++ ((choicesL n b).take j).map (mkO a b p g)) = s at *
        refine hw_reg ?_
        refine dp rfl (pop_move rfl) ?_
        refine dp rfl (pop_move rfl) ?_
        refine dp rfl (pop_move rfl) ?_
        refine dp rfl (pop_move rfl) ?_
        refine dp rfl (pop_move rfl) ?_
        refine dp rfl (pop_call ca52 rfl (WeakL.refl _) (c_value_gains_g (a := a) (b := b) (p := p) (give := g) (take := t) ok hb0 hla hlb (by omega) (by omega))) ?_
        refine dp rfl (pop_move rfl) ?_
        refine dp rfl (pop_extract rfl rfl) ?_
        refine dp rfl (pop_extract rfl rfl) ?_
        refine dp rfl (pop_assign rfl) ?_
        refine dp rfl (pop_assign rfl) ?_
        refine dn ?_
        refine hw_reg ?_
        refine dp rfl (pop_move rfl) ?_
        refine dp rfl (pop_move rfl) ?_
        refine dp rfl (pop_move rfl) ?_
        refine dp rfl (pop_move rfl) ?_
        refine dp rfl (pop_eq (h' := .int .i64 (min (gainL a b p g t) (gainL b a p t g))) (pop_min rfl rfl) (congrArg (HVal.int .i64) min_iteI)) ?_
        refine dp rfl (pop_move rfl) ?_
        refine dp rfl (pop_move rfl) ?_
        refine dp rfl (pop_add64 rfl rfl (by omega) (by omega)) ?_
        refine dp rfl (pop_build (cs := [_, _, _, _]) ty108 pl108 rfl) ?_
        refine dp rfl (pop_box rfl rfl) ?_
        refine dp rfl (pop_assign rfl) ?_
        refine dn ?_
        refine hw_reg ?_
        refine dp rfl (pop_move rfl) ?_
        refine dp rfl ((by first | exact pop_nilCheck rfl | exact pop_nilCheck_raw rfl)) ?_
        refine dp rfl (pop_fieldAddr ty108 rfl ty3 (by decide) rfl) ?_
        refine dp rfl (pop_load ty3 rfl rfl rfl) ?_
        refine dp rfl (pop_geq rfl rfl) ?_
        refine dp rfl (pop_move rfl) ?_
        refine dg rfl rfl (fun hc => ⟨_, OpenTo.refl _, pop_move rfl⟩) ?_
        refine dg rfl rfl (fun hc => ⟨_, OpenTo.upd (t := 81) rfl (by first | exact hc | simp_all) (OpenTo.refl _), pop_eqnilP (o := s.map fun o => hcells (eOffer o)) ty104 rfl rfl⟩) ?_
        refine dg rfl rfl (fun hc => ⟨_, OpenTo.upd (t := 82) rfl (by first | exact hc | simp_all) (OpenTo.refl _), pop_move rfl⟩) ?_
        refine dg rfl rfl (fun hc => ⟨_, OpenTo.refl _, pop_move rfl⟩) ?_
        refine dg rfl rfl (fun hc => ⟨_, OpenTo.refl _, pop_move rfl⟩) ?_
        refine dg rfl rfl (fun hc => by
         have hw := bestV_some (s := s) (by have h11 := hc; simp at h11; simpa using h11.2)
         exact ⟨_, OpenTo.upd (t := 85) rfl (by first | exact hc | simp_all) (OpenTo.upd (t := 84) rfl (by first | exact hc | simp_all) (OpenTo.refl _)), pop_call (hs' := [.vptr (hcells (eOffer (mkO a b p g t))) 0, .vptr (hcells (eOffer (s.getD off0))) 0]) ca55 rfl ⟨Weak.refl _, (by rw [← hw]; exact Weak.refl _), trivial⟩ (c_value_offer_better (x := mkO a b p g t) (y := s.getD off0) ⟨by show g.length ≤ 1000; omega, by show t.length ≤ 1000; omega⟩ hsl)⟩) ?_
        refine dg rfl rfl (fun hc => ⟨_, OpenTo.upd (t := 83) rfl (by first | exact hc | simp_all) (OpenTo.refl _), pop_picko rfl (.inl rfl) (.inr ⟨_, rfl, fun h => by simp_all⟩)⟩) ?_
        refine dp rfl (pop_picko rfl (.inr ⟨_, rfl, fun h => by simp_all⟩) (.inl rfl)) ?_
        refine dn ?_
        refine hw_cond rfl (fun h10 => ?_) (fun h11 => ?_)
        ·try simp at h10
         refine hw_reg1 ?_
         refine dp rfl (pop_move rfl) ?_
         refine dp rfl (pop_assign rfl) ?_
         refine dn ?_
         refine blockQ_n ?_
         refine seqQ_n ?_
         refine hw_reg1 ?_
         refine dp rfl (pop_add64 rfl rfl (by omega) (by omega)) ?_
         refine dp rfl (pop_move rfl) ?_
         refine dn ?_
         exact ⟨j + 1, ⟨by omega, trivial⟩, by dsimp only; omega, ⟨rfl, by rw [fold_take ht, hs, stepO_is, if_pos (by simp only [Bool.and_eq_true, Bool.or_eq_true, decide_eq_true_eq]; exact ⟨h10.1, by rcases h10.2 with q | q; exact .inl (by simp [q]); exact .inr q⟩)]; rfl, trivial⟩, (by repeat (first | exact keeps_refl | refine keeps_upd rfl ?_ | refine keeps_loop rfl rfl ?_)), List.Perm.refl _⟩
        ·try simp at h11
         refine hw_skip ?_
         refine blockQ_n ?_
         refine seqQ_n ?_
         refine hw_reg1 ?_
         refine dp rfl (pop_add64 rfl rfl (by omega) (by omega)) ?_
         refine dp rfl (pop_move rfl) ?_
         refine dn ?_
         exact ⟨j + 1, ⟨by omega, trivial⟩, by dsimp only; omega, ⟨rfl, by rw [fold_take ht, hs, stepO_is, if_neg (by intro hq; simp only [Bool.and_eq_true, Bool.or_eq_true, decide_eq_true_eq] at hq; have h12 := h11 hq.1; rcases hq.2 with q | q; (rw [Option.isNone_iff_eq_none] at q; rw [q] at h12; simp at h12); (rw [h12.2] at q; cases q))]; rfl, trivial⟩, (by repeat (first | exact keeps_refl | refine keeps_upd rfl ?_ | refine keeps_loop rfl rfl ?_)), List.Perm.refl _⟩
       ·try simp at h9
        have hnj : (choicesL n b).length ≤ j := by omega
        obtain rfl : j = (choicesL n b).length := by omega
        refine hw_exit ?_
        refine seqQ_x ?_
        refine loopQ_x ?_
        refine blockQ_eq ?_
        refine blockQ_n ?_
        refine seqQ_n ?_
        refine hw_reg1 ?_
        refine dp rfl (pop_add64 rfl rfl (by omega) (by omega)) ?_
        refine dp rfl (pop_move rfl) ?_
        refine dn ?_
        exact ⟨i + 1, ⟨by omega, trivial⟩, by dsimp only; omega, ⟨rfl, by rw [offers_take hg, List.take_length]; rfl, trivial⟩, (by repeat (first | exact keeps_refl | refine keeps_upd rfl ?_ | refine keeps_loop rfl rfl ?_)), List.Perm.refl _⟩
     ·try simp at h7
      have hni : (choicesL n a).length ≤ i := by omega
      obtain rfl : i = (choicesL n a).length := by omega
      rw [List.take_length]
      refine hw_exit ?_
      refine seqQ_x ?_
      refine loopQ_x ?_
      refine blockQ_eq ?_
      refine seqQ_n ?_
      refine hw_seq ?_
      rw [show foldO (offersL a b p (choicesL n a) (choicesL n b)) = bestO a b p n from rfl]
      refine hw_reg ?_
      refine dp rfl (pop_move rfl) ?_
      refine dp rfl (pop_eqnilP (o := (bestO a b p n).map fun o => hcells (eOffer o)) ty104 rfl rfl) ?_
      refine dn ?_
      refine hw_cond rfl (fun h12 => ?_) (fun h13 => ?_)
      ·try simp at h12
       refine hw_reg ?_
       refine dp rfl (pop_assign rfl) ?_
       refine dp rfl (pop_assign rfl) ?_
       refine dp rfl (pop_assign rfl) ?_
       refine dp rfl (pop_assign rfl) ?_
       refine dn ?_
       refine hw_ret ?_
       first
       | (have he : swapE a b p ≠ 0 := by simpa using h1
          have q1 : bestE a b p n = swapE a b p := by simp [bestE, orI, he]
          refine ret_w rfl ?_
          rw [bestS, if_neg (by rw [q1]; exact he), q1]
          exact weak_tup4 (weak_nil 1) (weak_nil 1) (Weak.refl _) (Weak.refl _))
       | (have he : swapE a b p = 0 := by simpa using h2
          have ho1 : out n 1 2 = true := by simpa using h3
          have q1 : bestE a b p n = 1 := by simp [bestE, orI, he, ho1]
          refine ret_w rfl ?_
          rw [bestS, if_neg (by rw [q1]; decide), q1]
          exact weak_tup4 (weak_nil 1) (weak_nil 1) (Weak.refl _) (Weak.refl _))
       | (have hnn : bestO a b p n = none := by simpa using h12
          refine ret_w rfl ?_
          rw [hnn]
          exact weak_tup4 (weak_nil 1) (weak_nil 1) (Weak.refl _) (Weak.refl _))
       | (refine ret_p rfl ?_
          show HVal.tup [eSs o.give, eSs o.take, .bool true, .int .i64 0] = .tup [eSs (giveS (some o)), eSs (takeS (some o)), .bool (some o).isSome, .int .i64 0]
          rfl)
      ·try simp at h13
       refine hw_skip ?_
       refine seqQ_n ?_
       obtain ⟨o, ho⟩ : ∃ o, bestO a b p n = some o := by
        cases hq : bestO a b p n with
        | none => simp [hq] at h13
        | some o => exact ⟨o, rfl⟩
       rw [ho]
       refine hw_draw (fun _ => True) [] mixed ?_
       refine ahp 0 rfl rfl (by kernel_rfl) (by kernel_rfl) (pop_move rfl) ?_
       refine ahp 1 rfl rfl (by kernel_rfl) (by kernel_rfl) ((by first | exact pop_nilCheck rfl | exact pop_nilCheck_raw rfl)) ?_
       refine ahp 2 rfl rfl (by kernel_rfl) (by kernel_rfl) (pop_fieldAddr ty108 rfl ty44 (by decide) rfl) ?_
       refine ahp 3 rfl rfl (by kernel_rfl) (by kernel_rfl) (pop_load ty44 rfl rfl rfl) ?_
       refine ahp 4 rfl rfl (by kernel_rfl) (by kernel_rfl) (pop_move rfl) ?_
       refine ahp 5 rfl rfl (by kernel_rfl) (by kernel_rfl) ((by first | exact pop_nilCheck rfl | exact pop_nilCheck_raw rfl)) ?_
       refine ahp 6 rfl rfl (by kernel_rfl) (by kernel_rfl) (pop_fieldAddr ty108 rfl ty44 (by decide) rfl) ?_
       refine ahp 7 rfl rfl (by kernel_rfl) (by kernel_rfl) (pop_load ty44 rfl rfl rfl) ?_
       refine ahp 8 rfl rfl (by kernel_rfl) (by kernel_rfl) (pop_assign rfl) ?_
       refine ahp 9 rfl rfl (by kernel_rfl) (by kernel_rfl) (pop_assign rfl) ?_
       refine ahp 10 rfl rfl (by kernel_rfl) (by kernel_rfl) (pop_assign rfl) ?_
       refine ahp 11 rfl rfl (by kernel_rfl) (by kernel_rfl) (pop_assign rfl) ?_
       refine ahz (by kernel_rfl) ?_
       refine hw_ret ?_
       first
       | (have he : swapE a b p ≠ 0 := by simpa using h1
          have q1 : bestE a b p n = swapE a b p := by simp [bestE, orI, he]
          refine ret_w rfl ?_
          rw [bestS, if_neg (by rw [q1]; exact he), q1]
          exact weak_tup4 (weak_nil 1) (weak_nil 1) (Weak.refl _) (Weak.refl _))
       | (have he : swapE a b p = 0 := by simpa using h2
          have ho1 : out n 1 2 = true := by simpa using h3
          have q1 : bestE a b p n = 1 := by simp [bestE, orI, he, ho1]
          refine ret_w rfl ?_
          rw [bestS, if_neg (by rw [q1]; decide), q1]
          exact weak_tup4 (weak_nil 1) (weak_nil 1) (Weak.refl _) (Weak.refl _))
       | (have hnn : bestO a b p n = none := by simpa using h12
          refine ret_w rfl ?_
          rw [hnn]
          exact weak_tup4 (weak_nil 1) (weak_nil 1) (Weak.refl _) (Weak.refl _))
       | (refine ret_p rfl ?_
          show HVal.tup [eSs o.give, eSs o.take, .bool true, .int .i64 0] = .tup [eSs (giveS (some o)), eSs (takeS (some o)), .bool (some o).isSome, .int .i64 0]
          rfl)
end Go.Proofs.YtbfikmihcpfgaaaGreatDoor
end
section
namespace Go.HL
structure VisOk {β : Type} (L : List β) (vis : List Nat) (E : List β) : Prop where
 nd : vis.Nodup
 lt : ∀ j ∈ vis, j < L.length
 eq : E.map some = vis.map fun j => L[j]?
theorem VisOk.nil {β : Type} (L : List β) : VisOk L [] [] := ⟨List.nodup_nil, (fun j h => by cases h), rfl⟩
theorem VisOk.step {β : Type} {L E : List β} {vis : List Nat} (h : VisOk L vis E) {j : Nat} {q : β} (hj : L[j]? = some q) (hn : j ∉ vis) : VisOk L (vis ++ [j]) (E ++ [q]) where
 nd := List.nodup_append.2 ⟨h.nd, by simp, fun a ha b hb => by simp at hb; subst hb; exact fun e => hn (e ▸ ha)⟩
 lt k hk := by
  rcases List.mem_append.1 hk with hk | hk
  ·exact h.lt k hk
  ·simp at hk; subst hk; exact lt_of_get hj
 eq := by simp only [List.map_append, h.eq, List.map_cons, List.map_nil, hj]
theorem VisOk.len {β : Type} {L E : List β} {vis : List Nat} (h : VisOk L vis E) : E.length = vis.length := by
 have := congrArg List.length h.eq; simpa using this
def NextOk {β : Type} (L : List β) (vis : List Nat) (c : Bool) (vis' : List Nat) : Prop :=
 (c = false ∧ vis' = vis ∧ vis.length = L.length) ∨ (c = true ∧ ∃ j q, L[j]? = some q ∧ j ∉ vis ∧ vis' = vis ++ [j])
theorem NextOk.t {β : Type} {L : List β} {vis vis' : List Nat} {c : Bool} (h : NextOk L vis c vis') (hc : c = true) : ∃ j q, L[j]? = some q ∧ j ∉ vis ∧ vis' = vis ++ [j] := by
 rcases h with ⟨h, _⟩ | ⟨_, h⟩
 ·rw [hc] at h; cases h
 ·exact h
theorem NextOk.f {β : Type} {L : List β} {vis vis' : List Nat} {c : Bool} (h : NextOk L vis c vis') (hc : c = false) : vis' = vis ∧ vis.length = L.length := by
 rcases h with ⟨_, h⟩ | ⟨h, _⟩
 ·exact h
 ·rw [hc] at h; cases h
section
variable {P : Program} {e : Env} {dst : Option Tmp} {ty : TypeId} {pos : String} {af : Array Edge} {g : Option (Nat × Bool)} {M : List MObj} {K : HVal → List MObj → Prop}
end
section
variable {β : Type}
end
section
variable {P : Program} {e : Env} {dst : Option Tmp} {ty : TypeId} {pos : String} {af : Array Edge} {g : Option (Nat × Bool)} {M : List MObj} {K : HVal → List MObj → Prop} {β : Type} {eb : β → HVal}
end
end Go.HL
end
section
namespace Go.HL
end Go.HL
end
section
namespace Go.HL
variable {P : Program}
section
variable {e : Env} {dst : Option Tmp} {ty : TypeId} {pos : String} {af : Array Edge} {g : Option (Nat × Bool)} {M : List MObj} {K : HVal → List MObj → Prop}
end
end Go.HL
end
section
namespace Go.HL
open Go.Proofs Go.Shelf
variable {P : Program}
/-- A string's bytes as cells. -/
def bvs (s : List UInt8) : List Value := s.map fun c => .int .u8 c.toNat
theorem bvs_get {s : List UInt8} {i : Nat} {c : UInt8} (h : s[i]? = some c) : (bvs s)[i]? = some (.int .u8 c.toNat) := by simp [bvs, h]
theorem bvs_len (s : List UInt8) : (bvs s).length = s.length := by simp [bvs]
theorem bvs_str (s : List UInt8) : Lib.strCells ⟨s.toArray⟩ = bvs s := by simp [Lib.strCells, bvs]
/-- A slice's data pointer. -/
def dataP : Value → Value
 | .slice a _ _ => .pointer a
 | _ => .pointer none
theorem MSat.bld_one {I : Imm} {w : World} {b : Nat} {T el : TypeId} {h v : Value} {s : List UInt8} (hm : MSat I w (.bld b T el h v s)) : v.oneCell' = true := by
 rcases hm.2 with ⟨rfl, _⟩ | ⟨g, cap, rc, rfl, _⟩ <;> rfl
theorem MSat.bld_len {I : Imm} {w : World} {b : Nat} {T el : TypeId} {h v : Value} {s : List UInt8} (hm : MSat I w (.bld b T el h v s)) : ∃ a cap, v = .slice a s.length cap := by
 rcases hm.2 with ⟨rfl, rfl⟩ | ⟨g, cap, rc, rfl, _⟩
 ·exact ⟨none, 0, rfl⟩
 ·exact ⟨_, _, rfl⟩
theorem cells_one {u : Value} (h : u.oneCell' = true) : u.cells.toList = [u] := by cases u <;> first | rfl | simp [Value.oneCell'] at h
theorem Sat.bld_nodup [Tracks] {I : Imm} {M : List MObj} {w : World} {b : Nat} {T el : TypeId} {h v : Value} {s : List UInt8} (hs : Sat P I (.bld b T el h v s :: M) w) : (b :: bufB v).Nodup ∧ (∀ k ∈ b :: bufB v, k ∉ blocks M) ∧ ∀ k ∈ b :: bufB v, I.heap k = none := by
 have h1 := hs.nodup
 simp only [blocks, List.flatMap_cons] at h1
 have h2 := List.nodup_append.1 h1
 exact ⟨h2.1, fun k hk hk' => h2.2.2 k hk k hk' rfl, fun k hk => hs.apart k (by simp only [blocks, List.flatMap_cons]; exact List.mem_append_left _ hk)⟩
section
variable {e : Env} {dst : Option Tmp} {ty : TypeId} {pos : String} {af : Array Edge} {g : Option (Nat × Bool)} {M : List MObj} {K : HVal → List MObj → Prop}

theorem eop_allocB [Tracks] {t : TypeId} (el : TypeId) {d : TD} {size bytes : Nat} {zero : Value} (hf : Fits P t d size bytes zero) (hz : zero.cells = #[.pointer none, .slice none 0 0])
 (hk : ∀ b, K (.raw (.pointer (some ⟨b, 0, none⟩))) (.bld b t el (.slice none 0 0) (.slice none 0 0) [] :: M)) : EOp P e M ⟨dst, .alloc t, ty, pos, af, g⟩ K :=
 EOp.of_run fun I F a w ho hs => by
  refine ⟨.pointer (some ⟨w.heap.size, 0, none⟩), _, _, push w (.cells zero.cells t (0, 0)), I, ?_, .refl I, hk w.heap.size, .raw _ rfl, ?_⟩
  ·simp [execOp, Instr.alloc, hf.run_zero, newVar, newRow]
  ·exact hs.new_own _ _ rfl ⟨⟨rfl, _, .inl rfl, by simp [push, hz]⟩, .inl ⟨rfl, rfl⟩⟩

theorem eop_loadB [Tracks] {x : Operand} {t T el tel : TypeId} {size bytes : Nat} {zero : Value} {i b : Nat} {h v : Value} {s : List UInt8} (hf : Fits P t (.slice tel) size bytes zero)
 (hx : evalO e x = some (.raw (.pointer (some ⟨b, 1, none⟩)))) (hm : M[i]? = some (.bld b T el h v s)) (hk : K (.raw h) M) : EOp P e M ⟨dst, .load t x, ty, pos, af, g⟩ K :=
 EOp.of_run fun I F a w ho hs => by
  have h1 := (ho.one (x := x) (by simp [Op.operands]) hx).raw_inv
  obtain ⟨⟨h0, p, hp, h2⟩, h3⟩ := hs.obj _ (List.mem_append_left _ (List.mem_of_getElem? hm))
  have hV : ∀ (j : Nat) (c : HVal) (u : Value), [HVal.junk, .raw h][j]? = some c → (#[p, h] : Array Value)[0 + j]? = some u → V I c u := by
   intro j c u a1 a2
   match j, a1, a2 with
   | 0, a1, a2 => simp at a1; subst a1; exact .junk _
   | 1, a1, a2 => simp at a1 a2; subst a1; subst a2; exact .raw _ h0
   | j + 2, a1, _ => simp at a1
  obtain ⟨u, h5, h6⟩ := run_loadVar (I := I) (o := 1) (cs := [.junk, .raw h]) (off := 1) (base := 0) hf h2 rfl (by simp) hV (.inl ⟨rfl, rfl⟩)
  exact ⟨u, .raw h, M, w, I, by simp [execOp, h1, Instr.loadAt, Instr.sureAddr, h5], .refl I, hk, h6, hs⟩

theorem eop_storeB [Tracks] {x y : Operand} {t T el tel : TypeId} {bytes : Nat} {zero : Value} {i b : Nat} {h v : Value} {s : List UInt8} (hf : Fits P t (.slice tel) 1 bytes zero)
 (hx : evalO e x = some (.raw (.pointer (some ⟨b, 1, none⟩)))) (hy : evalO e y = some (.raw v)) (hm : M[i]? = some (.bld b T el h v s))
 (hk : K .junk (M.set i (.bld b T el v v s))) : EOp P e M ⟨dst, .store t x y, ty, pos, af, g⟩ K :=
 EOp.of_skip fun I F a w hop hs => by
  have h1 := (hop.one (x := x) (by simp [Op.operands]) hx).raw_inv
  have hye := (hop.one (x := y) (by simp [Op.operands]) hy).raw_inv
  have hp := hs.pull hm
  have hobj := hp.obj _ List.mem_cons_self
  have hu1 := hobj.bld_one
  obtain ⟨hnd, _, _⟩ := hp.bld_nodup
  obtain ⟨⟨h0, p, hpp, h2⟩, h3⟩ := hobj
  have hc1 := cells_one hu1
  obtain ⟨w', rc', g1, g2, g3, g4, g5, g6, g7, g8, g9⟩ := run_storeCells (P := P) b T (0, 0) 1 [v] 0 w #[p, h] h2 (Free.zero _) (by simpa using hu1) (by simp)
  have hrc : rc' = #[p, v] := by
   apply Array.ext_getElem?
   intro x
   rw [g4 x]
   match x with
   | 0 => simp
   | 1 => simp
   | x + 2 => simp
  subst hrc
  refine ⟨_, w', I, ?_, .refl I, hk, ?_⟩
  ·simp only [execOp, h1, hye, Instr.storeAt, Instr.sureAddr, Sem.run_bind, Sem.run_pure, Result.andThen_ok, storeVar, hf.run_sizeOf]
   rw [if_neg (by rw [← Array.length_toList, hc1]; simp)]
   simp only [Sem.run_pure, Result.andThen_ok, hc1, g1]
  ·refine Sat.unpull hm (hp.change (m' := .bld b T el v v s) (fun k hk hnk => g5 k (fun e => hnk (e ▸ List.mem_cons_self))) (fun k hk => .inl hk) hnd ?_ g7 g8 g9.1 (fun _ => Nat.le_of_eq g9.2.symm))
   refine ⟨⟨hu1, p, hpp, g2⟩, ?_⟩
   rcases h3 with h3 | ⟨g, cap, rc, rfl, h4, h5, h6⟩
   ·exact .inl h3
   ·refine .inr ⟨g, cap, rc, rfl, ?_, h5, h6⟩
    rw [g5 g (fun e => by subst e; simp [bufB] at hnd)]; exact h4

theorem eop_appendB [Tracks] {x y : Operand} {t el u T : TypeId} {size bytes b2 su bu : Nat} {zero z2 zu : Value} {d : TD} {i b : Nat} {h v : Value} {s r : List UInt8}
 (hf : Fits P t (.slice el) size bytes zero) (hu : Fits P u .str su bu zu) (hel : Fits P el d 1 b2 z2) (hz : z2.cells.size = 1) (hby : Nat.ble b2 100000 = true)
 (hx : evalO e x = some (.raw v)) (hy : evalO e y = some (.str r)) (hm : M[i]? = some (.bld b T el h v s)) (hlen : s.length + r.length ≤ 1000000000)
 (hk : ∀ v', K (.raw v') (M.set i (.bld b T el h v' (s ++ r)))) : EOp P e M ⟨dst, .call ⟨.builtin .append, #[x, y], #[t, u]⟩, ty, pos, af, g⟩ K :=
 EOp.of_run fun I F a w ho hs => by
  have h1 := (ho.one (x := x) (by simp [Op.operands, Call.operands]) hx).raw_inv
  have hyv := ho.one (x := y) (by simp [Op.operands, Call.operands]) hy
  have hye : a.eval y = .string ⟨r.toArray⟩ := hyv.str_inv
  have hp := hs.pull hm
  have hobj := hp.obj _ List.mem_cons_self
  have hu1 := hobj.bld_one
  obtain ⟨hnd, _, _⟩ := hp.bld_nodup
  obtain ⟨⟨h0, p, hpp, h2⟩, h3⟩ := hobj
  have hbl : b < w.heap.size := by
   rcases Nat.lt_or_ge b w.heap.size with h' | h'
   ·exact h'
   ·simp [Array.getElem?_eq_none h'] at h2
  have hsize : (⟨r.toArray⟩ : ByteArray).size = r.length := by simp [ByteArray.size]
  have hnv : ∀ w1 : World, (Builtin.firstCells 1 r.length (a.eval y)).run P w1 = .ok (bvs r).toArray w1 := fun w1 => by
   rw [hye, ← bvs_str, ← hsize]; exact Lib.run_firstCells_string w1 1 _
  have hov : ∀ w1 : World, w1.heap = w.heap → (Builtin.firstCells 1 s.length v).run P w1 = .ok (bvs s).toArray w1 := fun w1 hw1 => by
   rcases h3 with ⟨rfl, rfl⟩ | ⟨g, cap, rc, rfl, h4, h5, h6⟩
   ·simp [Builtin.firstCells, bvs]
   ·have h3' : w1.heap[g]? = some (.cells rc el (0, 0)) := by rw [hw1]; exact h4
    have := run_loadCells_list (P := P) w1 ⟨g, 0, none⟩ (bvs s) fun j c hj => by
     rw [addr_add, cell_of h3']
     rw [bvs, List.getElem?_map] at hj
     cases hq : s[j]? with
     | none => rw [hq] at hj; cases hj
     | some c' => rw [hq] at hj; simp at hj; subst hj; simpa using h6 j c' hq
    rw [bvs_len] at this
    simp only [Builtin.firstCells, Nat.mul_one]
    exact this
  have hboth : ∀ (i : Nat) (c : UInt8), (s ++ r)[i]? = some c → ((bvs s).toArray ++ (bvs r).toArray)[i]? = some (.int .u8 c.toNat) := fun i c hc => by
   have : bvs s ++ bvs r = bvs (s ++ r) := by simp [bvs]
   rw [List.append_toArray, this, List.getElem?_toArray]; exact bvs_get hc
  have done : (∃ v' w', (execOp a.eval ⟨dst, .call ⟨.builtin .append, #[x, y], #[t, u]⟩, ty, pos, af, g⟩).run P w = .ok (.value v') w' ∧ Sat P I (.bld b T el h v' (s ++ r) :: (M.eraseIdx i ++ F)) w') →
   ∃ v h M' w' J, (execOp a.eval ⟨dst, .call ⟨.builtin .append, #[x, y], #[t, u]⟩, ty, pos, af, g⟩).run P w = .ok (.value v) w' ∧ Le I J ∧ K h M' ∧ V J h v ∧ Sat P J (M' ++ F) w' := by
   rintro ⟨v', w', r1, r2⟩
   exact ⟨v', .raw v', _, w', I, r1, .refl I, hk v', .raw _ (r2.obj _ List.mem_cons_self).bld_one, Sat.unpull hm r2⟩
  apply done
  have hlenof : ∀ w1 : World, (Builtin.lenOf (a.eval y)).run P w1 = .ok r.length w1 := fun w1 => by rw [hye, ← hsize]; simp [Builtin.lenOf]
  -- the new block
  have grows : ∀ (base : Option Addr) (cap : Nat), v = .slice base s.length cap → cap < s.length + r.length →
   ∃ v' w', (execOp a.eval ⟨dst, .call ⟨.builtin .append, #[x, y], #[t, u]⟩, ty, pos, af, g⟩).run P w = .ok (.value v') w' ∧ Sat P I (.bld b T el h v' (s ++ r) :: (M.eraseIdx i ++ F)) w' := by
   intro base cap hv hcap
   let nc := (Question.appendCap (s.length + r.length) cap el).cut (w.tape w.drawn (.appendCap (s.length + r.length) cap el))
   have hnc : s.length + r.length ≤ nc := by simp only [nc, Question.cut]; omega
   have hnm : nc ≤ 9223372036854775807 := by
    simp only [nc, Question.cut]
    have := Nat.mod_lt (w.tape w.drawn (.appendCap (s.length + r.length) cap el)) (show 0 < 2 ^ 63 - (s.length + r.length) by omega)
    omega
   let cells : Array Value := (bvs s).toArray ++ (bvs r).toArray ++ Builtin.zeroCells z2.cells (nc - (s.length + r.length))
   refine ⟨.slice (some ⟨w.heap.size, 0, none⟩) (s.length + r.length) nc, { w with heap := w.heap.push (.cells cells el (0, 0)), drawn := w.drawn + 1 }, ?_, ?_⟩
   ·rw [run_append]
    have hb1 : ¬ s.length + r.length ≤ cap := by omega
    have hb2 : ¬ ((((s.length + r.length : Nat) : Int) > IntKind.i64.max) ∧ (False ∨ b2 = 0)) := by
     have : IntKind.i64.max = 9223372036854775807 := by decide
     rw [this]; omega
    have hb3 : ¬ Builtin.nextslicecap (s.length + r.length) cap * b2 > 2 ^ 48 := by
     have e1 := nextslicecap_le hcap
     have e2 : b2 ≤ 100000 := Nat.le_of_ble_eq_true hby
     have : Builtin.nextslicecap (s.length + r.length) cap * b2 ≤ (2 * 1000000000 + 192) * 100000 := Nat.mul_le_mul (by omega) e2
     omega
    obtain ⟨ti, t1, t2, t3, t4⟩ := hel.typeInfo
    have hti : ∀ w1, (Go.typeInfo el).run P w1 = .ok ti w1 := fun w1 => by simp [Go.typeInfo, t1]
    simp only [List.map_toArray, List.map_cons, List.map_nil, h1, Builtin.append_, List.getElem?_toArray, List.getElem?_cons_zero, List.getElem?_cons_succ, hv, Sem.run_bind, run_underlying hf.slice, run_underlying hu.strD, Result.andThen_ok,
     hel.run_sizeOf, Sem.run_pure, Bool.false_eq_true, if_false, hlenof, hb1, hti, t3]
    rw [if_neg (by simpa using hb2)]
    simp only [Sem.run_bind, Sem.run_pure, Result.andThen_ok, hti, t3]
    rw [if_neg hb3]
    have hch : (choose (.appendCap (s.length + r.length) cap el)).run P w = .ok nc { w with drawn := w.drawn + 1 } := by
     simp [Question.forced, nc]
    simp only [Sem.run_pure, Sem.run_bind, Result.andThen_ok, hch, run_askRoom, hti]
    rw [← hv]
    have hov' := hov { w with drawn := w.drawn + 1 } rfl
    have hnv' := hnv { w with drawn := w.drawn + 1 }
    simp only [hov', Bool.not_false, if_true, hnv', Result.andThen_ok, hel.run_zero, newRow, Sem.run_bind, Sem.run_pure, run_newObj]
    rfl
   ·refine hp.change (m' := .bld b T el h (.slice (some ⟨w.heap.size, 0, none⟩) (s.length + r.length) nc) (s ++ r)) (fun k hk hnk => ?_) ?_ ?_ ?_ rfl rfl rfl
    ·simp [Array.getElem?_push, Nat.ne_of_lt hk]
    ·intro k hk
     simp [MObj.blocks, bufB] at hk
     rcases hk with rfl | rfl
     ·exact .inl List.mem_cons_self
     ·exact .inr (Nat.le_refl _)
    ·simp [MObj.blocks, bufB]; omega
    ·refine ⟨⟨h0, p, hpp, ?_⟩, .inr ⟨w.heap.size, nc, cells, by simp, by simp, ⟨by omega, by simpa using hnc, hnm, ?_⟩, fun j c hc => ?_⟩⟩
     ·simp [Array.getElem?_push, Nat.ne_of_lt hbl]; exact h2
     ·simp [cells, zeroCells_size, hz, bvs_len]; omega
     ·have hj := lt_of_get hc
      simp only [List.length_append] at hj
      simp only [cells]
      rw [Array.getElem?_append_left (by simp [bvs_len]; omega)]
      exact hboth j c hc
  rcases h3 with ⟨hv, hs0⟩ | ⟨gb, cap, rc, hv, h4, ⟨h5a, h5b, h5c, h5d⟩, h6⟩
  ·by_cases hr0 : r = []
   ·subst hr0
    refine ⟨v, w, ?_, by rw [List.append_nil]; exact hp⟩
    subst hs0
    have hnv' := hnv w
    have hl0 := hlenof w
    simp only [List.length_nil] at hnv' hl0
    rw [run_append]
    simp only [List.map_toArray, List.map_cons, List.map_nil, h1, Builtin.append_, List.getElem?_toArray, List.getElem?_cons_zero, List.getElem?_cons_succ, hv, Sem.run_bind, run_underlying hf.slice, run_underlying hu.strD, Result.andThen_ok,
     hel.run_sizeOf, Sem.run_pure, Bool.false_eq_true, if_false, hl0, Nat.le_refl, if_true, Bool.not_false, hnv', Nat.add_zero]
   ·have hpos : 0 < r.length := by cases r with | nil => exact absurd rfl hr0 | cons _ _ => simp
    exact grows none 0 (by rw [hv, hs0]; rfl) (by omega)
  ·by_cases hfit : s.length + r.length ≤ cap
   ·obtain ⟨w', rc', g1, g2, g3, g4, g5, g6, g7, g8, g9⟩ := run_storeCells (P := P) gb el (0, 0) s.length (bvs r) 0 w rc h4 (Free.zero _) (fun c hc => by simp only [bvs, List.mem_map] at hc; obtain ⟨c', _, rfl⟩ := hc; rfl) (by rw [bvs_len]; omega)
    refine ⟨.slice (some ⟨gb, 0, none⟩) (s.length + r.length) cap, w', ?_, ?_⟩
    ·rw [run_append]
     have hnv' := hnv w
     have hl0 := hlenof w
     simp only [List.map_toArray, List.map_cons, List.map_nil, h1, Builtin.append_, List.getElem?_toArray, List.getElem?_cons_zero, List.getElem?_cons_succ, hv, Sem.run_bind, run_underlying hf.slice, run_underlying hu.strD, Result.andThen_ok,
      hel.run_sizeOf, Sem.run_pure, Bool.false_eq_true, if_false, hl0, hfit, if_true, Bool.not_false, hnv', addr_add, Nat.mul_one, Nat.zero_add, g1]
    ·have hne : b ≠ gb := fun e => by subst e; rw [hv] at hnd; simp [bufB] at hnd
     refine hp.change (m' := .bld b T el h (.slice (some ⟨gb, 0, none⟩) (s.length + r.length) cap) (s ++ r)) (fun k hk hnk => g5 k ?_) ?_ ?_ ?_ g7 g8 g9.1 (fun _ => Nat.le_of_eq g9.2.symm)
     ·rintro rfl; exact hnk (by rw [hv]; simp [MObj.blocks, bufB])
     ·intro k hk; left; rw [hv]; exact hk
     ·simp [MObj.blocks, bufB]; exact hne
     ·refine ⟨⟨h0, p, hpp, by rw [g5 b hne]; exact h2⟩, .inr ⟨gb, cap, rc', by simp, g2, ⟨h5a, by simpa using hfit, h5c, by rw [g3]; exact h5d⟩, fun j c hc => ?_⟩⟩
      have hj := lt_of_get hc
      simp only [List.length_append] at hj
      rw [g4]
      by_cases hi : j < s.length
      ·rw [List.getElem?_append_left hi] at hc
       rw [if_neg (by omega)]
       exact h6 j c hc
      ·rw [List.getElem?_append_right (by omega)] at hc
       rw [if_pos (by rw [bvs_len]; omega)]
       have := bvs_get hc
       simpa using this
   ·exact grows (some ⟨gb, 0, none⟩) cap hv (by omega)

theorem eop_lenB [Tracks] {x : Operand} {t tel : TypeId} {size bytes : Nat} {zero : Value} {i b : Nat} {T el : TypeId} {h v : Value} {s : List UInt8} (hf : Fits P t (.slice tel) size bytes zero) (hx : evalO e x = some (.raw v))
 (hm : M[i]? = some (.bld b T el h v s)) (hk : K (.int .i64 s.length) M) : EOp P e M ⟨dst, .call ⟨.builtin .len, #[x], #[t]⟩, ty, pos, af, g⟩ K :=
 EOp.of_run fun I F a w ho hs => by
  have h1 := (ho.one (x := x) (by simp [Op.operands, Call.operands]) hx).raw_inv
  obtain ⟨b, cap, h2⟩ := (hs.obj _ (List.mem_append_left _ (List.mem_of_getElem? hm))).bld_len
  exact ⟨.int .i64 s.length, _, M, w, I, by rw [run_len (ats := #[])]; simp [h1, h2, Builtin.len_, run_underlying hf.slice, goInt], .refl I, hk, .int _ _, hs⟩

end

/-- What every writing method calls first. -/
theorem con_copyCheck [Tracks] {ρ : Ren} (L : Lays.n240 P ρ) (X : Builder.X72 P ρ) {b : Nat} {el : TypeId} {h v : Value} {s : List UInt8} :
 Con P (ρ.f 240) [.raw (.pointer (some ⟨b, 0, none⟩))] [.bld b (ρ.t 72) el h v s] fun x M' => x = .tup [] ∧ M' = [.bld b (ρ.t 72) el h v s] := by
 intro I F w args ha hs
 obtain ⟨u, rfl, hu⟩ := ha.one
 obtain rfl := hu.raw_inv
 obtain ⟨hnd, _, _⟩ := Sat.bld_nodup (M := F) hs
 obtain ⟨⟨h0, p, hpp, h2⟩, h3⟩ := hs.obj (.bld b (ρ.t 72) el h v s) (by simp)
 have ht : V I (.tup []) (.tuple #[]) := .tup rfl fun j c v h _ => by simp at h
 rcases hpp with rfl | rfl
 ·refine (Any.Builder_copyCheck_fresh L X b w (by rw [cell_of h2]; rfl) (by simp [World.shape?, h2]) (by simp [World.frozen?, h2])).mono ?_
  rintro _ w' ⟨rfl, rfl⟩
  refine ⟨_, _, _, I, rfl, .refl I, ⟨rfl, rfl⟩, ht, ?_⟩
  have hk : ∀ k, k ≠ b → (w.setCell ⟨b, 0, none⟩ (.pointer (some ⟨b, 0, none⟩))).heap[k]? = w.heap[k]? := fun k hk => by
   simp only [World.setCell, Array.getElem?_modify]
   rw [if_neg (fun e => hk e.symm)]
  refine Sat.change (m' := .bld b (ρ.t 72) el h v s) (M := F) hs (fun k _ hnk => hk k (fun e => hnk (e ▸ List.mem_cons_self))) (fun k hk => .inl hk) hnd ⟨⟨h0, _, .inr rfl, ?_⟩, ?_⟩ rfl rfl rfl
  ·simp [World.setCell, Array.getElem?_modify, h2]
  ·rcases h3 with h3 | ⟨g, cap, rc, rfl, h4, h5, h6⟩
   ·exact .inl h3
   ·exact .inr ⟨g, cap, rc, rfl, by rw [hk g (fun e => by subst e; simp [bufB] at hnd)]; exact h4, h5, h6⟩
 ·refine (Any.Builder_copyCheck_used L X b w (by rw [cell_of h2]; rfl)).mono ?_
  rintro _ w' ⟨rfl, rfl⟩
  exact ⟨_, _, _, I, rfl, .refl I, ⟨rfl, rfl⟩, ht, hs⟩
end Go.HL
end
section
namespace Go.HL
open Go
/-- The pieces of a string between the places where a byte stands. -/
def spl (c : UInt8) : Str → List Str
 | [] => [[]]
 | b :: l => if b = c then [] :: spl c l else match spl c l with
   | [] => [[b]]
   | x :: r => (b :: x) :: r
theorem spl_ne (c : UInt8) (s : Str) : spl c s ≠ [] := by
 cases s with
 | nil => simp [spl]
 | cons b l =>
   simp only [spl]
   split
   ·simp
   ·split <;> simp
theorem spl_cons {c : UInt8} (s : Str) : ∃ x r, spl c s = x :: r := by
 cases h : spl c s with
 | nil => exact absurd h (spl_ne c s)
 | cons x r => exact ⟨x, r, rfl⟩
theorem spl_eq (c : UInt8) (l : Str) : spl c (c :: l) = [] :: spl c l := by simp [spl]
theorem spl_of_ne {b c : UInt8} (h : b ≠ c) {l x : Str} {r : List Str} (hl : spl c l = x :: r) : spl c (b :: l) = (b :: x) :: r := by
 simp only [spl, h, if_false, hl]
theorem spl_len (c : UInt8) : ∀ s : Str, (spl c s).length = s.count c + 1
 | [] => rfl
 | b :: l => by
   have ih := spl_len c l
   by_cases h : b = c
   ·subst h; rw [spl_eq, List.count_cons_self]; simp [ih]
   ·obtain ⟨x, r, hx⟩ := spl_cons (c := c) l
    rw [spl_of_ne h hx, List.count_cons_of_ne h, ← ih, hx]; simp
theorem index_ge0 {s : Str} {c : UInt8} (h : 0 < s.count c) : ∃ i : Nat, Lib.index s [c] = i := by
 rcases Int.lt_or_le (Lib.index s [c]) 0 with h' | h'
 ·have h1 : Lib.index s [c] = -1 := by have := Lib.index_ge s [c]; omega
  have := Lib.count_miss h1
  rw [Lib.count_one] at this
  omega
 ·exact ⟨_, (Int.toNat_of_nonneg h').symm⟩
theorem index_self (c : UInt8) (l : Str) : Lib.index (c :: l) [c] = 0 := by simp [Lib.index]
theorem index_next {b c : UInt8} (h : b ≠ c) (l : Str) {i : Nat} (hi : Lib.index l [c] = i) : Lib.index (b :: l) [c] = ((i + 1 : Nat) : Int) := by
 have h1 : ([c] : Str).isPrefixOf (b :: l) = false := by simp [List.isPrefixOf, Ne.symm h]
 unfold Lib.index
 rw [h1, hi]
 have h2 : ((i : Int) == -1) = false := by simp
 rw [h2]; simp
theorem splitK_spl (c : UInt8) : ∀ s : Str, Lib.splitK [c] 0 (s.count c) s = spl c s
 | [] => rfl
 | b :: l => by
   have ih := splitK_spl c l
   by_cases h : b = c
   ·subst h
    rw [spl_eq, List.count_cons_self, ← ih]
    simp only [Lib.splitK, index_self]
    simp
   ·rw [List.count_cons_of_ne h]
    cases hk : l.count c with
    | zero =>
      rw [hk] at ih
      have h1 : spl c l = [l] := ih.symm
      rw [spl_of_ne h h1]; rfl
    | succ k =>
      obtain ⟨i, hi⟩ := index_ge0 (s := l) (c := c) (by omega)
      have h0 := index_next h l hi
      rw [hk] at ih
      have e1 : Lib.splitK [c] 0 (k + 1) l = l.take i :: Lib.splitK [c] 0 k (l.drop (i + 1)) := by
       simp only [Lib.splitK, hi]
       have h2 : ((i : Int) == -1) = false := by simp
       rw [h2]; simp
      have e2 : Lib.splitK [c] 0 (k + 1) (b :: l) = (b :: l.take i) :: Lib.splitK [c] 0 k (l.drop (i + 1)) := by
       simp only [Lib.splitK, h0]
       have h2 : (((i + 1 : Nat) : Int) == -1) = false := by simp; omega
       rw [h2]; simp
      rw [e1] at ih
      rw [e2, spl_of_ne h ih.symm]
theorem split_spl (s : Str) (c : UInt8) : (Lib.splitB ⟨#[c]⟩ 0 (Lib.countB ⟨s.toArray⟩ ⟨#[c]⟩) ⟨s.toArray⟩).map (·.data.toList) = spl c s := by
 rw [Lib.splitB_data]
 have : Lib.countB ⟨s.toArray⟩ ⟨#[c]⟩ = s.count c := Lib.count_one c s
 rw [this]
 exact splitK_spl c s
/-- Cut at a byte. -/
def cutF (c : UInt8) : Str → Str × Str × Bool
 | [] => ([], [], false)
 | b :: l => if b = c then ([], l, true) else (b :: (cutF c l).1, (cutF c l).2.1, (cutF c l).2.2)
theorem cut_cutF (c : UInt8) : ∀ s : Str, Lib.cut s [c] = cutF c s
 | [] => by simp [Lib.cut, cutF, Lib.index]
 | b :: l => by
   have ih := cut_cutF c l
   by_cases h : b = c
   ·subst h; simp [Lib.cut, cutF, index_self]
   ·simp only [cutF, h, if_false, ← ih]
    rcases Int.lt_or_le (Lib.index l [c]) 0 with h' | h'
    ·have h1 : Lib.index l [c] = -1 := by have := Lib.index_ge l [c]; omega
     have h2 : ([c] : Str).isPrefixOf (b :: l) = false := by simp [List.isPrefixOf, Ne.symm h]
     have h3 : Lib.index (b :: l) [c] = -1 := by unfold Lib.index; rw [h2, h1]; rfl
     simp only [Lib.cut, h1, h3]
     rfl
    ·obtain ⟨i, hi⟩ : ∃ i : Nat, Lib.index l [c] = i := ⟨_, (Int.toNat_of_nonneg h').symm⟩
     have h3 := index_next h l hi
     simp only [Lib.cut, hi, h3]
     rw [if_pos (by omega), if_pos (by omega)]
     simp
theorem cutF_spl (c : UInt8) : ∀ s : Str, (cutF c s).2.2 = true → spl c s = (cutF c s).1 :: spl c (cutF c s).2.1
 | [], h => by simp [cutF] at h
 | b :: l, h => by
   by_cases hb : b = c
   ·subst hb; simp [spl, cutF]
   ·simp only [cutF, hb, if_false] at h ⊢
    exact spl_of_ne hb (cutF_spl c l h)
theorem cutF_no (c : UInt8) : ∀ s : Str, (cutF c s).2.2 = false → spl c s = [s]
 | [], _ => rfl
 | b :: l, h => by
   by_cases hb : b = c
   ·subst hb; simp [cutF] at h
   ·simp only [cutF, hb, if_false] at h
    exact spl_of_ne hb (cutF_no c l h)
theorem cutF_len (c : UInt8) : ∀ s : Str, (cutF c s).1.length ≤ s.length ∧ (cutF c s).2.1.length ≤ s.length ∧ ((cutF c s).2.2 = true → (cutF c s).2.1.length < s.length)
 | [] => by simp [cutF]
 | b :: l => by
   have ih := cutF_len c l
   by_cases hb : b = c
   ·subst hb; simp [cutF]
   ·simp only [cutF, hb, if_false, List.length_cons]
    exact ⟨by omega, by omega, fun h => by have := ih.2.2 h; omega⟩
theorem spl_mem_len (c : UInt8) : ∀ (s : Str), ∀ x ∈ spl c s, x.length ≤ s.length
 | [], x, hx => by simp [spl] at hx; subst hx; simp
 | b :: l, x, hx => by
   have ih := spl_mem_len c l
   by_cases hb : b = c
   ·subst hb
    rw [spl_eq] at hx
    rcases List.mem_cons.1 hx with rfl | hx
    ·simp
    ·have := ih x hx; simp only [List.length_cons]; omega
   ·obtain ⟨y, r, hy⟩ := spl_cons (c := c) l
    rw [spl_of_ne hb hy] at hx
    rcases List.mem_cons.1 hx with rfl | hx
    ·have := ih y (by rw [hy]; simp); simp only [List.length_cons]; omega
    ·have := ih x (by rw [hy]; simp [hx]); simp only [List.length_cons]; omega
end Go.HL
end
section
namespace Go.HL
open Go.Proofs Go.Shelf Go.RowKit
variable {P : Program}
theorem VL.two {I : Imm} {c d : HVal} {vs : List Value} (h : VL I [c, d] vs) : ∃ u v, vs = [u, v] ∧ V I c u ∧ V I d v := by
 match vs, h with
 | [u, v], h => exact ⟨u, v, rfl, h.head, h.tail.head⟩
 | [], h => have := h.1; simp at this
 | [_], h => have := h.1; simp at this
 | _ :: _ :: _ :: _, h => have := h.1; simp at this
theorem bsz (s : Str) : (⟨s.toArray⟩ : ByteArray).size = s.length := by simp [ByteArray.size]
/-- A row of strings that the call laid. -/
theorem v_strs [Tracks] {I : Imm} {b : Nat} {l : List Str} {t : TypeId} {fr : Nat × Nat} {xs : List ByteArray} (hx : xs.map (·.data.toList) = l) (hI : I.heap b = some (.cells (xs.map Value.string).toArray t fr)) (n : Nat) (hn : n = l.length) :
 V I (.slice 1 (l.map .str)) (.slice (some ⟨b, 0, none⟩) n n) := by
 have hl : n = (l.map HVal.str).length := by rw [hn, List.length_map]
 rw [hl]
 have hxl : xs.length = l.length := by rw [← hx, List.length_map]
 refine V.slice hI (fun e he => ?_) (Nat.le_refl _) (by simp [hxl]) (fun i j e c v h1 h2 h3 => ?_)
 ·obtain ⟨s, _, rfl⟩ := List.mem_map.1 he; rfl
 ·rw [List.getElem?_map] at h1
  cases hq : l[i]? with
  | none => rw [hq] at h1; cases h1
  | some s =>
    rw [hq] at h1
    simp at h1
    subst h1
    have hj : j = 0 := by
     have := lt_of_get h2
     simp [hcells] at this; omega
    subst hj
    simp [hcells] at h2
    subst h2
    simp only [Nat.zero_add, Nat.mul_one, Nat.add_zero, List.getElem?_toArray, List.getElem?_map] at h3
    rw [← hx, List.getElem?_map] at hq
    cases hr : xs[i]? with
    | none => rw [hr] at hq; cases hq
    | some y =>
      rw [hr] at hq h3
      simp at hq h3
      subst h3
      rw [← hq]
      exact .str _
theorem conp_split [Tracks] {ρ : Ren} (L : Lays.n146 P ρ) (hi9 : (P.info? (ρ.t 9)).map (fun i => (i.zero, i.size, i.bytes)) = some (some (.string ByteArray.empty), 1, 16)) (hg : P.globalNamed "internal/bytealg.MaxLen" = some (ρ.g 1)) {s : Str} {c : UInt8} (hs : s.length < 4294967281) :
 ConP P (ρ.f 146) [.str s, .str [c]] (.slice 1 ((spl c s).map .str)) := by
 intro I F w args ha hs0
 obtain ⟨u, v, rfl, hu, hv⟩ := ha.two
 obtain rfl := hu.str_inv
 obtain rfl := hv.str_inv
 obtain ⟨m, hm⟩ := hs0.maxLen hg
 refine (Any.strings_Split L hi9 ⟨s.toArray⟩ ⟨[c].toArray⟩ m w (by rw [bsz]; exact hs) hm (by rw [bsz]; simp)).mono ?_
 rintro _ w' ⟨rfl, rfl⟩
 obtain ⟨hle, hsat⟩ := Sat.new_imm hs0 (.cells ((Lib.splitB ⟨[c].toArray⟩ 0 (Lib.countB ⟨s.toArray⟩ ⟨[c].toArray⟩) ⟨s.toArray⟩).map Value.string).toArray (ρ.t 9))
 refine ⟨_, _, [], _, rfl, hle, ⟨rfl, rfl⟩, v_strs (split_spl s c) Imm.add_self _ ?_, hsat⟩
 have : Lib.countB ⟨s.toArray⟩ ⟨[c].toArray⟩ = s.count c := Lib.count_one c s
 rw [this, spl_len]
theorem conp_cutSuffix [Tracks] {ρ : Ren} (L : Lays.n104 P ρ) {s p : Str} (hs : s.length ≤ 4294967281) : ConP P (ρ.f 104) [.str s, .str p] (.tup [.str (Lib.trimSuffix s p), .bool (Lib.hasSuffix s p)]) :=
 conp_of_calls fun I w args ha => by
  obtain ⟨u, v, rfl, hu, hv⟩ := ha.two
  obtain rfl := hu.str_inv
  obtain rfl := hv.str_inv
  refine ⟨_, ?_, Any.strings_CutSuffix L ⟨s.toArray⟩ ⟨p.toArray⟩ w (by rw [bsz]; omega)⟩
  have hV := VL.cons (V.str (I := I) (Lib.trimSuffix s p)) (VL.cons (V.bool (Lib.hasSuffix s p)) VL.nil)
  exact .tup hV.1 (by simpa using hV.2)
theorem conp_cut [Tracks] {ρ : Ren} (L : Lays.n145 P ρ) (hg : P.globalNamed "internal/bytealg.MaxLen" = some (ρ.g 1)) {s : Str} {c : UInt8} (hs : s.length < 4294967281) :
 ConP P (ρ.f 145) [.str s, .str [c]] (.tup [.str (cutF c s).1, .str (cutF c s).2.1, .bool (cutF c s).2.2]) := by
 intro I F w args ha hs0
 obtain ⟨u, v, rfl, hu, hv⟩ := ha.two
 obtain rfl := hu.str_inv
 obtain rfl := hv.str_inv
 obtain ⟨m, hm⟩ := hs0.maxLen hg
 refine (Any.strings_Cut L ⟨s.toArray⟩ ⟨[c].toArray⟩ m w (by rw [bsz]; exact hs) hm).mono ?_
 rintro _ w' ⟨rfl, n, rfl⟩
 refine ⟨_, _, [], I, rfl, .refl I, ⟨rfl, rfl⟩, ?_, hs0.of_same (fun _ _ => rfl) (fun _ _ => rfl) rfl rfl rfl (fun _ => by simp [World.drewN])⟩
 simp only [show ((⟨s.toArray⟩ : ByteArray).data.toList : Str) = s from rfl, show ((⟨[c].toArray⟩ : ByteArray).data.toList : Str) = [c] from rfl, cut_cutF]
 have hV := VL.cons (V.str (I := I) (cutF c s).1) (VL.cons (V.str (cutF c s).2.1) (VL.cons (V.bool (cutF c s).2.2) VL.nil))
 exact .tup hV.1 (by simpa using hV.2)
end Go.HL
end
section
namespace Go.HL
variable {P : Program}
def BufV (s : List UInt8) (v : Value) : Prop := (v = .slice none 0 0 ∧ s = []) ∨ ∃ g cap, 0 < cap ∧ v = .slice (some ⟨g, 0, none⟩) s.length cap
theorem MSat.bufV {I : Imm} {w : World} {b : Nat} {T el : TypeId} {h v : Value} {s : List UInt8} (hm : MSat I w (.bld b T el h v s)) : BufV s v := by
 rcases hm.2 with h | ⟨g, cap, rc, h, _, h5, _⟩
 ·exact .inl h
 ·exact .inr ⟨g, cap, h5.1, h⟩
theorem hw_bldc [Tracks] {n : Nat} {c : Code} {e : Env} {M : List MObj} {Q : Exit → Env → List MObj → Prop} {i b : Nat} {T el : TypeId} {h v : Value} {s : List UInt8} (hm : M[i]? = some (.bld b T el h v s)) (k : BufV s v → HWp P n c e M Q) : HWp P n c e M Q :=
 fun I F a w h1 h2 h3 h4 => k (h4.obj _ (List.mem_append_left _ (List.mem_of_getElem? hm))).bufV I F a w h1 h2 h3 h4
section
variable {e : Env} {dst : Option Tmp} {ty : TypeId} {pos : String} {af : Array Edge} {g : Option (Nat × Bool)} {M : List MObj} {K : HVal → List MObj → Prop}
theorem pop_dataV [Tracks] {x : Operand} {ats : Array TypeId} {v : Value} {s : List UInt8} (hb : BufV s v) (hx : evalO e x = some (.raw v)) : POp P e ⟨dst, .call ⟨.builtin .unsafeSliceData, #[x], ats⟩, ty, pos, af, g⟩ (.raw (dataP v)) :=
 POp.of_run fun I F a w ho hs => by
  have h1 := (ho.one (x := x) (by simp [Op.operands, Call.operands]) hx).raw_inv
  have hr : ∀ r : Sem Value, Builtin.unsafeSliceData_ ats ty #[v] = r → (execOp a.eval ⟨dst, .call ⟨.builtin .unsafeSliceData, #[x], ats⟩, ty, pos, af, g⟩).run P w = (r.run P w).andThen (fun v w => .ok (.value v) w) := by
   rintro r rfl
   simp [execOp, resolve, invoke, builtin, h1]
  refine ⟨dataP v, _, I, ?_, .refl I, .raw _ ?_, hs⟩
  ·rw [hr _ rfl]
   rcases hb with ⟨rfl, _⟩ | ⟨g, cap, h5, rfl⟩
   ·rfl
   ·rw [Lib.run_unsafeSliceData_row w _ _ _ _ _ (by omega)]; rfl
  ·rcases hb with ⟨rfl, _⟩ | ⟨g, cap, h5, rfl⟩ <;> rfl
theorem pop_lenV [Tracks] {x : Operand} {t tel : TypeId} {size bytes : Nat} {zero : Value} {v : Value} {s : List UInt8} (hf : Fits P t (.slice tel) size bytes zero) (hb : BufV s v) (hx : evalO e x = some (.raw v)) : POp P e ⟨dst, .call ⟨.builtin .len, #[x], #[t]⟩, ty, pos, af, g⟩ (.int .i64 s.length) :=
 POp.of_run fun I F a w ho hs => by
  have h1 := (ho.one (x := x) (by simp [Op.operands, Call.operands]) hx).raw_inv
  obtain ⟨a', cap, h2⟩ : ∃ a' cap, v = .slice a' s.length cap := by
   rcases hb with ⟨rfl, rfl⟩ | ⟨g, cap, _, rfl⟩
   ·exact ⟨_, _, rfl⟩
   ·exact ⟨_, _, rfl⟩
  exact ⟨.int .i64 s.length, w, I, by rw [run_len (ats := #[])]; simp [h1, h2, Builtin.len_, run_underlying hf.slice, goInt], .refl I, .int _ _, hs⟩
/-- The builder's bytes as a string; its header stays. -/
theorem eop_strH [Tracks] {x y : Operand} {pt it : TypeId} {i b : Nat} {T el : TypeId} {h v : Value} {s : List UInt8} (hpt : P.underlying pt = some (.pointer el)) (hc : P.cellsOf el = 1)
 (hx : evalO e x = some (.raw (dataP v))) (hy : evalO e y = some (.int .i64 s.length)) (hm : M[i]? = some (.bld b T el h v s))
 (hk : K (.str s) (M.set i (.cells b [.junk, .raw h]))) : EOp P e M ⟨dst, .call ⟨.builtin .unsafeString, #[x, y], #[pt, it]⟩, ty, pos, af, g⟩ K :=
 EOp.of_run fun I F a w ho hs => by
  have h1 := (ho.one (x := x) (by simp [Op.operands, Call.operands]) hx).raw_inv
  have h2 := (ho.one (x := y) (by simp [Op.operands, Call.operands]) hy).int_inv
  have hp := hs.pull hm
  obtain ⟨hnd, hap, him⟩ := hp.bld_nodup
  obtain ⟨⟨h0, p, hpp, hhd⟩, h3⟩ := hp.obj _ List.mem_cons_self
  have hr : ∀ r : Sem Value, Builtin.unsafeString_ #[pt, it] ty #[dataP v, .int .i64 s.length] = r → (execOp a.eval ⟨dst, .call ⟨.builtin .unsafeString, #[x, y], #[pt, it]⟩, ty, pos, af, g⟩).run P w = (r.run P w).andThen (fun v w => .ok (.value v) w) := by
   rintro r rfl
   simp [execOp, resolve, invoke, builtin, h1, h2]
  have key : ∀ w' : World, (∀ k, k ∉ bufB v → w'.heap[k]? = w.heap[k]?) → w'.os = w.os ∧ w'.output = w.output ∧ w'.tape = w.tape ∧ w'.drawn = w.drawn → Sat P I ((M.set i (.cells b [.junk, .raw h])) ++ F) w' := fun w' hk hfo => by
   refine Sat.unpull hm (hp.change (m' := .cells b [.junk, .raw h]) (fun k _ hnk => hk k fun hk' => hnk (by simp only [MObj.blocks]; exact List.mem_cons_of_mem _ hk')) (fun k hk => .inl ?_) (by simp [MObj.blocks]) ?_ hfo.1 hfo.2.1 hfo.2.2.1 (fun _ => Nat.le_of_eq hfo.2.2.2.symm))
   ·simp [MObj.blocks] at hk ⊢; exact .inl hk
   ·refine ⟨#[p, h], T, (0, 0), ?_, Free.zero _, ?_⟩
    ·rw [hk b (List.nodup_cons.1 hnd).1]; exact hhd
    ·exact VL.cons (.junk _) (VL.cons (.raw _ h0) VL.nil)
  by_cases hs0 : s = []
  ·subst hs0
   refine ⟨.string .empty, _, _, w, I, ?_, .refl I, hk, .str [], key w (fun _ _ => rfl) ⟨rfl, rfl, rfl, rfl⟩⟩
   rw [hr _ rfl]
   rcases h3 with ⟨rfl, _⟩ | ⟨g, cap, rc, rfl, h4, h5, h6⟩
   ·simp only [dataP, List.length_nil, Int.ofNat_zero]; erw [Lib.run_unsafeString_none w]; rfl
   ·simp only [dataP, List.length_nil, Int.ofNat_zero]; erw [Lib.run_unsafeString_none w]; rfl
  ·rcases h3 with ⟨rfl, h0⟩ | ⟨g, cap, rc, rfl, h4, h5, h6⟩
   ·exact absurd h0 hs0
   ·refine ⟨.string ⟨s.toArray⟩, _, _, w.freeze ⟨g, 0, none⟩ s.length, I, ?_, .refl I, hk, .str s, ?_⟩
    ·rw [hr _ rfl]
     simp only [dataP]
     rw [Lib.run_unsafeString_row w pt it ty el hpt hc g rc.size (by simp [World.shape?, h4]) s hs0 (by omega) (by omega) (fun j c hj => by rw [addr_add, cell_of h4]; simpa using h6 j c hj)]
     rfl
    ·refine key _ (fun k hk => ?_) ?_
     ·have hkg : k ≠ g := fun e => hk (by simp [bufB, e])
      unfold World.freeze
      split
      ·rfl
      ·simp only [Array.getElem?_modify]
       rw [if_neg (fun e => hkg e.symm)]
     ·unfold World.freeze; split <;> exact ⟨rfl, rfl, rfl, rfl⟩
end
end Go.HL
end
section
namespace Go.Proofs
open Go.Shelf
def Tryz.lays138_ren : Go.Shelf.Ren := ⟨fun | 138 => 144 | 195 => 191 | 218 => 192 | 143 => 145 | 219 => 190 | 217 => 115 | 225 => 217 | 224 => 218 | 267 => 219 | 266 => 154 | 314 => 237 | n => n, fun | 9 => 9 | 3 => 3 | 4 => 4 | 5 => 5 | 0 => 0 | 46 => 181 | 146 => 265 | 51 => 221 | n => n, fun | 1 => 0 | n => n⟩
def Tryz.lays145_ren : Go.Shelf.Ren := ⟨fun | 145 => 105 | 220 => 142 | 219 => 190 | 217 => 115 | 225 => 217 | 224 => 218 | 267 => 219 | 266 => 154 | 314 => 237 | n => n, fun | 9 => 9 | 4 => 4 | 59 => 142 | 3 => 3 | 5 => 5 | 46 => 181 | 146 => 265 | 51 => 221 | n => n, fun | 1 => 0 | n => n⟩
theorem Tryz.lays145 : Go.Proofs.Lays.n145 Tryz.prog Tryz.lays145_ren := {
 mixed := by kernel_rfl
 f145 := Tryz.func105.trans (congrArg some (by kernel_rfl))
 f217 := Tryz.func115.trans (congrArg some (by kernel_rfl))
 f219 := Tryz.func190.trans (congrArg some (by kernel_rfl))
 f220 := Tryz.func142.trans (congrArg some (by kernel_rfl))
 f224 := Tryz.func218.trans (congrArg some (by kernel_rfl))
 f225 := Tryz.func217.trans (congrArg some (by kernel_rfl))
 f266 := Tryz.func154.trans (congrArg some (by kernel_rfl))
 f267 := Tryz.func219.trans (congrArg some (by kernel_rfl))
 f314 := Tryz.func237.trans (congrArg some (by kernel_rfl))
 t3 := Tryz.underlying3
 a3 := Tryz.isAgg3
 z3 := Tryz.sizeOf3
 v3 := Tryz.zeroValue3
 t4 := Tryz.underlying4
 a4 := Tryz.isAgg4
 z4 := Tryz.sizeOf4
 v4 := Tryz.zeroValue4
 t5 := Tryz.underlying5
 a5 := Tryz.isAgg5
 z5 := Tryz.sizeOf5
 v5 := Tryz.zeroValue5
 t9 := Tryz.underlying9
 a9 := Tryz.isAgg9
 z9 := Tryz.sizeOf9
 v9 := Tryz.zeroValue9
 t46 := Tryz.underlying181
 a46 := Tryz.isAgg181
 z46 := Tryz.sizeOf181
 v46 := Tryz.zeroValue181
 t51 := Tryz.underlying221
 a51 := Tryz.isAgg221
 z51 := Tryz.sizeOf221
 v51 := Tryz.zeroValue221
 t59 := Tryz.underlying142
 a59 := Tryz.isAgg142
 z59 := Tryz.sizeOf142
 v59 := Tryz.zeroValue142
 t146 := Tryz.underlying265
 a146 := Tryz.isAgg265
 z146 := Tryz.sizeOf265
 v146 := Tryz.zeroValue265
 g1 := by kernel_rfl }
def Tryz.lays146_ren : Go.Shelf.Ren := ⟨fun | 146 => 72 | 221 => 106 | 268 => 143 | 138 => 144 | 143 => 145 | 195 => 191 | 197 => 151 | 218 => 192 | 219 => 190 | 260 => 197 | 217 => 115 | 225 => 217 | 224 => 218 | 267 => 219 | 266 => 154 | 314 => 237 | n => n, fun | 9 => 9 | 31 => 44 | 3 => 3 | 4 => 4 | 0 => 0 | 105 => 191 | 21 => 21 | 5 => 5 | 46 => 181 | 119 => 247 | 139 => 250 | 138 => 249 | 146 => 265 | 51 => 221 | n => n, fun | 1 => 0 | 3 => 4 | 4 => 5 | n => n⟩
theorem Tryz.lays146 : Go.Proofs.Lays.n146 Tryz.prog Tryz.lays146_ren := {
 mixed := by kernel_rfl
 f138 := Tryz.func144.trans (congrArg some (by kernel_rfl))
 f143 := Tryz.func145.trans (congrArg some (by kernel_rfl))
 f146 := Tryz.func72.trans (congrArg some (by kernel_rfl))
 f195 := Tryz.func191.trans (congrArg some (by kernel_rfl))
 f197 := Tryz.func151.trans (congrArg some (by kernel_rfl))
 f217 := Tryz.func115.trans (congrArg some (by kernel_rfl))
 f218 := Tryz.func192.trans (congrArg some (by kernel_rfl))
 f219 := Tryz.func190.trans (congrArg some (by kernel_rfl))
 f221 := Tryz.func106.trans (congrArg some (by kernel_rfl))
 f224 := Tryz.func218.trans (congrArg some (by kernel_rfl))
 f225 := Tryz.func217.trans (congrArg some (by kernel_rfl))
 f260 := Tryz.func197.trans (congrArg some (by kernel_rfl))
 f266 := Tryz.func154.trans (congrArg some (by kernel_rfl))
 f267 := Tryz.func219.trans (congrArg some (by kernel_rfl))
 f268 := Tryz.func143.trans (congrArg some (by kernel_rfl))
 f314 := Tryz.func237.trans (congrArg some (by kernel_rfl))
 t0 := Tryz.underlying0
 a0 := Tryz.isAgg0
 z0 := Tryz.sizeOf0
 v0 := Tryz.zeroValue0
 t3 := Tryz.underlying3
 a3 := Tryz.isAgg3
 z3 := Tryz.sizeOf3
 v3 := Tryz.zeroValue3
 t4 := Tryz.underlying4
 a4 := Tryz.isAgg4
 z4 := Tryz.sizeOf4
 v4 := Tryz.zeroValue4
 t5 := Tryz.underlying5
 a5 := Tryz.isAgg5
 z5 := Tryz.sizeOf5
 v5 := Tryz.zeroValue5
 t9 := Tryz.underlying9
 a9 := Tryz.isAgg9
 z9 := Tryz.sizeOf9
 v9 := Tryz.zeroValue9
 t21 := Tryz.underlying21
 a21 := Tryz.isAgg21
 z21 := Tryz.sizeOf21
 v21 := Tryz.zeroValue21
 t31 := Tryz.underlying44
 a31 := Tryz.isAgg44
 z31 := Tryz.sizeOf44
 v31 := Tryz.zeroValue44
 t46 := Tryz.underlying181
 a46 := Tryz.isAgg181
 z46 := Tryz.sizeOf181
 v46 := Tryz.zeroValue181
 t51 := Tryz.underlying221
 a51 := Tryz.isAgg221
 z51 := Tryz.sizeOf221
 v51 := Tryz.zeroValue221
 t105 := Tryz.underlying191
 a105 := Tryz.isAgg191
 z105 := Tryz.sizeOf191
 v105 := Tryz.zeroValue191
 t119 := Tryz.underlying247
 a119 := Tryz.isAgg247
 z119 := Tryz.sizeOf247
 t138 := Tryz.underlying249
 a138 := Tryz.isAgg249
 z138 := Tryz.sizeOf249
 v138 := Tryz.zeroValue249
 t139 := Tryz.underlying250
 a139 := Tryz.isAgg250
 z139 := Tryz.sizeOf250
 v139 := Tryz.zeroValue250
 t146 := Tryz.underlying265
 a146 := Tryz.isAgg265
 z146 := Tryz.sizeOf265
 v146 := Tryz.zeroValue265
 g1 := by kernel_rfl
 g3 := by kernel_rfl
 g4 := by kernel_rfl }
def Tryz.lays104_ren : Go.Shelf.Ren := ⟨fun | 104 => 118 | 211 => 155 | 207 => 200 | n => n, fun | 9 => 9 | 4 => 4 | 24 => 155 | 3 => 3 | n => n, fun | n => n⟩
theorem Tryz.lays104 : Go.Proofs.Lays.n104 Tryz.prog Tryz.lays104_ren := {
 mixed := by kernel_rfl
 f104 := Tryz.func118.trans (congrArg some (by kernel_rfl))
 f207 := Tryz.func200.trans (congrArg some (by kernel_rfl))
 f211 := Tryz.func155.trans (congrArg some (by kernel_rfl))
 t3 := Tryz.underlying3
 a3 := Tryz.isAgg3
 z3 := Tryz.sizeOf3
 v3 := Tryz.zeroValue3
 t4 := Tryz.underlying4
 a4 := Tryz.isAgg4
 z4 := Tryz.sizeOf4
 v4 := Tryz.zeroValue4
 t9 := Tryz.underlying9
 a9 := Tryz.isAgg9
 z9 := Tryz.sizeOf9
 v9 := Tryz.zeroValue9
 t24 := Tryz.underlying155
 a24 := Tryz.isAgg155
 z24 := Tryz.sizeOf155
 v24 := Tryz.zeroValue155 }
end Go.Proofs
end
section
namespace Go.Proofs
open Go.Shelf
def Tryz.lays240_ren : Go.Shelf.Ren := ⟨fun | 240 => 79 | 276 => 117 | n => n, fun | 0 => 0 | 4 => 4 | 9 => 9 | 20 => 20 | 70 => 67 | 72 => 70 | 164 => 153 | 37 => 68 | n => n, fun n => n⟩
theorem Tryz.lays240 : Go.Proofs.Lays.n240 Tryz.prog Tryz.lays240_ren := {
 mixed := by kernel_rfl
 f240 := Tryz.func79.trans (congrArg some (by kernel_rfl))
 f276 := Tryz.func117.trans (congrArg some (by kernel_rfl))
 t0 := Tryz.underlying0
 a0 := Tryz.isAgg0
 z0 := Tryz.sizeOf0
 v0 := Tryz.zeroValue0
 t4 := Tryz.underlying4
 a4 := Tryz.isAgg4
 z4 := Tryz.sizeOf4
 v4 := Tryz.zeroValue4
 t9 := Tryz.underlying9
 a9 := Tryz.isAgg9
 z9 := Tryz.sizeOf9
 v9 := Tryz.zeroValue9
 t20 := Tryz.underlying20
 a20 := Tryz.isAgg20
 z20 := Tryz.sizeOf20
 v20 := Tryz.zeroValue20
 t70 := Tryz.underlying67
 a70 := Tryz.isAgg67
 z70 := Tryz.sizeOf67
 v70 := Tryz.zeroValue67
 t72 := Tryz.underlying70
 a72 := Tryz.isAgg70
 z72 := Tryz.sizeOf70
 v72 := Tryz.zeroValue70
 t164 := Tryz.underlying153
 a164 := Tryz.isAgg153
 z164 := Tryz.sizeOf153
 v164 := Tryz.zeroValue153
}
end Go.Proofs
end
section
namespace Go.HL
theorem decFrom_app : ∀ (l m : List UInt8) (acc : Nat), Lib.decFrom acc (l ++ m) = (Lib.decFrom acc l).bind fun a => Lib.decFrom a m
 | [], m, acc => rfl
 | b :: l, m, acc => by
   simp only [List.cons_append, Lib.decFrom]
   cases Lib.digitVal b with
   | none => rfl
   | some d => exact decFrom_app l m _
theorem digit_ok : ∀ d, d < 10 → Lib.digitVal (UInt8.ofNat (48 + d)) = some d ∧ dig (UInt8.ofNat (48 + d)) = true ∧ dig10.contains (UInt8.ofNat (48 + d)) = true := by decide
theorem digits_read : ∀ u : Nat, Lib.decFrom 0 (Lib.decDigits u) = some u := fun u => by
 induction u using Nat.strongRecOn with
 | ind u ih =>
   rw [Lib.decDigits]
   by_cases h : u < 10
   ·rw [dif_pos h]
    simp only [Lib.decFrom, (digit_ok u h).1]; simp
   ·rw [dif_neg h, decFrom_app, ih (u / 10) (by omega)]
    simp only [Option.bind_some, Lib.decFrom, (digit_ok (u % 10) (by omega)).1]
    congr 1; omega
theorem digits_mem : ∀ (u : Nat) (c : UInt8), c ∈ Lib.decDigits u → ∃ d, d < 10 ∧ c = UInt8.ofNat (48 + d) := fun u => by
 induction u using Nat.strongRecOn with
 | ind u ih =>
   intro c hc
   rw [Lib.decDigits] at hc
   by_cases h : u < 10
   ·rw [dif_pos h] at hc
    exact ⟨u, h, by simpa using hc⟩
   ·rw [dif_neg h] at hc
    rcases List.mem_append.1 hc with hc | hc
    ·exact ih (u / 10) (by omega) c hc
    ·exact ⟨u % 10, by omega, by simpa using hc⟩
theorem digits_ne (u : Nat) : Lib.decDigits u ≠ [] := by
 rw [Lib.decDigits]; split <;> simp
theorem digits_cons (u : Nat) : ∃ d r, d < 10 ∧ Lib.decDigits u = UInt8.ofNat (48 + d) :: r := by
 cases h : Lib.decDigits u with
 | nil => exact absurd h (digits_ne u)
 | cons c r =>
   obtain ⟨d, hd, e⟩ := digits_mem u c (by rw [h]; exact List.mem_cons_self)
   exact ⟨d, r, hd, by rw [e]⟩
theorem digit_head : ∀ d, d < 10 → (UInt8.ofNat (48 + d) == 45) = false ∧ (UInt8.ofNat (48 + d) == 43) = false ∧ UInt8.ofNat (48 + d) ≠ 45 := by decide
theorem nDigits_le : ∀ (k u : Nat), u < 10 ^ (k + 1) → Lib.nDigits u ≤ k + 1
 | 0, u, h => by rw [Lib.nDigits_small (by simpa using h)]; omega
 | k + 1, u, h => by
   by_cases h1 : u < 10
   ·rw [Lib.nDigits_small h1]; omega
   ·rw [Lib.nDigits_big h1]
    have := nDigits_le k (u / 10) (by rw [Nat.pow_succ] at h; omega)
    omega
theorem dropW_all {p : UInt8 → Bool} : ∀ {s : Str}, (∀ c ∈ s, p c = true) → s.dropWhile p = []
 | [], _ => rfl
 | c :: s, h => by
   rw [List.dropWhile_cons, if_pos (h c List.mem_cons_self)]
   exact dropW_all fun x hx => h x (List.mem_cons_of_mem _ hx)
theorem cut_digits (u : Nat) : cutMinus (Lib.decDigits u) = Lib.decDigits u := by
 obtain ⟨d, r, hd, e⟩ := digits_cons u
 rw [e]
 unfold cutMinus
 split
 ·rename_i heq
  exact absurd (List.cons.inj heq).1 (digit_head d hd).2.2
 ·rfl
theorem dropW_nil {p : UInt8 → Bool} : ∀ {s : Str}, s.dropWhile p = [] → ∀ c ∈ s, p c = true
 | [], _, c, hc => by cases hc
 | x :: s, h, c, hc => by
   rw [List.dropWhile_cons] at h
   split at h
   ·rcases List.mem_cons.1 hc with rfl | hc
    ·assumption
    ·exact dropW_nil h c hc
   ·cases h
theorem dropW_sub {p : UInt8 → Bool} : ∀ {s : Str} (c : UInt8), c ∈ s → p c = true ∨ c ∈ s.dropWhile p
 | x :: s, c, hc => by
   rw [List.dropWhile_cons]
   split
   ·rename_i hx
    rcases List.mem_cons.1 hc with rfl | hc
    ·exact .inl hx
    ·exact dropW_sub c hc
   ·exact .inr hc
theorem trim10_nil {s : Str} (h : trim10 s = []) : ∀ c ∈ s, dig10.contains c = true := fun c hc => by
 unfold trim10 at h
 have h1 := dropW_nil h
 rcases dropW_sub (p := (dig10.contains ·)) (s := s.reverse) c (List.mem_reverse.2 hc) with h2 | h2
 ·exact h2
 ·exact h1 c (by unfold rtrim; exact List.mem_reverse.2 h2)
theorem dig10_val : ∀ c : UInt8, dig10.contains c = true → ∃ d, Lib.digitVal c = some d := fun c h => by
 have : c.toNat < 256 := c.toNat_lt
 simp only [dig10, List.contains_cons, List.contains_nil, Bool.or_false, Bool.or_eq_true, beq_iff_eq] at h
 rcases h with rfl | rfl | rfl | rfl | rfl | rfl | rfl | rfl | rfl | rfl <;> exact ⟨_, rfl⟩
theorem decFrom_some : ∀ (l : List UInt8) (acc : Nat), (∀ c ∈ l, dig10.contains c = true) → ∃ n, Lib.decFrom acc l = some n
 | [], acc, _ => ⟨acc, rfl⟩
 | c :: l, acc, h => by
   obtain ⟨d, hd⟩ := dig10_val c (h c List.mem_cons_self)
   obtain ⟨n, hn⟩ := decFrom_some l (acc * 10 + d) fun x hx => h x (List.mem_cons_of_mem _ hx)
   exact ⟨n, by simp only [Lib.decFrom, hd, hn]⟩
end Go.HL
end
section
namespace Go.HL
end Go.HL
end
section
namespace Go.HL
end Go.HL
end
section
namespace Go.HL
end Go.HL
end
section
namespace Go.Proofs.YtbfikmihcpfgaaaGreatDoor
open Go.HL
set_option maxRecDepth 100000
set_option linter.unusedVariables false
set_option linter.unusedSimpArgs false
/-- what every writing method of a builder calls first -/
theorem c_strings_Builder_copyCheck [Tracks] {b : Nat} {h v : Value} {s : Str} : Con Tryz.prog 79 [.raw (.pointer (some ⟨b, 0, none⟩))] [.bld b 70 5 h v s] (fun x M' => x = .tup [] ∧ M' = [.bld b 70 5 h v s]) :=
 con_copyCheck (ρ := Tryz.lays240_ren) (el := 5) Tryz.lays240 ⟨by kernel_rfl, by kernel_rfl⟩

theorem maxLenIs [Tracks] : Tryz.prog.globalNamed "internal/bytealg.MaxLen" = some (Tryz.lays146_ren.g 1) := by kernel_rfl

theorem c_strings_Split [Tracks] {s : Str} {c : UInt8} (hs : s.length < 4294967281) : ConP Tryz.prog 72 [.str s, .str [c]] (.slice 1 ((spl c s).map .str)) :=
 conp_split Tryz.lays146 (by kernel_rfl) maxLenIs hs

theorem c_strings_CutSuffix [Tracks] {s p : Str} (hs : s.length ≤ 4294967281) : ConP Tryz.prog 118 [.str s, .str p] (.tup [.str (Lib.trimSuffix s p), .bool (Lib.hasSuffix s p)]) := conp_cutSuffix Tryz.lays104 hs

theorem c_strings_Cut [Tracks] {s : Str} {c : UInt8} (hs : s.length < 4294967281) : ConP Tryz.prog 105 [.str s, .str [c]] (.tup [.str (cutF c s).1, .str (cutF c s).2.1, .bool (cutF c s).2.2]) :=
 conp_cut Tryz.lays145 (by kernel_rfl) hs

/-- (*strings.Builder).WriteString -/
theorem c_strings_Builder_WriteString [Tracks] {b : Nat} {v : Value} {s : Str} {t : Str}  (hl : s.length + t.length ≤ 1000000000) : Con Tryz.prog 36 [pAt b, .str t] [.bld b 70 5 v v s] (fun x M' => ∃ v', x = .tup [.int .i64 (t.length : Int), .raw .nilIface] ∧ M' = [.bld b 70 5 v' v' (s ++ t)]) := by
 refine Con.of_body Tryz.func36 rfl Tryz.ntmps36 rfl rfl ?_
 refine hw_reg ?_
 refine dp rfl (pop_assign rfl) ?_
 refine dp rfl (pop_assign rfl) ?_
 refine dn ?_
 refine hw_reg ?_
 refine dp rfl (pop_move rfl) ?_
 refine de rfl (eop_callx (i := 0) ca79 rfl (WeakL.refl _) rfl c_strings_Builder_copyCheck ?_)
 rintro _ _ ⟨rfl, rfl⟩
 refine dn ?_
 refine hw_reg ?_
 refine dp rfl (pop_move rfl) ?_
 refine dp rfl (pop_move rfl) ?_
 refine dp rfl ((by first | exact pop_nilCheck rfl | exact pop_nilCheck_raw rfl)) ?_
 refine dp rfl (pop_fieldAddr_raw ty70 rfl ty68 (by decide) rfl) ?_
 refine de rfl (eop_loadB (i := 0) ty68 rfl rfl ?_)
 refine dp rfl (pop_move rfl) ?_
 refine de rfl (eop_appendB (i := 0) ty68 ty9 ty5 rfl rfl rfl rfl rfl hl fun v14 => ?_)
 refine dp rfl ((by first | exact pop_nilCheck rfl | exact pop_nilCheck_raw rfl)) ?_
 refine dp rfl (pop_fieldAddr_raw ty70 rfl ty68 (by decide) rfl) ?_
 refine de0 (eop_storeB (i := 0) ty68 rfl rfl rfl ?_)
 refine dn ?_
 refine hw_reg ?_
 refine dp rfl (pop_move rfl) ?_
 refine dp rfl (pop_lens ty9 rfl) ?_
 refine dp rfl (pop_assign rfl) ?_
 refine dp rfl (pop_assign rfl) ?_
 refine dn ?_
 refine hw_ret ?_
 exact ret_q rfl ⟨v14, rfl, rfl⟩

/-- (*strings.Builder).Len -/
theorem c_strings_Builder_Len [Tracks] {b : Nat} {v : Value} {s : Str}   : Con Tryz.prog 37 [pAt b] [.bld b 70 5 v v s] (fun x M' => x = .int .i64 (s.length : Int) ∧ M' = [.bld b 70 5 v v s]) := by
 refine Con.of_body Tryz.func37 rfl Tryz.ntmps37 rfl rfl ?_
 refine hw_reg ?_
 refine dp rfl (pop_assign rfl) ?_
 refine dn ?_
 refine hw_reg ?_
 refine dp rfl (pop_move rfl) ?_
 refine dp rfl ((by first | exact pop_nilCheck rfl | exact pop_nilCheck_raw rfl)) ?_
 refine dp rfl (pop_fieldAddr_raw ty70 rfl ty68 (by decide) rfl) ?_
 refine de rfl (eop_loadB (i := 0) ty68 rfl rfl ?_)
 refine de rfl (eop_lenB (i := 0) ty68 rfl rfl ?_)
 refine dp rfl (pop_assign rfl) ?_
 refine dn ?_
 refine hw_ret ?_
 exact ret_q rfl ⟨rfl, rfl⟩

/-- (*strings.Builder).String -/
theorem c_strings_Builder_String [Tracks] {b : Nat} {v : Value} {s : Str}   : Con Tryz.prog 38 [pAt b] [.bld b 70 5 v v s] (fun x M' => x = .str s ∧ M' = []) := by
 refine Con.of_body Tryz.func38 rfl Tryz.ntmps38 rfl rfl ?_
 refine hw_reg ?_
 refine dp rfl (pop_assign rfl) ?_
 refine dn ?_
 refine hw_bldc (i := 0) rfl fun hbv => ?_
 refine hw_draw (fun M => ∃ i : Nat, (M[i]? = some (.bld b 70 5 v v s)) ∨ ∃ p, M[i]? = some (.cells b [p, .raw v])) [3, 8] mixed ?_
 refine ahp 0 rfl rfl (by kernel_rfl) (by kernel_rfl) (pop_move rfl) ?_
 refine ahp 1 rfl rfl (by kernel_rfl) (by kernel_rfl) ((by first | exact pop_nilCheck rfl | exact pop_nilCheck_raw rfl)) ?_
 refine ahp 2 rfl rfl (by kernel_rfl) (by kernel_rfl) (pop_fieldAddr_raw ty70 rfl ty68 (by decide) rfl) ?_
 refine ahl 3 rfl rfl (by kernel_rfl) (by kernel_rfl) (by simp) ⟨0, .inl rfl⟩ (fun M hM => by obtain ⟨i, hi | ⟨p, hi⟩⟩ := hM; exact eop_loadB (i := i) ty68 rfl hi ⟨rfl, rfl⟩; exact eop_load (i := i) ty68 rfl hi (.inl ⟨rfl, rfl⟩) ⟨rfl, rfl⟩) ?_
 refine ahp 4 rfl rfl (by kernel_rfl) (by kernel_rfl) (pop_dataV hbv rfl) ?_
 refine ahp 5 rfl rfl (by kernel_rfl) (by kernel_rfl) (pop_move rfl) ?_
 refine ahp 6 rfl rfl (by kernel_rfl) (by kernel_rfl) ((by first | exact pop_nilCheck rfl | exact pop_nilCheck_raw rfl)) ?_
 refine ahp 7 rfl rfl (by kernel_rfl) (by kernel_rfl) (pop_fieldAddr_raw ty70 rfl ty68 (by decide) rfl) ?_
 refine ahl 8 rfl rfl (by kernel_rfl) (by kernel_rfl) (by simp) ⟨0, .inl rfl⟩ (fun M hM => by obtain ⟨i, hi | ⟨p, hi⟩⟩ := hM; exact eop_loadB (i := i) ty68 rfl hi ⟨rfl, rfl⟩; exact eop_load (i := i) ty68 rfl hi (.inl ⟨rfl, rfl⟩) ⟨rfl, rfl⟩) ?_
 refine ahp 9 rfl rfl (by kernel_rfl) (by kernel_rfl) (pop_lenV ty68 hbv rfl) ?_
 refine ahe 10 rfl (by kernel_rfl) ?_
 refine hop_e rfl (eop_strH (i := 0) (by kernel_rfl) (by kernel_rfl) rfl rfl rfl ?_)
 refine ⟨fun _ => .inl ⟨0, .inr ⟨_, rfl⟩⟩, ?_⟩
 refine ahp 11 rfl rfl (by kernel_rfl) (by kernel_rfl) (pop_assign rfl) ?_
 refine ahz (by kernel_rfl) ?_
 refine hw_ret ?_
 refine ret_g Ghost.drop rfl ⟨rfl, rfl⟩
end Go.Proofs.YtbfikmihcpfgaaaGreatDoor
end
