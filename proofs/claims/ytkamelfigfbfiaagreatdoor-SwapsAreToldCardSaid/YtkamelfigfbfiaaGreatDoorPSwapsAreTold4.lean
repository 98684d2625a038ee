/- The statement is proved: the card of the law, out of its function's contract; no conditions. -/
import Derived.Test.YtkamelfigfbfiaaGreatDoorPSwapsAreTold3
import Derived.LaidMore
import Derived.Lay
import Derived.OpenShut
import Derived.ProofKit
import Derived.SevenTiedAt
import Derived.Stop.Joined
import Derived.Test.YtkamelfigfbfiaaGreatDoorCards
import Derived.Test.YtkamelfigfbfiaaGreatDoorTie
set_option linter.unusedVariables false
set_option linter.unusedSimpArgs false
section
namespace Go.Proofs.YtkamelfigfbfiaaGreatDoor
open Go.HL
set_option maxRecDepth 100000
set_option linter.unusedVariables false
set_option linter.unusedSimpArgs false
set_option maxHeartbeats 2000000 in
/-- (*benchwarmer/benchmake.Stream).AssetList -/
theorem c_benchmake_Stream_AssetList [Tracks] {b : Nat} {l : List Int} {a : Nat} {fs : Str} (ha : a ≤ 800000) (hfs : fs.length ≤ 100) : Con Tryz.prog 7 [pAt b, .str fs] [St b l a] (fun x M' => ∃ k a', x = eAssets k ∧ GoodAs k ∧ a' ≤ a + 40 ∧ M' = [St b l a']) := by
 refine Con.of_body Tryz.func7 rfl Tryz.ntmps7 rfl rfl ?_
 refine hw_reg ?_
 refine dp rfl (pop_assign rfl) ?_
 refine dn ?_
 refine hw_reg ?_
 refine dp rfl (pop_assign rfl) ?_
 refine dn ?_
 refine hw_seq ?_
 refine hw_reg ?_
 refine dp rfl (pop_move rfl) ?_
 first
 | refine de rfl (eop_callx (i := 0) ca9 rfl (WeakL.refl _) rfl (c_benchmake_Stream_Range (by first | assumption | omega | (simp; omega) | simp_all) (by first | assumption | omega | (simp; omega) | simp_all) (by first | assumption | omega | (simp; omega) | simp_all) (by first | assumption | omega | (simp; omega) | simp_all)) ?_)
 | refine de rfl (eop_callx (i := 1) ca9 rfl (WeakL.refl _) rfl (c_benchmake_Stream_Range (by first | assumption | omega | (simp; omega) | simp_all) (by first | assumption | omega | (simp; omega) | simp_all) (by first | assumption | omega | (simp; omega) | simp_all) (by first | assumption | omega | (simp; omega) | simp_all)) ?_)
 | refine de rfl (eop_callx (i := 2) ca9 rfl (WeakL.refl _) rfl (c_benchmake_Stream_Range (by first | assumption | omega | (simp; omega) | simp_all) (by first | assumption | omega | (simp; omega) | simp_all) (by first | assumption | omega | (simp; omega) | simp_all) (by first | assumption | omega | (simp; omega) | simp_all)) ?_)
 | refine de rfl (eop_callx (i := 3) ca9 rfl (WeakL.refl _) rfl (c_benchmake_Stream_Range (by first | assumption | omega | (simp; omega) | simp_all) (by first | assumption | omega | (simp; omega) | simp_all) (by first | assumption | omega | (simp; omega) | simp_all) (by first | assumption | omega | (simp; omega) | simp_all)) ?_)
 rintro _ _ ⟨y9, rfl, hy9, rfl⟩
 refine dp rfl (pop_move rfl) ?_
 refine dn ?_
 refine hw_ghost (Ghost.perm (M' := [St b l (a + 1)]) (List.Perm.refl _)) ?_
 refine hw_ghost (Ghost.arr_nil 3) ?_
 refine hw_block ?_
 refine hw_loopw2 [5, 6, 10, 11, 12, 13, 14, 15, 16, 17, 18, 19, 20, 21, 22, 23, 24, 25, 26, 27] (fun (k : Nat) (q : GL Asset) => [(10, .int .i64 (k : Int)), (5, .raw q.u)]) (fun (k : Nat) (q : GL Asset) => [St b l q.a, .arr q.u 3 (q.out.map eAsset)]) (fun (k : Nat) (q : GL Asset) => k ≤ 7 ∧ GLok GoodA k (a + 1 + 2 * k) q) (fun (k : Nat) (q : GL Asset) => 7 - k) (0) (⟨.slice none 0 0, [], a + 1⟩) ?_ ?_ ?_ ?_
 ·exact ⟨by omega, ⟨by simp, by simp, by dsimp only; omega⟩⟩
 ·exact ⟨rfl, rfl, trivial⟩
 ·repeat (first | exact List.Perm.nil | refine permTo 0 rfl ?_ | refine permTo 1 rfl ?_ | refine permTo 2 rfl ?_ | refine permTo 3 rfl ?_ | (refine permToE 0 rfl ?hq ?_; (case hq => simp [setL, hcells]; done)) | (refine permToE 1 rfl ?hq ?_; (case hq => simp [setL, hcells]; done)) | (refine permToE 2 rfl ?hq ?_; (case hq => simp [setL, hcells]; done)) | (refine permToE 3 rfl ?hq ?_; (case hq => simp [setL, hcells]; done)) | fail)
 ·intro k q hinv
  obtain ⟨hk, hq⟩ := hinv
  obtain ⟨u, out, a2⟩ := q
  obtain ⟨g1, g2, g3⟩ := id hq
  dsimp only at g1 g2 g3
  refine hw_reg ?_
  refine dp rfl (pop_lss rfl rfl) ?_
  refine dn ?_
  refine hw_seq ?_
  refine hw_cond rfl (fun h1 => ?_) (fun h2 => ?_)
  ·try simp at h1
   have hk7 : k < 7 := by omega
   refine hw_skip ?_
   refine seqQ_n ?_
   refine hw_seq ?_
   refine hw_block ?_
   refine hw_reg ?_
   refine dp rfl (pop_move rfl) ?_
   refine dp rfl (pop_assign rfl) ?_
   refine dn ?_
   refine hw_reg1 ?_
   refine dp rfl (pop_move rfl) ?_
   refine dp rfl (pop_move rfl) ?_
   refine dp rfl (pop_move rfl) ?_
   refine dp rfl (pop_call ca48 rfl (WeakL.refl _) (c_strconv_Itoa (i := k) (by omega))) ?_
   have hdl := dec_len (i := k) (by omega)
   refine dp rfl (pop_adds rfl rfl (by omega)) ?_
   refine dp rfl (pop_move rfl) ?_
   refine dp rfl (pop_buildSlice (hs := [_, _, _, _]) ty36 ty9 rfl rfl (by decide) (by decide) rfl) ?_
   first
   | refine de rfl (eop_callx (i := 0) ca31 rfl (WeakL.refl _) rfl (c_benchmake_Stream_Some (L := [_, _, _, _]) (by first | assumption | omega | (simp; omega) | simp_all) (by first | assumption | omega | (simp; omega) | simp_all) (by first | assumption | omega | (simp; omega) | simp_all)) ?_)
   | refine de rfl (eop_callx (i := 1) ca31 rfl (WeakL.refl _) rfl (c_benchmake_Stream_Some (L := [_, _, _, _]) (by first | assumption | omega | (simp; omega) | simp_all) (by first | assumption | omega | (simp; omega) | simp_all) (by first | assumption | omega | (simp; omega) | simp_all)) ?_)
   | refine de rfl (eop_callx (i := 2) ca31 rfl (WeakL.refl _) rfl (c_benchmake_Stream_Some (L := [_, _, _, _]) (by first | assumption | omega | (simp; omega) | simp_all) (by first | assumption | omega | (simp; omega) | simp_all) (by first | assumption | omega | (simp; omega) | simp_all)) ?_)
   | refine de rfl (eop_callx (i := 3) ca31 rfl (WeakL.refl _) rfl (c_benchmake_Stream_Some (L := [_, _, _, _]) (by first | assumption | omega | (simp; omega) | simp_all) (by first | assumption | omega | (simp; omega) | simp_all) (by first | assumption | omega | (simp; omega) | simp_all)) ?_)
   rintro _ _ ⟨y20, rfl, hy20, rfl⟩
   refine dp rfl (pop_move rfl) ?_
   refine dp rfl (pop_buildSlice (hs := [_, _, _, _, _, _, _, _]) ty22 ty3 rfl rfl (by decide) (by decide) rfl) ?_
   first
   | refine de rfl (eop_callx (i := 0) ca32 rfl (WeakL.refl _) rfl (c_benchmake_Stream_Pick (L := [_, _, _, _, _, _, _, _]) (by first | assumption | omega | (simp; omega) | simp_all) (by first | assumption | omega | (simp; omega) | simp_all) (by first | assumption | omega | (simp; omega) | simp_all)) ?_)
   | refine de rfl (eop_callx (i := 1) ca32 rfl (WeakL.refl _) rfl (c_benchmake_Stream_Pick (L := [_, _, _, _, _, _, _, _]) (by first | assumption | omega | (simp; omega) | simp_all) (by first | assumption | omega | (simp; omega) | simp_all) (by first | assumption | omega | (simp; omega) | simp_all)) ?_)
   | refine de rfl (eop_callx (i := 2) ca32 rfl (WeakL.refl _) rfl (c_benchmake_Stream_Pick (L := [_, _, _, _, _, _, _, _]) (by first | assumption | omega | (simp; omega) | simp_all) (by first | assumption | omega | (simp; omega) | simp_all) (by first | assumption | omega | (simp; omega) | simp_all)) ?_)
   | refine de rfl (eop_callx (i := 3) ca32 rfl (WeakL.refl _) rfl (c_benchmake_Stream_Pick (L := [_, _, _, _, _, _, _, _]) (by first | assumption | omega | (simp; omega) | simp_all) (by first | assumption | omega | (simp; omega) | simp_all) (by first | assumption | omega | (simp; omega) | simp_all)) ?_)
   rintro _ _ ⟨y23, rfl, hy23, rfl⟩
   refine dp rfl (pop_build (cs := [_, _, _]) ty42 pl42 rfl) ?_
   refine dp rfl (pop_buildSlice (hs := [_]) ty26 ty42 rfl rfl (by decide) (by decide) rfl) ?_
   first
   | refine de rfl (eop_append (i := 0) ty26 ty42 rfl rfl rfl rfl rfl (by simp [flat, hcells]) (by first | omega | (simp; omega)) fun v26 => ?_)
   | refine de rfl (eop_append (i := 1) ty26 ty42 rfl rfl rfl rfl rfl (by simp [flat, hcells]) (by first | omega | (simp; omega)) fun v26 => ?_)
   | refine de rfl (eop_append (i := 2) ty26 ty42 rfl rfl rfl rfl rfl (by simp [flat, hcells]) (by first | omega | (simp; omega)) fun v26 => ?_)
   | refine de rfl (eop_append (i := 3) ty26 ty42 rfl rfl rfl rfl rfl (by simp [flat, hcells]) (by first | omega | (simp; omega)) fun v26 => ?_)
   refine dp rfl (pop_assign rfl) ?_
   refine dn ?_
   refine blockQ_n ?_
   refine seqQ_n ?_
   refine hw_reg1 ?_
   refine dp rfl (pop_add64 rfl rfl (by omega) (by omega)) ?_
   refine dp rfl (pop_move rfl) ?_
   refine dn ?_
   exact ⟨k + 1, ⟨v26, out ++ [⟨fs ++ Lib.decDigits k, y20, y23⟩], a2 + 2⟩, ⟨by omega, hq.add ⟨by unfold Sh; simp; omega, by unfold Sh; simp at hy20; rcases hy20 with rfl | rfl | rfl <;> simp⟩ (by omega)⟩, by dsimp only; omega, ⟨rfl, rfl, trivial⟩, (by repeat (first | exact keeps_refl | refine keeps_upd rfl ?_ | refine keeps_loop rfl rfl ?_)), by repeat (first | exact List.Perm.nil | refine permTo 0 rfl ?_ | refine permTo 1 rfl ?_ | refine permTo 2 rfl ?_ | refine permTo 3 rfl ?_ | (refine permToE 0 rfl ?hq ?_; (case hq => simp [setL, hcells]; done)) | (refine permToE 1 rfl ?hq ?_; (case hq => simp [setL, hcells]; done)) | (refine permToE 2 rfl ?hq ?_; (case hq => simp [setL, hcells]; done)) | (refine permToE 3 rfl ?hq ?_; (case hq => simp [setL, hcells]; done)) | fail)⟩
  ·try simp at h2
   refine hw_exit ?_
   refine seqQ_x ?_
   refine loopQ2_x ?_
   refine blockQ_eq ?_
   refine seqQ_n ?_
   refine hw_join [7, 28, 29, 30, 31, 32, 33, 34, 35, 36, 37, 38, 39, 40, 41, 42, 43, 44, 45, 46, 47, 48, 49, 50, 51, 52, 53, 54, 55, 56, 57, 58, 59, 60, 61, 62, 63, 64, 65, 66, 67] (fun (q : List Asset × Nat) => []) (fun (q : List Asset × Nat) => [St b l q.2, .arr u 3 (q.1.map eAsset)]) (fun (q : List Asset × Nat) => q.1.length ≤ 7 ∧ (∀ x ∈ q.1, Sh x.Player ∧ Sh x.Position) ∧ q.2 ≤ a + 40) ?_ ?_
   ·skip
    refine hw_reg ?_
    refine dp rfl (pop_move rfl) ?_
    first
    | refine de rfl (eop_lenm (i := 0) ty26 rfl rfl ?_)
    | refine de rfl (eop_lenm (i := 1) ty26 rfl rfl ?_)
    | refine de rfl (eop_lenm (i := 2) ty26 rfl rfl ?_)
    | refine de rfl (eop_lenm (i := 3) ty26 rfl rfl ?_)
    refine dp rfl (pop_gtr rfl rfl) ?_
    refine dp rfl (pop_move rfl) ?_
    refine dg rfl rfl (fun hc => ⟨_, OpenTo.refl _, pop_move rfl⟩) ?_
    refine dgx (fun x M' => ∃ (y : Bool) (a3 : Nat), x = .bool y ∧ a3 ≤ a2 + 1 ∧ M' = [St b l a3, .arr u 3 (out.map eAsset)]) rfl rfl (fun hc => ⟨_, false, a2, rfl, by omega, rfl⟩) (fun hc => ⟨_, OpenTo.upd (t := 32) rfl (by first | exact hc | simp_all) (OpenTo.refl _), eop_callx (i := 0) ca49 rfl (WeakL.refl _) rfl (c_benchmake_Stream_Flip (a := a2) (by omega) (by omega)) (fun h M' hh => by
     obtain ⟨y, h1, h2⟩ := hh
     exact ⟨y, a2 + 1, h1, by omega, by rw [h2]; rfl⟩)⟩) ?_
    rintro _ _ ⟨y, a3, rfl, ha3, rfl⟩
    refine dp rfl (pop_picko rfl (.inr ⟨_, rfl, fun h => by simp_all⟩) (.inl rfl)) ?_
    refine dn ?_
    refine hw_cond rfl (fun h3 => ?_) (fun h4 => ?_)
    ·try simp at h3
     have ho0 : 0 < out.length := by simp_all
     refine hw_arrc (i := 1) rfl (fun h0 he => ?_) (fun ob off cap hv hcap => ?_)
     ·exfalso; have := congrArg List.length he; simp at this; subst this; simp at ho0
     subst hv
     refine hw_reg ?_
     refine dp rfl (pop_move rfl) ?_
     refine dp rfl (pop_move rfl) ?_
     refine dp rfl (pop_move rfl) ?_
     first
     | refine de rfl (eop_lenm (i := 0) ty26 rfl rfl ?_)
     | refine de rfl (eop_lenm (i := 1) ty26 rfl rfl ?_)
     | refine de rfl (eop_lenm (i := 2) ty26 rfl rfl ?_)
     | refine de rfl (eop_lenm (i := 3) ty26 rfl rfl ?_)
     first
     | refine de rfl (eop_callx (i := 0) ca50 rfl (WeakL.refl _) rfl (c_benchmake_Stream_Next (by first | assumption | omega | (simp; omega) | simp_all) (by first | assumption | omega | (simp; omega) | simp_all)) ?_)
     | refine de rfl (eop_callx (i := 1) ca50 rfl (WeakL.refl _) rfl (c_benchmake_Stream_Next (by first | assumption | omega | (simp; omega) | simp_all) (by first | assumption | omega | (simp; omega) | simp_all)) ?_)
     | refine de rfl (eop_callx (i := 2) ca50 rfl (WeakL.refl _) rfl (c_benchmake_Stream_Next (by first | assumption | omega | (simp; omega) | simp_all) (by first | assumption | omega | (simp; omega) | simp_all)) ?_)
     | refine de rfl (eop_callx (i := 3) ca50 rfl (WeakL.refl _) rfl (c_benchmake_Stream_Next (by first | assumption | omega | (simp; omega) | simp_all) (by first | assumption | omega | (simp; omega) | simp_all)) ?_)
     rintro _ _ ⟨y39, rfl, hy39, rfl⟩
     refine dp rfl (pop_idxraw (j := y39) ty26 ty42 rfl rfl rfl (by simp; omega)) ?_
     refine dp rfl (pop_assign rfl) ?_
     refine dn ?_
     obtain ⟨x, hx⟩ : ∃ x, out[y39]? = some x := ⟨_, List.getElem?_eq_getElem (by omega)⟩
     refine hw_draw1 (fun M => ∃ i : Nat, M[i]? = some (.arr (.slice (some ⟨ob, off, none⟩) (out.map eAsset).length cap) 3 (out.map eAsset))) [7, 16] mixed ?_
     refine ahp 0 rfl rfl (by kernel_rfl) (by kernel_rfl) (pop_move rfl) ?_
     refine ahp 1 rfl rfl (by kernel_rfl) (by kernel_rfl) (pop_move rfl) ?_
     refine ahp 2 rfl rfl (by kernel_rfl) (by kernel_rfl) (pop_move rfl) ?_
     refine ahp 3 rfl rfl (by kernel_rfl) (by kernel_rfl) (pop_move rfl) ?_
     refine ahp 4 rfl rfl (by kernel_rfl) (by kernel_rfl) (pop_move rfl) ?_
     refine ahp 5 rfl rfl (by kernel_rfl) (by kernel_rfl) ((by first | exact pop_nilCheck rfl | exact pop_nilCheck_raw rfl)) ?_
     refine ahp 6 rfl rfl (by kernel_rfl) (by kernel_rfl) ((by first | exact pop_fieldAddr ty42 rfl ty9 (by decide) rfl | exact pop_fieldAddr_raw ty42 rfl ty9 (by decide) rfl)) ?_
     refine ahl 7 rfl rfl (by kernel_rfl) (by kernel_rfl) (by simp) ⟨1, rfl⟩ (fun M hM => by obtain ⟨i, hi⟩ := hM; exact eop_load_el (i := i) (j := y39) 0 ty9 rfl (by omega) hi hx rfl rfl ⟨rfl, rfl⟩) ?_
     refine ahp 8 rfl rfl (by kernel_rfl) (by kernel_rfl) (pop_move rfl) ?_
     refine ahp 9 rfl rfl (by kernel_rfl) (by kernel_rfl) (pop_adds rfl rfl (by simp; omega)) ?_
     refine ahp 10 rfl rfl (by kernel_rfl) (by kernel_rfl) (pop_buildSlice (hs := [_, _, _]) ty36 ty9 rfl rfl (by decide) (by decide) rfl) ?_
     refine ahp 12 rfl rfl (by kernel_rfl) (by kernel_rfl) (pop_move rfl) ?_
     refine ahp 13 rfl rfl (by kernel_rfl) (by kernel_rfl) (pop_move rfl) ?_
     refine ahp 14 rfl rfl (by kernel_rfl) (by kernel_rfl) ((by first | exact pop_nilCheck rfl | exact pop_nilCheck_raw rfl)) ?_
     refine ahp 15 rfl rfl (by kernel_rfl) (by kernel_rfl) ((by first | exact pop_fieldAddr ty42 rfl ty9 (by decide) rfl | exact pop_fieldAddr_raw ty42 rfl ty9 (by decide) rfl)) ?_
     refine ahl 16 rfl rfl (by kernel_rfl) (by kernel_rfl) (by simp) ⟨1, rfl⟩ (fun M hM => by obtain ⟨i, hi⟩ := hM; exact eop_load_el (i := i) (j := y39) 1 ty9 rfl (by omega) hi hx rfl rfl ⟨rfl, rfl⟩) ?_
     refine ahp 17 rfl rfl (by kernel_rfl) (by kernel_rfl) (pop_buildSlice (hs := [_, _]) ty36 ty9 rfl rfl (by decide) (by decide) rfl) ?_
     refine ahp 19 rfl rfl (by kernel_rfl) (by kernel_rfl) (pop_move rfl) ?_
     refine ahe 11 rfl (by kernel_rfl) ?_
     first
     | refine hop_e rfl (eop_callx (i := 0) ca31 rfl (WeakL.refl _) rfl (c_benchmake_Stream_Some (L := [_, _, _]) (by first | assumption | omega | (simp; omega) | simp_all) (by first | assumption | omega | (simp; omega) | simp_all) (by first | assumption | omega | (simp; omega) | simp_all)) ?_)
     | refine hop_e rfl (eop_callx (i := 1) ca31 rfl (WeakL.refl _) rfl (c_benchmake_Stream_Some (L := [_, _, _]) (by first | assumption | omega | (simp; omega) | simp_all) (by first | assumption | omega | (simp; omega) | simp_all) (by first | assumption | omega | (simp; omega) | simp_all)) ?_)
     | refine hop_e rfl (eop_callx (i := 2) ca31 rfl (WeakL.refl _) rfl (c_benchmake_Stream_Some (L := [_, _, _]) (by first | assumption | omega | (simp; omega) | simp_all) (by first | assumption | omega | (simp; omega) | simp_all) (by first | assumption | omega | (simp; omega) | simp_all)) ?_)
     | refine hop_e rfl (eop_callx (i := 3) ca31 rfl (WeakL.refl _) rfl (c_benchmake_Stream_Some (L := [_, _, _]) (by first | assumption | omega | (simp; omega) | simp_all) (by first | assumption | omega | (simp; omega) | simp_all) (by first | assumption | omega | (simp; omega) | simp_all)) ?_)
     rintro _ _ ⟨y52, rfl, hy52, rfl⟩
     refine ⟨fun _ => by first | exact .inl ⟨0, rfl⟩ | exact .inl ⟨1, rfl⟩ | exact .inl ⟨2, rfl⟩ | exact .inr (by simp [Before, Region.binds]), ?_⟩
     refine ahe 18 rfl (by kernel_rfl) ?_
     first
     | refine hop_e rfl (eop_callx (i := 0) ca31 rfl (WeakL.refl _) rfl (c_benchmake_Stream_Some (L := [_, _]) (by first | assumption | omega | (simp; omega) | simp_all) (by first | assumption | omega | (simp; omega) | simp_all) (by first | assumption | omega | (simp; omega) | simp_all)) ?_)
     | refine hop_e rfl (eop_callx (i := 1) ca31 rfl (WeakL.refl _) rfl (c_benchmake_Stream_Some (L := [_, _]) (by first | assumption | omega | (simp; omega) | simp_all) (by first | assumption | omega | (simp; omega) | simp_all) (by first | assumption | omega | (simp; omega) | simp_all)) ?_)
     | refine hop_e rfl (eop_callx (i := 2) ca31 rfl (WeakL.refl _) rfl (c_benchmake_Stream_Some (L := [_, _]) (by first | assumption | omega | (simp; omega) | simp_all) (by first | assumption | omega | (simp; omega) | simp_all) (by first | assumption | omega | (simp; omega) | simp_all)) ?_)
     | refine hop_e rfl (eop_callx (i := 3) ca31 rfl (WeakL.refl _) rfl (c_benchmake_Stream_Some (L := [_, _]) (by first | assumption | omega | (simp; omega) | simp_all) (by first | assumption | omega | (simp; omega) | simp_all) (by first | assumption | omega | (simp; omega) | simp_all)) ?_)
     rintro _ _ ⟨y59, rfl, hy59, rfl⟩
     refine ⟨fun _ => by first | exact .inl ⟨0, rfl⟩ | exact .inl ⟨1, rfl⟩ | exact .inl ⟨2, rfl⟩ | exact .inr (by simp [Before, Region.binds]), ?_⟩
     refine ahe 20 rfl (by kernel_rfl) ?_
     first
     | refine hop_e rfl (eop_callx (i := 0) ca51 rfl (WeakL.refl _) rfl (c_benchmake_Stream_Odd (by first | assumption | omega | (simp; omega) | simp_all) (by first | assumption | omega | (simp; omega) | simp_all) (by first | assumption | omega | (simp; omega) | simp_all) (by first | assumption | omega | (simp; omega) | simp_all)) ?_)
     | refine hop_e rfl (eop_callx (i := 1) ca51 rfl (WeakL.refl _) rfl (c_benchmake_Stream_Odd (by first | assumption | omega | (simp; omega) | simp_all) (by first | assumption | omega | (simp; omega) | simp_all) (by first | assumption | omega | (simp; omega) | simp_all) (by first | assumption | omega | (simp; omega) | simp_all)) ?_)
     | refine hop_e rfl (eop_callx (i := 2) ca51 rfl (WeakL.refl _) rfl (c_benchmake_Stream_Odd (by first | assumption | omega | (simp; omega) | simp_all) (by first | assumption | omega | (simp; omega) | simp_all) (by first | assumption | omega | (simp; omega) | simp_all) (by first | assumption | omega | (simp; omega) | simp_all)) ?_)
     | refine hop_e rfl (eop_callx (i := 3) ca51 rfl (WeakL.refl _) rfl (c_benchmake_Stream_Odd (by first | assumption | omega | (simp; omega) | simp_all) (by first | assumption | omega | (simp; omega) | simp_all) (by first | assumption | omega | (simp; omega) | simp_all) (by first | assumption | omega | (simp; omega) | simp_all)) ?_)
     rintro _ _ ⟨y61, rfl, rfl⟩
     refine ⟨fun _ => by first | exact .inl ⟨0, rfl⟩ | exact .inl ⟨1, rfl⟩ | exact .inl ⟨2, rfl⟩ | exact .inr (by simp [Before, Region.binds]), ?_⟩
     refine ahp 21 rfl rfl (by kernel_rfl) (by kernel_rfl) ((by first | exact pop_nilCheck rfl | exact pop_nilCheck_raw rfl)) ?_
     refine ahp 22 rfl rfl (by kernel_rfl) (by kernel_rfl) ((by first | exact pop_fieldAddr ty42 rfl ty9 (by decide) rfl | exact pop_fieldAddr_raw ty42 rfl ty9 (by decide) rfl)) ?_
     refine ahe 23 rfl (by kernel_rfl) ?_
     refine hop_e0 (eop_store_arr (i := 1) (j := y39) (f := 0) (y := eAsset x) (y' := eAsset ⟨y52, x.Position, x.Value⟩) ty9 rfl (by omega) rfl rfl (map_get hx) rfl rfl (by simp [hcells]) rfl ?_)
     refine ⟨fun _ => .inr (by simp [Before, Region.binds]), ?_⟩
     refine ahp 24 rfl rfl (by kernel_rfl) (by kernel_rfl) ((by first | exact pop_nilCheck rfl | exact pop_nilCheck_raw rfl)) ?_
     refine ahp 25 rfl rfl (by kernel_rfl) (by kernel_rfl) ((by first | exact pop_fieldAddr ty42 rfl ty9 (by decide) rfl | exact pop_fieldAddr_raw ty42 rfl ty9 (by decide) rfl)) ?_
     refine ahe 26 rfl (by kernel_rfl) ?_
     refine hop_e0 (eop_store_arr (i := 1) (j := y39) (f := 1) (y := eAsset ⟨y52, x.Position, x.Value⟩) (y' := eAsset ⟨y52, y59, x.Value⟩) ty9 rfl (by omega) rfl rfl (set_self (map_get hx)) rfl rfl (by simp [hcells]) rfl ?_)
     refine ⟨fun _ => .inr (by simp [Before, Region.binds]), ?_⟩
     refine ahp 27 rfl rfl (by kernel_rfl) (by kernel_rfl) ((by first | exact pop_nilCheck rfl | exact pop_nilCheck_raw rfl)) ?_
     refine ahp 28 rfl rfl (by kernel_rfl) (by kernel_rfl) ((by first | exact pop_fieldAddr ty42 rfl ty3 (by decide) rfl | exact pop_fieldAddr_raw ty42 rfl ty3 (by decide) rfl)) ?_
     refine ahe 29 rfl (by kernel_rfl) ?_
     refine hop_e0 (eop_store_arr (i := 1) (j := y39) (f := 2) (y := eAsset ⟨y52, y59, x.Value⟩) (y' := eAsset ⟨y52, y59, y61⟩) ty3 rfl (by omega) rfl rfl (set_self (set_self (map_get hx))) rfl rfl (by simp [hcells]) rfl ?_)
     refine ⟨fun _ => .inr (by simp [Before, Region.binds]), ?_⟩
     refine ahz (by kernel_rfl) ?_
     exact ⟨(out.set y39 ⟨y52, y59, y61⟩, a3 + 5), ⟨by simp; omega, all_set (P := GoodA) g2 ⟨by simp at hy52; rcases hy52 with rfl | rfl | rfl; exact (g2 x (List.mem_of_getElem? hx)).1; exact nil_sh; (unfold Sh; simp; omega), by simp at hy59; rcases hy59 with rfl | rfl; exact (g2 x (List.mem_of_getElem? hx)).2; exact nil_sh⟩, by dsimp only; omega⟩, trivial, (by repeat (first | exact keeps_refl | refine keeps_upd rfl ?_ | refine keeps_loop rfl rfl ?_)), by repeat (first | exact List.Perm.nil | refine permTo 0 rfl ?_ | refine permTo 1 rfl ?_ | refine permTo 2 rfl ?_ | refine permTo 3 rfl ?_ | (refine permToE 0 rfl ?hq ?_; (case hq => simp [setL, hcells]; done)) | (refine permToE 1 rfl ?hq ?_; (case hq => simp [setL, hcells]; done)) | (refine permToE 2 rfl ?hq ?_; (case hq => simp [setL, hcells]; done)) | (refine permToE 3 rfl ?hq ?_; (case hq => simp [setL, hcells]; done)) | fail)⟩
    ·try simp at h4
     refine hw_skip ?_
     exact ⟨(out, a3), ⟨by dsimp only; omega, g2, by dsimp only; omega⟩, trivial, (by repeat (first | exact keeps_refl | refine keeps_upd rfl ?_ | refine keeps_loop rfl rfl ?_)), by repeat (first | exact List.Perm.nil | refine permTo 0 rfl ?_ | refine permTo 1 rfl ?_ | refine permTo 2 rfl ?_ | refine permTo 3 rfl ?_ | (refine permToE 0 rfl ?hq ?_; (case hq => simp [setL, hcells]; done)) | (refine permToE 1 rfl ?hq ?_; (case hq => simp [setL, hcells]; done)) | (refine permToE 2 rfl ?hq ?_; (case hq => simp [setL, hcells]; done)) | (refine permToE 3 rfl ?hq ?_; (case hq => simp [setL, hcells]; done)) | fail)⟩
   ·intro q hq3
    obtain ⟨k1, a4⟩ := q
    dsimp only at hq3
    obtain ⟨q1, q2, q3⟩ := hq3
    refine hw_reg ?_
    refine dp rfl (pop_move rfl) ?_
    refine dp rfl (pop_assign rfl) ?_
    refine dn ?_
    refine hw_ret ?_
    refine ret_g (Ghost.fa 4 (i := 1) rfl rfl) rfl ⟨k1, a4, rfl, ⟨by omega, q2⟩, by omega, rfl⟩

set_option maxHeartbeats 2000000 in
/-- (*benchwarmer/benchmake.Stream).PlaceList -/
theorem c_benchmake_Stream_PlaceList [Tracks] {b : Nat} {l : List Int} {a : Nat}  (ha : a ≤ 800000) : Con Tryz.prog 8 [pAt b] [St b l a] (fun x M' => ∃ k a', x = ePlaces k ∧ GoodPs k ∧ a' ≤ a + 40 ∧ M' = [St b l a']) := by
 refine Con.of_body Tryz.func8 rfl Tryz.ntmps8 rfl rfl ?_
 refine hw_reg ?_
 refine dp rfl (pop_assign rfl) ?_
 refine dn ?_
 refine hw_reg ?_
 refine dp rfl (pop_assign rfl) ?_
 refine dn ?_
 refine hw_seq ?_
 refine hw_reg ?_
 refine dp rfl (pop_buildSlice (hs := [_, _, _, _]) ty36 ty9 rfl rfl (by decide) (by decide) rfl) ?_
 refine dp rfl (pop_lenm (f := HVal.str) (l := place4) ty36 rfl) ?_
 refine dp rfl (pop_move rfl) ?_
 refine dn ?_
 refine hw_ghost (Ghost.arr_nil 2) ?_
 refine hw_block ?_
 refine hw_loopw2 [3, 5, 9, 10, 11, 12, 13, 14, 15, 16, 17, 18, 19, 20, 21, 22, 23, 24] (fun (k : Nat) (q : GL HL.Place) => [(9, .int .i64 k), (3, .raw q.u)]) (fun (k : Nat) (q : GL HL.Place) => [St b l q.a, .arr q.u 2 (q.out.map ePlace)]) (fun (k : Nat) (q : GL HL.Place) => k ≤ place4.length ∧ (GLok GoodP k (a + 2 * k) q)) (fun (k : Nat) (q : GL HL.Place) => place4.length - k) (0) (⟨.slice none 0 0, [], a⟩) ?_ ?_ ?_ ?_
 ·exact ⟨by decide, ⟨by simp, by simp, by dsimp only; omega⟩⟩
 ·exact ⟨rfl, rfl, trivial⟩
 ·repeat (first | exact List.Perm.nil | refine permTo 0 rfl ?_ | refine permTo 1 rfl ?_ | refine permTo 2 rfl ?_ | refine permTo 3 rfl ?_ | (refine permToE 0 rfl ?hq ?_; (case hq => simp [setL, hcells]; done)) | (refine permToE 1 rfl ?hq ?_; (case hq => simp [setL, hcells]; done)) | (refine permToE 2 rfl ?hq ?_; (case hq => simp [setL, hcells]; done)) | (refine permToE 3 rfl ?hq ?_; (case hq => simp [setL, hcells]; done)) | fail)
 ·intro k q hinv
  obtain ⟨hk, hq⟩ := hinv
  obtain ⟨u, out, a2⟩ := q
  obtain ⟨g1, g2, g3⟩ := id hq
  dsimp only at g1 g2 g3
  have h4 : place4.length = 4 := rfl
  refine hw_reg ?_
  refine dp rfl (pop_lss rfl rfl) ?_
  refine dn ?_
  refine hw_seq ?_
  refine hw_cond rfl (fun h1 => ?_) (fun h2 => ?_)
  ·try simp at h1
   obtain ⟨x, hx⟩ : ∃ x, place4[k]? = some x := ⟨_, List.getElem?_eq_getElem h1⟩
   have hdx := drop_cons hx
   refine hw_skip ?_
   refine seqQ_n ?_
   refine hw_seq ?_
   refine hw_block ?_
   refine hw_reg ?_
   refine dp rfl (pop_idx (f := HVal.str) (l := place4) (j := k) (a := x) ty36 ty9 rfl rfl rfl hx) ?_
   refine dp rfl (pop_load ty9 rfl rfl rfl) ?_
   refine dp rfl (pop_assign rfl) ?_
   refine dn ?_
   refine hw_reg ?_
   refine dp rfl (pop_move rfl) ?_
   first
   | refine de rfl (eop_callx (i := 0) ca49 rfl (WeakL.refl _) rfl (c_benchmake_Stream_Flip (by first | assumption | omega | (simp; omega) | simp_all) (by first | assumption | omega | (simp; omega) | simp_all)) ?_)
   | refine de rfl (eop_callx (i := 1) ca49 rfl (WeakL.refl _) rfl (c_benchmake_Stream_Flip (by first | assumption | omega | (simp; omega) | simp_all) (by first | assumption | omega | (simp; omega) | simp_all)) ?_)
   | refine de rfl (eop_callx (i := 2) ca49 rfl (WeakL.refl _) rfl (c_benchmake_Stream_Flip (by first | assumption | omega | (simp; omega) | simp_all) (by first | assumption | omega | (simp; omega) | simp_all)) ?_)
   | refine de rfl (eop_callx (i := 3) ca49 rfl (WeakL.refl _) rfl (c_benchmake_Stream_Flip (by first | assumption | omega | (simp; omega) | simp_all) (by first | assumption | omega | (simp; omega) | simp_all)) ?_)
   rintro _ _ ⟨y14, rfl, rfl⟩
   refine dp rfl (pop_not rfl) ?_
   refine dn ?_
   refine hw_cond rfl (fun h3 => ?_) (fun h4 => ?_)
   ·try simp at h3
    refine hw_reg1 ?_
    refine dp rfl (pop_move rfl) ?_
    refine dp rfl (pop_move rfl) ?_
    refine dp rfl (pop_move rfl) ?_
    refine dp rfl (pop_buildSlice (hs := [_, _, _, _, _]) ty22 ty3 rfl rfl (by decide) (by decide) rfl) ?_
    first
    | refine de rfl (eop_callx (i := 0) ca32 rfl (WeakL.refl _) rfl (c_benchmake_Stream_Pick (L := [_, _, _, _, _]) (by first | assumption | omega | (simp; omega) | simp_all) (by first | assumption | omega | (simp; omega) | simp_all) (by first | assumption | omega | (simp; omega) | simp_all)) ?_)
    | refine de rfl (eop_callx (i := 1) ca32 rfl (WeakL.refl _) rfl (c_benchmake_Stream_Pick (L := [_, _, _, _, _]) (by first | assumption | omega | (simp; omega) | simp_all) (by first | assumption | omega | (simp; omega) | simp_all) (by first | assumption | omega | (simp; omega) | simp_all)) ?_)
    | refine de rfl (eop_callx (i := 2) ca32 rfl (WeakL.refl _) rfl (c_benchmake_Stream_Pick (L := [_, _, _, _, _]) (by first | assumption | omega | (simp; omega) | simp_all) (by first | assumption | omega | (simp; omega) | simp_all) (by first | assumption | omega | (simp; omega) | simp_all)) ?_)
    | refine de rfl (eop_callx (i := 3) ca32 rfl (WeakL.refl _) rfl (c_benchmake_Stream_Pick (L := [_, _, _, _, _]) (by first | assumption | omega | (simp; omega) | simp_all) (by first | assumption | omega | (simp; omega) | simp_all) (by first | assumption | omega | (simp; omega) | simp_all)) ?_)
    rintro _ _ ⟨y20, rfl, hy20, rfl⟩
    refine dp rfl (pop_build (cs := [_, _]) ty89 pl89 rfl) ?_
    refine dp rfl (pop_buildSlice (hs := [_]) ty28 ty89 rfl rfl (by decide) (by decide) rfl) ?_
    first
    | refine de rfl (eop_append (i := 0) ty28 ty89 rfl rfl rfl rfl rfl (by simp [flat, hcells]) (by first | omega | (simp; omega)) fun v23 => ?_)
    | refine de rfl (eop_append (i := 1) ty28 ty89 rfl rfl rfl rfl rfl (by simp [flat, hcells]) (by first | omega | (simp; omega)) fun v23 => ?_)
    | refine de rfl (eop_append (i := 2) ty28 ty89 rfl rfl rfl rfl rfl (by simp [flat, hcells]) (by first | omega | (simp; omega)) fun v23 => ?_)
    | refine de rfl (eop_append (i := 3) ty28 ty89 rfl rfl rfl rfl rfl (by simp [flat, hcells]) (by first | omega | (simp; omega)) fun v23 => ?_)
    refine dp rfl (pop_assign rfl) ?_
    refine dn ?_
    refine blockQ_n ?_
    refine seqQ_n ?_
    refine hw_reg1 ?_
    refine dp rfl (pop_add64 rfl rfl (by omega) (by omega)) ?_
    refine dp rfl (pop_move rfl) ?_
    refine dn ?_
    exact ⟨k + 1, ⟨v23, out ++ [⟨x, y20⟩], a2 + 2⟩, ⟨by omega, hq.add (x := (⟨x, y20⟩ : HL.Place)) (place4_sh x (List.mem_of_getElem? hx)) (by omega)⟩, by dsimp only; omega, ⟨rfl, rfl, trivial⟩, (by repeat (first | exact keeps_refl | refine keeps_upd rfl ?_ | refine keeps_loop rfl rfl ?_)), by repeat (first | exact List.Perm.nil | refine permTo 0 rfl ?_ | refine permTo 1 rfl ?_ | refine permTo 2 rfl ?_ | refine permTo 3 rfl ?_ | (refine permToE 0 rfl ?hq ?_; (case hq => simp [setL, hcells]; done)) | (refine permToE 1 rfl ?hq ?_; (case hq => simp [setL, hcells]; done)) | (refine permToE 2 rfl ?hq ?_; (case hq => simp [setL, hcells]; done)) | (refine permToE 3 rfl ?hq ?_; (case hq => simp [setL, hcells]; done)) | fail)⟩
   ·try simp at h4
    refine hw_skip ?_
    refine blockQ_n ?_
    refine seqQ_n ?_
    refine hw_reg1 ?_
    refine dp rfl (pop_add64 rfl rfl (by omega) (by omega)) ?_
    refine dp rfl (pop_move rfl) ?_
    refine dn ?_
    exact ⟨k + 1, ⟨u, out, a2 + 1⟩, ⟨by omega, hq.same (by omega)⟩, by dsimp only; omega, ⟨rfl, rfl, trivial⟩, (by repeat (first | exact keeps_refl | refine keeps_upd rfl ?_ | refine keeps_loop rfl rfl ?_)), by repeat (first | exact List.Perm.nil | refine permTo 0 rfl ?_ | refine permTo 1 rfl ?_ | refine permTo 2 rfl ?_ | refine permTo 3 rfl ?_ | (refine permToE 0 rfl ?hq ?_; (case hq => simp [setL, hcells]; done)) | (refine permToE 1 rfl ?hq ?_; (case hq => simp [setL, hcells]; done)) | (refine permToE 2 rfl ?hq ?_; (case hq => simp [setL, hcells]; done)) | (refine permToE 3 rfl ?hq ?_; (case hq => simp [setL, hcells]; done)) | fail)⟩
  ·try simp at h2
   have hnk : place4.length ≤ k := by omega
   obtain rfl : k = place4.length := by omega
   refine hw_exit ?_
   refine seqQ_x ?_
   refine loopQ2_x ?_
   refine blockQ_eq ?_
   refine seqQ_n ?_
   refine hw_join [6, 25, 26, 27, 28, 29, 30, 31, 32, 33, 34, 35, 36, 37, 38, 39, 40, 41, 42, 43, 44, 45, 46, 47, 48, 49, 50, 51, 52] (fun (q : List HL.Place × Nat) => []) (fun (q : List HL.Place × Nat) => [St b l q.2, .arr u 2 (q.1.map ePlace)]) (fun (q : List HL.Place × Nat) => q.1.length ≤ 4 ∧ (∀ x ∈ q.1, Sh x.Position) ∧ q.2 ≤ a + 40) ?_ ?_
   ·skip
    refine hw_reg ?_
    refine dp rfl (pop_move rfl) ?_
    first
    | refine de rfl (eop_lenm (i := 0) ty28 rfl rfl ?_)
    | refine de rfl (eop_lenm (i := 1) ty28 rfl rfl ?_)
    | refine de rfl (eop_lenm (i := 2) ty28 rfl rfl ?_)
    | refine de rfl (eop_lenm (i := 3) ty28 rfl rfl ?_)
    refine dp rfl (pop_gtr rfl rfl) ?_
    refine dp rfl (pop_move rfl) ?_
    refine dg rfl rfl (fun hc => ⟨_, OpenTo.refl _, pop_move rfl⟩) ?_
    refine dgx (fun x M' => ∃ (y : Bool) (a3 : Nat), x = .bool y ∧ a3 ≤ a2 + 1 ∧ M' = [St b l a3, .arr u 2 (out.map ePlace)]) rfl rfl (fun hc => ⟨_, false, a2, rfl, by omega, rfl⟩) (fun hc => ⟨_, OpenTo.upd (t := 29) rfl (by first | exact hc | simp_all) (OpenTo.refl _), eop_callx (i := 0) ca49 rfl (WeakL.refl _) rfl (c_benchmake_Stream_Flip (a := a2) (by omega) (by omega)) (fun h M' hh => by
     obtain ⟨y, h1, h2⟩ := hh
     exact ⟨y, a2 + 1, h1, by omega, by rw [h2]; rfl⟩)⟩) ?_
    rintro _ _ ⟨y, a3, rfl, ha3, rfl⟩
    refine dp rfl (pop_picko rfl (.inr ⟨_, rfl, fun h => by simp_all⟩) (.inl rfl)) ?_
    refine dn ?_
    refine hw_cond rfl (fun h5 => ?_) (fun h6 => ?_)
    ·try simp at h5
     have ho0 : 0 < out.length := by simp_all
     refine hw_arrc (i := 1) rfl (fun h0 he => ?_) (fun ob off cap hv hcap => ?_)
     ·exfalso; have := congrArg List.length he; simp at this; subst this; simp at ho0
     subst hv
     refine hw_reg ?_
     refine dp rfl (pop_move rfl) ?_
     refine dp rfl (pop_move rfl) ?_
     refine dp rfl (pop_move rfl) ?_
     first
     | refine de rfl (eop_lenm (i := 0) ty28 rfl rfl ?_)
     | refine de rfl (eop_lenm (i := 1) ty28 rfl rfl ?_)
     | refine de rfl (eop_lenm (i := 2) ty28 rfl rfl ?_)
     | refine de rfl (eop_lenm (i := 3) ty28 rfl rfl ?_)
     first
     | refine de rfl (eop_callx (i := 0) ca50 rfl (WeakL.refl _) rfl (c_benchmake_Stream_Next (by first | assumption | omega | (simp; omega) | simp_all) (by first | assumption | omega | (simp; omega) | simp_all)) ?_)
     | refine de rfl (eop_callx (i := 1) ca50 rfl (WeakL.refl _) rfl (c_benchmake_Stream_Next (by first | assumption | omega | (simp; omega) | simp_all) (by first | assumption | omega | (simp; omega) | simp_all)) ?_)
     | refine de rfl (eop_callx (i := 2) ca50 rfl (WeakL.refl _) rfl (c_benchmake_Stream_Next (by first | assumption | omega | (simp; omega) | simp_all) (by first | assumption | omega | (simp; omega) | simp_all)) ?_)
     | refine de rfl (eop_callx (i := 3) ca50 rfl (WeakL.refl _) rfl (c_benchmake_Stream_Next (by first | assumption | omega | (simp; omega) | simp_all) (by first | assumption | omega | (simp; omega) | simp_all)) ?_)
     rintro _ _ ⟨y36, rfl, hy36, rfl⟩
     refine dp rfl (pop_idxraw (j := y36) ty28 ty89 rfl rfl rfl (by simp; omega)) ?_
     refine dp rfl (pop_assign rfl) ?_
     refine dn ?_
     obtain ⟨x, hx⟩ : ∃ x, out[y36]? = some x := ⟨_, List.getElem?_eq_getElem (by omega)⟩
     refine hw_reg1 ?_
     refine dp rfl (pop_move rfl) ?_
     refine dp rfl (pop_move rfl) ?_
     refine dp rfl (pop_move rfl) ?_
     refine dp rfl (pop_move rfl) ?_
     refine dp rfl ((by first | exact pop_nilCheck rfl | exact pop_nilCheck_raw rfl)) ?_
     refine dp rfl ((by first | exact pop_fieldAddr ty89 rfl ty9 (by decide) rfl | exact pop_fieldAddr_raw ty89 rfl ty9 (by decide) rfl)) ?_
     refine de rfl (eop_load_el (i := 1) (j := y36) 0 ty9 rfl (by omega) rfl hx rfl rfl ?_)
     refine dp rfl (pop_buildSlice (hs := [_, _, _]) ty36 ty9 rfl rfl (by decide) (by decide) rfl) ?_
     first
     | refine de rfl (eop_callx (i := 0) ca31 rfl (WeakL.refl _) rfl (c_benchmake_Stream_Some (L := [_, _, _]) (by first | assumption | omega | (simp; omega) | simp_all) (by first | assumption | omega | (simp; omega) | simp_all) (by first | assumption | omega | (simp; omega) | simp_all)) ?_)
     | refine de rfl (eop_callx (i := 1) ca31 rfl (WeakL.refl _) rfl (c_benchmake_Stream_Some (L := [_, _, _]) (by first | assumption | omega | (simp; omega) | simp_all) (by first | assumption | omega | (simp; omega) | simp_all) (by first | assumption | omega | (simp; omega) | simp_all)) ?_)
     | refine de rfl (eop_callx (i := 2) ca31 rfl (WeakL.refl _) rfl (c_benchmake_Stream_Some (L := [_, _, _]) (by first | assumption | omega | (simp; omega) | simp_all) (by first | assumption | omega | (simp; omega) | simp_all) (by first | assumption | omega | (simp; omega) | simp_all)) ?_)
     | refine de rfl (eop_callx (i := 3) ca31 rfl (WeakL.refl _) rfl (c_benchmake_Stream_Some (L := [_, _, _]) (by first | assumption | omega | (simp; omega) | simp_all) (by first | assumption | omega | (simp; omega) | simp_all) (by first | assumption | omega | (simp; omega) | simp_all)) ?_)
     rintro _ _ ⟨y46, rfl, hy46, rfl⟩
     refine dp rfl (pop_move rfl) ?_
     first
     | refine de rfl (eop_callx (i := 0) ca51 rfl (WeakL.refl _) rfl (c_benchmake_Stream_Odd (by first | assumption | omega | (simp; omega) | simp_all) (by first | assumption | omega | (simp; omega) | simp_all) (by first | assumption | omega | (simp; omega) | simp_all) (by first | assumption | omega | (simp; omega) | simp_all)) ?_)
     | refine de rfl (eop_callx (i := 1) ca51 rfl (WeakL.refl _) rfl (c_benchmake_Stream_Odd (by first | assumption | omega | (simp; omega) | simp_all) (by first | assumption | omega | (simp; omega) | simp_all) (by first | assumption | omega | (simp; omega) | simp_all) (by first | assumption | omega | (simp; omega) | simp_all)) ?_)
     | refine de rfl (eop_callx (i := 2) ca51 rfl (WeakL.refl _) rfl (c_benchmake_Stream_Odd (by first | assumption | omega | (simp; omega) | simp_all) (by first | assumption | omega | (simp; omega) | simp_all) (by first | assumption | omega | (simp; omega) | simp_all) (by first | assumption | omega | (simp; omega) | simp_all)) ?_)
     | refine de rfl (eop_callx (i := 3) ca51 rfl (WeakL.refl _) rfl (c_benchmake_Stream_Odd (by first | assumption | omega | (simp; omega) | simp_all) (by first | assumption | omega | (simp; omega) | simp_all) (by first | assumption | omega | (simp; omega) | simp_all) (by first | assumption | omega | (simp; omega) | simp_all)) ?_)
     rintro _ _ ⟨y48, rfl, rfl⟩
     refine dp rfl ((by first | exact pop_nilCheck rfl | exact pop_nilCheck_raw rfl)) ?_
     refine dp rfl ((by first | exact pop_fieldAddr ty89 rfl ty9 (by decide) rfl | exact pop_fieldAddr_raw ty89 rfl ty9 (by decide) rfl)) ?_
     refine de0 (eop_store_arr (i := 1) (j := y36) (f := 0) (y := ePlace x) (y' := ePlace ⟨y46, x.Many⟩) ty9 rfl (by omega) rfl rfl (map_get hx) rfl rfl (by simp [hcells]) rfl ?_)
     refine dp rfl ((by first | exact pop_nilCheck rfl | exact pop_nilCheck_raw rfl)) ?_
     refine dp rfl ((by first | exact pop_fieldAddr ty89 rfl ty3 (by decide) rfl | exact pop_fieldAddr_raw ty89 rfl ty3 (by decide) rfl)) ?_
     refine de0 (eop_store_arr (i := 1) (j := y36) (f := 1) (y := ePlace ⟨y46, x.Many⟩) (y' := ePlace ⟨y46, y48⟩) ty3 rfl (by omega) rfl rfl (set_self (map_get hx)) rfl rfl (by simp [hcells]) rfl ?_)
     refine dn ?_
     exact ⟨(out.set y36 ⟨y46, y48⟩, a3 + 4), ⟨by simp; omega, all_set (P := GoodP) g2 (by simp at hy46; rcases hy46 with rfl | rfl | rfl; exact g2 x (List.mem_of_getElem? hx); exact nil_sh; (unfold GoodP Sh; simp)), by dsimp only; omega⟩, trivial, (by repeat (first | exact keeps_refl | refine keeps_upd rfl ?_ | refine keeps_loop rfl rfl ?_)), by repeat (first | exact List.Perm.nil | refine permTo 0 rfl ?_ | refine permTo 1 rfl ?_ | refine permTo 2 rfl ?_ | refine permTo 3 rfl ?_ | (refine permToE 0 rfl ?hq ?_; (case hq => simp [setL, hcells]; done)) | (refine permToE 1 rfl ?hq ?_; (case hq => simp [setL, hcells]; done)) | (refine permToE 2 rfl ?hq ?_; (case hq => simp [setL, hcells]; done)) | (refine permToE 3 rfl ?hq ?_; (case hq => simp [setL, hcells]; done)) | fail)⟩
    ·try simp at h6
     refine hw_skip ?_
     exact ⟨(out, a3), ⟨by dsimp only; omega, g2, by dsimp only; omega⟩, trivial, (by repeat (first | exact keeps_refl | refine keeps_upd rfl ?_ | refine keeps_loop rfl rfl ?_)), by repeat (first | exact List.Perm.nil | refine permTo 0 rfl ?_ | refine permTo 1 rfl ?_ | refine permTo 2 rfl ?_ | refine permTo 3 rfl ?_ | (refine permToE 0 rfl ?hq ?_; (case hq => simp [setL, hcells]; done)) | (refine permToE 1 rfl ?hq ?_; (case hq => simp [setL, hcells]; done)) | (refine permToE 2 rfl ?hq ?_; (case hq => simp [setL, hcells]; done)) | (refine permToE 3 rfl ?hq ?_; (case hq => simp [setL, hcells]; done)) | fail)⟩
   ·intro q hq3
    obtain ⟨k1, a4⟩ := q
    dsimp only at hq3
    obtain ⟨q1, q2, q3⟩ := hq3
    refine hw_reg ?_
    refine dp rfl (pop_move rfl) ?_
    refine dp rfl (pop_assign rfl) ?_
    refine dn ?_
    refine hw_ret ?_
    refine ret_g (Ghost.fa 2 (i := 1) rfl rfl) rfl ⟨k1, a4, rfl, ⟨by omega, q2⟩, by omega, rfl⟩
end Go.Proofs.YtkamelfigfbfiaaGreatDoor
end
section
namespace Go.HL
def tradedL (a b : List Asset) (give take : List Str) : List Asset := a.filter (fun x => !(give.contains x.Player)) ++ b.filter (fun x => take.contains x.Player)
def gainL (a b : List Asset) (p : List Place) (give take : List Str) : Int := sumF (tradedL a b give take) p - sumF a p
structure OfferS where
 give : List Str
 take : List Str
 less : Int
 sum : Int
abbrev eOffer (x : OfferS) : HVal := .agg [eSs x.give, eSs x.take, .int .i64 x.less, .int .i64 x.sum]
def mkO (a b : List Asset) (p : List Place) (give take : List Str) : OfferS := ⟨give, take, min (gainL a b p give take) (gainL b a p take give), gainL a b p give take + gainL b a p take give⟩
def betterO (x y : OfferS) : Bool := decide (0 < orI [cmpI x.less y.less, cmpI x.sum y.sum, cmpI ((y.give.length : Int) + y.take.length) ((x.give.length : Int) + x.take.length)])
def stepO (s : Option OfferS) (x : OfferS) : Option OfferS :=
 if 1 ≤ x.less then
  match s with
  | none => some x
  | some o => if betterO x o then some x else some o
 else s
/-! the lists of players -/
def chAt (n : Int) (l : List Asset) (i : Nat) : List (List Str) :=
 match l[i]? with
 | none => []
 | some x => [x.Player] :: (if 1 < n then (l.drop (i + 1)).map (fun y => [x.Player, y.Player]) else [])
def chPre (n : Int) (l : List Asset) (k : Nat) : List (List Str) := (List.range k).flatMap (chAt n l)
def choicesL (n : Int) (l : List Asset) : List (List Str) := chPre n l l.length
theorem chPre_succ (n : Int) (l : List Asset) (k : Nat) : chPre n l (k + 1) = chPre n l k ++ chAt n l k := by
 unfold chPre; rw [List.range_succ, List.flatMap_append]; simp
theorem chAt_some {n : Int} {l : List Asset} {i : Nat} {x : Asset} (h : l[i]? = some x) : chAt n l i = [x.Player] :: (if 1 < n then (l.drop (i + 1)).map (fun y => [x.Player, y.Player]) else []) := by unfold chAt; rw [h]
theorem chAt_len (n : Int) (l : List Asset) (i : Nat) : (chAt n l i).length ≤ 1 + l.length := by
 unfold chAt
 split
 ·simp
 ·split <;> simp <;> omega
theorem chPre_len (n : Int) (l : List Asset) : ∀ k, (chPre n l k).length ≤ k * (1 + l.length)
 | 0 => by simp [chPre]
 | k + 1 => by
   have h1 := chPre_len n l k
   have h2 := chAt_len n l k
   rw [chPre_succ, List.length_append, Nat.succ_mul]
   omega
theorem choices_len {n : Int} {l : List Asset} (h : l.length ≤ 8) : (choicesL n l).length ≤ 72 := by
 have h1 := chPre_len n l l.length
 have h2 : l.length * (1 + l.length) ≤ 8 * 9 := Nat.mul_le_mul h (by omega)
 unfold choicesL; omega
theorem ch_mem {n : Int} {l : List Asset} {t : List Str} (h : t ∈ choicesL n l) : ∃ (i : Nat) (x : Asset), l[i]? = some x ∧ (t = [x.Player] ∨ (1 < n ∧ ∃ (j : Nat) (y : Asset), i < j ∧ l[j]? = some y ∧ t = [x.Player, y.Player])) := by
 unfold choicesL chPre at h
 obtain ⟨i, _, hi⟩ := List.mem_flatMap.1 h
 unfold chAt at hi
 cases hx : l[i]? with
 | none => rw [hx] at hi; cases hi
 | some x =>
   rw [hx] at hi
   refine ⟨i, x, hx, ?_⟩
   rcases List.mem_cons.1 hi with rfl | hi
   ·exact .inl rfl
   ·split at hi
    ·rename_i hn
     obtain ⟨y, hy, rfl⟩ := List.mem_map.1 hi
     obtain ⟨j, hj⟩ := List.getElem?_of_mem hy
     rw [List.getElem?_drop] at hj
     exact .inr ⟨hn, i + 1 + j, y, by omega, hj, rfl⟩
    ·cases hi
theorem ch_first {n : Int} {x : Asset} {r : List Asset} : [x.Player] ∈ choicesL n (x :: r) := by
 unfold choicesL chPre
 refine List.mem_flatMap.2 ⟨0, List.mem_range.2 (by simp), ?_⟩
 rw [chAt_some (x := x) rfl]; exact List.mem_cons_self
theorem ch_small {n : Int} {l : List Asset} {t : List Str} (hn : 1 ≤ n ∧ n ≤ 2) (h : t ∈ choicesL n l) : 1 ≤ t.length ∧ (t.length : Int) ≤ n := by
 obtain ⟨i, x, _, h1 | ⟨h1, j, y, _, _, h2⟩⟩ := ch_mem h
 ·subst h1; simp; omega
 ·subst h2; simp; omega
/-! who is named -/
def hasP (l : List Asset) (s : Str) : Bool := l.any (fun y => y.Player == s)
def giveGo (l : List Asset) (who : List Str) : Nat → List Str → Int
 | _, [] => 0
 | k, s :: r => if !(hasP l s) then 8 else if (who.take k).contains s then 6 else giveGo l who (k + 1) r
def giveE (l : List Asset) (who : List Str) : Int := giveGo l who 0 who
theorem giveGo_ok {l : List Asset} {who : List Str} (h1 : ∀ s ∈ who, hasP l s = true) (h2 : who.Nodup) : ∀ (r : List Str) (k : Nat), r = who.drop k → giveGo l who k r = 0
 | [], _, _ => rfl
 | s :: r, k, e => by
   have hk : who[k]? = some s := by
    have := congrArg (·[0]?) e
    simpa using this.symm
   have hm := List.mem_of_getElem? hk
   rw [giveGo, if_neg (by rw [h1 s hm]; simp), if_neg ?_]
   ·refine giveGo_ok h1 h2 r (k + 1) ?_
    have := congrArg List.tail e
    simpa using this
   ·intro hc
    have hc' : s ∈ who.take k := by simpa using hc
    obtain ⟨i, hi⟩ := List.getElem?_of_mem hc'
    have hik : i < k := by have := lt_of_get hi; simp at this; omega
    rw [List.getElem?_take_of_lt hik] at hi
    have hil := lt_of_get hi
    have hkl := lt_of_get hk
    have := (List.nodup_iff_pairwise_ne.1 h2)
    have h3 := List.pairwise_iff_getElem.1 this i k hil hkl hik
    rw [List.getElem?_eq_getElem hil, Option.some.injEq] at hi
    rw [List.getElem?_eq_getElem hkl, Option.some.injEq] at hk
    exact h3 (by rw [hi, hk])
theorem giveE_ok {l : List Asset} {who : List Str} (h1 : ∀ s ∈ who, hasP l s = true) (h2 : who.Nodup) : giveE l who = 0 := giveGo_ok h1 h2 who 0 rfl
theorem hasP_of {l : List Asset} {i : Nat} {x : Asset} (h : l[i]? = some x) : hasP l x.Player = true := List.any_eq_true.2 ⟨x, List.mem_of_getElem? h, by simp⟩
theorem ch_give {n : Int} {l : List Asset} {t : List Str} (hn : (l.map (·.Player)).Nodup) (h : t ∈ choicesL n l) : giveE l t = 0 := by
 obtain ⟨i, x, hx, h1 | ⟨h1, j, y, hij, hy, h2⟩⟩ := ch_mem h
 ·subst h1
  refine giveE_ok (fun s hs => ?_) (by simp)
  rw [List.mem_singleton.1 hs]; exact hasP_of hx
 ·subst h2
  refine giveE_ok (fun s hs => ?_) ?_
  ·simp only [List.mem_cons, List.not_mem_nil, or_false] at hs
   rcases hs with rfl | rfl
   ·exact hasP_of hx
   ·exact hasP_of hy
  ·have h3 := List.pairwise_iff_getElem.1 (List.nodup_iff_pairwise_ne.1 hn) i j (by simpa using lt_of_get hx) (by simpa using lt_of_get hy) hij
   have hx' := (List.getElem?_eq_some_iff.1 hx).2
   have hy' := (List.getElem?_eq_some_iff.1 hy).2
   simp only [List.getElem_map, hx', hy'] at h3
   simp [h3]
/-! what is wrong with two teams -/
def bothP (a b : List Asset) : Bool := a.any (fun x => hasP b x.Player)
def swapE (a b : List Asset) (p : List Place) : Int := if orI [checkAssets a, checkAssets b, checkPlaces p] ≠ 0 then orI [checkAssets a, checkAssets b, checkPlaces p] else if bothP a b then 6 else 0
theorem swapE_ok {a b : List Asset} {p : List Place} (h : swapE a b p = 0) : checkAssets a = 0 ∧ checkAssets b = 0 ∧ checkPlaces p = 0 ∧ bothP a b = false := by
 unfold swapE at h
 split at h
 ·contradiction
 ·rename_i h1
  obtain ⟨h2, h3, h4⟩ := orI3 (by simpa using h1)
  split at h
  ·omega
  ·rename_i h5
   exact ⟨h2, h3, h4, by simpa using h5⟩
/-! lengths and sums -/
theorem filter_or_len {α : Type} {p q r : α → Bool} (h : ∀ x, r x = true → p x = true ∨ q x = true) : ∀ l : List α, (l.filter r).length ≤ (l.filter p).length + (l.filter q).length
 | [] => by simp
 | x :: l => by
   have ih := filter_or_len h l
   have hx := h x
   simp only [List.filter_cons]
   cases c1 : r x <;> cases c2 : p x <;> cases c3 : q x <;> simp_all <;> omega
theorem one_named {t : Str} : ∀ {l : List Asset}, (l.map (·.Player)).Nodup → (l.filter (fun x => x.Player == t)).length ≤ 1
 | [], _ => by simp
 | x :: l, h => by
   simp only [List.map_cons, List.nodup_cons, List.mem_map, not_exists, not_and] at h
   rw [List.filter_cons]
   split
   ·rename_i hx
    have : l.filter (fun x => x.Player == t) = [] := by
     refine List.filter_eq_nil_iff.2 fun y hy => ?_
     have := h.1 y hy
     simp only [beq_iff_eq] at hx ⊢
     rw [← hx]; exact this
    rw [this]; simp
   ·exact one_named h.2
theorem named_len {l : List Asset} (h : (l.map (·.Player)).Nodup) : ∀ t : List Str, (l.filter (fun x => t.contains x.Player)).length ≤ t.length
 | [] => by simp
 | s :: t => by
   have h1 := filter_or_len (p := fun x : Asset => x.Player == s) (q := fun x => t.contains x.Player) (r := fun x => (s :: t).contains x.Player) (fun x hx => by simpa using hx) l
   have h2 := one_named (t := s) h
   have h3 := named_len h t
   simp only [List.length_cons]; omega
theorem traded_len {a b : List Asset} {give take : List Str} (h : (b.map (·.Player)).Nodup) : (tradedL a b give take).length ≤ a.length + take.length := by
 have h1 := named_len h take
 have h2 := List.length_filter_le (fun x : Asset => !(give.contains x.Player)) a
 unfold tradedL; rw [List.length_append]; omega
theorem traded_mem {a b : List Asset} {give take : List Str} {x : Asset} (h : x ∈ tradedL a b give take) : x ∈ a ∨ x ∈ b := by
 unfold tradedL at h
 rcases List.mem_append.1 h with h | h
 ·exact .inl (List.mem_filter.1 h).1
 ·exact .inr (List.mem_filter.1 h).1
theorem sumF_bd {l : List Asset} {p : List Place} (hl : l.length ≤ 12) (hp : p.length ≤ 10) (hv : ∀ x ∈ l, -1000000 ≤ x.Value ∧ x.Value ≤ 1000000) : -120000000 ≤ sumF l p ∧ sumF l p ≤ 120000000 := by
 have h := field_bd (f := ofP l) (p := p) (i := p.length) (fun s m y => mem_chosen) (fun s => Nat.le_trans (ofP_len l s) hl) hp hv
 rw [List.take_length] at h
 exact h.2
/-! the best offer -/
theorem orI_pos {a b c : Int} : 0 < orI [a, b, c] ↔ 0 < a ∨ (a = 0 ∧ (0 < b ∨ (b = 0 ∧ 0 < c))) := by
 simp only [orI]
 by_cases ha : a = 0 <;> by_cases hb : b = 0 <;> by_cases hc : c = 0 <;> simp [ha, hb, hc] <;> omega
theorem cmpI_pos {a b : Int} : 0 < cmpI a b ↔ b < a := by unfold cmpI; split <;> (try split) <;> omega
theorem better_le {x y : OfferS} (h : betterO x y = true) : y.less ≤ x.less := by
 unfold betterO at h
 rw [decide_eq_true_eq, orI_pos, cmpI_pos] at h
 rcases h with h | ⟨h, _⟩
 ·omega
 ·unfold cmpI at h; split at h <;> (try split at h) <;> omega
theorem better_not {x y : OfferS} (h : betterO x y = false) : x.less ≤ y.less := by
 unfold betterO at h
 rw [decide_eq_false_iff_not, orI_pos, cmpI_pos] at h
 omega
structure BestOk (s : Option OfferS) (xs : List OfferS) : Prop where
 no : s = none → ∀ x ∈ xs, x.less < 1
 yes : ∀ o, s = some o → 1 ≤ o.less ∧ o ∈ xs ∧ ∀ x ∈ xs, x.less < 1 ∨ x.less ≤ o.less
theorem BestOk.step {s : Option OfferS} {xs : List OfferS} (h : BestOk s xs) (x : OfferS) : BestOk (stepO s x) (xs ++ [x]) := by
 have mem : ∀ z ∈ xs ++ [x], z ∈ xs ∨ z = x := fun z hz => by simpa using hz
 unfold stepO
 by_cases c : 1 ≤ x.less
 ·rw [if_pos c]
  cases s with
  | none =>
    refine ⟨fun e => (by cases e), fun o e => ?_⟩
    simp only [Option.some.injEq] at e
    subst e
    refine ⟨c, by simp, fun z hz => ?_⟩
    rcases mem z hz with hz | rfl
    ·exact .inl (h.no rfl z hz)
    ·exact .inr (Int.le_refl _)
  | some o0 =>
    obtain ⟨h1, h2, h3⟩ := h.yes o0 rfl
    dsimp only
    cases cb : betterO x o0 with
    | true =>
      rw [if_pos rfl]
      refine ⟨fun e => (by cases e), fun o e => ?_⟩
      simp only [Option.some.injEq] at e
      subst e
      have hle := better_le cb
      refine ⟨c, by simp, fun z hz => ?_⟩
      rcases mem z hz with hz | rfl
      ·rcases h3 z hz with q | q
       ·exact .inl q
       ·exact .inr (by omega)
      ·exact .inr (Int.le_refl _)
    | false =>
      rw [if_neg (by simp)]
      refine ⟨fun e => (by cases e), fun o e => ?_⟩
      simp only [Option.some.injEq] at e
      subst e
      have hle := better_not cb
      refine ⟨h1, by simp [h2], fun z hz => ?_⟩
      rcases mem z hz with hz | rfl
      ·exact h3 z hz
      ·exact .inr hle
 ·rw [if_neg c]
  refine ⟨fun e z hz => ?_, fun o e => ?_⟩
  ·rcases mem z hz with hz | rfl
   ·exact h.no e z hz
   ·omega
  ·obtain ⟨h1, h2, h3⟩ := h.yes o e
   refine ⟨h1, by simp [h2], fun z hz => ?_⟩
   rcases mem z hz with hz | rfl
   ·exact h3 z hz
   ·exact .inl (by omega)
def foldO (xs : List OfferS) : Option OfferS := xs.foldl stepO none
theorem foldO_snoc (xs : List OfferS) (x : OfferS) : foldO (xs ++ [x]) = stepO (foldO xs) x := by simp [foldO]
theorem foldO_ok (xs : List OfferS) : BestOk (foldO xs) xs := by
 have key : ∀ k, k ≤ xs.length → BestOk (foldO (xs.take k)) (xs.take k) := by
  intro k
  induction k with
  | zero => intro _; exact ⟨fun _ x hx => by simp at hx, fun o e => by simp [foldO] at e⟩
  | succ k ih =>
    intro hk
    have hx := List.getElem?_eq_getElem (l := xs) (i := k) (by omega)
    rw [take_snoc' hx, foldO_snoc]
    exact (ih (by omega)).step _
 have := key xs.length (Nat.le_refl _)
 rwa [List.take_length] at this
/-- The offers in the order in which they are looked at. -/
def offersL (a b : List Asset) (p : List Place) (G T : List (List Str)) : List OfferS := G.flatMap fun g => T.map (mkO a b p g)
theorem offers_snoc (a b : List Asset) (p : List Place) (G T : List (List Str)) (g : List Str) : offersL a b p (G ++ [g]) T = offersL a b p G T ++ T.map (mkO a b p g) := by simp [offersL]
def bestO (a b : List Asset) (p : List Place) (n : Int) : Option OfferS := foldO (offersL a b p (choicesL n a) (choicesL n b))
structure BestIs (a b : List Asset) (p : List Place) (n : Int) (o : OfferS) : Prop where
 give : o.give ∈ choicesL n a
 take : o.take ∈ choicesL n b
 is : o = mkO a b p o.give o.take
 one : 1 ≤ o.less
 top : ∀ g ∈ choicesL n a, ∀ t ∈ choicesL n b, (mkO a b p g t).less < 1 ∨ (mkO a b p g t).less ≤ o.less
theorem best_is {a b : List Asset} {p : List Place} {n : Int} {o : OfferS} (h : bestO a b p n = some o) : BestIs a b p n o := by
 obtain ⟨h1, h2, h3⟩ := (foldO_ok _).yes o h
 unfold offersL at h2
 obtain ⟨g, hg, ht⟩ := List.mem_flatMap.1 h2
 obtain ⟨t, ht, e⟩ := List.mem_map.1 ht
 have e1 : o.give = g := by rw [← e]; rfl
 have e2 : o.take = t := by rw [← e]; rfl
 exact ⟨by rw [e1]; exact hg, by rw [e2]; exact ht, by rw [e1, e2, e], h1, fun g' hg' t' ht' => h3 _ (List.mem_flatMap.2 ⟨g', hg', List.mem_map.2 ⟨t', ht', rfl⟩⟩)⟩
/-- The law: both gain, and no less than by the first players alone. -/
theorem swaps_law {a b : List Asset} {p : List Place} {n : Int} {o : OfferS} {x y : Asset} {r s : List Asset} (h : bestO a b p n = some o) (ea : a = x :: r) (eb : b = y :: s) :
 1 ≤ gainL a b p o.give o.take ∧ 1 ≤ gainL b a p o.take o.give ∧ min (gainL a b p [x.Player] [y.Player]) (gainL b a p [y.Player] [x.Player]) ≤ min (gainL a b p o.give o.take) (gainL b a p o.take o.give) := by
 subst ea eb
 have hb := best_is h
 have h1 := hb.one
 have e : o.less = min (gainL (x :: r) (y :: s) p o.give o.take) (gainL (y :: s) (x :: r) p o.take o.give) := congrArg (·.less) hb.is
 have h2 := hb.top _ ch_first _ ch_first
 have h3 : (mkO (x :: r) (y :: s) p [x.Player] [y.Player]).less = min (gainL (x :: r) (y :: s) p [x.Player] [y.Player]) (gainL (y :: s) (x :: r) p [y.Player] [x.Player]) := rfl
 rw [h3] at h2
 omega
end Go.HL
end
section
namespace Go.HL
section
variable {P : Program} {e : Env} {dst : Option Tmp} {ty : TypeId} {pos : String} {af : Array Edge} {g : Option (Nat × Bool)}
theorem run_equal_ptrnil {t el : TypeId} (hu : P.underlying t = some (.pointer el)) (a : Option Addr) (w : World) : (Op.equal t (.pointer a) (.pointer none)).run P w = .ok a.isNone w := by
 have h : ∀ d, (Op.equalIn (d + 1) t (.pointer a) (.pointer none)).run P w = .ok a.isNone w := fun d => by
  cases a <;> simp only [Op.equalIn, Sem.run_bind, run_underlying hu, Result.andThen_ok, Sem.run_pure, Option.isNone]
 exact h 9999
/-- What a variable holds that is nil or points to contents. -/
def ptrO : Option (List HVal) → HVal
 | none => .raw (.pointer none)
 | some cs => .vptr cs 0
theorem pop_eqnilP [Tracks] {x y : Operand} {t t' el : TypeId} {size bytes : Nat} {zero : Value} {o : Option (List HVal)} (hf : Fits P t (.ptr el) size bytes zero) (hx : evalO e x = some (ptrO o)) (hy : evalO e y = some (.raw (.pointer none))) :
 POp P e ⟨dst, .binOp .eql t x y t', ty, pos, af, g⟩ (.bool o.isNone) :=
 POp.of_val fun I a w ho => by
  have hv := ho.one (x := x) (by simp [Op.operands]) hx
  have h2 := (ho.one (x := y) (by simp [Op.operands]) hy).raw_inv
  cases o with
  | none =>
    have h1 := hv.raw_inv
    refine ⟨_, ?_, .bool _⟩
    simp [execOp, h1, h2, eqGuard, binOp, run_equal_ptrnil hf.ptrD]
  | some cs =>
    obtain ⟨b, base, rc, el', fr, h1, h3, h4, h5⟩ := hv.vptr_inv
    refine ⟨_, ?_, .bool _⟩
    simp [execOp, h1, h2, eqGuard, binOp, run_equal_ptrnil hf.ptrD]
end
end Go.HL
namespace Go.HL
theorem weak_tup4 [Tracks] {a b c d a' b' c' d' : HVal} (h1 : Weak a a') (h2 : Weak b b') (h3 : Weak c c') (h4 : Weak d d') : Weak (.tup [a, b, c, d]) (.tup [a', b', c', d']) :=
 weak_tup rfl fun j h h' x y => by
  match j, x, y with
  | 0, x, y => simp at x y; subst x y; exact h1
  | 1, x, y => simp at x y; subst x y; exact h2
  | 2, x, y => simp at x y; subst x y; exact h3
  | 3, x, y => simp at x y; subst x y; exact h4
end Go.HL
end
section
namespace Go.HL
def off0 : OfferS := ⟨[], [], 0, 0⟩
def bestV (s : Option OfferS) : HVal := ptrO (s.map fun o => hcells (eOffer o))
theorem bestV_some {s : Option OfferS} (h : s.isNone = false) : bestV s = .vptr (hcells (eOffer (s.getD off0))) 0 := by
 cases s with
 | none => cases h
 | some o => rfl
theorem stepO_is (s : Option OfferS) (x : OfferS) : stepO s x = if (decide (1 ≤ x.less) && (s.isNone || betterO x (s.getD off0))) = true then some x else s := by
 unfold stepO
 by_cases c : 1 ≤ x.less
 ·rw [if_pos c]
  cases s with
  | none => simp [c]
  | some o => simp [c]
 ·rw [if_neg c, if_neg (by simp [c])]
def giveS (s : Option OfferS) : List Str := match s with | none => [] | some o => o.give
def takeS (s : Option OfferS) : List Str := match s with | none => [] | some o => o.take
def bothR (a b : List Asset) : Int := if a.any (fun x => b.any (fun y => x.Player == y.Player)) then 6 else 0
theorem swapE_of {a b : List Asset} {p : List Place} (h1 : checkAssets a = 0) (h2 : checkAssets b = 0) (h3 : checkPlaces p = 0) (h4 : bothR a b = 0) : swapE a b p = 0 := by
 have h5 : bothP a b = false := by
  unfold bothR at h4
  split at h4
  ·omega
  ·rename_i hc
   rw [Bool.eq_false_iff]
   intro hb
   apply hc
   unfold bothP hasP at hb
   obtain ⟨x, hx, hy⟩ := List.any_eq_true.1 hb
   obtain ⟨y, hy, he⟩ := List.any_eq_true.1 hy
   exact List.any_eq_true.2 ⟨x, hx, List.any_eq_true.2 ⟨y, hy, by simp only [beq_iff_eq] at he ⊢; exact he.symm⟩⟩
 unfold swapE
 rw [if_neg (by simp [orI, h1, h2, h3]), h5]; rfl
theorem offers_take {a b : List Asset} {p : List Place} {G T : List (List Str)} {i : Nat} {g : List Str} (h : G[i]? = some g) : offersL a b p (G.take (i + 1)) T = offersL a b p (G.take i) T ++ T.map (mkO a b p g) := by rw [take_snoc' h, offers_snoc]
theorem fold_take {xs : List OfferS} {a b : List Asset} {p : List Place} {T : List (List Str)} {j : Nat} {g t : List Str} (h : T[j]? = some t) : foldO (xs ++ (T.take (j + 1)).map (mkO a b p g)) = stepO (foldO (xs ++ (T.take j).map (mkO a b p g))) (mkO a b p g t) := by
 rw [take_snoc' h, List.map_append, ← List.append_assoc]
 exact foldO_snoc _ _
theorem min_iteI {x y : Int} : (if y < x then y else x) = min x y := by split <;> omega
theorem ch_cons {n : Int} {l : List Asset} {t : List Str} (h : t ∈ choicesL n l) : ∃ x r, l = x :: r := by
 obtain ⟨i, x, hx, _⟩ := ch_mem h
 cases l with
 | nil => simp at hx
 | cons y r => exact ⟨y, r, rfl⟩
theorem one_give {l : List Asset} {x : Asset} {r : List Asset} (e : l = x :: r) : giveE l [x.Player] = 0 := by
 subst e
 exact giveE_ok (fun s hs => by rw [List.mem_singleton.1 hs]; exact hasP_of (i := 0) rfl) (by simp)
structure SwapOk (a b : List Asset) (p : List Place) : Prop where
 ca : checkAssets a = 0
 cb : checkAssets b = 0
 da : (a.map (·.Player)).Nodup
 db : (b.map (·.Player)).Nodup
 p10 : p.length ≤ 10
 many : ∀ x ∈ p, 0 ≤ x.Many
 va : ∀ x ∈ a, -1000000 ≤ x.Value ∧ x.Value ≤ 1000000
 vb : ∀ x ∈ b, -1000000 ≤ x.Value ∧ x.Value ≤ 1000000
theorem swap_ok {a b : List Asset} {p : List Place} (h : swapE a b p = 0) : SwapOk a b p := by
 obtain ⟨h1, h2, h3, _⟩ := swapE_ok h
 obtain ⟨a1, a2⟩ := checkAssets_ok h1
 obtain ⟨b1, b2⟩ := checkAssets_ok h2
 obtain ⟨c1, c2⟩ := checkPlaces_ok h3
 exact ⟨h1, h2, sortedS_nodup a1, sortedS_nodup b1, c2, fun x hx => (c1 x hx).1, fun x hx => (assetFault_ok (a2 x hx)).2.2, fun x hx => (assetFault_ok (b2 x hx)).2.2⟩
theorem SwapOk.flip {a b : List Asset} {p : List Place} (h : SwapOk a b p) : SwapOk b a p := ⟨h.cb, h.ca, h.db, h.da, h.p10, h.many, h.vb, h.va⟩
theorem SwapOk.gain {a b : List Asset} {p : List Place} {give take : List Str} (h : SwapOk a b p) (hla : a.length ≤ 8) (ht : take.length ≤ 4) :
 ((tradedL a b give take).length ≤ 12 ∧ ∀ x ∈ tradedL a b give take, -1000000 ≤ x.Value ∧ x.Value ≤ 1000000) ∧ (-120000000 ≤ sumF a p ∧ sumF a p ≤ 120000000) ∧ (-120000000 ≤ sumF (tradedL a b give take) p ∧ sumF (tradedL a b give take) p ≤ 120000000) := by
 have h1 := traded_len (a := a) (give := give) (take := take) h.db
 have h2 : ∀ x ∈ tradedL a b give take, -1000000 ≤ x.Value ∧ x.Value ≤ 1000000 := fun x hx => by
  rcases traded_mem hx with hx | hx
  ·exact h.va x hx
  ·exact h.vb x hx
 exact ⟨⟨by omega, h2⟩, sumF_bd (by omega) h.p10 h.va, sumF_bd (by omega) h.p10 h2⟩
theorem fold_small {n : Int} (hn : 1 ≤ n ∧ n ≤ 2) {a b : List Asset} {p : List Place} {i j : Nat} {g : List Str} (hg : (choicesL n a)[i]? = some g) :
 ((foldO (offersL a b p ((choicesL n a).take i) (choicesL n b) ++ ((choicesL n b).take j).map (mkO a b p g))).getD off0).give.length ≤ 1000 ∧ ((foldO (offersL a b p ((choicesL n a).take i) (choicesL n b) ++ ((choicesL n b).take j).map (mkO a b p g))).getD off0).take.length ≤ 1000 := by
 generalize hx : offersL a b p ((choicesL n a).take i) (choicesL n b) ++ ((choicesL n b).take j).map (mkO a b p g) = xs
 cases e : foldO xs with
 | none => simp [off0]
 | some o =>
   have hm := ((foldO_ok xs).yes o e).2.1
   rw [← hx] at hm
   have key : ∃ g' ∈ choicesL n a, ∃ t' ∈ choicesL n b, o = mkO a b p g' t' := by
    rcases List.mem_append.1 hm with hm | hm
    ·unfold offersL at hm
     obtain ⟨g', h1, h2⟩ := List.mem_flatMap.1 hm
     obtain ⟨t', h3, h4⟩ := List.mem_map.1 h2
     exact ⟨g', List.mem_of_mem_take h1, t', h3, h4.symm⟩
    ·obtain ⟨t', h3, h4⟩ := List.mem_map.1 hm
     exact ⟨g, List.mem_of_getElem? hg, t', List.mem_of_mem_take h3, h4.symm⟩
   obtain ⟨g', h1, t', h2, rfl⟩ := key
   have h3 := ch_small hn h1
   have h4 := ch_small hn h2
   show g'.length ≤ 1000 ∧ t'.length ≤ 1000
   omega
end Go.HL
end
section
namespace Go.Proofs.YtkamelfigfbfiaaGreatDoor
open Go.HL
set_option maxRecDepth 100000
set_option linter.unusedVariables false
set_option linter.unusedSimpArgs false
/-- benchwarmer/benchref1.BothFault$1 -/
theorem c_benchref1_BothFault_1 [Tracks] {y x : Asset}  : ConP Tryz.prog 55 [eAsset y, .vptr (hcells (eAsset x)) 0] (.bool (x.Player == y.Player)) := by
 refine Con.of_body Tryz.func55 rfl Tryz.ntmps55 rfl rfl ?_
 refine hw_reg ?_
 refine dp rfl (pop_box rfl rfl) ?_
 refine dp rfl (pop_assign rfl) ?_
 refine dn ?_
 refine hw_reg ?_
 refine dp rfl (pop_fieldAddr ty42 rfl ty9 (by decide) rfl) ?_
 refine dp rfl (pop_load ty9 rfl rfl rfl) ?_
 refine dp rfl (pop_fieldAddr ty42 rfl ty9 (by decide) rfl) ?_
 refine dp rfl (pop_load ty9 rfl rfl rfl) ?_
 refine dp rfl (pop_eqls rfl rfl) ?_
 refine dp rfl (pop_assign rfl) ?_
 refine dn ?_
 refine hw_ret ?_
 refine ret_p rfl ?_
 rfl

/-- benchwarmer/benchref1.BothFault -/
theorem c_benchref1_BothFault [Tracks] {a b : List Asset} (hla : a.length ≤ 8) (hlb : b.length ≤ 8) : ConP Tryz.prog 12 [eAssets a, eAssets b] (.int .i64 (bothR a b)) := by
 refine Con.of_body Tryz.func12 rfl Tryz.ntmps12 rfl rfl ?_
 refine hw_reg ?_
 refine dp rfl (pop_assign rfl) ?_
 refine dn ?_
 refine hw_seq ?_
 refine hw_reg ?_
 refine dp rfl (pop_move rfl) ?_
 refine dp rfl (pop_lenm ty26 rfl) ?_
 refine dp rfl (pop_move rfl) ?_
 refine dn ?_
 refine hw_block ?_
 refine hw_loopw [4, 6, 9, 10, 11, 12, 13, 14, 15, 16] (fun (k : Nat) => [(9, .int .i64 k)]) (fun (k : Nat) => []) (fun (k : Nat) => k ≤ a.length ∧ (a.any (fun x => b.any (fun y => x.Player == y.Player)) = (a.drop k).any (fun x => b.any (fun y => x.Player == y.Player)))) (fun (k : Nat) => a.length - k) (0) ?_ ?_ ?_ ?_
 ·exact ⟨Nat.zero_le _, rfl⟩
 ·exact ⟨rfl, trivial⟩
 ·exact List.Perm.refl _
 ·intro k hinv
  obtain ⟨hk, hg⟩ := hinv
  refine hw_reg ?_
  refine dp rfl (pop_lss rfl rfl) ?_
  refine dn ?_
  refine hw_seq ?_
  refine hw_cond rfl (fun h1 => ?_) (fun h2 => ?_)
  ·try simp at h1
   obtain ⟨x, hx⟩ : ∃ x, a[k]? = some x := ⟨_, List.getElem?_eq_getElem h1⟩
   have hdx := drop_cons hx
   rw [hdx, List.any_cons] at hg
   refine hw_skip ?_
   refine seqQ_n ?_
   refine hw_seq ?_
   refine hw_block ?_
   refine hw_reg ?_
   refine dp rfl (pop_idx ty26 ty42 rfl rfl rfl (by first | assumption | simp_all)) ?_
   refine dp rfl (pop_loadw ty42 rfl rfl rfl rfl) ?_
   refine de rfl (eop_alloc ty42 rfl fun b6 => ?_)
   refine de0 (eop_storew ty42 rfl rfl rfl rfl rfl ?_)
   refine dn ?_
   refine hw_ghost (Ghost.fc0 6 rfl) ?_
   refine hw_reg ?_
   refine dp rfl (pop_move rfl) ?_
   refine dp rfl (pop_makeFunc rfl rfl) ?_
   refine dp rfl (pop_call ca54 rfl (WeakL.refl _) (c_slices_ContainsFunc_api_Asset_api_Asset (l := b) (p := fun y => x.Player == y.Player) ca55 (fun _ => c_benchref1_BothFault_1) (by omega))) ?_
   refine dn ?_
   refine hw_cond rfl (fun h3 => ?_) (fun h4 => ?_)
   ·try simp at h3
    refine hw_reg ?_
    refine dp rfl (pop_assign rfl) ?_
    refine dn ?_
    refine hw_ret ?_
    refine ret_p rfl ?_
    show HVal.int .i64 _ = _
    unfold bothR
    rw [hg]; simp_all
   ·try simp at h4
    refine hw_skip ?_
    refine blockQ_n ?_
    refine seqQ_n ?_
    refine hw_reg1 ?_
    refine dp rfl (pop_add64 rfl rfl (by omega) (by omega)) ?_
    refine dp rfl (pop_move rfl) ?_
    refine dn ?_
    refine ⟨k + 1, ?_, ?_, ⟨rfl, trivial⟩, (by repeat (first | exact keeps_refl | refine keeps_upd rfl ?_ | refine keeps_loop rfl rfl ?_)), List.Perm.refl _⟩
    ·refine ⟨by omega, ?_⟩
     rw [hg]; simp_all
    ·dsimp only; omega
  ·try simp at h2
   have hnk : a.length ≤ k := by omega
   obtain rfl : k = a.length := by omega
   rw [drop_all (Nat.le_refl _)] at hg
   refine hw_exit ?_
   refine seqQ_x ?_
   refine loopQ_x ?_
   refine blockQ_eq ?_
   refine seqQ_n ?_
   refine hw_reg ?_
   refine dp rfl (pop_assign rfl) ?_
   refine dn ?_
   refine hw_ret ?_
   refine ret_p rfl ?_
   show HVal.int .i64 _ = _
   unfold bothR
   rw [hg]; simp_all

/-- benchwarmer/value.swapFault$1 -/
theorem c_value_swapFault_1 [Tracks] {x : Asset} {b : List Asset} (hlb : b.length ≤ 1000000) : ConP Tryz.prog 119 [eAsset x, .vptr [eAssets b] 0] (.bool (hasP b x.Player)) := by
 refine Con.of_body Tryz.func119 rfl Tryz.ntmps119 rfl rfl ?_
 refine hw_reg ?_
 refine dp rfl (pop_box rfl rfl) ?_
 refine dp rfl (pop_assign rfl) ?_
 refine dn ?_
 refine hw_reg ?_
 refine dp rfl (pop_load ty26 rfl rfl rfl) ?_
 refine dp rfl (pop_fieldAddr ty42 rfl ty9 (by decide) rfl) ?_
 refine dp rfl (pop_load ty9 rfl rfl rfl) ?_
 refine dp rfl (pop_call ca120 rfl (WeakL.refl _) (c_value_isIn (l := b) (s := x.Player) hlb)) ?_
 refine dp rfl (pop_assign rfl) ?_
 refine dn ?_
 refine hw_ret ?_
 refine ret_p rfl ?_
 rfl

/-- benchwarmer/value.swapFault -/
theorem c_value_swapFault [Tracks] {a b : List Asset} {p : List HL.Place} (hla : a.length ≤ 8) (hlb : b.length ≤ 8) (hp : p.length ≤ 1000000) : ConP Tryz.prog 60 [eAssets a, eAssets b, ePlaces p] (.int .i64 (swapE a b p)) := by
 refine Con.of_body Tryz.func60 rfl Tryz.ntmps60 rfl rfl ?_
 refine hw_reg ?_
 refine dp rfl (pop_box rfl rfl) ?_
 refine dp rfl (pop_assign rfl) ?_
 refine dn ?_
 refine hw_seq ?_
 refine hw_draw (fun _ => True) [] mixed ?_
 refine ahp 0 rfl rfl (by kernel_rfl) (by kernel_rfl) (pop_move rfl) ?_
 refine ahp 1 rfl rfl (by kernel_rfl) (by kernel_rfl) (pop_call ca116 rfl (WeakL.refl _) (c_value_CheckAssets (by first | assumption | omega | (simp; omega) | simp_all))) ?_
 refine ahp 2 rfl rfl (by kernel_rfl) (by kernel_rfl) (pop_load ty26 rfl rfl rfl) ?_
 refine ahp 3 rfl rfl (by kernel_rfl) (by kernel_rfl) (pop_call ca116 rfl (WeakL.refl _) (c_value_CheckAssets (by first | assumption | omega | (simp; omega) | simp_all))) ?_
 refine ahp 4 rfl rfl (by kernel_rfl) (by kernel_rfl) (pop_move rfl) ?_
 refine ahp 5 rfl rfl (by kernel_rfl) (by kernel_rfl) (pop_call ca117 rfl (WeakL.refl _) (c_value_CheckPlaces (by first | assumption | omega | (simp; omega) | simp_all))) ?_
 refine ahp 6 rfl rfl (by kernel_rfl) (by kernel_rfl) (pop_buildSlice (hs := [_, _, _]) ty136 ty31 rfl rfl (by decide) (by decide) rfl) ?_
 refine ahp 7 rfl rfl (by kernel_rfl) (by kernel_rfl) (pop_call ca65 rfl (WeakL.refl _) (c_base_First (l := [_, _, _]) (by simp))) ?_
 refine ahp 8 rfl rfl (by kernel_rfl) (by kernel_rfl) (pop_assign rfl) ?_
 refine ahz (by kernel_rfl) ?_
 refine hw_reg ?_
 refine dp rfl (pop_move rfl) ?_
 refine dp rfl (pop_neq rfl rfl) ?_
 refine dn ?_
 refine hw_cond rfl (fun h1 => ?_) (fun h2 => ?_)
 ·try simp at h1
  refine hw_reg ?_
  refine dp rfl (pop_move rfl) ?_
  refine dp rfl (pop_assign rfl) ?_
  refine dn ?_
  refine hw_ret ?_
  refine ret_p rfl ?_
  show HVal.int .i64 _ = _
  unfold swapE bothP
  simp_all
 ·try simp at h2
  refine hw_skip ?_
  refine seqQ_n ?_
  refine hw_seq ?_
  refine hw_reg ?_
  refine dp rfl (pop_move rfl) ?_
  refine dp rfl (pop_makeFunc rfl rfl) ?_
  refine dp rfl (pop_call ca54 rfl (WeakL.refl _) (c_slices_ContainsFunc_api_Asset_api_Asset (l := a) (p := fun x => hasP b x.Player) ca119 (fun _ => c_value_swapFault_1 (by omega)) (by omega))) ?_
  refine dn ?_
  refine hw_cond rfl (fun h3 => ?_) (fun h4 => ?_)
  ·try simp at h3
   refine hw_reg ?_
   refine dp rfl (pop_assign rfl) ?_
   refine dn ?_
   refine hw_ret ?_
   refine ret_p rfl ?_
   show HVal.int .i64 _ = _
   unfold swapE bothP
   simp_all
  ·try simp at h4
   refine hw_skip ?_
   refine seqQ_n ?_
   refine hw_reg ?_
   refine dp rfl (pop_assign rfl) ?_
   refine dn ?_
   refine hw_ret ?_
   refine ret_p rfl ?_
   show HVal.int .i64 _ = _
   unfold swapE bothP
   simp_all

/-- benchwarmer/value.giveFault -/
theorem c_value_giveFault [Tracks] {l : List Asset} {who : List Str} (hl : l.length ≤ 1000000) (hw : who.length ≤ 1000000) : ConP Tryz.prog 66 [eAssets l, eSs who] (.int .i64 (giveE l who)) := by
 refine Con.of_body Tryz.func66 rfl Tryz.ntmps66 rfl rfl ?_
 refine hw_reg ?_
 refine dp rfl (pop_assign rfl) ?_
 refine dn ?_
 refine hw_seq ?_
 refine hw_reg ?_
 refine dp rfl (pop_move rfl) ?_
 refine dp rfl (pop_lenm ty36 rfl) ?_
 refine dp rfl (pop_move rfl) ?_
 refine dn ?_
 refine hw_block ?_
 refine hw_loopw [4, 5, 6, 9, 10, 11, 12, 13, 14, 15, 16, 17, 18, 19, 20, 21, 22, 23] (fun (k : Nat) => [(9, .int .i64 k)]) (fun (k : Nat) => []) (fun (k : Nat) => k ≤ who.length ∧ (giveGo l who 0 who = giveGo l who k (who.drop k))) (fun (k : Nat) => who.length - k) (0) ?_ ?_ ?_ ?_
 ·exact ⟨Nat.zero_le _, rfl⟩
 ·exact ⟨rfl, trivial⟩
 ·exact List.Perm.refl _
 ·intro k hinv
  obtain ⟨hk, hg⟩ := hinv
  refine hw_reg ?_
  refine dp rfl (pop_lss rfl rfl) ?_
  refine dn ?_
  refine hw_seq ?_
  refine hw_cond rfl (fun h1 => ?_) (fun h2 => ?_)
  ·try simp at h1
   obtain ⟨x, hx⟩ : ∃ x, who[k]? = some x := ⟨_, List.getElem?_eq_getElem h1⟩
   have hdx := drop_cons hx
   rw [hdx] at hg
   refine hw_skip ?_
   refine seqQ_n ?_
   refine hw_seq ?_
   refine hw_block ?_
   refine hw_reg ?_
   refine dp rfl (pop_move rfl) ?_
   refine dp rfl (pop_idx ty36 ty9 rfl rfl rfl (by first | assumption | simp_all)) ?_
   refine dp rfl (pop_load ty9 rfl rfl rfl) ?_
   refine dp rfl (pop_assign rfl) ?_
   refine dp rfl (pop_assign rfl) ?_
   refine dn ?_
   refine hw_seq ?_
   refine hw_reg ?_
   refine dp rfl (pop_move rfl) ?_
   refine dp rfl (pop_move rfl) ?_
   refine dp rfl (pop_call ca120 rfl (WeakL.refl _) (c_value_isIn (l := l) (s := x) hl)) ?_
   refine dp rfl (pop_not rfl) ?_
   refine dn ?_
   refine hw_cond rfl (fun h3 => ?_) (fun h4 => ?_)
   ·try simp at h3
    refine hw_reg ?_
    refine dp rfl (pop_assign rfl) ?_
    refine dn ?_
    refine hw_ret ?_
    refine ret_p rfl ?_
    show HVal.int .i64 _ = _
    unfold giveE
    first
    | (rw [hg]; rfl)
    | (rw [hg, giveGo, if_pos (by simp_all [hasP])]; done)
    | (rw [hg, giveGo, if_neg (by simp_all [hasP]), if_pos (by simp_all)]; done)
   ·try simp at h4
    refine hw_skip ?_
    refine seqQ_n ?_
    refine hw_reg ?_
    refine dp rfl (pop_move rfl) ?_
    refine dp rfl (pop_move rfl) ?_
    refine dp rfl (pop_slicem (h := k) ty36 ty9 rfl rfl ⟨_, _, rfl, rfl⟩ (by omega) (by omega)) ?_
    refine dp rfl (pop_move rfl) ?_
    refine dp rfl (pop_call ca122 rfl (WeakL.refl _) (c_slices_Contains_string_string (l := List.drop 0 (who.take k)) (s := x) (by simp; omega))) ?_
    refine dn ?_
    refine hw_cond rfl (fun h5 => ?_) (fun h6 => ?_)
    ·try simp at h5
     refine hw_reg ?_
     refine dp rfl (pop_assign rfl) ?_
     refine dn ?_
     refine hw_ret ?_
     refine ret_p rfl ?_
     show HVal.int .i64 _ = _
     unfold giveE
     first
     | (rw [hg]; rfl)
     | (rw [hg, giveGo, if_pos (by simp_all [hasP])]; done)
     | (rw [hg, giveGo, if_neg (by simp_all [hasP]), if_pos (by simp_all)]; done)
    ·try simp at h6
     refine hw_skip ?_
     refine blockQ_n ?_
     refine seqQ_n ?_
     refine hw_reg1 ?_
     refine dp rfl (pop_add64 rfl rfl (by omega) (by omega)) ?_
     refine dp rfl (pop_move rfl) ?_
     refine dn ?_
     refine ⟨k + 1, ?_, ?_, ⟨rfl, trivial⟩, (by repeat (first | exact keeps_refl | refine keeps_upd rfl ?_ | refine keeps_loop rfl rfl ?_)), List.Perm.refl _⟩
     ·refine ⟨by omega, ?_⟩
      rw [hg, giveGo, if_neg (by simp_all [hasP]), if_neg (by simp_all)]
     ·dsimp only; omega
  ·try simp at h2
   have hnk : who.length ≤ k := by omega
   obtain rfl : k = who.length := by omega
   rw [drop_all (Nat.le_refl _)] at hg
   refine hw_exit ?_
   refine seqQ_x ?_
   refine loopQ_x ?_
   refine blockQ_eq ?_
   refine seqQ_n ?_
   refine hw_reg ?_
   refine dp rfl (pop_assign rfl) ?_
   refine dn ?_
   refine hw_ret ?_
   refine ret_p rfl ?_
   show HVal.int .i64 _ = _
   unfold giveE
   first
   | (rw [hg]; rfl)
   | (rw [hg, giveGo, if_pos (by simp_all [hasP])]; done)
   | (rw [hg, giveGo, if_neg (by simp_all [hasP]), if_pos (by simp_all)]; done)

/-- benchwarmer/value.traded -/
theorem c_value_traded [Tracks] {a b : List Asset} {give take : List Str} (hla : a.length ≤ 8) (hlb : b.length ≤ 8) (hg : give.length ≤ 4) (ht : take.length ≤ 4) : ConP Tryz.prog 121 [eAssets a, eAssets b, eSs give, eSs take] (eAssets (tradedL a b give take)) := by
 refine Con.of_body Tryz.func121 rfl Tryz.ntmps121 rfl rfl ?_
 refine hw_reg ?_
 refine dp rfl (pop_assign rfl) ?_
 refine dn ?_
 refine hw_reg ?_
 refine dp rfl (pop_assign rfl) ?_
 refine dn ?_
 refine hw_ghost (Ghost.arr_nil 3) ?_
 refine hw_seq ?_
 refine hw_reg ?_
 refine dp rfl (pop_move rfl) ?_
 refine dp rfl (pop_lenm ty26 rfl) ?_
 refine dp rfl (pop_move rfl) ?_
 refine dn ?_
 refine hw_block ?_
 refine hw_loopw2 [9, 11, 16, 17, 18, 19, 20, 21, 22, 23, 24, 25, 26, 27, 28, 29] (fun (k : Nat) (u : Value) => [(16, .int .i64 k), (9, .raw u)]) (fun (k : Nat) (u : Value) => [.arr u 3 ((((a.take k).filter (fun x => !(give.contains x.Player)))).map eAsset)]) (fun (k : Nat) (u : Value) => k ≤ a.length ∧ (True)) (fun (k : Nat) (u : Value) => a.length - k) (0) (.slice none 0 0) ?_ ?_ ?_ ?_
 ·exact ⟨Nat.zero_le _, trivial⟩
 ·exact ⟨rfl, rfl, trivial⟩
 ·exact perm_eq (by simp)
 ·intro k u hinv
  obtain ⟨hk, -⟩ := hinv
  refine hw_reg ?_
  refine dp rfl (pop_lss rfl rfl) ?_
  refine dn ?_
  refine hw_seq ?_
  refine hw_cond rfl (fun h1 => ?_) (fun h2 => ?_)
  ·try simp at h1
   obtain ⟨x, hx⟩ : ∃ x, a[k]? = some x := ⟨_, List.getElem?_eq_getElem h1⟩
   have hdx := drop_cons hx
   refine hw_skip ?_
   refine seqQ_n ?_
   refine hw_seq ?_
   refine hw_block ?_
   refine hw_reg ?_
   refine dp rfl (pop_idx ty26 ty42 rfl rfl rfl (by first | assumption | simp_all)) ?_
   refine dp rfl (pop_loadw ty42 rfl rfl rfl rfl) ?_
   refine de rfl (eop_alloc ty42 rfl fun b11 => ?_)
   refine de0 (eop_storew ty42 rfl rfl rfl rfl rfl ?_)
   refine dn ?_
   refine hw_ghost (Ghost.fc0 11 rfl) ?_
   refine hw_reg ?_
   refine dp rfl (pop_move rfl) ?_
   refine dp rfl ((by first | exact pop_fieldAddr ty42 rfl ty9 (by decide) rfl | exact pop_fieldAddr_raw ty42 rfl ty9 (by decide) rfl)) ?_
   refine dp rfl (pop_load ty9 rfl rfl rfl) ?_
   refine dp rfl (pop_call ca122 rfl (WeakL.refl _) (c_slices_Contains_string_string (l := give) (s := x.Player) (by omega))) ?_
   refine dp rfl (pop_not rfl) ?_
   refine dn ?_
   refine hw_cond rfl (fun h3 => ?_) (fun h4 => ?_)
   ·try simp at h3
    refine hw_reg1 ?_
    refine dp rfl (pop_move rfl) ?_
    refine dp rfl (pop_loadw ty42 rfl rfl rfl rfl) ?_
    refine dp rfl (pop_buildSlice (hs := [_]) ty26 ty42 rfl rfl (by decide) (by decide) rfl) ?_
    refine de rfl (eop_append (i := 0) ty26 ty42 rfl rfl rfl rfl rfl (by simp [flat, hcells]) (by have h9 := List.length_filter_le (fun x : Asset => !(give.contains x.Player)) (a.take k); simp only [List.length_take] at h9; simp only [List.length_map, List.length_cons, List.length_nil]; omega) fun v28 => ?_)
    refine dp rfl (pop_assign rfl) ?_
    refine dn ?_
    refine blockQ_n ?_
    refine seqQ_n ?_
    refine hw_reg1 ?_
    refine dp rfl (pop_add64 rfl rfl (by omega) (by omega)) ?_
    refine dp rfl (pop_move rfl) ?_
    refine dn ?_
    exact ⟨k + 1, _, ⟨by omega, trivial⟩, by dsimp only; omega, ⟨rfl, rfl, trivial⟩, (by repeat (first | exact keeps_refl | refine keeps_upd rfl ?_ | refine keeps_loop rfl rfl ?_)), perm_eq (by dsimp only; rw [take_snoc' hx, List.filter_append]; simp_all)⟩
   ·try simp at h4
    refine hw_skip ?_
    refine blockQ_n ?_
    refine seqQ_n ?_
    refine hw_reg1 ?_
    refine dp rfl (pop_add64 rfl rfl (by omega) (by omega)) ?_
    refine dp rfl (pop_move rfl) ?_
    refine dn ?_
    exact ⟨k + 1, _, ⟨by omega, trivial⟩, by dsimp only; omega, ⟨rfl, rfl, trivial⟩, (by repeat (first | exact keeps_refl | refine keeps_upd rfl ?_ | refine keeps_loop rfl rfl ?_)), perm_eq (by dsimp only; rw [take_snoc' hx, List.filter_append]; simp_all)⟩
  ·try simp at h2
   have hnk : a.length ≤ k := by omega
   obtain rfl : k = a.length := by omega
   rw [List.take_length]
   refine hw_exit ?_
   refine seqQ_x ?_
   refine loopQ2_x ?_
   refine blockQ_eq ?_
   refine seqQ_n ?_
   refine hw_seq ?_
   refine hw_reg ?_
   refine dp rfl (pop_move rfl) ?_
   refine dp rfl (pop_lenm ty26 rfl) ?_
   refine dp rfl (pop_move rfl) ?_
   refine dn ?_
   refine hw_block ?_
   refine hw_loopw2 [9, 13, 32, 33, 34, 35, 36, 37, 38, 39, 40, 41, 42, 43, 44] (fun (k : Nat) (w : Value) => [(32, .int .i64 k), (9, .raw w)]) (fun (k : Nat) (w : Value) => [.arr w 3 ((a.filter (fun x => !(give.contains x.Player)) ++ ((b.take k).filter (fun x => take.contains x.Player))).map eAsset)]) (fun (k : Nat) (w : Value) => k ≤ b.length ∧ (True)) (fun (k : Nat) (w : Value) => b.length - k) (0) (u) ?_ ?_ ?_ ?_
   ·exact ⟨Nat.zero_le _, trivial⟩
   ·exact ⟨rfl, rfl, trivial⟩
   ·exact perm_eq (by simp)
   ·intro k w hinv
    obtain ⟨hk, -⟩ := hinv
    refine hw_reg ?_
    refine dp rfl (pop_lss rfl rfl) ?_
    refine dn ?_
    refine hw_seq ?_
    refine hw_cond rfl (fun h5 => ?_) (fun h6 => ?_)
    ·try simp at h5
     obtain ⟨x, hx⟩ : ∃ x, b[k]? = some x := ⟨_, List.getElem?_eq_getElem h5⟩
     have hdx := drop_cons hx
     refine hw_skip ?_
     refine seqQ_n ?_
     refine hw_seq ?_
     refine hw_block ?_
     refine hw_reg ?_
     refine dp rfl (pop_idx ty26 ty42 rfl rfl rfl (by first | assumption | simp_all)) ?_
     refine dp rfl (pop_loadw ty42 rfl rfl rfl rfl) ?_
     refine de rfl (eop_alloc ty42 rfl fun b13 => ?_)
     refine de0 (eop_storew ty42 rfl rfl rfl rfl rfl ?_)
     refine dn ?_
     refine hw_ghost (Ghost.fc0 13 rfl) ?_
     refine hw_reg ?_
     refine dp rfl (pop_move rfl) ?_
     refine dp rfl ((by first | exact pop_fieldAddr ty42 rfl ty9 (by decide) rfl | exact pop_fieldAddr_raw ty42 rfl ty9 (by decide) rfl)) ?_
     refine dp rfl (pop_load ty9 rfl rfl rfl) ?_
     refine dp rfl (pop_call ca122 rfl (WeakL.refl _) (c_slices_Contains_string_string (l := take) (s := x.Player) (by omega))) ?_
     refine dn ?_
     refine hw_cond rfl (fun h7 => ?_) (fun h8 => ?_)
     ·try simp at h7
      refine hw_reg1 ?_
      refine dp rfl (pop_move rfl) ?_
      refine dp rfl (pop_loadw ty42 rfl rfl rfl rfl) ?_
      refine dp rfl (pop_buildSlice (hs := [_]) ty26 ty42 rfl rfl (by decide) (by decide) rfl) ?_
      refine de rfl (eop_append (i := 0) ty26 ty42 rfl rfl rfl rfl rfl (by simp [flat, hcells]) (by have h9 := List.length_filter_le (fun x : Asset => !(give.contains x.Player)) a; have h8 := List.length_filter_le (fun x : Asset => take.contains x.Player) (b.take k); simp only [List.length_take] at h8; simp only [List.length_map, List.length_append, List.length_cons, List.length_nil]; omega) fun v43 => ?_)
      refine dp rfl (pop_assign rfl) ?_
      refine dn ?_
      refine blockQ_n ?_
      refine seqQ_n ?_
      refine hw_reg1 ?_
      refine dp rfl (pop_add64 rfl rfl (by omega) (by omega)) ?_
      refine dp rfl (pop_move rfl) ?_
      refine dn ?_
      exact ⟨k + 1, _, ⟨by omega, trivial⟩, by dsimp only; omega, ⟨rfl, rfl, trivial⟩, (by repeat (first | exact keeps_refl | refine keeps_upd rfl ?_ | refine keeps_loop rfl rfl ?_)), perm_eq (by dsimp only; rw [take_snoc' hx, List.filter_append]; simp_all)⟩
     ·try simp at h8
      refine hw_skip ?_
      refine blockQ_n ?_
      refine seqQ_n ?_
      refine hw_reg1 ?_
      refine dp rfl (pop_add64 rfl rfl (by omega) (by omega)) ?_
      refine dp rfl (pop_move rfl) ?_
      refine dn ?_
      exact ⟨k + 1, _, ⟨by omega, trivial⟩, by dsimp only; omega, ⟨rfl, rfl, trivial⟩, (by repeat (first | exact keeps_refl | refine keeps_upd rfl ?_ | refine keeps_loop rfl rfl ?_)), perm_eq (by dsimp only; rw [take_snoc' hx, List.filter_append]; simp_all)⟩
    ·try simp at h6
     have hnk : b.length ≤ k := by omega
     obtain rfl : k = b.length := by omega
     rw [List.take_length]
     refine hw_exit ?_
     refine seqQ_x ?_
     refine loopQ2_x ?_
     refine blockQ_eq ?_
     refine seqQ_n ?_
     refine hw_reg ?_
     refine dp rfl (pop_move rfl) ?_
     refine dp rfl (pop_assign rfl) ?_
     refine dn ?_
     refine hw_ret ?_
     exact ret_fa (M := []) 8 rfl rfl rfl

/-- benchwarmer/value.gains -/
theorem c_value_gains [Tracks] {a b : List Asset} {p : List HL.Place} {give take : List Str} (ok : SwapOk a b p) (hla : a.length ≤ 8) (hlb : b.length ≤ 8) (hg : give.length ≤ 4) (ht : take.length ≤ 4) : ConP Tryz.prog 63 [eAssets a, eAssets b, ePlaces p, eSs give, eSs take] (.tup [.int .i64 (gainL a b p give take), .int .i64 (gainL b a p take give)]) := by
 obtain ⟨⟨ha1, ha2⟩, ha3, ha4⟩ := ok.gain (give := give) hla ht
 obtain ⟨⟨hb1, hb2⟩, hb3, hb4⟩ := ok.flip.gain (give := take) hlb hg
 unfold sumF at ha3 ha4 hb3 hb4
 refine Con.of_body Tryz.func63 rfl Tryz.ntmps63 rfl rfl ?_
 refine hw_reg ?_
 refine dp rfl (pop_assign rfl) ?_
 refine dp rfl (pop_assign rfl) ?_
 refine dn ?_
 refine hw_reg ?_
 refine dp rfl (pop_move rfl) ?_
 refine dp rfl (pop_move rfl) ?_
 refine dp rfl (pop_call ca118 rfl (WeakL.refl _) (c_value_fielded (l := a) (p := p) (by omega) ok.p10 ok.many ok.va)) ?_
 refine dp rfl (pop_move rfl) ?_
 refine dp rfl (pop_extract rfl rfl) ?_
 refine dp rfl (pop_extract rfl rfl) ?_
 refine dp rfl (pop_assign rfl) ?_
 refine dp rfl (pop_assign rfl) ?_
 refine dn ?_
 refine hw_reg ?_
 refine dp rfl (pop_move rfl) ?_
 refine dp rfl (pop_move rfl) ?_
 refine dp rfl (pop_call ca118 rfl (WeakL.refl _) (c_value_fielded (l := b) (p := p) (by omega) ok.p10 ok.many ok.vb)) ?_
 refine dp rfl (pop_move rfl) ?_
 refine dp rfl (pop_extract rfl rfl) ?_
 refine dp rfl (pop_extract rfl rfl) ?_
 refine dp rfl (pop_assign rfl) ?_
 refine dp rfl (pop_assign rfl) ?_
 refine dn ?_
 refine hw_reg ?_
 refine dp rfl (pop_move rfl) ?_
 refine dp rfl (pop_move rfl) ?_
 refine dp rfl (pop_move rfl) ?_
 refine dp rfl (pop_move rfl) ?_
 refine dp rfl (pop_call ca121 rfl (WeakL.refl _) (c_value_traded (a := a) (b := b) (give := give) (take := take) hla hlb hg ht)) ?_
 refine dp rfl (pop_move rfl) ?_
 refine dp rfl (pop_call ca118 rfl (WeakL.refl _) (c_value_fielded (l := (tradedL a b give take)) (p := p) ha1 ok.p10 ok.many ha2)) ?_
 refine dp rfl (pop_move rfl) ?_
 refine dp rfl (pop_extract rfl rfl) ?_
 refine dp rfl (pop_extract rfl rfl) ?_
 refine dp rfl (pop_assign rfl) ?_
 refine dp rfl (pop_assign rfl) ?_
 refine dn ?_
 refine hw_reg ?_
 refine dp rfl (pop_move rfl) ?_
 refine dp rfl (pop_move rfl) ?_
 refine dp rfl (pop_move rfl) ?_
 refine dp rfl (pop_move rfl) ?_
 refine dp rfl (pop_call ca121 rfl (WeakL.refl _) (c_value_traded (a := b) (b := a) (give := take) (take := give) hlb hla ht hg)) ?_
 refine dp rfl (pop_move rfl) ?_
 refine dp rfl (pop_call ca118 rfl (WeakL.refl _) (c_value_fielded (l := (tradedL b a take give)) (p := p) hb1 ok.p10 ok.many hb2)) ?_
 refine dp rfl (pop_move rfl) ?_
 refine dp rfl (pop_extract rfl rfl) ?_
 refine dp rfl (pop_extract rfl rfl) ?_
 refine dp rfl (pop_assign rfl) ?_
 refine dp rfl (pop_assign rfl) ?_
 refine dn ?_
 refine hw_reg ?_
 refine dp rfl (pop_move rfl) ?_
 refine dp rfl (pop_move rfl) ?_
 refine dp rfl (pop_sub64 rfl rfl (by omega) (by omega)) ?_
 refine dp rfl (pop_move rfl) ?_
 refine dp rfl (pop_move rfl) ?_
 refine dp rfl (pop_sub64 rfl rfl (by omega) (by omega)) ?_
 refine dp rfl (pop_assign rfl) ?_
 refine dp rfl (pop_assign rfl) ?_
 refine dn ?_
 refine hw_ret ?_
 refine ret_p rfl ?_
 rfl

/-- benchwarmer/value.Swap -/
theorem c_value_Swap [Tracks] {a b : List Asset} {p : List HL.Place} {give take : List Str} (he : swapE a b p = 0) (hga : giveE a give = 0) (hgb : giveE b take = 0) (hla : a.length ≤ 8) (hlb : b.length ≤ 8) (hg : give.length ≤ 4) (ht : take.length ≤ 4) : ConP Tryz.prog 15 [eAssets a, eAssets b, ePlaces p, eSs give, eSs take] (.tup [.int .i64 (gainL a b p give take), .int .i64 (gainL b a p take give), .int .i64 0]) := by
 have ok := swap_ok he
 have hp10 := ok.p10
 refine Con.of_body Tryz.func15 rfl Tryz.ntmps15 rfl rfl ?_
 refine hw_reg ?_
 refine dp rfl (pop_assign rfl) ?_
 refine dp rfl (pop_assign rfl) ?_
 refine dp rfl (pop_assign rfl) ?_
 refine dn ?_
 refine hw_seq ?_
 refine hw_reg ?_
 refine dp rfl (pop_move rfl) ?_
 refine dp rfl (pop_move rfl) ?_
 refine dp rfl (pop_move rfl) ?_
 refine dp rfl (pop_call ca60 rfl (WeakL.refl _) (c_value_swapFault (a := a) (b := b) (p := p) hla hlb (by omega))) ?_
 refine dp rfl (pop_move rfl) ?_
 refine dp rfl (pop_move rfl) ?_
 refine dp rfl (pop_call ca66 rfl (WeakL.refl _) (c_value_giveFault (l := a) (who := give) (by omega) (by omega))) ?_
 refine dp rfl (pop_move rfl) ?_
 refine dp rfl (pop_move rfl) ?_
 refine dp rfl (pop_call ca66 rfl (WeakL.refl _) (c_value_giveFault (l := b) (who := take) (by omega) (by omega))) ?_
 refine dp rfl (pop_buildSlice (hs := [_, _, _]) ty136 ty31 rfl rfl (by decide) (by decide) rfl) ?_
 refine dp rfl (pop_call ca65 rfl (WeakL.refl _) (c_base_First (l := [_, _, _]) (by simp))) ?_
 refine dp rfl (pop_assign rfl) ?_
 refine dn ?_
 refine hw_reg ?_
 refine dp rfl (pop_move rfl) ?_
 refine dp rfl (pop_neq rfl rfl) ?_
 refine dn ?_
 refine hw_cond rfl (fun h1 => ?_) (fun h1 => ?_)
 ·exfalso
  try simp at h1
  simp [he, hga, hgb, orI] at h1
 ·try simp at h1
  refine hw_skip ?_
  refine seqQ_n ?_
  refine hw_reg ?_
  refine dp rfl (pop_move rfl) ?_
  refine dp rfl (pop_move rfl) ?_
  refine dp rfl (pop_move rfl) ?_
  refine dp rfl (pop_move rfl) ?_
  refine dp rfl (pop_move rfl) ?_
  refine dp rfl (pop_call ca63 rfl (WeakL.refl _) (c_value_gains (a := a) (b := b) (p := p) (give := give) (take := take) ok hla hlb hg ht)) ?_
  refine dp rfl (pop_move rfl) ?_
  refine dp rfl (pop_extract rfl rfl) ?_
  refine dp rfl (pop_extract rfl rfl) ?_
  refine dp rfl (pop_assign rfl) ?_
  refine dp rfl (pop_assign rfl) ?_
  refine dn ?_
  refine hw_reg ?_
  refine dp rfl (pop_move rfl) ?_
  refine dp rfl (pop_move rfl) ?_
  refine dp rfl (pop_assign rfl) ?_
  refine dp rfl (pop_assign rfl) ?_
  refine dp rfl (pop_assign rfl) ?_
  refine dn ?_
  refine hw_ret ?_
  refine ret_p rfl ?_
  rfl

/-- benchwarmer/value.choices -/
theorem c_value_choices [Tracks] {l : List Asset} {n : Int} (hl : l.length ≤ 8) : ConP Tryz.prog 62 [eAssets l, .int .i64 n] (.slice 1 ((choicesL n l).map eSs)) := by
 refine Con.of_body Tryz.func62 rfl Tryz.ntmps62 rfl rfl ?_
 refine hw_reg ?_
 refine dp rfl (pop_assign rfl) ?_
 refine dn ?_
 refine hw_reg ?_
 refine dp rfl (pop_assign rfl) ?_
 refine dn ?_
 refine hw_ghost (Ghost.arr_nil 1) ?_
 refine hw_seq ?_
 refine hw_reg ?_
 refine dp rfl (pop_move rfl) ?_
 refine dp rfl (pop_lenm ty26 rfl) ?_
 refine dp rfl (pop_move rfl) ?_
 refine dn ?_
 refine hw_block ?_
 refine hw_loopw2 [5, 6, 7, 9, 12, 13, 14, 15, 16, 17, 18, 19, 20, 21, 22, 23, 24, 25, 26, 27, 28, 29, 30, 31, 32, 33, 34, 35, 36, 37, 38, 39, 40, 41, 42, 43] (fun (i : Nat) (u : Value) => [(12, .int .i64 i), (5, .raw u)]) (fun (i : Nat) (u : Value) => [.arr u 1 ((chPre n l i).map eSs)]) (fun (i : Nat) (u : Value) => i ≤ l.length ∧ (True)) (fun (i : Nat) (u : Value) => l.length - i) (0) (.slice none 0 0) ?_ ?_ ?_ ?_
 ·exact ⟨Nat.zero_le _, trivial⟩
 ·exact ⟨rfl, rfl, trivial⟩
 ·exact perm_eq (by simp [chPre])
 ·intro i u hinv
  obtain ⟨hi, -⟩ := hinv
  refine hw_reg ?_
  refine dp rfl (pop_lss rfl rfl) ?_
  refine dn ?_
  refine hw_seq ?_
  refine hw_cond rfl (fun h1 => ?_) (fun h2 => ?_)
  ·try simp at h1
   obtain ⟨x, hx⟩ : ∃ x, l[i]? = some x := ⟨_, List.getElem?_eq_getElem h1⟩
   have hdx := drop_cons hx
   refine hw_skip ?_
   refine seqQ_n ?_
   refine hw_seq ?_
   refine hw_block ?_
   refine hw_reg ?_
   refine dp rfl (pop_move rfl) ?_
   refine dp rfl (pop_idx ty26 ty42 rfl rfl rfl (by first | assumption | simp_all)) ?_
   refine dp rfl (pop_loadw ty42 rfl rfl rfl rfl) ?_
   refine de rfl (eop_alloc ty42 rfl fun b7 => ?_)
   refine dp rfl (pop_assign rfl) ?_
   refine de0 (eop_storew ty42 rfl rfl rfl rfl rfl ?_)
   refine dn ?_
   refine hw_ghost (Ghost.fc0 7 rfl) ?_
   refine hw_reg ?_
   refine dp rfl (pop_move rfl) ?_
   refine dp rfl ((by first | exact pop_fieldAddr ty42 rfl ty9 (by decide) rfl | exact pop_fieldAddr_raw ty42 rfl ty9 (by decide) rfl)) ?_
   refine dp rfl (pop_load ty9 rfl rfl rfl) ?_
   refine dp rfl (pop_buildSlice (hs := [_]) ty36 ty9 rfl rfl (by decide) (by decide) rfl) ?_
   refine dp rfl (pop_buildSlice (hs := [_]) ty107 ty36 rfl rfl (by decide) (by decide) rfl) ?_
   refine de rfl (eop_append (i := 0) ty107 ty36 rfl rfl rfl rfl rfl (by simp [flat, hcells]) (by have := chPre_len n l i; have : i * (1 + l.length) ≤ 8 * 9 := Nat.mul_le_mul (by omega) (by omega); simp only [List.length_map, List.length_cons, List.length_nil]; omega) fun v22 => ?_)
   refine dp rfl (pop_assign rfl) ?_
   refine dn ?_
   refine hw_reg ?_
   refine dp rfl (pop_move rfl) ?_
   refine dp rfl (pop_move rfl) ?_
   refine dp rfl (pop_add64 rfl rfl (by omega) (by omega)) ?_
   refine dp rfl (pop_slicem (l := i + 1) (h := l.length) ty26 ty42 rfl ⟨_, _, rfl, by omega⟩ rfl (by omega) (by omega)) ?_
   refine dp rfl (pop_lenm ty26 rfl) ?_
   refine dp rfl (pop_move rfl) ?_
   refine dn ?_
   rw [List.take_length]
   refine hw_block ?_
   refine hw_loopw2 [5, 9, 28, 29, 30, 31, 32, 33, 34, 35, 36, 37, 38, 39, 40, 41, 42] (fun (j : Nat) (w : Value) => [(28, .int .i64 j), (5, .raw w)]) (fun (j : Nat) (w : Value) => [.arr w 1 ((chPre n l i ++ [x.Player] :: (if 1 < n then ((l.drop (i + 1)).take j).map (fun y => [x.Player, y.Player]) else [])).map eSs)]) (fun (j : Nat) (w : Value) => j ≤ (l.drop (i + 1)).length ∧ (True)) (fun (j : Nat) (w : Value) => (l.drop (i + 1)).length - j) (0) (v22) ?_ ?_ ?_ ?_
   ·exact ⟨Nat.zero_le _, trivial⟩
   ·exact ⟨rfl, rfl, trivial⟩
   ·exact perm_eq (by simp)
   ·intro j w hinv
    obtain ⟨hj, -⟩ := hinv
    refine hw_reg ?_
    refine dp rfl (pop_lss rfl rfl) ?_
    refine dn ?_
    refine hw_seq ?_
    refine hw_cond rfl (fun h3 => ?_) (fun h4 => ?_)
    ·try simp at h3
     obtain ⟨y, hy⟩ : ∃ y, (l.drop (i + 1))[j]? = some y := ⟨_, List.getElem?_eq_getElem (by simp only [List.length_drop]; omega)⟩
     have hdy := drop_cons hy
     have hjd := lt_of_get hy
     have hjl : j < l.length := by have h9 := hjd; simp only [List.length_drop] at h9; omega
     refine hw_skip ?_
     refine seqQ_n ?_
     refine hw_seq ?_
     refine hw_block ?_
     refine hw_reg ?_
     refine dp rfl (pop_idx ty26 ty42 rfl rfl rfl (by first | assumption | simp_all)) ?_
     refine dp rfl (pop_loadw ty42 rfl rfl rfl rfl) ?_
     refine de rfl (eop_alloc ty42 rfl fun b9 => ?_)
     refine de0 (eop_storew ty42 rfl rfl rfl rfl rfl ?_)
     refine dn ?_
     refine hw_ghost (Ghost.fc0 9 rfl) ?_
     refine hw_reg ?_
     refine dp rfl (pop_move rfl) ?_
     refine dp rfl (pop_gtr rfl rfl) ?_
     refine dn ?_
     refine hw_cond rfl (fun h5 => ?_) (fun h6 => ?_)
     ·try simp at h5
      refine hw_reg1 ?_
      refine dp rfl (pop_move rfl) ?_
      refine dp rfl ((by first | exact pop_fieldAddr ty42 rfl ty9 (by decide) rfl | exact pop_fieldAddr_raw ty42 rfl ty9 (by decide) rfl)) ?_
      refine dp rfl (pop_load ty9 rfl rfl rfl) ?_
      refine dp rfl ((by first | exact pop_fieldAddr ty42 rfl ty9 (by decide) rfl | exact pop_fieldAddr_raw ty42 rfl ty9 (by decide) rfl)) ?_
      refine dp rfl (pop_load ty9 rfl rfl rfl) ?_
      refine dp rfl (pop_buildSlice (hs := [_, _]) ty36 ty9 rfl rfl (by decide) (by decide) rfl) ?_
      refine dp rfl (pop_buildSlice (hs := [_]) ty107 ty36 rfl rfl (by decide) (by decide) rfl) ?_
      refine de rfl (eop_append (i := 0) ty107 ty36 rfl rfl rfl rfl rfl (by simp [flat, hcells]) (by have h1 := chPre_len n l i; have h2 : i * (1 + l.length) ≤ 8 * 9 := Nat.mul_le_mul (by omega) (by omega); simp only [List.length_map, List.length_append, List.length_cons, List.length_nil]; split <;> simp <;> omega) fun v41 => ?_)
      refine dp rfl (pop_assign rfl) ?_
      refine dn ?_
      refine blockQ_n ?_
      refine seqQ_n ?_
      refine hw_reg1 ?_
      refine dp rfl (pop_add64 rfl rfl (by omega) (by omega)) ?_
      refine dp rfl (pop_move rfl) ?_
      refine dn ?_
      exact ⟨j + 1, _, ⟨by omega, trivial⟩, by dsimp only; omega, ⟨rfl, rfl, trivial⟩, (by repeat (first | exact keeps_refl | refine keeps_upd rfl ?_ | refine keeps_loop rfl rfl ?_)), perm_eq (by dsimp only; rw [take_snoc' hy]; simp [if_pos (show 1 < n by omega)])⟩
     ·try simp at h6
      refine hw_skip ?_
      refine blockQ_n ?_
      refine seqQ_n ?_
      refine hw_reg1 ?_
      refine dp rfl (pop_add64 rfl rfl (by omega) (by omega)) ?_
      refine dp rfl (pop_move rfl) ?_
      refine dn ?_
      exact ⟨j + 1, _, ⟨by omega, trivial⟩, by dsimp only; omega, ⟨rfl, rfl, trivial⟩, (by repeat (first | exact keeps_refl | refine keeps_upd rfl ?_ | refine keeps_loop rfl rfl ?_)), perm_eq (by dsimp only; rw [take_snoc' hy]; simp [if_neg (show ¬ 1 < n by omega)])⟩
    ·try simp at h4
     have hnj : (l.drop (i + 1)).length ≤ j := by simpa using h4
     obtain rfl : j = (l.drop (i + 1)).length := by omega
     refine hw_exit ?_
     refine seqQ_x ?_
     refine loopQ2_x ?_
     refine blockQ_eq ?_
     refine blockQ_n ?_
     refine seqQ_n ?_
     refine hw_reg1 ?_
     refine dp rfl (pop_add64 rfl rfl (by omega) (by omega)) ?_
     refine dp rfl (pop_move rfl) ?_
     refine dn ?_
     exact ⟨i + 1, w, ⟨by omega, trivial⟩, by dsimp only; omega, ⟨rfl, rfl, trivial⟩, (by repeat (first | exact keeps_refl | refine keeps_upd rfl ?_ | refine keeps_loop rfl rfl ?_)), perm_eq (by dsimp only; rw [chPre_succ, chAt_some hx, List.take_length])⟩
  ·try simp at h2
   have hni : l.length ≤ i := by omega
   obtain rfl : i = l.length := by omega
   refine hw_exit ?_
   refine seqQ_x ?_
   refine loopQ2_x ?_
   refine blockQ_eq ?_
   refine seqQ_n ?_
   refine hw_reg ?_
   refine dp rfl (pop_move rfl) ?_
   refine dp rfl (pop_assign rfl) ?_
   refine dn ?_
   refine hw_ret ?_
   exact ret_fa (M := []) 4 rfl rfl rfl

/-- (*benchwarmer/value.offer).better -/
theorem c_value_offer_better [Tracks] {x y : OfferS} (hx : x.give.length ≤ 1000 ∧ x.take.length ≤ 1000) (hy : y.give.length ≤ 1000 ∧ y.take.length ≤ 1000) : ConP Tryz.prog 64 [.vptr (hcells (eOffer x)) 0, .vptr (hcells (eOffer y)) 0] (.bool (betterO x y)) := by
 refine Con.of_body Tryz.func64 rfl Tryz.ntmps64 rfl rfl ?_
 refine hw_reg ?_
 refine dp rfl (pop_assign rfl) ?_
 refine dn ?_
 refine hw_draw (fun _ => True) [] mixed ?_
 refine ahp 0 rfl rfl (by kernel_rfl) (by kernel_rfl) (pop_move rfl) ?_
 refine ahp 1 rfl rfl (by kernel_rfl) (by kernel_rfl) ((by first | exact pop_nilCheck rfl | exact pop_nilCheck_raw rfl)) ?_
 refine ahp 2 rfl rfl (by kernel_rfl) (by kernel_rfl) (pop_fieldAddr ty112 rfl ty3 (by decide) rfl) ?_
 refine ahp 3 rfl rfl (by kernel_rfl) (by kernel_rfl) (pop_load ty3 rfl rfl rfl) ?_
 refine ahp 4 rfl rfl (by kernel_rfl) (by kernel_rfl) (pop_move rfl) ?_
 refine ahp 5 rfl rfl (by kernel_rfl) (by kernel_rfl) ((by first | exact pop_nilCheck rfl | exact pop_nilCheck_raw rfl)) ?_
 refine ahp 6 rfl rfl (by kernel_rfl) (by kernel_rfl) (pop_fieldAddr ty112 rfl ty3 (by decide) rfl) ?_
 refine ahp 7 rfl rfl (by kernel_rfl) (by kernel_rfl) (pop_load ty3 rfl rfl rfl) ?_
 refine ahp 8 rfl rfl (by kernel_rfl) (by kernel_rfl) (pop_call ca104 rfl (WeakL.refl _) c_cmp_Compare_int) ?_
 refine ahp 9 rfl rfl (by kernel_rfl) (by kernel_rfl) (pop_move rfl) ?_
 refine ahp 10 rfl rfl (by kernel_rfl) (by kernel_rfl) ((by first | exact pop_nilCheck rfl | exact pop_nilCheck_raw rfl)) ?_
 refine ahp 11 rfl rfl (by kernel_rfl) (by kernel_rfl) (pop_fieldAddr ty112 rfl ty3 (by decide) rfl) ?_
 refine ahp 12 rfl rfl (by kernel_rfl) (by kernel_rfl) (pop_load ty3 rfl rfl rfl) ?_
 refine ahp 13 rfl rfl (by kernel_rfl) (by kernel_rfl) (pop_move rfl) ?_
 refine ahp 14 rfl rfl (by kernel_rfl) (by kernel_rfl) ((by first | exact pop_nilCheck rfl | exact pop_nilCheck_raw rfl)) ?_
 refine ahp 15 rfl rfl (by kernel_rfl) (by kernel_rfl) (pop_fieldAddr ty112 rfl ty3 (by decide) rfl) ?_
 refine ahp 16 rfl rfl (by kernel_rfl) (by kernel_rfl) (pop_load ty3 rfl rfl rfl) ?_
 refine ahp 17 rfl rfl (by kernel_rfl) (by kernel_rfl) (pop_call ca104 rfl (WeakL.refl _) c_cmp_Compare_int) ?_
 refine ahp 18 rfl rfl (by kernel_rfl) (by kernel_rfl) (pop_move rfl) ?_
 refine ahp 19 rfl rfl (by kernel_rfl) (by kernel_rfl) ((by first | exact pop_nilCheck rfl | exact pop_nilCheck_raw rfl)) ?_
 refine ahp 20 rfl rfl (by kernel_rfl) (by kernel_rfl) (pop_fieldAddr ty112 rfl ty36 (by decide) rfl) ?_
 refine ahp 21 rfl rfl (by kernel_rfl) (by kernel_rfl) (pop_load ty36 rfl rfl rfl) ?_
 refine ahp 22 rfl rfl (by kernel_rfl) (by kernel_rfl) (pop_lenm ty36 rfl) ?_
 refine ahp 23 rfl rfl (by kernel_rfl) (by kernel_rfl) (pop_move rfl) ?_
 refine ahp 24 rfl rfl (by kernel_rfl) (by kernel_rfl) ((by first | exact pop_nilCheck rfl | exact pop_nilCheck_raw rfl)) ?_
 refine ahp 25 rfl rfl (by kernel_rfl) (by kernel_rfl) (pop_fieldAddr ty112 rfl ty36 (by decide) rfl) ?_
 refine ahp 26 rfl rfl (by kernel_rfl) (by kernel_rfl) (pop_load ty36 rfl rfl rfl) ?_
 refine ahp 27 rfl rfl (by kernel_rfl) (by kernel_rfl) (pop_lenm ty36 rfl) ?_
 refine ahp 28 rfl rfl (by kernel_rfl) (by kernel_rfl) (pop_add64 rfl rfl (by omega) (by omega)) ?_
 refine ahp 29 rfl rfl (by kernel_rfl) (by kernel_rfl) (pop_move rfl) ?_
 refine ahp 30 rfl rfl (by kernel_rfl) (by kernel_rfl) ((by first | exact pop_nilCheck rfl | exact pop_nilCheck_raw rfl)) ?_
 refine ahp 31 rfl rfl (by kernel_rfl) (by kernel_rfl) (pop_fieldAddr ty112 rfl ty36 (by decide) rfl) ?_
 refine ahp 32 rfl rfl (by kernel_rfl) (by kernel_rfl) (pop_load ty36 rfl rfl rfl) ?_
 refine ahp 33 rfl rfl (by kernel_rfl) (by kernel_rfl) (pop_lenm ty36 rfl) ?_
 refine ahp 34 rfl rfl (by kernel_rfl) (by kernel_rfl) (pop_move rfl) ?_
 refine ahp 35 rfl rfl (by kernel_rfl) (by kernel_rfl) ((by first | exact pop_nilCheck rfl | exact pop_nilCheck_raw rfl)) ?_
 refine ahp 36 rfl rfl (by kernel_rfl) (by kernel_rfl) (pop_fieldAddr ty112 rfl ty36 (by decide) rfl) ?_
 refine ahp 37 rfl rfl (by kernel_rfl) (by kernel_rfl) (pop_load ty36 rfl rfl rfl) ?_
 refine ahp 38 rfl rfl (by kernel_rfl) (by kernel_rfl) (pop_lenm ty36 rfl) ?_
 refine ahp 39 rfl rfl (by kernel_rfl) (by kernel_rfl) (pop_add64 rfl rfl (by omega) (by omega)) ?_
 refine ahp 40 rfl rfl (by kernel_rfl) (by kernel_rfl) (pop_call ca104 rfl (WeakL.refl _) c_cmp_Compare_int) ?_
 refine ahp 41 rfl rfl (by kernel_rfl) (by kernel_rfl) (pop_buildSlice (hs := [_, _, _]) ty22 ty3 rfl rfl (by decide) (by decide) rfl) ?_
 refine ahp 42 rfl rfl (by kernel_rfl) (by kernel_rfl) (pop_call ca102 rfl (WeakL.refl _) (c_cmp_Or_int (l := [_, _, _]) (by simp))) ?_
 refine ahp 43 rfl rfl (by kernel_rfl) (by kernel_rfl) (pop_gtr rfl rfl) ?_
 refine ahp 44 rfl rfl (by kernel_rfl) (by kernel_rfl) (pop_assign rfl) ?_
 refine ahz (by kernel_rfl) ?_
 refine hw_ret ?_
 refine ret_p rfl ?_
 rfl

set_option maxHeartbeats 1000000 in
/-- benchwarmer/value.BestSwap -/
theorem c_value_BestSwap [Tracks] {a b : List Asset} {p : List HL.Place} {n : Int} (he : swapE a b p = 0) (hn : 1 ≤ n ∧ n ≤ 2) (hla : a.length ≤ 8) (hlb : b.length ≤ 8) : ConP Tryz.prog 14 [eAssets a, eAssets b, ePlaces p, .int .i64 n] (.tup [eSs (giveS (bestO a b p n)), eSs (takeS (bestO a b p n)), .bool (bestO a b p n).isSome, .int .i64 0]) := by
 have ok := swap_ok he
 have hp10 := ok.p10
 have hca := choices_len (n := n) hla
 have hcb := choices_len (n := n) hlb
 have hout : out n 1 2 = false := by simp [out]; omega
 refine Con.of_body Tryz.func14 rfl Tryz.ntmps14 rfl rfl ?_
 refine hw_reg ?_
 refine dp rfl (pop_assign rfl) ?_
 refine dp rfl (pop_assign rfl) ?_
 refine dp rfl (pop_assign rfl) ?_
 refine dp rfl (pop_assign rfl) ?_
 refine dn ?_
 refine hw_seq ?_
 refine hw_reg ?_
 refine dp rfl (pop_move rfl) ?_
 refine dp rfl (pop_move rfl) ?_
 refine dp rfl (pop_move rfl) ?_
 refine dp rfl (pop_call ca60 rfl (WeakL.refl _) (c_value_swapFault (a := a) (b := b) (p := p) hla hlb (by omega))) ?_
 refine dp rfl (pop_assign rfl) ?_
 refine dn ?_
 refine hw_reg ?_
 refine dp rfl (pop_move rfl) ?_
 refine dp rfl (pop_neq rfl rfl) ?_
 refine dn ?_
 refine hw_cond rfl (fun h1 => ?_) (fun h1 => ?_)
 ·exfalso
  try simp at h1
  exact absurd he (by simpa using h1)
 ·try simp at h1
  refine hw_skip ?_
  refine seqQ_n ?_
  refine hw_seq ?_
  refine hw_block ?_
  refine hw_reg ?_
  refine dp rfl (pop_move rfl) ?_
  refine dp rfl (pop_call ca61 rfl (WeakL.refl _) c_base_Out) ?_
  refine dp rfl (pop_assign rfl) ?_
  refine dn ?_
  refine hw_cond rfl (fun h2 => ?_) (fun h2 => ?_)
  ·exfalso
   try simp at h2
   rw [hout] at h2
   simp at h2
  ·try simp at h2
   refine hw_reg ?_
   refine dp rfl (pop_move rfl) ?_
   refine dp rfl (pop_lenm ty26 rfl) ?_
   refine dp rfl (pop_gtr rfl rfl) ?_
   refine dp rfl (pop_move rfl) ?_
   refine dg rfl rfl (fun hc => ⟨_, OpenTo.refl _, pop_move rfl⟩) ?_
   refine dg rfl rfl (fun hc => ⟨_, OpenTo.upd (t := 36) rfl (by first | exact hc | simp_all) (OpenTo.refl _), pop_lenm ty26 rfl⟩) ?_
   refine dg rfl rfl (fun hc => ⟨_, OpenTo.upd (t := 37) rfl (by first | exact hc | simp_all) (OpenTo.refl _), pop_gtr rfl rfl⟩) ?_
   refine dp rfl (pop_picko rfl (.inl rfl) (.inr ⟨_, rfl, fun h => by simp_all⟩)) ?_
   refine dp rfl (pop_assign rfl) ?_
   refine dn ?_
   refine hw_cond rfl (fun h3 => ?_) (fun h3 => ?_)
   ·exfalso
    try simp at h3
    omega
   ·try simp at h3
    refine hw_skip ?_
    refine blockQ_n ?_
    refine seqQ_n ?_
    refine hw_reg ?_
    refine dp rfl (pop_assign rfl) ?_
    refine dn ?_
    refine hw_seq ?_
    refine hw_reg ?_
    refine dp rfl (pop_move rfl) ?_
    refine dp rfl (pop_move rfl) ?_
    refine dp rfl (pop_call ca62 rfl (WeakL.refl _) (c_value_choices (l := a) (n := n) hla)) ?_
    refine dp rfl (pop_lenm (f := eSs) (l := choicesL n a) ty107 rfl) ?_
    refine dp rfl (pop_move rfl) ?_
    refine dn ?_
    refine hw_block ?_
    refine hw_loopw [13, 15, 17, 18, 19, 20, 44, 45, 46, 47, 48, 49, 50, 51, 52, 53, 54, 55, 56, 57, 58, 59, 60, 61, 62, 63, 64, 65, 66, 67, 68, 69, 70, 71, 72, 73, 74, 75, 76, 77, 78, 79, 80, 81, 82, 83, 84, 85, 86, 87, 88, 89, 90, 91] (fun (i : Nat) => [(44, .int .i64 i), (13, bestV (foldO (offersL a b p ((choicesL n a).take i) (choicesL n b))))]) (fun (i : Nat) => []) (fun (i : Nat) => i ≤ (choicesL n a).length ∧ (True)) (fun (i : Nat) => (choicesL n a).length - i) (0) ?_ ?_ ?_ ?_
    ·exact ⟨Nat.zero_le _, trivial⟩
    ·exact ⟨rfl, rfl, trivial⟩
    ·exact List.Perm.refl _
    ·intro i hinv
     obtain ⟨hi, -⟩ := hinv
     refine hw_reg ?_
     refine dp rfl (pop_lss rfl rfl) ?_
     refine dn ?_
     refine hw_seq ?_
     refine hw_cond rfl (fun h4 => ?_) (fun h5 => ?_)
     ·try simp at h4
      obtain ⟨g, hg⟩ : ∃ g, (choicesL n a)[i]? = some g := ⟨_, List.getElem?_eq_getElem h4⟩
      have hdg := drop_cons hg
      refine hw_skip ?_
      refine seqQ_n ?_
      refine hw_seq ?_
      refine hw_block ?_
      refine hw_reg ?_
      refine dp rfl (pop_idx (f := eSs) (l := choicesL n a) (j := i) (a := g) ty107 ty36 rfl rfl rfl hg) ?_
      refine dp rfl (pop_load ty36 rfl rfl rfl) ?_
      refine dp rfl (pop_assign rfl) ?_
      refine dn ?_
      refine hw_reg ?_
      refine dp rfl (pop_move rfl) ?_
      refine dp rfl (pop_move rfl) ?_
      refine dp rfl (pop_call ca62 rfl (WeakL.refl _) (c_value_choices (l := b) (n := n) hlb)) ?_
      refine dp rfl (pop_lenm (f := eSs) (l := choicesL n b) ty107 rfl) ?_
      refine dp rfl (pop_move rfl) ?_
      refine dn ?_
      refine hw_block ?_
      refine hw_loopw [13, 17, 18, 19, 20, 52, 53, 54, 55, 56, 57, 58, 59, 60, 61, 62, 63, 64, 65, 66, 67, 68, 69, 70, 71, 72, 73, 74, 75, 76, 77, 78, 79, 80, 81, 82, 83, 84, 85, 86, 87, 88, 89, 90] (fun (j : Nat) => [(52, .int .i64 j), (13, bestV (foldO (offersL a b p ((choicesL n a).take i) (choicesL n b) ++ ((choicesL n b).take j).map (mkO a b p g))))]) (fun (j : Nat) => []) (fun (j : Nat) => j ≤ (choicesL n b).length ∧ (True)) (fun (j : Nat) => (choicesL n b).length - j) (0) ?_ ?_ ?_ ?_
      ·exact ⟨Nat.zero_le _, trivial⟩
      ·exact ⟨rfl, by rw [List.take_zero, List.map_nil, List.append_nil]; rfl, trivial⟩
      ·exact List.Perm.refl _
      ·intro j hinv
       obtain ⟨hj, -⟩ := hinv
       refine hw_reg ?_
       refine dp rfl (pop_lss rfl rfl) ?_
       refine dn ?_
       refine hw_seq ?_
       refine hw_cond rfl (fun h6 => ?_) (fun h7 => ?_)
       ·try simp at h6
        obtain ⟨t, ht⟩ : ∃ t, (choicesL n b)[j]? = some t := ⟨_, List.getElem?_eq_getElem h6⟩
        have hdt := drop_cons ht
        refine hw_skip ?_
        refine seqQ_n ?_
        refine hw_seq ?_
        refine hw_block ?_
        refine hw_reg ?_
        refine dp rfl (pop_idx (f := eSs) (l := choicesL n b) (j := j) (a := t) ty107 ty36 rfl rfl rfl ht) ?_
        refine dp rfl (pop_load ty36 rfl rfl rfl) ?_
        refine dp rfl (pop_assign rfl) ?_
        refine dn ?_
        have hgs := ch_small hn (List.mem_of_getElem? hg)
        have hts := ch_small hn (List.mem_of_getElem? ht)
        obtain ⟨_, hga3, hga4⟩ := ok.gain (give := g) (take := t) hla (by omega)
        obtain ⟨_, hgb3, hgb4⟩ := ok.flip.gain (give := t) (take := g) hlb (by omega)
        have hgA : gainL a b p g t = sumF (tradedL a b g t) p - sumF a p := rfl
        have hgB : gainL b a p t g = sumF (tradedL b a t g) p - sumF b p := rfl
        have hsl := fold_small hn (a := a) (b := b) (p := p) (i := i) (j := j) hg
        generalize hs : foldO (offersL a b p ((choicesL n a).take i) (choicesL n b) ++ ((choicesL n b).take j).map (mkO a b p g)) = s at *
        refine hw_reg ?_
        refine dp rfl (pop_move rfl) ?_
        refine dp rfl (pop_move rfl) ?_
        refine dp rfl (pop_move rfl) ?_
        refine dp rfl (pop_move rfl) ?_
        refine dp rfl (pop_move rfl) ?_
        refine dp rfl (pop_call ca63 rfl (WeakL.refl _) (c_value_gains (a := a) (b := b) (p := p) (give := g) (take := t) ok hla hlb (by omega) (by omega))) ?_
        refine dp rfl (pop_move rfl) ?_
        refine dp rfl (pop_extract rfl rfl) ?_
        refine dp rfl (pop_extract rfl rfl) ?_
        refine dp rfl (pop_assign rfl) ?_
        refine dp rfl (pop_assign rfl) ?_
        refine dn ?_
        refine hw_reg ?_
        refine dp rfl (pop_move rfl) ?_
        refine dp rfl (pop_move rfl) ?_
        refine dp rfl (pop_move rfl) ?_
        refine dp rfl (pop_move rfl) ?_
        refine dp rfl (pop_eq (h' := .int .i64 (min (gainL a b p g t) (gainL b a p t g))) (pop_min rfl rfl) (congrArg (HVal.int .i64) min_iteI)) ?_
        refine dp rfl (pop_move rfl) ?_
        refine dp rfl (pop_move rfl) ?_
        refine dp rfl (pop_add64 rfl rfl (by omega) (by omega)) ?_
        refine dp rfl (pop_build (cs := [_, _, _, _]) ty112 pl112 rfl) ?_
        refine dp rfl (pop_box rfl rfl) ?_
        refine dp rfl (pop_assign rfl) ?_
        refine dn ?_
        refine hw_reg ?_
        refine dp rfl (pop_move rfl) ?_
        refine dp rfl ((by first | exact pop_nilCheck rfl | exact pop_nilCheck_raw rfl)) ?_
        refine dp rfl (pop_fieldAddr ty112 rfl ty3 (by decide) rfl) ?_
        refine dp rfl (pop_load ty3 rfl rfl rfl) ?_
        refine dp rfl (pop_geq rfl rfl) ?_
        refine dp rfl (pop_move rfl) ?_
        refine dg rfl rfl (fun hc => ⟨_, OpenTo.refl _, pop_move rfl⟩) ?_
        refine dg rfl rfl (fun hc => ⟨_, OpenTo.upd (t := 81) rfl (by first | exact hc | simp_all) (OpenTo.refl _), pop_eqnilP (o := s.map fun o => hcells (eOffer o)) ty106 rfl rfl⟩) ?_
        refine dg rfl rfl (fun hc => ⟨_, OpenTo.upd (t := 82) rfl (by first | exact hc | simp_all) (OpenTo.refl _), pop_move rfl⟩) ?_
        refine dg rfl rfl (fun hc => ⟨_, OpenTo.refl _, pop_move rfl⟩) ?_
        refine dg rfl rfl (fun hc => ⟨_, OpenTo.refl _, pop_move rfl⟩) ?_
        refine dg rfl rfl (fun hc => by
         have hw := bestV_some (s := s) (by have h9 := hc; simp at h9; simpa using h9.2)
         exact ⟨_, OpenTo.upd (t := 85) rfl (by first | exact hc | simp_all) (OpenTo.upd (t := 84) rfl (by first | exact hc | simp_all) (OpenTo.refl _)), pop_call (hs' := [.vptr (hcells (eOffer (mkO a b p g t))) 0, .vptr (hcells (eOffer (s.getD off0))) 0]) ca64 rfl ⟨Weak.refl _, (by rw [← hw]; exact Weak.refl _), trivial⟩ (c_value_offer_better (x := mkO a b p g t) (y := s.getD off0) ⟨by show g.length ≤ 1000; omega, by show t.length ≤ 1000; omega⟩ hsl)⟩) ?_
        refine dg rfl rfl (fun hc => ⟨_, OpenTo.upd (t := 83) rfl (by first | exact hc | simp_all) (OpenTo.refl _), pop_picko rfl (.inl rfl) (.inr ⟨_, rfl, fun h => by simp_all⟩)⟩) ?_
        refine dp rfl (pop_picko rfl (.inr ⟨_, rfl, fun h => by simp_all⟩) (.inl rfl)) ?_
        refine dn ?_
        refine hw_cond rfl (fun h8 => ?_) (fun h9 => ?_)
        ·try simp at h8
         refine hw_reg1 ?_
         refine dp rfl (pop_move rfl) ?_
         refine dp rfl (pop_assign rfl) ?_
         refine dn ?_
         refine blockQ_n ?_
         refine seqQ_n ?_
         refine hw_reg1 ?_
         refine dp rfl (pop_add64 rfl rfl (by omega) (by omega)) ?_
         refine dp rfl (pop_move rfl) ?_
         refine dn ?_
         exact ⟨j + 1, ⟨by omega, trivial⟩, by dsimp only; omega, ⟨rfl, by rw [fold_take ht, hs, stepO_is, if_pos (by simp only [Bool.and_eq_true, Bool.or_eq_true, decide_eq_true_eq]; exact ⟨h8.1, by rcases h8.2 with q | q; exact .inl (by simp [q]); exact .inr q⟩)]; rfl, trivial⟩, (by repeat (first | exact keeps_refl | refine keeps_upd rfl ?_ | refine keeps_loop rfl rfl ?_)), List.Perm.refl _⟩
        ·try simp at h9
         refine hw_skip ?_
         refine blockQ_n ?_
         refine seqQ_n ?_
         refine hw_reg1 ?_
         refine dp rfl (pop_add64 rfl rfl (by omega) (by omega)) ?_
         refine dp rfl (pop_move rfl) ?_
         refine dn ?_
         exact ⟨j + 1, ⟨by omega, trivial⟩, by dsimp only; omega, ⟨rfl, by rw [fold_take ht, hs, stepO_is, if_neg (by intro hq; simp only [Bool.and_eq_true, Bool.or_eq_true, decide_eq_true_eq] at hq; have h10 := h9 hq.1; rcases hq.2 with q | q; (rw [Option.isNone_iff_eq_none] at q; rw [q] at h10; simp at h10); (rw [h10.2] at q; cases q))]; rfl, trivial⟩, (by repeat (first | exact keeps_refl | refine keeps_upd rfl ?_ | refine keeps_loop rfl rfl ?_)), List.Perm.refl _⟩
       ·try simp at h7
        have hnj : (choicesL n b).length ≤ j := by omega
        obtain rfl : j = (choicesL n b).length := by omega
        refine hw_exit ?_
        refine seqQ_x ?_
        refine loopQ_x ?_
        refine blockQ_eq ?_
        refine blockQ_n ?_
        refine seqQ_n ?_
        refine hw_reg1 ?_
        refine dp rfl (pop_add64 rfl rfl (by omega) (by omega)) ?_
        refine dp rfl (pop_move rfl) ?_
        refine dn ?_
        exact ⟨i + 1, ⟨by omega, trivial⟩, by dsimp only; omega, ⟨rfl, by rw [offers_take hg, List.take_length]; rfl, trivial⟩, (by repeat (first | exact keeps_refl | refine keeps_upd rfl ?_ | refine keeps_loop rfl rfl ?_)), List.Perm.refl _⟩
     ·try simp at h5
      have hni : (choicesL n a).length ≤ i := by omega
      obtain rfl : i = (choicesL n a).length := by omega
      rw [List.take_length]
      refine hw_exit ?_
      refine seqQ_x ?_
      refine loopQ_x ?_
      refine blockQ_eq ?_
      refine seqQ_n ?_
      refine hw_seq ?_
      rw [show foldO (offersL a b p (choicesL n a) (choicesL n b)) = bestO a b p n from rfl]
      refine hw_reg ?_
      refine dp rfl (pop_move rfl) ?_
      refine dp rfl (pop_eqnilP (o := (bestO a b p n).map fun o => hcells (eOffer o)) ty106 rfl rfl) ?_
      refine dn ?_
      refine hw_cond rfl (fun h10 => ?_) (fun h11 => ?_)
      ·try simp at h10
       refine hw_reg ?_
       refine dp rfl (pop_assign rfl) ?_
       refine dp rfl (pop_assign rfl) ?_
       refine dp rfl (pop_assign rfl) ?_
       refine dp rfl (pop_assign rfl) ?_
       refine dn ?_
       refine hw_ret ?_
       first
       | (have hnn : bestO a b p n = none := by simpa using h10
          refine ret_w rfl ?_
          rw [hnn]
          exact weak_tup4 (weak_nil 1) (weak_nil 1) (Weak.refl _) (Weak.refl _))
       | (refine ret_p rfl ?_
          show HVal.tup [eSs o.give, eSs o.take, .bool true, .int .i64 0] = .tup [eSs (giveS (some o)), eSs (takeS (some o)), .bool (some o).isSome, .int .i64 0]
          rfl)
      ·try simp at h11
       refine hw_skip ?_
       refine seqQ_n ?_
       obtain ⟨o, ho⟩ : ∃ o, bestO a b p n = some o := by
        cases hq : bestO a b p n with
        | none => simp [hq] at h11
        | some o => exact ⟨o, rfl⟩
       rw [ho]
       refine hw_draw (fun _ => True) [] mixed ?_
       refine ahp 0 rfl rfl (by kernel_rfl) (by kernel_rfl) (pop_move rfl) ?_
       refine ahp 1 rfl rfl (by kernel_rfl) (by kernel_rfl) ((by first | exact pop_nilCheck rfl | exact pop_nilCheck_raw rfl)) ?_
       refine ahp 2 rfl rfl (by kernel_rfl) (by kernel_rfl) (pop_fieldAddr ty112 rfl ty36 (by decide) rfl) ?_
       refine ahp 3 rfl rfl (by kernel_rfl) (by kernel_rfl) (pop_load ty36 rfl rfl rfl) ?_
       refine ahp 4 rfl rfl (by kernel_rfl) (by kernel_rfl) (pop_move rfl) ?_
       refine ahp 5 rfl rfl (by kernel_rfl) (by kernel_rfl) ((by first | exact pop_nilCheck rfl | exact pop_nilCheck_raw rfl)) ?_
       refine ahp 6 rfl rfl (by kernel_rfl) (by kernel_rfl) (pop_fieldAddr ty112 rfl ty36 (by decide) rfl) ?_
       refine ahp 7 rfl rfl (by kernel_rfl) (by kernel_rfl) (pop_load ty36 rfl rfl rfl) ?_
       refine ahp 8 rfl rfl (by kernel_rfl) (by kernel_rfl) (pop_assign rfl) ?_
       refine ahp 9 rfl rfl (by kernel_rfl) (by kernel_rfl) (pop_assign rfl) ?_
       refine ahp 10 rfl rfl (by kernel_rfl) (by kernel_rfl) (pop_assign rfl) ?_
       refine ahp 11 rfl rfl (by kernel_rfl) (by kernel_rfl) (pop_assign rfl) ?_
       refine ahz (by kernel_rfl) ?_
       refine hw_ret ?_
       first
       | (have hnn : bestO a b p n = none := by simpa using h10
          refine ret_w rfl ?_
          rw [hnn]
          exact weak_tup4 (weak_nil 1) (weak_nil 1) (Weak.refl _) (Weak.refl _))
       | (refine ret_p rfl ?_
          show HVal.tup [eSs o.give, eSs o.take, .bool true, .int .i64 0] = .tup [eSs (giveS (some o)), eSs (takeS (some o)), .bool (some o).isSome, .int .i64 0]
          rfl)
end Go.Proofs.YtkamelfigfbfiaaGreatDoor
end
section
namespace Go.Proofs.YtkamelfigfbfiaaGreatDoor
open Go.HL
set_option maxRecDepth 100000
set_option linter.unusedVariables false
set_option linter.unusedSimpArgs false
set_option maxHeartbeats 2000000 in
/-- benchwarmer/benchkeep1.SwapsAreTold -/
theorem c_benchkeep1_SwapsAreTold [Tracks] {l : List Int} (hT : Tracks.on = false) : ConP Tryz.prog 3 [.slice 1 (l.map (.int .i64))] (.bool true) := by
 refine Con.of_body Tryz.func3 rfl Tryz.ntmps3 rfl rfl ?_
 refine hw_reg ?_
 refine dp rfl (pop_assign rfl) ?_
 refine dn ?_
 refine hw_reg ?_
 refine dp rfl (pop_move rfl) ?_
 refine dp rfl (pop_build (cs := [_, _]) ty25 pl25 rfl) ?_
 refine de rfl (eop_box rfl rfl fun b => ?_)
 refine dghost (M' := [St b l 0]) rfl ?_
 refine dp rfl (pop_assign rfl) ?_
 refine dn ?_
 refine hw_reg ?_
 refine dp rfl (pop_move rfl) ?_
 first
 | refine de rfl (eop_callx (i := 0) ca7 rfl (WeakL.refl _) rfl (c_benchmake_Stream_AssetList (by first | assumption | omega | (simp; omega) | simp_all) (by first | assumption | omega | (simp; omega) | simp_all)) ?_)
 | refine de rfl (eop_callx (i := 1) ca7 rfl (WeakL.refl _) rfl (c_benchmake_Stream_AssetList (by first | assumption | omega | (simp; omega) | simp_all) (by first | assumption | omega | (simp; omega) | simp_all)) ?_)
 | refine de rfl (eop_callx (i := 2) ca7 rfl (WeakL.refl _) rfl (c_benchmake_Stream_AssetList (by first | assumption | omega | (simp; omega) | simp_all) (by first | assumption | omega | (simp; omega) | simp_all)) ?_)
 | refine de rfl (eop_callx (i := 3) ca7 rfl (WeakL.refl _) rfl (c_benchmake_Stream_AssetList (by first | assumption | omega | (simp; omega) | simp_all) (by first | assumption | omega | (simp; omega) | simp_all)) ?_)
 rintro _ _ ⟨l20, a20, rfl, hl20, ha20, rfl⟩
 refine dp rfl (pop_move rfl) ?_
 first
 | refine de rfl (eop_callx (i := 0) ca7 rfl (WeakL.refl _) rfl (c_benchmake_Stream_AssetList (by first | assumption | omega | (simp; omega) | simp_all) (by first | assumption | omega | (simp; omega) | simp_all)) ?_)
 | refine de rfl (eop_callx (i := 1) ca7 rfl (WeakL.refl _) rfl (c_benchmake_Stream_AssetList (by first | assumption | omega | (simp; omega) | simp_all) (by first | assumption | omega | (simp; omega) | simp_all)) ?_)
 | refine de rfl (eop_callx (i := 2) ca7 rfl (WeakL.refl _) rfl (c_benchmake_Stream_AssetList (by first | assumption | omega | (simp; omega) | simp_all) (by first | assumption | omega | (simp; omega) | simp_all)) ?_)
 | refine de rfl (eop_callx (i := 3) ca7 rfl (WeakL.refl _) rfl (c_benchmake_Stream_AssetList (by first | assumption | omega | (simp; omega) | simp_all) (by first | assumption | omega | (simp; omega) | simp_all)) ?_)
 rintro _ _ ⟨l22, a22, rfl, hl22, ha22, rfl⟩
 refine dp rfl (pop_move rfl) ?_
 first
 | refine de rfl (eop_callx (i := 0) ca8 rfl (WeakL.refl _) rfl (c_benchmake_Stream_PlaceList (by first | assumption | omega | (simp; omega) | simp_all)) ?_)
 | refine de rfl (eop_callx (i := 1) ca8 rfl (WeakL.refl _) rfl (c_benchmake_Stream_PlaceList (by first | assumption | omega | (simp; omega) | simp_all)) ?_)
 | refine de rfl (eop_callx (i := 2) ca8 rfl (WeakL.refl _) rfl (c_benchmake_Stream_PlaceList (by first | assumption | omega | (simp; omega) | simp_all)) ?_)
 | refine de rfl (eop_callx (i := 3) ca8 rfl (WeakL.refl _) rfl (c_benchmake_Stream_PlaceList (by first | assumption | omega | (simp; omega) | simp_all)) ?_)
 rintro _ _ ⟨p24, a24, rfl, hp24, ha24, rfl⟩
 refine dp rfl (pop_move rfl) ?_
 first
 | refine de rfl (eop_callx (i := 0) ca9 rfl (WeakL.refl _) rfl (c_benchmake_Stream_Range (by first | assumption | omega | (simp; omega) | simp_all) (by first | assumption | omega | (simp; omega) | simp_all) (by first | assumption | omega | (simp; omega) | simp_all) (by first | assumption | omega | (simp; omega) | simp_all)) ?_)
 | refine de rfl (eop_callx (i := 1) ca9 rfl (WeakL.refl _) rfl (c_benchmake_Stream_Range (by first | assumption | omega | (simp; omega) | simp_all) (by first | assumption | omega | (simp; omega) | simp_all) (by first | assumption | omega | (simp; omega) | simp_all) (by first | assumption | omega | (simp; omega) | simp_all)) ?_)
 | refine de rfl (eop_callx (i := 2) ca9 rfl (WeakL.refl _) rfl (c_benchmake_Stream_Range (by first | assumption | omega | (simp; omega) | simp_all) (by first | assumption | omega | (simp; omega) | simp_all) (by first | assumption | omega | (simp; omega) | simp_all) (by first | assumption | omega | (simp; omega) | simp_all)) ?_)
 | refine de rfl (eop_callx (i := 3) ca9 rfl (WeakL.refl _) rfl (c_benchmake_Stream_Range (by first | assumption | omega | (simp; omega) | simp_all) (by first | assumption | omega | (simp; omega) | simp_all) (by first | assumption | omega | (simp; omega) | simp_all) (by first | assumption | omega | (simp; omega) | simp_all)) ?_)
 rintro _ _ ⟨y26, rfl, hy26, rfl⟩
 refine dp rfl (pop_assign rfl) ?_
 refine dp rfl (pop_assign rfl) ?_
 refine dp rfl (pop_assign rfl) ?_
 refine dp rfl (pop_assign rfl) ?_
 refine dn ?_
 refine hw_ghost Ghost.drop ?_
 have hla7 := hl20.len
 have hlb7 := hl22.len
 have hpl := hp24.len
 have hla : l20.length ≤ 8 := by omega
 have hlb : l22.length ≤ 8 := by omega
 refine hw_seq ?_
 refine hw_reg ?_
 refine dp rfl (pop_move rfl) ?_
 refine dp rfl (pop_call ca10 rfl (WeakL.refl _) (c_benchref1_AssetsFault (l := l20) (by omega) hl20.all)) ?_
 refine dp rfl (pop_neq rfl rfl) ?_
 refine dp rfl (pop_move rfl) ?_
 refine dg rfl rfl (fun hc => ⟨_, OpenTo.refl _, pop_move rfl⟩) ?_
 refine dg rfl rfl (fun hc => by have hq := hc; (try simp at hq); exact ⟨_, OpenTo.upd (t := 31) rfl (by first | exact hc | simp_all) (OpenTo.refl _), pop_call ca10 rfl (WeakL.refl _) (c_benchref1_AssetsFault (l := l22) (by omega) hl22.all)⟩) ?_
 refine dg rfl rfl (fun hc => ⟨_, OpenTo.upd (t := 32) rfl (by first | exact hc | simp_all) (OpenTo.refl _), pop_neq rfl rfl⟩) ?_
 refine dp rfl (pop_picko rfl (.inl rfl) (.inr ⟨_, rfl, fun h => by simp_all⟩)) ?_
 refine dp rfl (pop_move rfl) ?_
 refine dg rfl rfl (fun hc => ⟨_, OpenTo.refl _, pop_move rfl⟩) ?_
 refine dg rfl rfl (fun hc => by have hq := hc; (try simp at hq); exact ⟨_, OpenTo.upd (t := 36) rfl (by first | exact hc | simp_all) (OpenTo.refl _), pop_call ca11 rfl (WeakL.refl _) (c_benchref1_PlacesFault (l := p24) (by omega) hp24.all)⟩) ?_
 refine dg rfl rfl (fun hc => ⟨_, OpenTo.upd (t := 37) rfl (by first | exact hc | simp_all) (OpenTo.refl _), pop_neq rfl rfl⟩) ?_
 refine dp rfl (pop_picko rfl (.inl rfl) (.inr ⟨_, rfl, fun h => by simp_all⟩)) ?_
 refine dp rfl (pop_move rfl) ?_
 refine dg rfl rfl (fun hc => ⟨_, OpenTo.refl _, pop_move rfl⟩) ?_
 refine dg rfl rfl (fun hc => ⟨_, OpenTo.refl _, pop_move rfl⟩) ?_
 refine dg rfl rfl (fun hc => ⟨_, OpenTo.upd (t := 42) rfl (by first | exact hc | simp_all) (OpenTo.upd (t := 41) rfl (by first | exact hc | simp_all) (OpenTo.refl _)), pop_call ca12 rfl (WeakL.refl _) (c_benchref1_BothFault (a := l20) (b := l22) hla hlb)⟩) ?_
 refine dg rfl rfl (fun hc => ⟨_, OpenTo.upd (t := 43) rfl (by first | exact hc | simp_all) (OpenTo.refl _), pop_neq rfl rfl⟩) ?_
 refine dp rfl (pop_picko rfl (.inl rfl) (.inr ⟨_, rfl, fun h => by simp_all⟩)) ?_
 refine dn ?_
 refine hw_cond rfl (fun h1 => ?_) (fun h2 => ?_)
 ·try simp at h1
  refine hw_reg ?_
  refine dp rfl (pop_call ca13 rfl (WeakL.refl _) (c_benchkeep1_ready hT)) ?_
  refine dp rfl (pop_assign rfl) ?_
  refine dn ?_
  refine hw_ret ?_
  refine ret_p rfl ?_
  show HVal.bool _ = _
  first
  | rfl
  | (simp [hnn, giveS, takeS]; done)
  | (simp [hw3]; done)
  | (simp_all; done)
 ·try simp at h2
  refine hw_skip ?_
  refine seqQ_n ?_
  obtain ⟨⟨⟨hca, hcb⟩, hcp⟩, hbr⟩ := h2
  have hsw := swapE_of hca hcb hcp hbr
  have ok := swap_ok hsw
  refine hw_reg ?_
  refine dp rfl (pop_move rfl) ?_
  refine dp rfl (pop_move rfl) ?_
  refine dp rfl (pop_move rfl) ?_
  refine dp rfl (pop_move rfl) ?_
  refine dp rfl (pop_call ca14 rfl (WeakL.refl _) (c_value_BestSwap (a := l20) (b := l22) (p := p24) (n := y26) hsw hy26 hla hlb)) ?_
  refine dp rfl (pop_move rfl) ?_
  refine dp rfl (pop_extract rfl rfl) ?_
  refine dp rfl (pop_extract rfl rfl) ?_
  refine dp rfl (pop_extract rfl rfl) ?_
  refine dp rfl (pop_extract rfl rfl) ?_
  refine dp rfl (pop_assign rfl) ?_
  refine dp rfl (pop_assign rfl) ?_
  refine dp rfl (pop_assign rfl) ?_
  refine dp rfl (pop_assign rfl) ?_
  refine dn ?_
  refine hw_seq ?_
  refine hw_reg ?_
  refine dp rfl (pop_move rfl) ?_
  refine dp rfl (pop_neq rfl rfl) ?_
  refine dp rfl (pop_move rfl) ?_
  refine dg rfl rfl (fun hc => ⟨_, OpenTo.refl _, pop_move rfl⟩) ?_
  refine dg rfl rfl (fun hc => ⟨_, OpenTo.upd (t := 60) rfl (by first | exact hc | simp_all) (OpenTo.refl _), pop_not rfl⟩) ?_
  refine dp rfl (pop_picko rfl (.inl rfl) (.inr ⟨_, rfl, fun h => by simp_all⟩)) ?_
  refine dn ?_
  refine hw_cond rfl (fun h3 => ?_) (fun h4 => ?_)
  ·try simp at h3
   have hnn : bestO l20 l22 p24 y26 = none := by simpa using h3
   rw [hnn]
   simp only [giveS, takeS]
   have hn0 : ([] : List Str).length = 0 := rfl
   refine hw_reg ?_
   refine dp rfl (pop_move rfl) ?_
   refine dp rfl (pop_eql rfl rfl) ?_
   refine dp rfl (pop_move rfl) ?_
   refine dg rfl rfl (fun hc => ⟨_, OpenTo.refl _, pop_move rfl⟩) ?_
   refine dg rfl rfl (fun hc => ⟨_, OpenTo.upd (t := 66) rfl (by first | exact hc | simp_all) (OpenTo.refl _), pop_lenm ty36 rfl⟩) ?_
   refine dg rfl rfl (fun hc => ⟨_, OpenTo.refl _, pop_move rfl⟩) ?_
   refine dg rfl rfl (fun hc => ⟨_, OpenTo.upd (t := 68) rfl (by first | exact hc | simp_all) (OpenTo.refl _), pop_lenm ty36 rfl⟩) ?_
   refine dg rfl rfl (fun hc => by have hq := hc; (try simp at hq); exact ⟨_, OpenTo.upd (t := 69) rfl (by first | exact hc | simp_all) (OpenTo.upd (t := 67) rfl (by first | exact hc | simp_all) (OpenTo.refl _)), pop_add64 rfl rfl (by omega) (by omega)⟩) ?_
   refine dg rfl rfl (fun hc => ⟨_, OpenTo.upd (t := 70) rfl (by first | exact hc | simp_all) (OpenTo.refl _), pop_eql rfl rfl⟩) ?_
   refine dp rfl (pop_picko rfl (.inr ⟨_, rfl, fun h => by simp_all⟩) (.inl rfl)) ?_
   refine dp rfl (pop_move rfl) ?_
   refine dg rfl rfl (fun hc => ⟨_, OpenTo.refl _, pop_call ca13 rfl (WeakL.refl _) (c_benchkeep1_ready hT)⟩) ?_
   refine dp rfl (pop_picko rfl (.inr ⟨_, rfl, fun h => by simp_all⟩) (.inl rfl)) ?_
   refine dp rfl (pop_assign rfl) ?_
   refine dn ?_
   refine hw_ret ?_
   refine ret_p rfl ?_
   show HVal.bool _ = _
   first
   | rfl
   | (simp [hnn, giveS, takeS]; done)
   | (simp [hw3]; done)
   | (simp_all; done)
  ·try simp at h4
   refine hw_skip ?_
   refine seqQ_n ?_
   obtain ⟨o, ho⟩ : ∃ o, bestO l20 l22 p24 y26 = some o := by
    cases hq : bestO l20 l22 p24 y26 with
    | none => simp [hq] at h4
    | some o => exact ⟨o, rfl⟩
   rw [ho]
   simp only [giveS, takeS]
   have hbi := best_is ho
   have hgs := ch_small hy26 hbi.give
   have hts := ch_small hy26 hbi.take
   obtain ⟨x, r, ea⟩ := ch_cons hbi.give
   obtain ⟨y, s, eb⟩ := ch_cons hbi.take
   obtain ⟨hw1, hw2, hw3⟩ := swaps_law ho ea eb
   refine hw_reg ?_
   refine dp rfl (pop_move rfl) ?_
   refine dp rfl (pop_move rfl) ?_
   refine dp rfl (pop_move rfl) ?_
   refine dp rfl (pop_move rfl) ?_
   refine dp rfl (pop_move rfl) ?_
   refine dp rfl (pop_call ca15 rfl (WeakL.refl _) (c_value_Swap (a := l20) (b := l22) (p := p24) (give := o.give) (take := o.take) hsw (ch_give ok.da hbi.give) (ch_give ok.db hbi.take) hla hlb (by omega) (by omega))) ?_
   refine dp rfl (pop_move rfl) ?_
   refine dp rfl (pop_extract rfl rfl) ?_
   refine dp rfl (pop_extract rfl rfl) ?_
   refine dp rfl (pop_extract rfl rfl) ?_
   refine dp rfl (pop_assign rfl) ?_
   refine dp rfl (pop_assign rfl) ?_
   refine dp rfl (pop_assign rfl) ?_
   refine dn ?_
   refine hw_seq ?_
   refine hw_reg ?_
   refine dp rfl (pop_move rfl) ?_
   refine dp rfl (pop_neq rfl rfl) ?_
   refine dp rfl (pop_move rfl) ?_
   refine dg rfl rfl (fun hc => ⟨_, OpenTo.refl _, pop_move rfl⟩) ?_
   refine dg rfl rfl (fun hc => ⟨_, OpenTo.upd (t := 89) rfl (by first | exact hc | simp_all) (OpenTo.refl _), pop_lss rfl rfl⟩) ?_
   refine dp rfl (pop_picko rfl (.inl rfl) (.inr ⟨_, rfl, fun h => by simp_all⟩)) ?_
   refine dp rfl (pop_move rfl) ?_
   refine dg rfl rfl (fun hc => ⟨_, OpenTo.refl _, pop_move rfl⟩) ?_
   refine dg rfl rfl (fun hc => ⟨_, OpenTo.upd (t := 93) rfl (by first | exact hc | simp_all) (OpenTo.refl _), pop_lss rfl rfl⟩) ?_
   refine dp rfl (pop_picko rfl (.inl rfl) (.inr ⟨_, rfl, fun h => by simp_all⟩)) ?_
   refine dp rfl (pop_move rfl) ?_
   refine dg rfl rfl (fun hc => ⟨_, OpenTo.refl _, pop_move rfl⟩) ?_
   refine dg rfl rfl (fun hc => ⟨_, OpenTo.upd (t := 97) rfl (by first | exact hc | simp_all) (OpenTo.refl _), pop_lenm ty36 rfl⟩) ?_
   refine dg rfl rfl (fun hc => ⟨_, OpenTo.refl _, pop_move rfl⟩) ?_
   refine dg rfl rfl (fun hc => ⟨_, OpenTo.upd (t := 99) rfl (by first | exact hc | simp_all) (OpenTo.upd (t := 98) rfl (by first | exact hc | simp_all) (OpenTo.refl _)), pop_gtr rfl rfl⟩) ?_
   refine dp rfl (pop_picko rfl (.inl rfl) (.inr ⟨_, rfl, fun h => by simp_all⟩)) ?_
   refine dp rfl (pop_move rfl) ?_
   refine dg rfl rfl (fun hc => ⟨_, OpenTo.refl _, pop_move rfl⟩) ?_
   refine dg rfl rfl (fun hc => ⟨_, OpenTo.upd (t := 103) rfl (by first | exact hc | simp_all) (OpenTo.refl _), pop_lenm ty36 rfl⟩) ?_
   refine dg rfl rfl (fun hc => ⟨_, OpenTo.refl _, pop_move rfl⟩) ?_
   refine dg rfl rfl (fun hc => ⟨_, OpenTo.upd (t := 105) rfl (by first | exact hc | simp_all) (OpenTo.upd (t := 104) rfl (by first | exact hc | simp_all) (OpenTo.refl _)), pop_gtr rfl rfl⟩) ?_
   refine dp rfl (pop_picko rfl (.inl rfl) (.inr ⟨_, rfl, fun h => by simp_all⟩)) ?_
   refine dn ?_
   refine hw_cond rfl (fun h5 => ?_) (fun h5 => ?_)
   ·exfalso
    try simp at h5
    omega
   ·try simp at h5
    refine hw_skip ?_
    refine seqQ_n ?_
    refine hw_draw (fun _ => True) [] mixed ?_
    refine ahp 0 rfl rfl (by kernel_rfl) (by kernel_rfl) (pop_move rfl) ?_
    refine ahp 1 rfl rfl (by kernel_rfl) (by kernel_rfl) (pop_move rfl) ?_
    refine ahp 2 rfl rfl (by kernel_rfl) (by kernel_rfl) (pop_move rfl) ?_
    refine ahp 3 rfl rfl (by kernel_rfl) (by kernel_rfl) (pop_move rfl) ?_
    refine ahp 4 rfl rfl (by kernel_rfl) (by kernel_rfl) (pop_idx (j := 0) (a := x) ty26 ty42 rfl rfl rfl (by rw [ea]; rfl)) ?_
    refine ahp 5 rfl rfl (by kernel_rfl) (by kernel_rfl) (pop_fieldAddr ty42 rfl ty9 (by decide) rfl) ?_
    refine ahp 6 rfl rfl (by kernel_rfl) (by kernel_rfl) (pop_load ty9 rfl rfl rfl) ?_
    refine ahp 7 rfl rfl (by kernel_rfl) (by kernel_rfl) (pop_buildSlice (hs := [_]) ty36 ty9 rfl rfl (by decide) (by decide) rfl) ?_
    refine ahp 8 rfl rfl (by kernel_rfl) (by kernel_rfl) (pop_move rfl) ?_
    refine ahp 9 rfl rfl (by kernel_rfl) (by kernel_rfl) (pop_idx (j := 0) (a := y) ty26 ty42 rfl rfl rfl (by rw [eb]; rfl)) ?_
    refine ahp 10 rfl rfl (by kernel_rfl) (by kernel_rfl) (pop_fieldAddr ty42 rfl ty9 (by decide) rfl) ?_
    refine ahp 11 rfl rfl (by kernel_rfl) (by kernel_rfl) (pop_load ty9 rfl rfl rfl) ?_
    refine ahp 12 rfl rfl (by kernel_rfl) (by kernel_rfl) (pop_buildSlice (hs := [_]) ty36 ty9 rfl rfl (by decide) (by decide) rfl) ?_
    refine ahp 13 rfl rfl (by kernel_rfl) (by kernel_rfl) (pop_call ca15 rfl (WeakL.refl _) (c_value_Swap (a := l20) (b := l22) (p := p24) (give := [x.Player]) (take := [y.Player]) hsw (one_give ea) (one_give eb) hla hlb (by simp) (by simp))) ?_
    refine ahp 14 rfl rfl (by kernel_rfl) (by kernel_rfl) (pop_move rfl) ?_
    refine ahp 15 rfl rfl (by kernel_rfl) (by kernel_rfl) (pop_extract rfl rfl) ?_
    refine ahp 16 rfl rfl (by kernel_rfl) (by kernel_rfl) (pop_extract rfl rfl) ?_
    refine ahp 17 rfl rfl (by kernel_rfl) (by kernel_rfl) (pop_extract rfl rfl) ?_
    refine ahp 18 rfl rfl (by kernel_rfl) (by kernel_rfl) (pop_assign rfl) ?_
    refine ahp 19 rfl rfl (by kernel_rfl) (by kernel_rfl) (pop_assign rfl) ?_
    refine ahp 20 rfl rfl (by kernel_rfl) (by kernel_rfl) (pop_assign rfl) ?_
    refine ahz (by kernel_rfl) ?_
    refine hw_reg ?_
    refine dp rfl (pop_move rfl) ?_
    refine dp rfl (pop_eql rfl rfl) ?_
    refine dp rfl (pop_move rfl) ?_
    refine dg rfl rfl (fun hc => ⟨_, OpenTo.refl _, pop_move rfl⟩) ?_
    refine dg rfl rfl (fun hc => ⟨_, OpenTo.refl _, pop_move rfl⟩) ?_
    refine dg rfl rfl (fun hc => ⟨_, OpenTo.upd (t := 130) rfl (by first | exact hc | simp_all) (OpenTo.upd (t := 129) rfl (by first | exact hc | simp_all) (OpenTo.refl _)), pop_eq (h' := .int .i64 (min (gainL l20 l22 p24 [x.Player] [y.Player]) (gainL l22 l20 p24 [y.Player] [x.Player]))) (pop_min rfl rfl) (congrArg (HVal.int .i64) min_iteI)⟩) ?_
    refine dg rfl rfl (fun hc => ⟨_, OpenTo.refl _, pop_move rfl⟩) ?_
    refine dg rfl rfl (fun hc => ⟨_, OpenTo.refl _, pop_move rfl⟩) ?_
    refine dg rfl rfl (fun hc => ⟨_, OpenTo.upd (t := 133) rfl (by first | exact hc | simp_all) (OpenTo.upd (t := 132) rfl (by first | exact hc | simp_all) (OpenTo.refl _)), pop_eq (h' := .int .i64 (min (gainL l20 l22 p24 o.give o.take) (gainL l22 l20 p24 o.take o.give))) (pop_min rfl rfl) (congrArg (HVal.int .i64) min_iteI)⟩) ?_
    refine dg rfl rfl (fun hc => ⟨_, OpenTo.upd (t := 134) rfl (by first | exact hc | simp_all) (OpenTo.upd (t := 131) rfl (by first | exact hc | simp_all) (OpenTo.refl _)), pop_leq rfl rfl⟩) ?_
    refine dp rfl (pop_picko rfl (.inr ⟨_, rfl, fun h => by simp_all⟩) (.inl rfl)) ?_
    refine dp rfl (pop_move rfl) ?_
    refine dg rfl rfl (fun hc => ⟨_, OpenTo.refl _, pop_call ca13 rfl (WeakL.refl _) (c_benchkeep1_ready hT)⟩) ?_
    refine dp rfl (pop_picko rfl (.inr ⟨_, rfl, fun h => by simp_all⟩) (.inl rfl)) ?_
    refine dp rfl (pop_assign rfl) ?_
    refine dn ?_
    refine hw_ret ?_
    refine ret_p rfl ?_
    show HVal.bool _ = _
    first
    | rfl
    | (simp [hnn, giveS, takeS]; done)
    | (simp [hw3]; done)
    | (simp_all; done)
end Go.Proofs.YtkamelfigfbfiaaGreatDoor
end
section
namespace Go.Proofs.YtkamelfigfbfiaaGreatDoor
open Go.ChangeShapes Go.WideShapes Go.ChangeAt Go.RowKit Go.HL
theorem ownSwapsAreTold : ownKnob Tryz.prog.godebug = none := by kernel_rfl
theorem laidOutSwapsAreTold : laidOutB Tryz.prog = true := by kernel_rfl
theorem cellsSwapsAreTold : Tryz.prog.cellsOf 3 = 1 := by kernel_rfl
theorem tabSwapsAreTold {W : World} (h : laidMetH Tryz.prog Rows.swapsAreToldRow.laid W) : TabI Tryz.prog (allI W) := by
 rw [MakeChecks.laidMetH_plain _ _ _ (by kernel_rfl)] at h
 letI : Tracks := ⟨false⟩
 exact tabI_of_laid (i := 2) (g := 1) (t := 287) h (by kernel_rfl) (by kernel_rfl) (by kernel_rfl) Tryz.underlying287 Tryz.underlying241 (by kernel_rfl) (by kernel_rfl)
theorem callsSwapsAreTold {W : World} (ht : TabI Tryz.prog (allI W)) {a : Option Addr} {len cap : Nat} {H : Type} {enc : TypeId × Value → H} {d0 : DataW H} {p : List MemPlace} (h : DataW.Trod enc Tryz.prog W 0 (fun _ => true) true 22 (.slice a len cap) d0 p) :
 Calls Tryz.prog 3 #[.slice a len cap] W fun e W' => e = .returned (.bool true) ∧ Below W.heap.size W W' := by
 obtain ⟨fuel, hf⟩ := h
 rcases open_ints Tryz.underlying22 Tryz.underlying3 cellsSwapsAreTold hf with ⟨hcs, hx⟩ | ⟨a', len', cap', zs, hcs, _, hl, hm, hz, hx, hcell, hwz⟩
 ·simp [Value.cells] at hcs
  obtain ⟨rfl, rfl, rfl⟩ := hcs
  letI : Tracks := ⟨false⟩
  exact conp_law (l := []) (c_benchkeep1_SwapsAreTold rfl) ht (.slice0 _ _ _)
 ·simp [Value.cells] at hcs
  obtain ⟨rfl, rfl, rfl⟩ := hcs
  simp only [if_true] at hz
  letI : Tracks := ⟨false⟩
  exact conp_law (l := zs.take len) (c_benchkeep1_SwapsAreTold rfl) ht (v_ints hcell (by omega) hl)
set_option maxRecDepth 100000 in
theorem liftedSwapsAreTold (os : Os) (started : os.Started) (H : Type) (enc : TypeId × Value → H) :
 ReturnsInHanded {} Tryz.checked os 3 .any (fun w args => (Rows.swapsAreToldSpec.pre enc Tryz.prog Tryz.f3 Rows.swapsAreToldRow.domain false w args ∧ laidMetH Tryz.prog Rows.swapsAreToldRow.laid w) ∧ sizedMet enc Tryz.prog Tryz.f3 (OpenSpec.ofChange Rows.swapsAreToldSpec) false w args)
  (Rows.swapsAreToldSpec.post enc Tryz.prog Tryz.f3 false true false false) := by
 refine returnsInHanded_of_change_and (C := Tryz.checked) (X := fun w _ => laidMetH Tryz.prog Rows.swapsAreToldRow.laid w) (fun _ _ _ hh h => h.of_heap hh) ownSwapsAreTold started (by kernel_rfl) Tryz.func3
  (ChangeSpec.witness_shaped (enc := enc) (C := Tryz.checked) (os := os) (X := fun w _ => laidMetH Tryz.prog Rows.swapsAreToldRow.laid w) false (World.laidAll Tryz.prog os Rows.swapsAreToldRow.laid) #[.slice none 0 0] 8 (World.laidAll_os _ _ _)
    (World.shaped_of_ZipB (by kernel_rfl) (by kernel_rfl)) (by kernel_rfl) (by kernel_rfl) (by kernel_rfl)
    (by rw [MakeChecks.laidMetH_plain _ _ _ (by kernel_rfl)]; exact laidMet_laidAll _ (by kernel_rfl) (by kernel_rfl))) ?_
 intro W base args ds gs before hval0 hW _ _ hL _
 have hval : ∀ (j : Nat) t v, Tryz.f3.params[j]? = some t → args[j]? = some v → Value.okWide Tryz.prog W .any base t v := hval0
 have hW' := hW
 obtain ⟨p, q, hA0, hV, rfl, _, _⟩ := hW
 have hA : DataW.TrodAll enc Tryz.prog W 0 (fun _ => true) true Tryz.f3.params.toList args.toList ds p := hA0
 rw [Tryz.params3] at hA hval
 obtain ⟨v0, d0, rfl, rfl, h0⟩ := trodAll_one hA
 obtain ⟨rfl, rfl⟩ := trodVars_none hV
 obtain ⟨a0, len, cap, rfl⟩ := okWide_slice Tryz.underlying22 (hval 0 22 v0 rfl rfl)
 simp only [List.append_nil] at hW'
 have hlt : ∀ x ∈ p, x.block < W.heap.size := fun x hx => by simpa using hW'.lt x hx
 refine (callsSwapsAreTold (tabSwapsAreTold hL) h0).mono fun e W' ⟨he, hb⟩ => ?_
 subst he
 have hargs : DataW.Trod enc Tryz.prog W' 0 (fun b => decide (b < W.heap.size)) true 22 (.slice a0 len cap) d0 p :=
  Below.trod laidOutSwapsAreTold (by kernel_rfl) (of_decide_eq_true (by kernel_rfl)) h0 hb hlt
 exact ⟨_, rfl, _, _, _, [], p, [], hW', trodAll_mk1 (shut_bool Tryz.underlying4 _), trodAll_mk1 hargs, rfl, hb.frame _, fun h => by cases h⟩
theorem mapsSwapsAreTold : mapsRowed Tryz.prog = true := by kernel_rfl
theorem inplSwapsAreTold : (Rows.swapsAreToldRow.inPlace == Tryz.prog.inPlace 3) = true := by kernel_rfl
theorem unfoSwapsAreTold : (Rows.swapsAreToldRow.unfollowed == Tryz.prog.unfollowed 3) = true := by kernel_rfl
theorem recuSwapsAreTold : (Rows.swapsAreToldRow.recurses == Tryz.prog.recurses 3) = true := by kernel_rfl
theorem varsSwapsAreTold : (Rows.swapsAreToldRow.named == Tryz.prog.varsNamed 3) = true := by kernel_rfl
theorem joinSwapsAreTold : joinedFacts Tryz.prog 3 Tryz.f3 Rows.swapsAreToldSpec Rows.swapsAreToldRow = true := by
 simp only [joinedFacts, Bool.and_eq_true]
 repeat' apply And.intro
 all_goals first
  | with_reducible exact laidOutSwapsAreTold
  | with_reducible exact mapsSwapsAreTold
  | with_reducible exact inplSwapsAreTold
  | with_reducible exact unfoSwapsAreTold
  | with_reducible exact recuSwapsAreTold
  | with_reducible exact varsSwapsAreTold
  | kernel_rfl
theorem lookSwapsAreTold : true = Tryz.prog.looks [] := by kernel_rfl
theorem goesSwapsAreTold : false = Rows.swapsAreToldRow.goesBy Tryz.prog := by kernel_rfl
theorem wfbtSwapsAreTold : Rows.swapsAreToldRow.wfByText (OpenSpec.ofChange Rows.swapsAreToldSpec) = true := by kernel_rfl
theorem mainSwapsAreTold : Tryz.prog.mainIs = some ("e96d158ee7c2175d776f3c610d40cc5602c32f68e2142df93a8d60f2b67470a5" |> fun h => (true, h.toList)) := by kernel_rfl
theorem stanSwapsAreTold : ([22].all fun u => !Tryz.prog.wantsStandIn u) = true := by kernel_rfl
theorem fnamSwapsAreTold : Tryz.prog.funcNamed Rows.swapsAreToldRow.func = some 3 := by kernel_rfl
theorem holdsSwapsAreTold : Rows.SwapsAreToldSaid :=
 OpenClaim.holds_of_wide 3 Tryz.f3 rfl rfl rfl rfl rfl rfl rfl ⟨rfl, rfl, rfl, rfl, rfl⟩ rfl rfl rfl rfl rfl fnamSwapsAreTold Tryz.func3 joinSwapsAreTold
  (of_decide_eq_true (by kernel_rfl)) (by unfold Func.isWrapper; first | (rw [if_pos (by decide +kernel)]; kernel_rfl) | (rw [if_neg (by decide +kernel)]; exact ⟨rfl, rfl⟩))
  (fun os started H enc _ => liftedSwapsAreTold os started H enc)
theorem cardSwapsAreTold : Rows.SwapsAreToldCardSaid :=
 Claim7.holds_tied_plain_at .later [] [.data, .data, .data, .data, .pinned] true (true, "e96d158ee7c2175d776f3c610d40cc5602c32f68e2142df93a8d60f2b67470a5") true holdsSwapsAreTold (fun _ h => by cases h) wfbtSwapsAreTold (fun _ h => by cases h) swapsAreTold_row_tie rfl ⟨rfl, rfl⟩ mainSwapsAreTold rfl
  (fun f fn hf hfn => by
    obtain rfl : f = 3 := Option.some.inj (fnamSwapsAreTold.symm.trans hf) |>.symm
    obtain rfl : fn = Tryz.f3 := (Option.some.inj (Tryz.func3.symm.trans hfn)).symm
    exact ⟨lookSwapsAreTold, fun j t ht => by
     rw [Tryz.params3] at ht
     have hm : t ∈ [22] := by simpa using Array.mem_of_getElem? ht
     have hall := stanSwapsAreTold
     exact (show Tryz.prog.wantsStandIn t = false by simpa using List.all_eq_true.1 hall t hm)⟩)
  goesSwapsAreTold
end Go.Proofs.YtkamelfigfbfiaaGreatDoor
end
