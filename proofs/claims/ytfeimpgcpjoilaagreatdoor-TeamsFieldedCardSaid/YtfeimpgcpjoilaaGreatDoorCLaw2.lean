/- Contracts of functions of the program, by the rules of the logic; printed by gen.py. -/
import Derived.Test.YtfeimpgcpjoilaaGreatDoorCMake5
namespace Go.Proofs.YtfeimpgcpjoilaaGreatDoor
open Go.HL
set_option maxRecDepth 100000
set_option linter.unusedVariables false
set_option linter.unusedSimpArgs false
/-- benchwarmer/benchlaw1.valued -/
theorem c_benchlaw1_valued   : ConP Tryz.prog 15 [] (.bool true) := by
  refine Con.of_body Tryz.func15 rfl Tryz.ntmps15 rfl rfl ?_
  refine hw_reg ?_
  refine dp rfl (pop_assign rfl) ?_
  refine dn ?_
  refine hw_reg ?_
  refine dp rfl (pop_build (cs := [_, _, _]) ty32 pl32 rfl) ?_
  refine dp rfl (pop_buildSlice (hs := [_]) ty26 ty32 rfl rfl (by decide) (by decide) rfl) ?_
  refine dp rfl (pop_build (cs := [_, _]) ty59 pl59 rfl) ?_
  refine dp rfl (pop_buildSlice (hs := [_]) ty28 ty59 rfl rfl (by decide) (by decide) rfl) ?_
  refine dp rfl (pop_call ca10 rfl (WeakL.refl _) (c_value_Fielded (l := [asset1]) (p := [place1]) (by decide) (by decide))) ?_
  refine dp rfl (pop_move rfl) ?_
  refine dp rfl (pop_extract rfl rfl) ?_
  refine dp rfl (pop_extract rfl rfl) ?_
  refine dp rfl (pop_extract rfl rfl) ?_
  refine dp rfl (pop_assign rfl) ?_
  refine dp rfl (pop_assign rfl) ?_
  refine dp rfl (pop_assign rfl) ?_
  refine dn ?_
  simp only [one_ok, one_sum, one_names]
  refine hw_reg ?_
  refine dp rfl (pop_move rfl) ?_
  refine dp rfl (pop_eql rfl rfl) ?_
  refine dp rfl (pop_move rfl) ?_
  refine dg rfl rfl (fun hc => ⟨_, OpenTo.refl _, pop_move rfl⟩) ?_
  refine dg rfl rfl (fun hc => ⟨_, OpenTo.upd (t := 16) rfl (by first | exact hc | simp_all) (OpenTo.refl _), pop_eql rfl rfl⟩) ?_
  refine dp rfl (pop_picko rfl (.inr ⟨_, rfl, fun h => by simp_all⟩) (.inl rfl)) ?_
  refine dp rfl (pop_move rfl) ?_
  refine dg rfl rfl (fun hc => ⟨_, OpenTo.refl _, pop_move rfl⟩) ?_
  refine dg rfl rfl (fun hc => ⟨_, OpenTo.refl _, pop_buildSlice (hs := [_]) ty37 ty9 rfl rfl (by decide) (by decide) rfl⟩) ?_
  refine dg rfl rfl (fun hc => ⟨_, OpenTo.upd (t := 21) rfl (by first | exact hc | simp_all) (OpenTo.upd (t := 20) rfl (by first | exact hc | simp_all) (OpenTo.refl _)), pop_call ca18 rfl (WeakL.refl _) (c_slices_Equal_string_string (l := [[97]]) (m := [[97]]) (by decide))⟩) ?_
  refine dp rfl (pop_picko rfl (.inr ⟨_, rfl, fun h => by simp_all⟩) (.inl rfl)) ?_
  refine dp rfl (pop_assign rfl) ?_
  refine dn ?_
  refine hw_ret ?_
  refine ret_p rfl ?_
  rfl

set_option maxHeartbeats 2000000 in
/-- benchwarmer/benchlaw1.TeamsFielded -/
theorem c_benchlaw1_TeamsFielded {l : List Int}  : ConP Tryz.prog 3 [.slice 1 (l.map (.int .i64))] (.bool true) := by
  refine Con.of_body Tryz.func3 rfl Tryz.ntmps3 rfl rfl ?_
  refine hw_reg ?_
  refine dp rfl (pop_assign rfl) ?_
  refine dn ?_
  refine hw_reg ?_
  refine dp rfl (pop_move rfl) ?_
  refine dp rfl (pop_build (cs := [_, _]) ty25 pl25 rfl) ?_
  refine de rfl (eop_box rfl rfl fun b => ?_)
  refine dghost (M' := [St b l 0]) rfl ?_
  refine dp rfl (pop_assign rfl) ?_
  refine dn ?_
  refine hw_reg ?_
  refine dp rfl (pop_move rfl) ?_
  first
  | refine de rfl (eop_callx (i := 0) ca4 rfl (WeakL.refl _) rfl (c_benchmake_Stream_AssetList (by first | assumption | omega | (simp; omega) | simp_all) (by first | assumption | omega | (simp; omega) | simp_all)) ?_)
  | refine de rfl (eop_callx (i := 1) ca4 rfl (WeakL.refl _) rfl (c_benchmake_Stream_AssetList (by first | assumption | omega | (simp; omega) | simp_all) (by first | assumption | omega | (simp; omega) | simp_all)) ?_)
  | refine de rfl (eop_callx (i := 2) ca4 rfl (WeakL.refl _) rfl (c_benchmake_Stream_AssetList (by first | assumption | omega | (simp; omega) | simp_all) (by first | assumption | omega | (simp; omega) | simp_all)) ?_)
  | refine de rfl (eop_callx (i := 3) ca4 rfl (WeakL.refl _) rfl (c_benchmake_Stream_AssetList (by first | assumption | omega | (simp; omega) | simp_all) (by first | assumption | omega | (simp; omega) | simp_all)) ?_)
  rintro _ _ ⟨l26, a26, rfl, hl26, ha26, rfl⟩
  refine dp rfl (pop_move rfl) ?_
  first
  | refine de rfl (eop_callx (i := 0) ca5 rfl (WeakL.refl _) rfl (c_benchmake_Stream_PlaceList (by first | assumption | omega | (simp; omega) | simp_all)) ?_)
  | refine de rfl (eop_callx (i := 1) ca5 rfl (WeakL.refl _) rfl (c_benchmake_Stream_PlaceList (by first | assumption | omega | (simp; omega) | simp_all)) ?_)
  | refine de rfl (eop_callx (i := 2) ca5 rfl (WeakL.refl _) rfl (c_benchmake_Stream_PlaceList (by first | assumption | omega | (simp; omega) | simp_all)) ?_)
  | refine de rfl (eop_callx (i := 3) ca5 rfl (WeakL.refl _) rfl (c_benchmake_Stream_PlaceList (by first | assumption | omega | (simp; omega) | simp_all)) ?_)
  rintro _ _ ⟨p28, a28, rfl, hp28, ha28, rfl⟩
  refine dp rfl (pop_move rfl) ?_
  refine dp rfl (pop_move rfl) ?_
  refine dp rfl (pop_buildSlice (hs := [_, _]) ty37 ty9 rfl rfl (by decide) (by decide) rfl) ?_
  first
  | refine de rfl (eop_callx (i := 0) ca6 rfl (WeakL.refl _) rfl (c_benchmake_Stream_Some (L := [_, _]) (by first | assumption | omega | (simp; omega) | simp_all) (by first | assumption | omega | (simp; omega) | simp_all) (by first | assumption | omega | (simp; omega) | simp_all)) ?_)
  | refine de rfl (eop_callx (i := 1) ca6 rfl (WeakL.refl _) rfl (c_benchmake_Stream_Some (L := [_, _]) (by first | assumption | omega | (simp; omega) | simp_all) (by first | assumption | omega | (simp; omega) | simp_all) (by first | assumption | omega | (simp; omega) | simp_all)) ?_)
  | refine de rfl (eop_callx (i := 2) ca6 rfl (WeakL.refl _) rfl (c_benchmake_Stream_Some (L := [_, _]) (by first | assumption | omega | (simp; omega) | simp_all) (by first | assumption | omega | (simp; omega) | simp_all) (by first | assumption | omega | (simp; omega) | simp_all)) ?_)
  | refine de rfl (eop_callx (i := 3) ca6 rfl (WeakL.refl _) rfl (c_benchmake_Stream_Some (L := [_, _]) (by first | assumption | omega | (simp; omega) | simp_all) (by first | assumption | omega | (simp; omega) | simp_all) (by first | assumption | omega | (simp; omega) | simp_all)) ?_)
  rintro _ _ ⟨y32, rfl, hy32, rfl⟩
  have hy32l : y32.length ≤ 100 := by simp at hy32; rcases hy32 with rfl | rfl <;> simp
  first
  | refine de rfl (eop_callx (i := 0) ca4 rfl (WeakL.refl _) rfl (c_benchmake_Stream_AssetList (by first | assumption | omega | (simp; omega) | simp_all) (by first | assumption | omega | (simp; omega) | simp_all)) ?_)
  | refine de rfl (eop_callx (i := 1) ca4 rfl (WeakL.refl _) rfl (c_benchmake_Stream_AssetList (by first | assumption | omega | (simp; omega) | simp_all) (by first | assumption | omega | (simp; omega) | simp_all)) ?_)
  | refine de rfl (eop_callx (i := 2) ca4 rfl (WeakL.refl _) rfl (c_benchmake_Stream_AssetList (by first | assumption | omega | (simp; omega) | simp_all) (by first | assumption | omega | (simp; omega) | simp_all)) ?_)
  | refine de rfl (eop_callx (i := 3) ca4 rfl (WeakL.refl _) rfl (c_benchmake_Stream_AssetList (by first | assumption | omega | (simp; omega) | simp_all) (by first | assumption | omega | (simp; omega) | simp_all)) ?_)
  rintro _ _ ⟨l33, a33, rfl, hl33, ha33, rfl⟩
  refine dp rfl (pop_assign rfl) ?_
  refine dp rfl (pop_assign rfl) ?_
  refine dp rfl (pop_assign rfl) ?_
  refine dn ?_
  have hn1 := hl26.len
  have hn2 := hp28.len
  have hn3 := hl33.len
  have hs1 := hl26.all
  have hs2 := hp28.all
  refine hw_reg ?_
  refine dp rfl (pop_build (cs := [_, _, _]) ty32 pl32 rfl) ?_
  refine de rfl (eop_alloc ty32 rfl fun b7 => ?_)
  first
  | refine de0 (eop_store (i := 0) ty32 rfl rfl rfl rfl rfl (Nat.le_of_ble_eq_true rfl) ?_)
  | refine de0 (eop_store (i := 1) ty32 rfl rfl rfl rfl rfl (Nat.le_of_ble_eq_true rfl) ?_)
  | refine de0 (eop_store (i := 2) ty32 rfl rfl rfl rfl rfl (Nat.le_of_ble_eq_true rfl) ?_)
  | refine de0 (eop_store (i := 3) ty32 rfl rfl rfl rfl rfl (Nat.le_of_ble_eq_true rfl) ?_)
  refine dn ?_
  refine hw_join [35, 36, 37, 38, 39, 40] (fun (x : Asset) => []) (fun (x : Asset) => [.cells b7 (hcells (eAsset x)), St b l a33]) (fun (x : Asset) => Sh x.Player ∧ Sh x.Position) ?_ ?_
  · skip
    refine hw_reg ?_
    refine dp rfl (pop_move rfl) ?_
    refine dp rfl (pop_lenm ty26 rfl) ?_
    refine dp rfl (pop_gtr rfl rfl) ?_
    refine dn ?_
    refine hw_cond rfl (fun h1 => ?_) (fun h2 => ?_)
    · try simp at h1
      refine hw_reg1 ?_
      refine dp rfl (pop_move rfl) ?_
      refine dp rfl (pop_idx (j := 0) (a := l33.getD 0 asset0) ty26 ty32 rfl rfl rfl (getD_some (by omega))) ?_
      refine dp rfl (pop_loadw ty32 rfl rfl rfl rfl) ?_
      first
      | refine de0 (eop_store (i := 0) ty32 rfl rfl rfl rfl rfl (Nat.le_of_ble_eq_true rfl) ?_)
      | refine de0 (eop_store (i := 1) ty32 rfl rfl rfl rfl rfl (Nat.le_of_ble_eq_true rfl) ?_)
      | refine de0 (eop_store (i := 2) ty32 rfl rfl rfl rfl rfl (Nat.le_of_ble_eq_true rfl) ?_)
      | refine de0 (eop_store (i := 3) ty32 rfl rfl rfl rfl rfl (Nat.le_of_ble_eq_true rfl) ?_)
      refine dn ?_
      exact ⟨l33.getD 0 asset0, hl33.all _ (by simp [List.getD, List.getElem?_eq_getElem (show 0 < l33.length by omega)]), trivial, (by repeat (first | exact keeps_refl | refine keeps_upd rfl ?_ | refine keeps_loop rfl rfl ?_)), by repeat (first | exact List.Perm.nil | refine permTo 0 rfl ?_ | refine permTo 1 rfl ?_ | refine permTo 2 rfl ?_ | refine permTo 3 rfl ?_ | (refine permToE 0 rfl ?hq ?_; (case hq => simp [setL, hcells]; done)) | (refine permToE 1 rfl ?hq ?_; (case hq => simp [setL, hcells]; done)) | (refine permToE 2 rfl ?hq ?_; (case hq => simp [setL, hcells]; done)) | (refine permToE 3 rfl ?hq ?_; (case hq => simp [setL, hcells]; done)) | fail)⟩
    · try simp at h2
      refine hw_skip ?_
      exact ⟨⟨[122, 122], [103, 107], 6⟩, ⟨by simp [Sh], by simp [Sh]⟩, trivial, (by repeat (first | exact keeps_refl | refine keeps_upd rfl ?_ | refine keeps_loop rfl rfl ?_)), by repeat (first | exact List.Perm.nil | refine permTo 0 rfl ?_ | refine permTo 1 rfl ?_ | refine permTo 2 rfl ?_ | refine permTo 3 rfl ?_ | (refine permToE 0 rfl ?hq ?_; (case hq => simp [setL, hcells]; done)) | (refine permToE 1 rfl ?hq ?_; (case hq => simp [setL, hcells]; done)) | (refine permToE 2 rfl ?hq ?_; (case hq => simp [setL, hcells]; done)) | (refine permToE 3 rfl ?hq ?_; (case hq => simp [setL, hcells]; done)) | fail)⟩
  · intro x hgx
    refine hw_ghost (Ghost.fc 7 (i := 0) rfl rfl) ?_
    refine hw_reg ?_
    refine dp rfl (pop_move rfl) ?_
    refine dp rfl (pop_call ca8 rfl (WeakL.refl _) (c_benchref1_AssetsFault (by first | assumption | omega | (simp; omega) | simp_all) (by first | assumption | omega | (simp; omega) | simp_all))) ?_
    refine dp rfl (pop_move rfl) ?_
    refine dp rfl (pop_call ca9 rfl (WeakL.refl _) (c_benchref1_PlacesFault (by first | assumption | omega | (simp; omega) | simp_all) (by first | assumption | omega | (simp; omega) | simp_all))) ?_
    refine dp rfl (pop_buildSlice (hs := [_, _]) ty61 ty33 rfl rfl (by decide) (by decide) rfl) ?_
    refine dp rfl (pop_eq (h' := .int .i64 (okAP l26 p28)) (pop_call ca7 rfl (WeakL.refl _) (c_cmp_Or_api_Errno (l := [_, _]) (by simp))) rfl) ?_
    refine dp rfl (pop_assign rfl) ?_
    refine dn ?_
    refine hw_reg ?_
    refine dp rfl (pop_move rfl) ?_
    refine dp rfl (pop_move rfl) ?_
    refine dp rfl (pop_call ca10 rfl (WeakL.refl _) (c_value_Fielded (by first | assumption | omega | (simp; omega) | simp_all) (by first | assumption | omega | (simp; omega) | simp_all))) ?_
    refine dp rfl (pop_move rfl) ?_
    refine dp rfl (pop_extract rfl rfl) ?_
    refine dp rfl (pop_extract rfl rfl) ?_
    refine dp rfl (pop_extract rfl rfl) ?_
    refine dp rfl (pop_assign rfl) ?_
    refine dp rfl (pop_assign rfl) ?_
    refine dp rfl (pop_assign rfl) ?_
    refine dn ?_
    refine hw_reg ?_
    refine dp rfl (pop_move rfl) ?_
    refine dp rfl (pop_move rfl) ?_
    refine dp rfl (pop_loadw ty32 rfl rfl rfl rfl) ?_
    refine dp rfl (pop_call ca11 rfl (WeakL.refl _) (c_value_Brings (l := l26) (p := p28) (x := x) (by omega) (by omega))) ?_
    refine dp rfl (pop_move rfl) ?_
    refine dp rfl (pop_extract rfl rfl) ?_
    refine dp rfl (pop_extract rfl rfl) ?_
    refine dp rfl (pop_assign rfl) ?_
    refine dp rfl (pop_assign rfl) ?_
    refine dn ?_
    refine hw_reg ?_
    refine dp rfl (pop_move rfl) ?_
    refine dp rfl (pop_move rfl) ?_
    refine dp rfl (pop_call ca12 rfl (WeakL.refl _) (c_value_Drop (by first | assumption | omega | (simp; omega) | simp_all) (by first | assumption | omega | (simp; omega) | simp_all))) ?_
    refine dp rfl (pop_move rfl) ?_
    refine dp rfl (pop_extract rfl rfl) ?_
    refine dp rfl (pop_extract rfl rfl) ?_
    refine dp rfl (pop_extract rfl rfl) ?_
    refine dp rfl (pop_assign rfl) ?_
    refine dp rfl (pop_assign rfl) ?_
    refine dp rfl (pop_assign rfl) ?_
    refine dn ?_
    refine hw_reg ?_
    refine dp rfl (pop_move rfl) ?_
    refine dp rfl (pop_move rfl) ?_
    refine dp rfl (pop_loadw ty32 rfl rfl rfl rfl) ?_
    refine dp rfl (pop_call ca13 rfl (WeakL.refl _) (c_benchref1_BringsFault (l := l26) (x := x) (by omega) hgx)) ?_
    refine dp rfl (pop_buildSlice (hs := [_, _]) ty61 ty33 rfl rfl (by decide) (by decide) rfl) ?_
    refine dp rfl (pop_eq (h' := .int .i64 (bringsE l26 p28 x)) (pop_call ca7 rfl (WeakL.refl _) (c_cmp_Or_api_Errno (l := [okAP l26 p28, refBringsE l26 x]) (by simp))) (congrArg _ (okE (by omega)))) ?_
    refine dp rfl (pop_assign rfl) ?_
    refine dn ?_
    refine hw_reg ?_
    refine dp rfl (pop_assign rfl) ?_
    refine dn ?_
    refine hw_join [18, 74, 75, 76, 77, 78, 79] (fun (n : Int) => [(18, .int .i64 n)]) (fun (n : Int) => [St b l a33]) (fun (n : Int) => n = if bringsE l26 p28 x != 0 then 0 else sumF (l26 ++ [x]) p28 - sumF l26 p28) ?_ ?_
    · skip
      refine hw_reg ?_
      refine dp rfl (pop_move rfl) ?_
      refine dp rfl (pop_eql rfl rfl) ?_
      refine dn ?_
      refine hw_cond rfl (fun h3 => ?_) (fun h4 => ?_)
      · try simp at h3
        refine hw_reg1 ?_
        refine dp rfl (pop_move rfl) ?_
        refine dp rfl (pop_move rfl) ?_
        refine dp rfl (pop_loadw ty32 rfl rfl rfl rfl) ?_
        obtain ⟨hb1, hb2, hb3, hb4⟩ := bringsE_ok h3
        obtain ⟨f1, f2, f3, f4, f5⟩ := okAP_facts (l := l26) (p := p28) (by simp [okAP, orI, hb1, hb2])
        refine dp rfl (pop_call ca14 rfl (WeakL.refl _) (c_benchref1_BringsOf (l := l26) (p := p28) (x := x) (by omega) f5 f4 f2 (assetFault_ok hb3).2.2)) ?_
        refine dp rfl (pop_assign rfl) ?_
        refine dn ?_
        exact ⟨_, by rw [h3, brings_ref h3]; rfl, ⟨rfl, trivial⟩, (by repeat (first | exact keeps_refl | refine keeps_upd rfl ?_ | refine keeps_loop rfl rfl ?_)), List.Perm.refl _⟩
      · try simp at h4
        refine hw_skip ?_
        exact ⟨0, by rw [if_pos (by simpa using h4)], ⟨rfl, trivial⟩, (by repeat (first | exact keeps_refl | refine keeps_upd rfl ?_ | refine keeps_loop rfl rfl ?_)), List.Perm.refl _⟩
    · intro n hn
      refine hw_seq ?_
      refine hw_reg ?_
      refine dp rfl (pop_move rfl) ?_
      refine dp rfl (pop_move rfl) ?_
      refine dp rfl (pop_neq rfl rfl) ?_
      refine dp rfl (pop_move rfl) ?_
      refine dg rfl rfl (fun hc => ⟨_, OpenTo.refl _, pop_move rfl⟩) ?_
      refine dg rfl rfl (fun hc => ⟨_, OpenTo.refl _, pop_move rfl⟩) ?_
      refine dg rfl rfl (fun hc => ⟨_, OpenTo.upd (t := 85) rfl (by first | exact hc | simp_all) (OpenTo.upd (t := 84) rfl (by first | exact hc | simp_all) (OpenTo.refl _)), pop_neq rfl rfl⟩) ?_
      refine dp rfl (pop_picko rfl (.inl rfl) (.inr ⟨_, rfl, fun h => by simp_all⟩)) ?_
      refine dn ?_
      refine hw_cond rfl (fun h5 => ?_) (fun h5 => ?_)
      · exfalso
        try simp at h5
        simp_all
      · try simp at h5
        refine hw_skip ?_
        refine seqQ_n ?_
        refine hw_seq ?_
        refine hw_reg ?_
        refine dp rfl (pop_move rfl) ?_
        refine dp rfl (pop_neq rfl rfl) ?_
        refine dn ?_
        refine hw_cond rfl (fun h6 => ?_) (fun h7 => ?_)
        · try simp at h6
          refine hw_reg ?_
          refine dp rfl (pop_move rfl) ?_
          refine dp rfl (pop_move rfl) ?_
          refine dp rfl (pop_eql rfl rfl) ?_
          refine dp rfl (pop_move rfl) ?_
          refine dg rfl rfl (fun hc => ⟨_, OpenTo.refl _, pop_move rfl⟩) ?_
          refine dg rfl rfl (fun hc => ⟨_, OpenTo.refl _, pop_move rfl⟩) ?_
          refine dg rfl rfl (fun hc => ⟨_, OpenTo.upd (t := 95) rfl (by first | exact hc | simp_all) (OpenTo.upd (t := 94) rfl (by first | exact hc | simp_all) (OpenTo.refl _)), pop_eql rfl rfl⟩) ?_
          refine dp rfl (pop_picko rfl (.inr ⟨_, rfl, fun h => by simp_all⟩) (.inl rfl)) ?_
          refine dp rfl (pop_move rfl) ?_
          refine dg rfl rfl (fun hc => ⟨_, OpenTo.refl _, pop_move rfl⟩) ?_
          refine dg rfl rfl (fun hc => ⟨_, OpenTo.upd (t := 99) rfl (by first | exact hc | simp_all) (OpenTo.refl _), pop_eql rfl rfl⟩) ?_
          refine dp rfl (pop_picko rfl (.inr ⟨_, rfl, fun h => by simp_all⟩) (.inl rfl)) ?_
          refine dp rfl (pop_move rfl) ?_
          refine dg rfl rfl (fun hc => ⟨_, OpenTo.refl _, pop_move rfl⟩) ?_
          refine dg rfl rfl (fun hc => ⟨_, OpenTo.upd (t := 103) rfl (by first | exact hc | simp_all) (OpenTo.refl _), pop_lenm ty37 rfl⟩) ?_
          refine dg rfl rfl (fun hc => ⟨_, OpenTo.upd (t := 104) rfl (by first | exact hc | simp_all) (OpenTo.refl _), pop_eql rfl rfl⟩) ?_
          refine dp rfl (pop_picko rfl (.inr ⟨_, rfl, fun h => by simp_all⟩) (.inl rfl)) ?_
          refine dp rfl (pop_move rfl) ?_
          refine dg rfl rfl (fun hc => ⟨_, OpenTo.refl _, pop_move rfl⟩) ?_
          refine dg rfl rfl (fun hc => ⟨_, OpenTo.upd (t := 108) rfl (by first | exact hc | simp_all) (OpenTo.refl _), pop_eqls rfl rfl⟩) ?_
          refine dp rfl (pop_picko rfl (.inr ⟨_, rfl, fun h => by simp_all⟩) (.inl rfl)) ?_
          refine dp rfl (pop_move rfl) ?_
          refine dg rfl rfl (fun hc => ⟨_, OpenTo.refl _, pop_move rfl⟩) ?_
          refine dg rfl rfl (fun hc => ⟨_, OpenTo.upd (t := 112) rfl (by first | exact hc | simp_all) (OpenTo.refl _), pop_not rfl⟩) ?_
          refine dp rfl (pop_picko rfl (.inr ⟨_, rfl, fun h => by simp_all⟩) (.inl rfl)) ?_
          refine dp rfl (pop_move rfl) ?_
          refine dg rfl rfl (fun hc => ⟨_, OpenTo.refl _, pop_call ca15 rfl (WeakL.refl _) c_benchlaw1_valued⟩) ?_
          refine dp rfl (pop_picko rfl (.inr ⟨_, rfl, fun h => by simp_all⟩) (.inl rfl)) ?_
          refine dp rfl (pop_assign rfl) ?_
          refine dn ?_
          refine hw_ret ?_
          refine ret_g Ghost.drop rfl ⟨?_, rfl⟩
          show HVal.bool _ = _
          first | (simp [h6]; done) | (rw [fielded_ref f1, drop_ref h7]; simp [h7, sumF, ← dropName_ne h7]; cases dropName l26 (dropped l26 p28) <;> rfl)
        · try simp at h7
          refine hw_skip ?_
          refine seqQ_n ?_
          refine hw_reg ?_
          refine dp rfl (pop_move rfl) ?_
          refine dp rfl (pop_move rfl) ?_
          obtain ⟨f1, f2, f3, f4, f5⟩ := okAP_facts h7
          have hnl : (namesV (fieldedL (ofP l26) p28)).length ≤ 120 := by
            have hb1 := field_bd (f := ofP l26) (p := p28) (i := p28.length) (fun s m y => mem_chosen) (fun s => Nat.le_trans (ofP_len l26 s) (by omega)) f5 f2
            rw [List.take_length] at hb1
            simp only [namesV, sortS_len, List.length_map]; exact hb1.1
          refine dp rfl (pop_call ca16 rfl (WeakL.refl _) (c_benchref1_FieldedOf (l := l26) (p := p28) (by omega) f5 f4 f2)) ?_
          refine dp rfl (pop_move rfl) ?_
          refine dp rfl (pop_extract rfl rfl) ?_
          refine dp rfl (pop_extract rfl rfl) ?_
          refine dp rfl (pop_assign rfl) ?_
          refine dp rfl (pop_assign rfl) ?_
          refine dn ?_
          refine hw_reg ?_
          refine dp rfl (pop_move rfl) ?_
          refine dp rfl (pop_move rfl) ?_
          refine dp rfl (pop_call ca17 rfl (WeakL.refl _) (c_benchref1_DropOf (l := l26) (p := p28) (by omega) f5 f4 f2 f3)) ?_
          refine dp rfl (pop_assign rfl) ?_
          refine dn ?_
          refine hw_reg ?_
          refine dp rfl (pop_move rfl) ?_
          refine dp rfl (pop_eql rfl rfl) ?_
          refine dp rfl (pop_move rfl) ?_
          refine dg rfl rfl (fun hc => ⟨_, OpenTo.refl _, pop_move rfl⟩) ?_
          refine dg rfl rfl (fun hc => ⟨_, OpenTo.refl _, pop_move rfl⟩) ?_
          refine dg rfl rfl (fun hc => ⟨_, OpenTo.upd (t := 131) rfl (by first | exact hc | simp_all) (OpenTo.upd (t := 130) rfl (by first | exact hc | simp_all) (OpenTo.refl _)), pop_eql rfl rfl⟩) ?_
          refine dp rfl (pop_picko rfl (.inr ⟨_, rfl, fun h => by simp_all⟩) (.inl rfl)) ?_
          refine dp rfl (pop_move rfl) ?_
          refine dg rfl rfl (fun hc => ⟨_, OpenTo.refl _, pop_move rfl⟩) ?_
          refine dg rfl rfl (fun hc => ⟨_, OpenTo.refl _, pop_move rfl⟩) ?_
          refine dg rfl rfl (fun hc => by have hq := hc; (try simp at hq); exact ⟨_, OpenTo.upd (t := 136) rfl (by first | exact hc | simp_all) (OpenTo.upd (t := 135) rfl (by first | exact hc | simp_all) (OpenTo.refl _)), pop_call ca18 rfl (WeakL.refl _) (c_slices_Equal_string_string (by rw [if_neg (by simp [h7])]; omega))⟩) ?_
          refine dp rfl (pop_picko rfl (.inr ⟨_, rfl, fun h => by simp_all⟩) (.inl rfl)) ?_
          refine dp rfl (pop_move rfl) ?_
          refine dg rfl rfl (fun hc => ⟨_, OpenTo.refl _, pop_move rfl⟩) ?_
          refine dg rfl rfl (fun hc => ⟨_, OpenTo.upd (t := 140) rfl (by first | exact hc | simp_all) (OpenTo.refl _), pop_eql rfl rfl⟩) ?_
          refine dp rfl (pop_picko rfl (.inr ⟨_, rfl, fun h => by simp_all⟩) (.inl rfl)) ?_
          refine dp rfl (pop_move rfl) ?_
          refine dg rfl rfl (fun hc => ⟨_, OpenTo.refl _, pop_move rfl⟩) ?_
          refine dg rfl rfl (fun hc => ⟨_, OpenTo.refl _, pop_move rfl⟩) ?_
          refine dg rfl rfl (fun hc => ⟨_, OpenTo.upd (t := 145) rfl (by first | exact hc | simp_all) (OpenTo.upd (t := 144) rfl (by first | exact hc | simp_all) (OpenTo.refl _)), pop_eqls rfl rfl⟩) ?_
          refine dp rfl (pop_picko rfl (.inr ⟨_, rfl, fun h => by simp_all⟩) (.inl rfl)) ?_
          refine dp rfl (pop_move rfl) ?_
          refine dg rfl rfl (fun hc => ⟨_, OpenTo.refl _, pop_move rfl⟩) ?_
          refine dg rfl rfl (fun hc => ⟨_, OpenTo.refl _, pop_move rfl⟩) ?_
          refine dg rfl rfl (fun hc => ⟨_, OpenTo.upd (t := 150) rfl (by first | exact hc | simp_all) (OpenTo.refl _), pop_neqs rfl rfl⟩) ?_
          refine dg rfl rfl (fun hc => ⟨_, OpenTo.upd (t := 151) rfl (by first | exact hc | simp_all) (OpenTo.upd (t := 149) rfl (by first | exact hc | simp_all) (OpenTo.refl _)), pop_eqlb ty4 rfl rfl⟩) ?_
          refine dp rfl (pop_picko rfl (.inr ⟨_, rfl, fun h => by simp_all⟩) (.inl rfl)) ?_
          refine dp rfl (pop_move rfl) ?_
          refine dg rfl rfl (fun hc => ⟨_, OpenTo.refl _, pop_call ca15 rfl (WeakL.refl _) c_benchlaw1_valued⟩) ?_
          refine dp rfl (pop_picko rfl (.inr ⟨_, rfl, fun h => by simp_all⟩) (.inl rfl)) ?_
          refine dp rfl (pop_assign rfl) ?_
          refine dn ?_
          refine hw_ret ?_
          refine ret_g Ghost.drop rfl ⟨?_, rfl⟩
          show HVal.bool _ = _
          first | (simp [h6]; done) | (rw [fielded_ref f1, drop_ref h7]; simp [h7, sumF, ← dropName_ne h7]; cases dropName l26 (dropped l26 p28) <;> rfl)
end Go.Proofs.YtfeimpgcpjoilaaGreatDoor
