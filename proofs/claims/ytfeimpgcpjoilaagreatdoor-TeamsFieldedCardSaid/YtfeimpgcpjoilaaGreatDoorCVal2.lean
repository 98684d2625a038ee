/- Contracts of functions of the program, by the rules of the logic; printed by gen.py. -/
import Derived.Test.YtfeimpgcpjoilaaGreatDoorCVal1
namespace Go.Proofs.YtfeimpgcpjoilaaGreatDoor
open Go.HL
set_option maxRecDepth 100000
set_option linter.unusedVariables false
set_option linter.unusedSimpArgs false
/-- benchwarmer/value.isIn$1 -/
theorem c_value_isIn_1 {x : Asset} {s : Str}  : ConP Tryz.prog 50 [eAsset x, .vptr [.str s] 0] (.bool (x.Player == s)) := by
  refine Con.of_body Tryz.func50 rfl Tryz.ntmps50 rfl rfl ?_
  refine hw_reg ?_
  refine dp rfl (pop_box rfl rfl) ?_
  refine dp rfl (pop_assign rfl) ?_
  refine dn ?_
  refine hw_reg ?_
  refine dp rfl (pop_fieldAddr ty32 rfl ty9 (by decide) rfl) ?_
  refine dp rfl (pop_load ty9 rfl rfl rfl) ?_
  refine dp rfl (pop_load ty9 rfl rfl rfl) ?_
  refine dp rfl (pop_eqls rfl rfl) ?_
  refine dp rfl (pop_assign rfl) ?_
  refine dn ?_
  refine hw_ret ?_
  refine ret_p rfl ?_
  rfl

/-- benchwarmer/value.isIn -/
theorem c_value_isIn {l : List Asset} {s : Str} (hl : l.length ≤ 1000000) : ConP Tryz.prog 32 [eAssets l, .str s] (.bool (l.any (fun y => y.Player == s))) := by
  refine Con.of_body Tryz.func32 rfl Tryz.ntmps32 rfl rfl ?_
  refine hw_reg ?_
  refine dp rfl (pop_box rfl rfl) ?_
  refine dp rfl (pop_assign rfl) ?_
  refine dn ?_
  refine hw_reg ?_
  refine dp rfl (pop_move rfl) ?_
  refine dp rfl (pop_makeFunc rfl rfl) ?_
  refine dp rfl (pop_call ca35 rfl (WeakL.refl _) (c_slices_ContainsFunc_api_Asset_api_Asset (p := fun y => y.Player == s) ca50 (fun x => c_value_isIn_1) hl)) ?_
  refine dp rfl (pop_assign rfl) ?_
  refine dn ?_
  refine hw_ret ?_
  refine ret_p rfl ?_
  rfl

/-- benchwarmer/value.Fielded -/
theorem c_value_Fielded {l : List Asset} {p : List HL.Place} (hl : l.length ≤ 11) (hp : p.length ≤ 1000000) : ConP Tryz.prog 10 [eAssets l, ePlaces p] (.tup [.int .i64 (if okAP l p != 0 then 0 else sumF l p), eSs (if okAP l p != 0 then [] else namesV (fieldedL (ofP l) p)), .int .i64 (okAP l p)]) := by
  refine Con.of_body Tryz.func10 rfl Tryz.ntmps10 rfl rfl ?_
  refine hw_reg ?_
  refine dp rfl (pop_assign rfl) ?_
  refine dp rfl (pop_assign rfl) ?_
  refine dp rfl (pop_assign rfl) ?_
  refine dn ?_
  refine hw_seq ?_
  refine hw_reg ?_
  refine dp rfl (pop_move rfl) ?_
  refine dp rfl (pop_call ca28 rfl (WeakL.refl _) (c_value_CheckAssets (by first | assumption | omega | (simp; omega) | simp_all))) ?_
  refine dp rfl (pop_move rfl) ?_
  refine dp rfl (pop_call ca29 rfl (WeakL.refl _) (c_value_CheckPlaces (by first | assumption | omega | (simp; omega) | simp_all))) ?_
  refine dp rfl (pop_buildSlice (hs := [_, _]) ty61 ty33 rfl rfl (by decide) (by decide) rfl) ?_
  refine dp rfl (pop_call ca27 rfl (WeakL.refl _) (c_base_First (l := [_, _]) (by simp))) ?_
  refine dp rfl (pop_assign rfl) ?_
  refine dn ?_
  refine hw_reg ?_
  refine dp rfl (pop_move rfl) ?_
  refine dp rfl (pop_neq rfl rfl) ?_
  refine dn ?_
  refine hw_cond rfl (fun h1 => ?_) (fun h2 => ?_)
  · try simp at h1
    refine hw_reg ?_
    refine dp rfl (pop_move rfl) ?_
    refine dp rfl (pop_assign rfl) ?_
    refine dp rfl (pop_assign rfl) ?_
    refine dp rfl (pop_assign rfl) ?_
    refine dn ?_
    refine hw_ret ?_
    first
    | (refine ret_w rfl (weak_tup3 ?_ ?_ (Weak.refl _))
       · rw [if_pos (by simpa [okAP] using h1)]; exact Weak.refl _
       · rw [if_pos (by simpa [okAP] using h1)]; exact weak_nil 1)
    | (refine ret_p rfl ?_
       have h0 : okAP l p = 0 := by simpa [okAP] using h2
       simp [h0, sumF, ofVal, ofVal1])
  · try simp at h2
    refine hw_skip ?_
    refine seqQ_n ?_
    obtain ⟨hca0, hcp0⟩ := okAP_ok (l := l) (p := p) (by simpa [okAP] using h2)
    obtain ⟨hsr, haf⟩ := checkAssets_ok hca0
    obtain ⟨hmm, hp10⟩ := checkPlaces_ok hcp0
    have hvv : ∀ x ∈ l, -1000000 ≤ x.Value ∧ x.Value ≤ 1000000 := fun x hx => (assetFault_ok (haf x hx)).2.2
    refine hw_reg ?_
    refine dp rfl (pop_move rfl) ?_
    refine dp rfl (pop_move rfl) ?_
    refine dp rfl (pop_call ca30 rfl (WeakL.refl _) (c_value_fielded (by first | assumption | omega | (simp; omega) | simp_all) (by first | assumption | omega | (simp; omega) | simp_all) (by first | assumption | omega | (simp; omega) | simp_all) (by first | assumption | omega | (simp; omega) | simp_all))) ?_
    refine dp rfl (pop_move rfl) ?_
    refine dp rfl (pop_extract rfl rfl) ?_
    refine dp rfl (pop_extract rfl rfl) ?_
    refine dp rfl (pop_assign rfl) ?_
    refine dp rfl (pop_assign rfl) ?_
    refine dn ?_
    refine hw_reg ?_
    refine dp rfl (pop_move rfl) ?_
    refine dp rfl (pop_move rfl) ?_
    refine dp rfl (pop_assign rfl) ?_
    refine dp rfl (pop_assign rfl) ?_
    refine dp rfl (pop_assign rfl) ?_
    refine dn ?_
    refine hw_ret ?_
    first
    | (refine ret_w rfl (weak_tup3 ?_ ?_ (Weak.refl _))
       · rw [if_pos (by simpa [okAP] using h1)]; exact Weak.refl _
       · rw [if_pos (by simpa [okAP] using h1)]; exact weak_nil 1)
    | (refine ret_p rfl ?_
       have h0 : okAP l p = 0 := by simpa [okAP] using h2
       simp [h0, sumF, ofVal, ofVal1])

/-- benchwarmer/value.Brings -/
theorem c_value_Brings {l : List Asset} {p : List HL.Place} {x : Asset} (hl : l.length ≤ 11) (hp : p.length ≤ 1000000) : ConP Tryz.prog 11 [eAssets l, ePlaces p, eAsset x] (.tup [.int .i64 (if bringsE l p x != 0 then 0 else sumF (l ++ [x]) p - sumF l p), .int .i64 (bringsE l p x)]) := by
  refine Con.of_body Tryz.func11 rfl Tryz.ntmps11 rfl rfl ?_
  refine hw_reg ?_
  refine dp rfl (pop_box rfl rfl) ?_
  refine dp rfl (pop_assign rfl) ?_
  refine dp rfl (pop_assign rfl) ?_
  refine dn ?_
  refine hw_seq ?_
  refine hw_draw (fun _ => True) [] mixed ?_
  refine ahp 0 rfl rfl (by kernel_rfl) (by kernel_rfl) (pop_move rfl) ?_
  refine ahp 1 rfl rfl (by kernel_rfl) (by kernel_rfl) (pop_call ca28 rfl (WeakL.refl _) (c_value_CheckAssets (by first | assumption | omega | (simp; omega) | simp_all))) ?_
  refine ahp 2 rfl rfl (by kernel_rfl) (by kernel_rfl) (pop_move rfl) ?_
  refine ahp 3 rfl rfl (by kernel_rfl) (by kernel_rfl) (pop_call ca29 rfl (WeakL.refl _) (c_value_CheckPlaces (by first | assumption | omega | (simp; omega) | simp_all))) ?_
  refine ahp 4 rfl rfl (by kernel_rfl) (by kernel_rfl) (pop_loadw ty32 rfl rfl rfl rfl) ?_
  refine ahp 5 rfl rfl (by kernel_rfl) (by kernel_rfl) (pop_call ca31 rfl (WeakL.refl _) c_value_assetFault) ?_
  refine ahp 6 rfl rfl (by kernel_rfl) (by kernel_rfl) (pop_buildSlice (hs := [_, _, _]) ty61 ty33 rfl rfl (by decide) (by decide) rfl) ?_
  refine ahp 7 rfl rfl (by kernel_rfl) (by kernel_rfl) (pop_call ca27 rfl (WeakL.refl _) (c_base_First (l := [_, _, _]) (by simp))) ?_
  refine ahp 8 rfl rfl (by kernel_rfl) (by kernel_rfl) (pop_assign rfl) ?_
  refine ahz (by kernel_rfl) ?_
  refine hw_reg ?_
  refine dp rfl (pop_move rfl) ?_
  refine dp rfl (pop_neq rfl rfl) ?_
  refine dn ?_
  refine hw_cond rfl (fun h1 => ?_) (fun h2 => ?_)
  · try simp at h1
    refine hw_reg ?_
    refine dp rfl (pop_move rfl) ?_
    refine dp rfl (pop_assign rfl) ?_
    refine dp rfl (pop_assign rfl) ?_
    refine dn ?_
    refine hw_ret ?_
    refine ret_p rfl ?_
    first | (exfalso; omega) | (simp [hbe, sumF]; done) | (simp_all [bringsE, sumF, ofVal, ofVal1]; done)
  · try simp at h2
    refine hw_skip ?_
    refine seqQ_n ?_
    refine hw_seq ?_
    refine hw_block ?_
    refine hw_reg ?_
    refine dp rfl (pop_move rfl) ?_
    refine dp rfl (pop_fieldAddr ty32 rfl ty9 (by decide) rfl) ?_
    refine dp rfl (pop_load ty9 rfl rfl rfl) ?_
    refine dp rfl (pop_call ca32 rfl (WeakL.refl _) (c_value_isIn (by first | assumption | omega | (simp; omega) | simp_all))) ?_
    refine dp rfl (pop_assign rfl) ?_
    refine dn ?_
    refine hw_cond rfl (fun h3 => ?_) (fun h4 => ?_)
    · try simp at h3
      refine hw_reg ?_
      refine dp rfl (pop_assign rfl) ?_
      refine dp rfl (pop_assign rfl) ?_
      refine dn ?_
      refine hw_ret ?_
      refine ret_p rfl ?_
      first | (exfalso; omega) | (simp [hbe, sumF]; done) | (simp_all [bringsE, sumF, ofVal, ofVal1]; done)
    · try simp at h4
      refine hw_reg ?_
      refine dp rfl (pop_move rfl) ?_
      refine dp rfl (pop_lenm ty26 rfl) ?_
      refine dp rfl (pop_geq rfl rfl) ?_
      refine dp rfl (pop_assign rfl) ?_
      refine dn ?_
      refine hw_cond rfl (fun h5 => ?_) (fun h6 => ?_)
      · try simp at h5
        refine hw_reg ?_
        refine dp rfl (pop_assign rfl) ?_
        refine dp rfl (pop_assign rfl) ?_
        refine dn ?_
        refine hw_ret ?_
        refine ret_p rfl ?_
        first | (exfalso; omega) | (simp [hbe, sumF]; done) | (simp_all [bringsE, sumF, ofVal, ofVal1]; done)
      · try simp at h6
        refine hw_skip ?_
        refine blockQ_n ?_
        refine seqQ_n ?_
        obtain ⟨hca0, hcp0, haf0⟩ := orI3 (a := checkAssets l) (b := checkPlaces p) (c := assetFault x) (by simpa using h2)
        obtain ⟨hsr, haf⟩ := checkAssets_ok hca0
        obtain ⟨hmm, hp10⟩ := checkPlaces_ok hcp0
        have hvv : ∀ x ∈ l, -1000000 ≤ x.Value ∧ x.Value ≤ 1000000 := fun x hx => (assetFault_ok (haf x hx)).2.2
        have hvx := (assetFault_ok haf0).2.2
        have hvv1 : ∀ y ∈ l ++ [x], -1000000 ≤ y.Value ∧ y.Value ≤ 1000000 := fun y hy => by
          rcases List.mem_append.1 hy with h | h
          · exact hvv y h
          · simp at h; subst h; exact hvx
        have hb1 := field_bd (f := ofP l) (p := p) (i := p.length) (fun s m y => mem_chosen) (fun s => Nat.le_trans (ofP_len l s) (by omega)) hp10 hvv
        have hb2 := field_bd (f := ofP (l ++ [x])) (p := p) (i := p.length) (fun s m y => mem_chosen) (fun s => Nat.le_trans (ofP_len _ s) (by simp; omega)) hp10 hvv1
        rw [List.take_length] at hb1 hb2
        have hbe : bringsE l p x = 0 := by
          unfold bringsE
          rw [if_neg (by simp [h2]), if_neg (by simpa using h4), if_neg (by omega)]
        refine hw_reg ?_
        refine dp rfl (pop_move rfl) ?_
        refine dp rfl (pop_move rfl) ?_
        refine dp rfl (pop_call ca30 rfl (WeakL.refl _) (c_value_fielded (by first | assumption | omega | (simp; omega) | simp_all) (by first | assumption | omega | (simp; omega) | simp_all) (by first | assumption | omega | (simp; omega) | simp_all) (by first | assumption | omega | (simp; omega) | simp_all))) ?_
        refine dp rfl (pop_move rfl) ?_
        refine dp rfl (pop_extract rfl rfl) ?_
        refine dp rfl (pop_extract rfl rfl) ?_
        refine dp rfl (pop_assign rfl) ?_
        refine dp rfl (pop_assign rfl) ?_
        refine dn ?_
        refine hw_draw (fun _ => True) [] mixed ?_
        refine ahp 0 rfl rfl (by kernel_rfl) (by kernel_rfl) (pop_move rfl) ?_
        refine ahp 2 rfl rfl (by kernel_rfl) (by kernel_rfl) (pop_loadw ty32 rfl rfl rfl rfl) ?_
        refine ahp 3 rfl rfl (by kernel_rfl) (by kernel_rfl) (pop_buildSlice (hs := [_]) ty26 ty32 rfl rfl (by decide) (by decide) rfl) ?_
        refine ahp 5 rfl rfl (by kernel_rfl) (by kernel_rfl) (pop_move rfl) ?_
        refine ahe 1 rfl (by kernel_rfl) ?_
        refine hop_e rfl (eop_calla ca33 rfl (WeakL.refl _) (c_slices_Clone_api_Asset_api_Asset (by first | assumption | omega | (simp; omega) | simp_all)) fun v41 => ?_)
        refine ⟨fun _ => .inl trivial, ?_⟩
        refine ahe 4 rfl (by kernel_rfl) ?_
        refine hop_e rfl (eop_append (i := 0) ty26 ty32 rfl rfl rfl rfl rfl (by simp [flat, hcells]) (by simp; omega) fun v44 => ?_)
        refine ⟨fun _ => .inl trivial, ?_⟩
        refine ahe 6 rfl (by kernel_rfl) ?_
        refine hop_e rfl (eop_callx (i := 0) ca30 rfl (WeakL.refl _) rfl (con_fz0 (es := l.map eAsset ++ [eAsset x]) (by
          have h := c_value_fielded (l := l ++ [x]) (p := p) (by simp; omega) hp10 (fun y hy => (hmm y hy).1) hvv1
          rw [show eAssets (l ++ [x]) = .slice 3 (l.map eAsset ++ [eAsset x]) by simp [eAssets]] at h
          exact h)) ?_)
        rintro _ _ ⟨rfl, rfl⟩
        refine ⟨fun _ => .inl trivial, ?_⟩
        refine ahp 7 rfl rfl (by kernel_rfl) (by kernel_rfl) (pop_move rfl) ?_
        refine ahp 8 rfl rfl (by kernel_rfl) (by kernel_rfl) (pop_extract rfl rfl) ?_
        refine ahp 9 rfl rfl (by kernel_rfl) (by kernel_rfl) (pop_extract rfl rfl) ?_
        refine ahp 10 rfl rfl (by kernel_rfl) (by kernel_rfl) (pop_assign rfl) ?_
        refine ahp 11 rfl rfl (by kernel_rfl) (by kernel_rfl) (pop_assign rfl) ?_
        refine ahz (by kernel_rfl) ?_
        refine hw_reg ?_
        refine dp rfl (pop_move rfl) ?_
        refine dp rfl (pop_move rfl) ?_
        refine dp rfl (pop_sub64 rfl rfl (by omega) (by omega)) ?_
        refine dp rfl (pop_assign rfl) ?_
        refine dp rfl (pop_assign rfl) ?_
        refine dn ?_
        refine hw_ret ?_
        refine ret_p rfl ?_
        first | (exfalso; omega) | (simp [hbe, sumF]; done) | (simp_all [bringsE, sumF, ofVal, ofVal1]; done)

/-- benchwarmer/value.Drop -/
theorem c_value_Drop {l : List Asset} {p : List HL.Place} (hl : l.length ≤ 11) (hp : p.length ≤ 1000000) : ConP Tryz.prog 12 [eAssets l, ePlaces p] (.tup [.str (if okAP l p != 0 then [] else dropName l (dropped l p)), .bool (if okAP l p != 0 then false else decide (0 < l.length)), .int .i64 (okAP l p)]) := by
  refine Con.of_body Tryz.func12 rfl Tryz.ntmps12 rfl rfl ?_
  refine hw_reg ?_
  refine dp rfl (pop_assign rfl) ?_
  refine dp rfl (pop_assign rfl) ?_
  refine dp rfl (pop_assign rfl) ?_
  refine dn ?_
  refine hw_seq ?_
  refine hw_reg ?_
  refine dp rfl (pop_move rfl) ?_
  refine dp rfl (pop_call ca28 rfl (WeakL.refl _) (c_value_CheckAssets (by first | assumption | omega | (simp; omega) | simp_all))) ?_
  refine dp rfl (pop_move rfl) ?_
  refine dp rfl (pop_call ca29 rfl (WeakL.refl _) (c_value_CheckPlaces (by first | assumption | omega | (simp; omega) | simp_all))) ?_
  refine dp rfl (pop_buildSlice (hs := [_, _]) ty61 ty33 rfl rfl (by decide) (by decide) rfl) ?_
  refine dp rfl (pop_call ca27 rfl (WeakL.refl _) (c_base_First (l := [_, _]) (by simp))) ?_
  refine dp rfl (pop_assign rfl) ?_
  refine dn ?_
  refine hw_reg ?_
  refine dp rfl (pop_move rfl) ?_
  refine dp rfl (pop_neq rfl rfl) ?_
  refine dn ?_
  refine hw_cond rfl (fun h1 => ?_) (fun h2 => ?_)
  · try simp at h1
    refine hw_reg ?_
    refine dp rfl (pop_move rfl) ?_
    refine dp rfl (pop_assign rfl) ?_
    refine dp rfl (pop_assign rfl) ?_
    refine dp rfl (pop_assign rfl) ?_
    refine dn ?_
    refine hw_ret ?_
    first
    | (have hne : (okAP l p != 0) = true := by simpa [okAP] using h1
       refine ret_p rfl ?_
       rw [if_pos hne, if_pos hne]; rfl)
    | (have hq := best1_neg h7
       have hl0 := (dropRun_none l (dropF l p) l.length).1 hq
       refine ret_p rfl ?_
       rw [dropped, hq, h0, hl0]; rfl)
    | (refine ret_p rfl ?_
       rw [dropped, hbn, h0, decide_eq_true (show 0 < l.length by omega)]; rfl)
  · try simp at h2
    refine hw_skip ?_
    refine seqQ_n ?_
    refine hw_reg ?_
    refine dp rfl (pop_assign rfl) ?_
    refine dp rfl (pop_assign rfl) ?_
    refine dn ?_
    refine hw_seq ?_
    obtain ⟨hca0, hcp0⟩ := okAP_ok (l := l) (p := p) (by simpa [okAP] using h2)
    obtain ⟨hsr, haf⟩ := checkAssets_ok hca0
    obtain ⟨hmm, hp10⟩ := checkPlaces_ok hcp0
    have hvv : ∀ x ∈ l, -1000000 ≤ x.Value ∧ x.Value ≤ 1000000 := fun x hx => (assetFault_ok (haf x hx)).2.2
    have h0 : okAP l p = 0 := by simpa [okAP] using h2
    refine hw_reg ?_
    refine dp rfl (pop_move rfl) ?_
    refine dp rfl (pop_lenm ty26 rfl) ?_
    refine dp rfl (pop_move rfl) ?_
    refine dn ?_
    refine hw_block ?_
    refine hw_loopw [8, 9, 10, 11, 12, 13, 25, 26, 27, 28, 29, 30, 31, 32, 33, 34, 35, 36, 37, 38, 39, 40, 41, 42, 43, 44, 45, 46, 47, 48, 49, 50, 51, 52, 53, 54, 55, 56, 57, 58, 59, 60, 61, 62, 63, 64, 65] (fun (k : Nat) => [(25, .int .i64 k), (8, .int .i64 (best1 (dropRun l (dropF l p) k))), (9, .int .i64 (left1 (dropRun l (dropF l p) k)))]) (fun (k : Nat) => []) (fun (k : Nat) => k ≤ l.length ∧ (True)) (fun (k : Nat) => l.length - k) (0) ?_ ?_ ?_ ?_
    · exact ⟨Nat.zero_le _, trivial⟩
    · exact ⟨rfl, rfl, rfl, trivial⟩
    · exact List.Perm.refl _
    · intro k hinv
      obtain ⟨hk, -⟩ := hinv
      refine hw_reg ?_
      refine dp rfl (pop_lss rfl rfl) ?_
      refine dn ?_
      refine hw_seq ?_
      refine hw_cond rfl (fun h3 => ?_) (fun h4 => ?_)
      · try simp at h3
        obtain ⟨x, hx⟩ : ∃ x, l[k]? = some x := ⟨_, List.getElem?_eq_getElem h3⟩
        have hdx := drop_cons hx
        refine hw_skip ?_
        refine seqQ_n ?_
        refine hw_seq ?_
        refine hw_block ?_
        refine hw_reg ?_
        refine dp rfl (pop_move rfl) ?_
        refine dp rfl (pop_idx ty26 ty32 rfl rfl rfl (by first | assumption | simp_all)) ?_
        refine dp rfl (pop_loadw ty32 rfl rfl rfl rfl) ?_
        refine de rfl (eop_alloc ty32 rfl fun b11 => ?_)
        refine dp rfl (pop_assign rfl) ?_
        refine de0 (eop_storew ty32 rfl rfl rfl rfl rfl ?_)
        refine dn ?_
        refine hw_ghost (Ghost.fc0 11 rfl) ?_
        refine hw_reg ?_
        refine dp rfl (pop_move rfl) ?_
        refine de rfl (eop_calla ca33 rfl (WeakL.refl _) (c_slices_Clone_api_Asset_api_Asset (by first | assumption | omega | (simp; omega) | simp_all)) fun v32 => ?_)
        refine dp rfl (pop_move rfl) ?_
        refine dp rfl (pop_move rfl) ?_
        refine dp rfl (pop_add64 rfl rfl (by omega) (by omega)) ?_
        refine de rfl (eop_callx (i := 0) ca34 rfl (WeakL.refl _) rfl (c_slices_Delete_api_Asset_api_Asset (l := l) (k := k) (by omega) (by omega)) ?_)
        rintro _ _ ⟨u36, rfl, rfl⟩
        refine dp rfl (pop_move rfl) ?_
        refine de rfl (eop_callx (i := 0) ca30 rfl (WeakL.refl _) rfl (con_fz0 (es := (l.eraseIdx k).map eAsset) (c_value_fielded (l := l.eraseIdx k) (p := p) (Nat.le_trans (List.length_eraseIdx_le l k) (by omega)) hp10 (fun y hy => (hmm y hy).1) (fun y hy => hvv y (List.mem_of_mem_eraseIdx hy)))) ?_)
        rintro _ _ ⟨rfl, rfl⟩
        refine dp rfl (pop_move rfl) ?_
        refine dp rfl (pop_extract rfl rfl) ?_
        refine dp rfl (pop_extract rfl rfl) ?_
        refine dp rfl (pop_assign rfl) ?_
        refine dp rfl (pop_assign rfl) ?_
        refine dn ?_
        refine hw_draw (fun _ => True) [] mixed ?_
        refine ahp 0 rfl rfl (by kernel_rfl) (by kernel_rfl) (pop_move rfl) ?_
        refine ahp 1 rfl rfl (by kernel_rfl) (by kernel_rfl) (pop_lss rfl rfl) ?_
        refine ahp 2 rfl rfl (by kernel_rfl) (by kernel_rfl) (pop_move rfl) ?_
        refine ahg 3 rfl rfl (by kernel_rfl) (by kernel_rfl) rfl (fun hc => ⟨_, OpenTo.refl _, pop_move rfl⟩) ?_
        refine ahg 4 rfl rfl (by kernel_rfl) (by kernel_rfl) rfl (fun hc => ⟨_, OpenTo.refl _, pop_move rfl⟩) ?_
        refine ahg 5 rfl rfl (by kernel_rfl) (by kernel_rfl) rfl (fun hc => ⟨_, OpenTo.upd (t := 45) rfl (by first | exact hc | simp_all) (OpenTo.upd (t := 44) rfl (by first | exact hc | simp_all) (OpenTo.refl _)), pop_gtr rfl rfl⟩) ?_
        refine ahp 6 rfl rfl (by kernel_rfl) (by kernel_rfl) (pop_picko rfl (.inl rfl) (.inr ⟨_, rfl, fun h => by simp_all⟩)) ?_
        refine ahp 7 rfl rfl (by kernel_rfl) (by kernel_rfl) (pop_move rfl) ?_
        refine ahg 8 rfl rfl (by kernel_rfl) (by kernel_rfl) rfl (fun hc => ⟨_, OpenTo.refl _, pop_move rfl⟩) ?_
        refine ahg 9 rfl rfl (by kernel_rfl) (by kernel_rfl) rfl (fun hc => ⟨_, OpenTo.refl _, pop_move rfl⟩) ?_
        refine ahg 10 rfl rfl (by kernel_rfl) (by kernel_rfl) rfl (fun hc => ⟨_, OpenTo.upd (t := 50) rfl (by first | exact hc | simp_all) (OpenTo.upd (t := 49) rfl (by first | exact hc | simp_all) (OpenTo.refl _)), pop_eql rfl rfl⟩) ?_
        refine ahg 11 rfl rfl (by kernel_rfl) (by kernel_rfl) rfl (fun hc => ⟨_, OpenTo.upd (t := 51) rfl (by first | exact hc | simp_all) (OpenTo.refl _), pop_move rfl⟩) ?_
        refine ahg 12 rfl rfl (by kernel_rfl) (by kernel_rfl) rfl (fun hc => ⟨_, OpenTo.refl _, pop_fieldAddr ty32 rfl ty3 (by decide) rfl⟩) ?_
        refine ahg 13 rfl rfl (by kernel_rfl) (by kernel_rfl) rfl (fun hc => ⟨_, OpenTo.upd (t := 53) rfl (by first | exact hc | simp_all) (OpenTo.refl _), pop_load ty3 rfl rfl rfl⟩) ?_
        refine ahg 14 rfl rfl (by kernel_rfl) (by kernel_rfl) rfl (fun hc => ⟨_, OpenTo.refl _, pop_move rfl⟩) ?_
        refine ahg 15 rfl rfl (by kernel_rfl) (by kernel_rfl) rfl (fun hc => ⟨_, OpenTo.refl _, pop_move rfl⟩) ?_
        refine ahg 16 rfl rfl (by kernel_rfl) (by kernel_rfl) rfl (fun hc => by
            obtain ⟨bb, nn, hbn⟩ : ∃ b n, dropRun l (dropF l p) k = some (b, n) := by
              cases hq : dropRun l (dropF l p) k with
              | none => exfalso; simp [hq, best1] at hc
              | some q => exact ⟨q.1, q.2, rfl⟩
            have hbb := (dropRun_lt _ _ _ _ _ hbn).1
            exact ⟨_, OpenTo.upd (t := 56) rfl (by first | exact hc | simp_all) (OpenTo.upd (t := 55) rfl (by first | exact hc | simp_all) (OpenTo.refl _)), pop_idx (j := (best1 (dropRun l (dropF l p) k)).toNat) (a := l.getD (best1 (dropRun l (dropF l p) k)).toNat asset0) ty26 ty32 rfl rfl (by rw [hbn]; simp [best1]) (getD_some (by rw [hbn]; simp [best1]; omega))⟩) ?_
        refine ahg 17 rfl rfl (by kernel_rfl) (by kernel_rfl) rfl (fun hc => ⟨_, OpenTo.upd (t := 57) rfl (by first | exact hc | simp_all) (OpenTo.refl _), pop_fieldAddr ty32 rfl ty3 (by decide) rfl⟩) ?_
        refine ahg 18 rfl rfl (by kernel_rfl) (by kernel_rfl) rfl (fun hc => ⟨_, OpenTo.upd (t := 58) rfl (by first | exact hc | simp_all) (OpenTo.refl _), pop_load ty3 rfl rfl rfl⟩) ?_
        refine ahg 19 rfl rfl (by kernel_rfl) (by kernel_rfl) rfl (fun hc => ⟨_, OpenTo.upd (t := 59) rfl (by first | exact hc | simp_all) (OpenTo.upd (t := 54) rfl (by first | exact hc | simp_all) (OpenTo.refl _)), pop_leq rfl rfl⟩) ?_
        refine ahg 20 rfl rfl (by kernel_rfl) (by kernel_rfl) rfl (fun hc => ⟨_, OpenTo.upd (t := 52) rfl (by first | exact hc | simp_all) (OpenTo.refl _), pop_picko rfl (.inr ⟨_, rfl, fun h => by simp_all⟩) (.inl rfl)⟩) ?_
        refine ahp 21 rfl rfl (by kernel_rfl) (by kernel_rfl) (pop_picko rfl (.inl rfl) (.inr ⟨_, rfl, fun h => by simp_all⟩)) ?_
        refine ahz (by kernel_rfl) ?_
        refine hw_cond rfl (fun h5 => ?_) (fun h6 => ?_)
        · try simp at h5
          refine hw_reg1 ?_
          refine dp rfl (pop_move rfl) ?_
          refine dp rfl (pop_move rfl) ?_
          refine dp rfl (pop_assign rfl) ?_
          refine dp rfl (pop_assign rfl) ?_
          refine dn ?_
          refine blockQ_n ?_
          refine seqQ_n ?_
          refine hw_reg1 ?_
          refine dp rfl (pop_add64 rfl rfl (by omega) (by omega)) ?_
          refine dp rfl (pop_move rfl) ?_
          refine dn ?_
          have hst := drop_yes (F := dropF l p) hx h5
          exact ⟨k + 1, ⟨by omega, trivial⟩, by dsimp only; omega, ⟨rfl, some_int (by rw [hst]; rfl), some_int (by rw [hst]; rfl), trivial⟩, (by repeat (first | exact keeps_refl | refine keeps_upd rfl ?_ | refine keeps_loop rfl rfl ?_)), List.Perm.refl _⟩
        · try simp at h6
          refine hw_skip ?_
          refine blockQ_n ?_
          refine seqQ_n ?_
          refine hw_reg1 ?_
          refine dp rfl (pop_add64 rfl rfl (by omega) (by omega)) ?_
          refine dp rfl (pop_move rfl) ?_
          refine dn ?_
          have hst := drop_no (F := dropF l p) hx h6
          exact ⟨k + 1, ⟨by omega, trivial⟩, by dsimp only; omega, ⟨rfl, some_int (by rw [hst]), some_int (by rw [hst]), trivial⟩, (by repeat (first | exact keeps_refl | refine keeps_upd rfl ?_ | refine keeps_loop rfl rfl ?_)), List.Perm.refl _⟩
      · try simp at h4
        have hnk : l.length ≤ k := by omega
        obtain rfl : k = l.length := by omega
        refine hw_exit ?_
        refine seqQ_x ?_
        refine loopQ_x ?_
        refine blockQ_eq ?_
        refine seqQ_n ?_
        refine hw_seq ?_
        refine hw_reg ?_
        refine dp rfl (pop_move rfl) ?_
        refine dp rfl (pop_lss rfl rfl) ?_
        refine dn ?_
        refine hw_cond rfl (fun h7 => ?_) (fun h8 => ?_)
        · try simp at h7
          refine hw_reg ?_
          refine dp rfl (pop_assign rfl) ?_
          refine dp rfl (pop_assign rfl) ?_
          refine dp rfl (pop_assign rfl) ?_
          refine dn ?_
          refine hw_ret ?_
          first
          | (have hne : (okAP l p != 0) = true := by simpa [okAP] using h1
             refine ret_p rfl ?_
             rw [if_pos hne, if_pos hne]; rfl)
          | (have hq := best1_neg h7
             have hl0 := (dropRun_none l (dropF l p) l.length).1 hq
             refine ret_p rfl ?_
             rw [dropped, hq, h0, hl0]; rfl)
          | (refine ret_p rfl ?_
             rw [dropped, hbn, h0, decide_eq_true (show 0 < l.length by omega)]; rfl)
        · try simp at h8
          refine hw_skip ?_
          refine seqQ_n ?_
          obtain ⟨bb, nn, hbn⟩ : ∃ b n, dropRun l (dropF l p) l.length = some (b, n) := by
            cases hq : dropRun l (dropF l p) l.length with
            | none => exfalso; rw [hq] at h8; simp [best1] at h8
            | some q => exact ⟨q.1, q.2, rfl⟩
          have hbb := dropRun_lt _ _ _ _ _ hbn
          refine hw_reg ?_
          refine dp rfl (pop_move rfl) ?_
          refine dp rfl (pop_move rfl) ?_
          refine dp rfl (pop_idx (i := best1 (dropRun l (dropF l p) l.length)) (j := bb) (a := l.getD bb asset0) ty26 ty32 rfl rfl (by rw [hbn]; rfl) (getD_some (by omega))) ?_
          refine dp rfl (pop_fieldAddr ty32 rfl ty9 (by decide) rfl) ?_
          refine dp rfl (pop_load ty9 rfl rfl rfl) ?_
          refine dp rfl (pop_assign rfl) ?_
          refine dp rfl (pop_assign rfl) ?_
          refine dp rfl (pop_assign rfl) ?_
          refine dn ?_
          refine hw_ret ?_
          first
          | (have hne : (okAP l p != 0) = true := by simpa [okAP] using h1
             refine ret_p rfl ?_
             rw [if_pos hne, if_pos hne]; rfl)
          | (have hq := best1_neg h7
             have hl0 := (dropRun_none l (dropF l p) l.length).1 hq
             refine ret_p rfl ?_
             rw [dropped, hq, h0, hl0]; rfl)
          | (refine ret_p rfl ?_
             rw [dropped, hbn, h0, decide_eq_true (show 0 < l.length by omega)]; rfl)

/-- benchwarmer/benchref1.AssetsFault -/
theorem c_benchref1_AssetsFault {l : List Asset} (hl : l.length ≤ 1000000) (hs : ∀ x ∈ l, Sh x.Player ∧ Sh x.Position) : ConP Tryz.prog 8 [eAssets l] (.int .i64 (checkAssets l)) := by
  refine Con.of_body Tryz.func8 rfl Tryz.ntmps8 rfl rfl ?_
  refine hw_reg ?_
  refine dp rfl (pop_assign rfl) ?_
  refine dn ?_
  refine hw_seq ?_
  refine hw_reg ?_
  refine dp rfl (pop_move rfl) ?_
  refine dp rfl (pop_lenm ty26 rfl) ?_
  refine dp rfl (pop_gtr rfl rfl) ?_
  refine dn ?_
  refine hw_cond rfl (fun h1 => ?_) (fun h2 => ?_)
  · try simp at h1
    refine hw_reg ?_
    refine dp rfl (pop_assign rfl) ?_
    refine dn ?_
    refine hw_ret ?_
    refine ret_p rfl ?_
    show HVal.int .i64 _ = _
    first | (rw [checkAssets, if_pos (by omega)]; done) | (rw [hg]; simp_all [assetsGo, leS, assetFault]; done) | (rw [hg]; rfl)
  · try simp at h2
    refine hw_skip ?_
    refine seqQ_n ?_
    refine hw_seq ?_
    refine hw_reg ?_
    refine dp rfl (pop_move rfl) ?_
    refine dp rfl (pop_lenm ty26 rfl) ?_
    refine dp rfl (pop_move rfl) ?_
    refine dn ?_
    refine hw_block ?_
    refine hw_loopw [2, 3, 4, 10, 11, 12, 13, 14, 15, 16, 17, 18, 19, 20, 21, 22, 23, 24, 25, 26, 27, 28, 29, 30, 31, 32, 33, 34, 35, 36, 37, 38, 39, 40, 41, 42, 43, 44, 45] (fun (k : Nat) => [(10, .int .i64 k)]) (fun (k : Nat) => []) (fun (k : Nat) => k ≤ l.length ∧ (checkAssets l = assetsGo l k (l.drop k))) (fun (k : Nat) => l.length - k) (0) ?_ ?_ ?_ ?_
    · refine ⟨Nat.zero_le _, ?_⟩
      rw [checkAssets, if_neg (by omega)]; rfl
    · exact ⟨rfl, trivial⟩
    · exact List.Perm.refl _
    · intro k hinv
      obtain ⟨hk, hg⟩ := hinv
      refine hw_reg ?_
      refine dp rfl (pop_lss rfl rfl) ?_
      refine dn ?_
      refine hw_seq ?_
      refine hw_cond rfl (fun h3 => ?_) (fun h4 => ?_)
      · try simp at h3
        obtain ⟨x, hx⟩ : ∃ x, l[k]? = some x := ⟨_, List.getElem?_eq_getElem h3⟩
        have hdx := drop_cons hx
        rw [hdx] at hg
        refine hw_skip ?_
        refine seqQ_n ?_
        refine hw_seq ?_
        refine hw_block ?_
        refine hw_reg ?_
        refine dp rfl (pop_move rfl) ?_
        refine dp rfl (pop_idx ty26 ty32 rfl rfl rfl (by first | assumption | simp_all)) ?_
        refine dp rfl (pop_loadw ty32 rfl rfl rfl rfl) ?_
        refine de rfl (eop_alloc ty32 rfl fun b4 => ?_)
        refine dp rfl (pop_assign rfl) ?_
        refine de0 (eop_storew ty32 rfl rfl rfl rfl rfl ?_)
        refine dn ?_
        refine hw_ghost (Ghost.fc0 4 rfl) ?_
        refine hw_block ?_
        refine hw_reg ?_
        refine dp rfl (pop_fieldAddr ty32 rfl ty9 (by decide) rfl) ?_
        refine dp rfl (pop_load ty9 rfl rfl rfl) ?_
        refine dp rfl (pop_call ca25 rfl (WeakL.refl _) (c_benchref1_Key (by first | exact (hs x (List.mem_of_getElem? hx)).1 | exact (hs x (List.mem_of_getElem? hx)).2))) ?_
        refine dp rfl (pop_not rfl) ?_
        refine dp rfl (pop_move rfl) ?_
        refine dg rfl rfl (fun hc => ⟨_, OpenTo.refl _, pop_fieldAddr ty32 rfl ty9 (by decide) rfl⟩) ?_
        refine dg rfl rfl (fun hc => ⟨_, OpenTo.upd (t := 21) rfl (by first | exact hc | simp_all) (OpenTo.refl _), pop_load ty9 rfl rfl rfl⟩) ?_
        refine dg rfl rfl (fun hc => ⟨_, OpenTo.upd (t := 22) rfl (by first | exact hc | simp_all) (OpenTo.refl _), pop_call ca25 rfl (WeakL.refl _) (c_benchref1_Key (by first | exact (hs x (List.mem_of_getElem? hx)).1 | exact (hs x (List.mem_of_getElem? hx)).2))⟩) ?_
        refine dg rfl rfl (fun hc => ⟨_, OpenTo.upd (t := 23) rfl (by first | exact hc | simp_all) (OpenTo.refl _), pop_not rfl⟩) ?_
        refine dp rfl (pop_picko rfl (.inl rfl) (.inr ⟨_, rfl, fun h => by simp_all⟩)) ?_
        refine dp rfl (pop_assign rfl) ?_
        refine dn ?_
        refine hw_cond rfl (fun h5 => ?_) (fun h6 => ?_)
        · try simp at h5
          refine hw_reg ?_
          refine dp rfl (pop_assign rfl) ?_
          refine dn ?_
          refine hw_ret ?_
          refine ret_p rfl ?_
          show HVal.int .i64 _ = _
          first | (rw [checkAssets, if_pos (by omega)]; done) | (rw [hg]; simp_all [assetsGo, leS, assetFault]; done) | (rw [hg]; rfl)
        · try simp at h6
          refine hw_reg ?_
          refine dp rfl (pop_fieldAddr ty32 rfl ty3 (by decide) rfl) ?_
          refine dp rfl (pop_load ty3 rfl rfl rfl) ?_
          refine dp rfl (pop_call ca26 rfl (WeakL.refl _) c_benchref1_in) ?_
          refine dp rfl (pop_not rfl) ?_
          refine dp rfl (pop_assign rfl) ?_
          refine dn ?_
          refine hw_cond rfl (fun h7 => ?_) (fun h8 => ?_)
          · try simp at h7
            refine hw_reg ?_
            refine dp rfl (pop_assign rfl) ?_
            refine dn ?_
            refine hw_ret ?_
            refine ret_p rfl ?_
            show HVal.int .i64 _ = _
            first | (rw [checkAssets, if_pos (by omega)]; done) | (rw [hg]; simp_all [assetsGo, leS, assetFault]; done) | (rw [hg]; rfl)
          · try simp at h8
            refine hw_draw (fun _ => True) [] mixed ?_
            refine ahp 0 rfl rfl (by kernel_rfl) (by kernel_rfl) (pop_move rfl) ?_
            refine ahp 1 rfl rfl (by kernel_rfl) (by kernel_rfl) (pop_gtr rfl rfl) ?_
            refine ahp 2 rfl rfl (by kernel_rfl) (by kernel_rfl) (pop_move rfl) ?_
            refine ahg 3 rfl rfl (by kernel_rfl) (by kernel_rfl) rfl (fun hc => ⟨_, OpenTo.refl _, pop_fieldAddr ty32 rfl ty9 (by decide) rfl⟩) ?_
            refine ahg 4 rfl rfl (by kernel_rfl) (by kernel_rfl) rfl (fun hc => ⟨_, OpenTo.upd (t := 35) rfl (by first | exact hc | simp_all) (OpenTo.refl _), pop_load ty9 rfl rfl rfl⟩) ?_
            refine ahg 5 rfl rfl (by kernel_rfl) (by kernel_rfl) rfl (fun hc => ⟨_, OpenTo.refl _, pop_move rfl⟩) ?_
            refine ahg 6 rfl rfl (by kernel_rfl) (by kernel_rfl) rfl (fun hc => ⟨_, OpenTo.refl _, pop_move rfl⟩) ?_
            refine ahg 7 rfl rfl (by kernel_rfl) (by kernel_rfl) rfl (fun hc => by have hq := hc; (try simp at hq); exact ⟨_, OpenTo.upd (t := 38) rfl (by first | exact hc | simp_all) (OpenTo.refl _), pop_sub64 rfl rfl (by omega) (by omega)⟩) ?_
            refine ahg 8 rfl rfl (by kernel_rfl) (by kernel_rfl) rfl (fun hc => by have hq := hc; (try simp at hq); exact ⟨_, OpenTo.upd (t := 39) rfl (by first | exact hc | simp_all) (OpenTo.upd (t := 37) rfl (by first | exact hc | simp_all) (OpenTo.refl _)), pop_idx (j := k - 1) (a := l.getD (k - 1) asset0) ty26 ty32 rfl rfl (by omega) (getD_some (by omega))⟩) ?_
            refine ahg 9 rfl rfl (by kernel_rfl) (by kernel_rfl) rfl (fun hc => ⟨_, OpenTo.upd (t := 40) rfl (by first | exact hc | simp_all) (OpenTo.refl _), pop_fieldAddr ty32 rfl ty9 (by decide) rfl⟩) ?_
            refine ahg 10 rfl rfl (by kernel_rfl) (by kernel_rfl) rfl (fun hc => ⟨_, OpenTo.upd (t := 41) rfl (by first | exact hc | simp_all) (OpenTo.refl _), pop_load ty9 rfl rfl rfl⟩) ?_
            refine ahg 11 rfl rfl (by kernel_rfl) (by kernel_rfl) rfl (fun hc => ⟨_, OpenTo.upd (t := 42) rfl (by first | exact hc | simp_all) (OpenTo.upd (t := 36) rfl (by first | exact hc | simp_all) (OpenTo.refl _)), pop_leqs rfl rfl⟩) ?_
            refine ahp 12 rfl rfl (by kernel_rfl) (by kernel_rfl) (pop_picko rfl (.inr ⟨_, rfl, fun h => by simp_all⟩) (.inl rfl)) ?_
            refine ahp 13 rfl rfl (by kernel_rfl) (by kernel_rfl) (pop_assign rfl) ?_
            refine ahz (by kernel_rfl) ?_
            refine hw_cond rfl (fun h9 => ?_) (fun h10 => ?_)
            · try simp at h9
              refine hw_reg ?_
              refine dp rfl (pop_assign rfl) ?_
              refine dn ?_
              refine hw_ret ?_
              refine ret_p rfl ?_
              show HVal.int .i64 _ = _
              first | (rw [checkAssets, if_pos (by omega)]; done) | (rw [hg]; simp_all [assetsGo, leS, assetFault]; done) | (rw [hg]; rfl)
            · try simp at h10
              refine hw_skip ?_
              refine blockQ_n ?_
              refine blockQ_n ?_
              refine seqQ_n ?_
              refine hw_reg1 ?_
              refine dp rfl (pop_add64 rfl rfl (by omega) (by omega)) ?_
              refine dp rfl (pop_move rfl) ?_
              refine dn ?_
              refine ⟨k + 1, ?_, ?_, ⟨rfl, trivial⟩, (by repeat (first | exact keeps_refl | refine keeps_upd rfl ?_ | refine keeps_loop rfl rfl ?_)), List.Perm.refl _⟩
              · refine ⟨by omega, ?_⟩
                rw [hg]; simp_all [assetsGo, leS, assetFault]
              · dsimp only; omega
      · try simp at h4
        have hnk : l.length ≤ k := by omega
        obtain rfl : k = l.length := by omega
        rw [drop_all (Nat.le_refl _)] at hg
        refine hw_exit ?_
        refine seqQ_x ?_
        refine loopQ_x ?_
        refine blockQ_eq ?_
        refine seqQ_n ?_
        refine hw_reg ?_
        refine dp rfl (pop_assign rfl) ?_
        refine dn ?_
        refine hw_ret ?_
        refine ret_p rfl ?_
        show HVal.int .i64 _ = _
        first | (rw [checkAssets, if_pos (by omega)]; done) | (rw [hg]; simp_all [assetsGo, leS, assetFault]; done) | (rw [hg]; rfl)

/-- benchwarmer/benchref1.PlacesFault -/
theorem c_benchref1_PlacesFault {l : List HL.Place} (hl : l.length ≤ 1000000) (hs : ∀ x ∈ l, Sh x.Position) : ConP Tryz.prog 9 [ePlaces l] (.int .i64 (checkPlaces l)) := by
  refine Con.of_body Tryz.func9 rfl Tryz.ntmps9 rfl rfl ?_
  refine hw_reg ?_
  refine dp rfl (pop_assign rfl) ?_
  refine dn ?_
  refine hw_seq ?_
  refine hw_reg ?_
  refine dp rfl (pop_move rfl) ?_
  refine dp rfl (pop_lenm ty28 rfl) ?_
  refine dp rfl (pop_gtr rfl rfl) ?_
  refine dn ?_
  refine hw_cond rfl (fun h1 => ?_) (fun h2 => ?_)
  · try simp at h1
    refine hw_reg ?_
    refine dp rfl (pop_assign rfl) ?_
    refine dn ?_
    refine hw_ret ?_
    refine ret_p rfl ?_
    show HVal.int .i64 _ = _
    first | (rw [checkPlaces, if_pos (by omega)]; done) | (rw [hg]; simp_all [placesGo, leS]; done) | (rw [hg]; rfl)
  · try simp at h2
    refine hw_skip ?_
    refine seqQ_n ?_
    refine hw_seq ?_
    refine hw_reg ?_
    refine dp rfl (pop_move rfl) ?_
    refine dp rfl (pop_lenm ty28 rfl) ?_
    refine dp rfl (pop_move rfl) ?_
    refine dn ?_
    refine hw_block ?_
    refine hw_loopw [2, 3, 4, 10, 11, 12, 13, 14, 15, 16, 17, 18, 19, 20, 21, 22, 23, 24, 25, 26, 27, 28, 29, 30, 31, 32, 33, 34, 35, 36, 37, 38, 39] (fun (k : Nat) => [(10, .int .i64 k)]) (fun (k : Nat) => []) (fun (k : Nat) => k ≤ l.length ∧ (checkPlaces l = placesGo l k (l.drop k))) (fun (k : Nat) => l.length - k) (0) ?_ ?_ ?_ ?_
    · refine ⟨Nat.zero_le _, ?_⟩
      rw [checkPlaces, if_neg (by omega)]; rfl
    · exact ⟨rfl, trivial⟩
    · exact List.Perm.refl _
    · intro k hinv
      obtain ⟨hk, hg⟩ := hinv
      refine hw_reg ?_
      refine dp rfl (pop_lss rfl rfl) ?_
      refine dn ?_
      refine hw_seq ?_
      refine hw_cond rfl (fun h3 => ?_) (fun h4 => ?_)
      · try simp at h3
        obtain ⟨x, hx⟩ : ∃ x, l[k]? = some x := ⟨_, List.getElem?_eq_getElem h3⟩
        have hdx := drop_cons hx
        rw [hdx] at hg
        refine hw_skip ?_
        refine seqQ_n ?_
        refine hw_seq ?_
        refine hw_block ?_
        refine hw_reg ?_
        refine dp rfl (pop_move rfl) ?_
        refine dp rfl (pop_idx ty28 ty59 rfl rfl rfl (by first | assumption | simp_all)) ?_
        refine dp rfl (pop_loadw ty59 rfl rfl rfl rfl) ?_
        refine de rfl (eop_alloc ty59 rfl fun b4 => ?_)
        refine dp rfl (pop_assign rfl) ?_
        refine de0 (eop_storew ty59 rfl rfl rfl rfl rfl ?_)
        refine dn ?_
        refine hw_ghost (Ghost.fc0 4 rfl) ?_
        refine hw_block ?_
        refine hw_reg ?_
        refine dp rfl (pop_fieldAddr ty59 rfl ty9 (by decide) rfl) ?_
        refine dp rfl (pop_load ty9 rfl rfl rfl) ?_
        refine dp rfl (pop_call ca25 rfl (WeakL.refl _) (c_benchref1_Key (hs x (List.mem_of_getElem? hx)))) ?_
        refine dp rfl (pop_not rfl) ?_
        refine dp rfl (pop_assign rfl) ?_
        refine dn ?_
        refine hw_cond rfl (fun h5 => ?_) (fun h6 => ?_)
        · try simp at h5
          refine hw_reg ?_
          refine dp rfl (pop_assign rfl) ?_
          refine dn ?_
          refine hw_ret ?_
          refine ret_p rfl ?_
          show HVal.int .i64 _ = _
          first | (rw [checkPlaces, if_pos (by omega)]; done) | (rw [hg]; simp_all [placesGo, leS]; done) | (rw [hg]; rfl)
        · try simp at h6
          refine hw_reg ?_
          refine dp rfl (pop_fieldAddr ty59 rfl ty3 (by decide) rfl) ?_
          refine dp rfl (pop_load ty3 rfl rfl rfl) ?_
          refine dp rfl (pop_call ca26 rfl (WeakL.refl _) c_benchref1_in) ?_
          refine dp rfl (pop_not rfl) ?_
          refine dp rfl (pop_assign rfl) ?_
          refine dn ?_
          refine hw_cond rfl (fun h7 => ?_) (fun h8 => ?_)
          · try simp at h7
            refine hw_reg ?_
            refine dp rfl (pop_assign rfl) ?_
            refine dn ?_
            refine hw_ret ?_
            refine ret_p rfl ?_
            show HVal.int .i64 _ = _
            first | (rw [checkPlaces, if_pos (by omega)]; done) | (rw [hg]; simp_all [placesGo, leS]; done) | (rw [hg]; rfl)
          · try simp at h8
            refine hw_draw (fun _ => True) [] mixed ?_
            refine ahp 0 rfl rfl (by kernel_rfl) (by kernel_rfl) (pop_move rfl) ?_
            refine ahp 1 rfl rfl (by kernel_rfl) (by kernel_rfl) (pop_gtr rfl rfl) ?_
            refine ahp 2 rfl rfl (by kernel_rfl) (by kernel_rfl) (pop_move rfl) ?_
            refine ahg 3 rfl rfl (by kernel_rfl) (by kernel_rfl) rfl (fun hc => ⟨_, OpenTo.refl _, pop_fieldAddr ty59 rfl ty9 (by decide) rfl⟩) ?_
            refine ahg 4 rfl rfl (by kernel_rfl) (by kernel_rfl) rfl (fun hc => ⟨_, OpenTo.upd (t := 29) rfl (by first | exact hc | simp_all) (OpenTo.refl _), pop_load ty9 rfl rfl rfl⟩) ?_
            refine ahg 5 rfl rfl (by kernel_rfl) (by kernel_rfl) rfl (fun hc => ⟨_, OpenTo.refl _, pop_move rfl⟩) ?_
            refine ahg 6 rfl rfl (by kernel_rfl) (by kernel_rfl) rfl (fun hc => ⟨_, OpenTo.refl _, pop_move rfl⟩) ?_
            refine ahg 7 rfl rfl (by kernel_rfl) (by kernel_rfl) rfl (fun hc => by have hq := hc; (try simp at hq); exact ⟨_, OpenTo.upd (t := 32) rfl (by first | exact hc | simp_all) (OpenTo.refl _), pop_sub64 rfl rfl (by omega) (by omega)⟩) ?_
            refine ahg 8 rfl rfl (by kernel_rfl) (by kernel_rfl) rfl (fun hc => by have hq := hc; (try simp at hq); exact ⟨_, OpenTo.upd (t := 33) rfl (by first | exact hc | simp_all) (OpenTo.upd (t := 31) rfl (by first | exact hc | simp_all) (OpenTo.refl _)), pop_idx (j := k - 1) (a := l.getD (k - 1) place0) ty28 ty59 rfl rfl (by omega) (getD_some (by omega))⟩) ?_
            refine ahg 9 rfl rfl (by kernel_rfl) (by kernel_rfl) rfl (fun hc => ⟨_, OpenTo.upd (t := 34) rfl (by first | exact hc | simp_all) (OpenTo.refl _), pop_fieldAddr ty59 rfl ty9 (by decide) rfl⟩) ?_
            refine ahg 10 rfl rfl (by kernel_rfl) (by kernel_rfl) rfl (fun hc => ⟨_, OpenTo.upd (t := 35) rfl (by first | exact hc | simp_all) (OpenTo.refl _), pop_load ty9 rfl rfl rfl⟩) ?_
            refine ahg 11 rfl rfl (by kernel_rfl) (by kernel_rfl) rfl (fun hc => ⟨_, OpenTo.upd (t := 36) rfl (by first | exact hc | simp_all) (OpenTo.upd (t := 30) rfl (by first | exact hc | simp_all) (OpenTo.refl _)), pop_leqs rfl rfl⟩) ?_
            refine ahp 12 rfl rfl (by kernel_rfl) (by kernel_rfl) (pop_picko rfl (.inr ⟨_, rfl, fun h => by simp_all⟩) (.inl rfl)) ?_
            refine ahp 13 rfl rfl (by kernel_rfl) (by kernel_rfl) (pop_assign rfl) ?_
            refine ahz (by kernel_rfl) ?_
            refine hw_cond rfl (fun h9 => ?_) (fun h10 => ?_)
            · try simp at h9
              refine hw_reg ?_
              refine dp rfl (pop_assign rfl) ?_
              refine dn ?_
              refine hw_ret ?_
              refine ret_p rfl ?_
              show HVal.int .i64 _ = _
              first | (rw [checkPlaces, if_pos (by omega)]; done) | (rw [hg]; simp_all [placesGo, leS]; done) | (rw [hg]; rfl)
            · try simp at h10
              refine hw_skip ?_
              refine blockQ_n ?_
              refine blockQ_n ?_
              refine seqQ_n ?_
              refine hw_reg1 ?_
              refine dp rfl (pop_add64 rfl rfl (by omega) (by omega)) ?_
              refine dp rfl (pop_move rfl) ?_
              refine dn ?_
              refine ⟨k + 1, ?_, ?_, ⟨rfl, trivial⟩, (by repeat (first | exact keeps_refl | refine keeps_upd rfl ?_ | refine keeps_loop rfl rfl ?_)), List.Perm.refl _⟩
              · refine ⟨by omega, ?_⟩
                rw [hg]; simp_all [placesGo, leS]
              · dsimp only; omega
      · try simp at h4
        have hnk : l.length ≤ k := by omega
        obtain rfl : k = l.length := by omega
        rw [drop_all (Nat.le_refl _)] at hg
        refine hw_exit ?_
        refine seqQ_x ?_
        refine loopQ_x ?_
        refine blockQ_eq ?_
        refine seqQ_n ?_
        refine hw_reg ?_
        refine dp rfl (pop_assign rfl) ?_
        refine dn ?_
        refine hw_ret ?_
        refine ret_p rfl ?_
        show HVal.int .i64 _ = _
        first | (rw [checkPlaces, if_pos (by omega)]; done) | (rw [hg]; simp_all [placesGo, leS]; done) | (rw [hg]; rfl)

/-- benchwarmer/benchref1.BringsFault$1 -/
theorem c_benchref1_BringsFault_1 {y x : Asset}  : ConP Tryz.prog 36 [eAsset y, .vptr (hcells (eAsset x)) 0] (.bool (y.Player == x.Player)) := by
  refine Con.of_body Tryz.func36 rfl Tryz.ntmps36 rfl rfl ?_
  refine hw_reg ?_
  refine dp rfl (pop_box rfl rfl) ?_
  refine dp rfl (pop_assign rfl) ?_
  refine dn ?_
  refine hw_reg ?_
  refine dp rfl (pop_fieldAddr ty32 rfl ty9 (by decide) rfl) ?_
  refine dp rfl (pop_load ty9 rfl rfl rfl) ?_
  refine dp rfl (pop_fieldAddr ty32 rfl ty9 (by decide) rfl) ?_
  refine dp rfl (pop_load ty9 rfl rfl rfl) ?_
  refine dp rfl (pop_eqls rfl rfl) ?_
  refine dp rfl (pop_assign rfl) ?_
  refine dn ?_
  refine hw_ret ?_
  refine ret_p rfl ?_
  rfl

/-- benchwarmer/benchref1.BringsFault -/
theorem c_benchref1_BringsFault {l : List Asset} {x : Asset} (hl : l.length ≤ 1000000) (hs : Sh x.Player ∧ Sh x.Position) : ConP Tryz.prog 13 [eAssets l, eAsset x] (.int .i64 (refBringsE l x)) := by
  refine Con.of_body Tryz.func13 rfl Tryz.ntmps13 rfl rfl ?_
  refine hw_reg ?_
  refine dp rfl (pop_box rfl rfl) ?_
  refine dp rfl (pop_assign rfl) ?_
  refine dn ?_
  refine hw_seq ?_
  refine hw_reg ?_
  refine dp rfl (pop_loadw ty32 rfl rfl rfl rfl) ?_
  refine dp rfl (pop_buildSlice (hs := [_]) ty26 ty32 rfl rfl (by decide) (by decide) rfl) ?_
  refine dp rfl (pop_call ca8 rfl (WeakL.refl _) (c_benchref1_AssetsFault (l := [x]) (by simp) (fun y hy => by simp at hy; subst hy; exact hs))) ?_
  refine dp rfl (pop_assign rfl) ?_
  refine dn ?_
  refine hw_reg ?_
  refine dp rfl (pop_move rfl) ?_
  refine dp rfl (pop_neq rfl rfl) ?_
  refine dn ?_
  refine hw_cond rfl (fun h1 => ?_) (fun h2 => ?_)
  · try simp at h1
    refine hw_reg ?_
    refine dp rfl (pop_move rfl) ?_
    refine dp rfl (pop_assign rfl) ?_
    refine dn ?_
    refine hw_ret ?_
    refine ret_p rfl ?_
    show HVal.int .i64 _ = _
    rw [checkAssets_one] at *
    first | (simp_all [refBringsE]; done) | (rw [refBringsE, if_neg (by simpa using h2), if_neg (by simpa using h4)]; first | (rw [if_pos (by omega)]; done) | (rw [if_neg (by omega)]; done))
  · try simp at h2
    refine hw_skip ?_
    refine seqQ_n ?_
    refine hw_seq ?_
    refine hw_block ?_
    refine hw_reg ?_
    refine dp rfl (pop_move rfl) ?_
    refine dp rfl (pop_makeFunc rfl rfl) ?_
    refine dp rfl (pop_call ca35 rfl (WeakL.refl _) (c_slices_ContainsFunc_api_Asset_api_Asset (p := fun y => y.Player == x.Player) ca36 (fun y => c_benchref1_BringsFault_1) hl)) ?_
    refine dp rfl (pop_assign rfl) ?_
    refine dn ?_
    refine hw_cond rfl (fun h3 => ?_) (fun h4 => ?_)
    · try simp at h3
      refine hw_reg ?_
      refine dp rfl (pop_assign rfl) ?_
      refine dn ?_
      refine hw_ret ?_
      refine ret_p rfl ?_
      show HVal.int .i64 _ = _
      rw [checkAssets_one] at *
      first | (simp_all [refBringsE]; done) | (rw [refBringsE, if_neg (by simpa using h2), if_neg (by simpa using h4)]; first | (rw [if_pos (by omega)]; done) | (rw [if_neg (by omega)]; done))
    · try simp at h4
      refine hw_reg ?_
      refine dp rfl (pop_move rfl) ?_
      refine dp rfl (pop_lenm ty26 rfl) ?_
      refine dp rfl (pop_eql rfl rfl) ?_
      refine dp rfl (pop_assign rfl) ?_
      refine dn ?_
      refine hw_cond rfl (fun h5 => ?_) (fun h6 => ?_)
      · try simp at h5
        refine hw_reg ?_
        refine dp rfl (pop_assign rfl) ?_
        refine dn ?_
        refine hw_ret ?_
        refine ret_p rfl ?_
        show HVal.int .i64 _ = _
        rw [checkAssets_one] at *
        first | (simp_all [refBringsE]; done) | (rw [refBringsE, if_neg (by simpa using h2), if_neg (by simpa using h4)]; first | (rw [if_pos (by omega)]; done) | (rw [if_neg (by omega)]; done))
      · try simp at h6
        refine hw_skip ?_
        refine blockQ_n ?_
        refine seqQ_n ?_
        refine hw_reg ?_
        refine dp rfl (pop_assign rfl) ?_
        refine dn ?_
        refine hw_ret ?_
        refine ret_p rfl ?_
        show HVal.int .i64 _ = _
        rw [checkAssets_one] at *
        first | (simp_all [refBringsE]; done) | (rw [refBringsE, if_neg (by simpa using h2), if_neg (by simpa using h4)]; first | (rw [if_pos (by omega)]; done) | (rw [if_neg (by omega)]; done))

/-- benchwarmer/benchref1.of$1 -/
theorem c_benchref1_of_1 {x : Asset} {pos : Str}  : ConP Tryz.prog 56 [eAsset x, .vptr [.str pos] 0] (.bool (!(x.Position == pos))) := by
  refine Con.of_body Tryz.func56 rfl Tryz.ntmps56 rfl rfl ?_
  refine hw_reg ?_
  refine dp rfl (pop_box rfl rfl) ?_
  refine dp rfl (pop_assign rfl) ?_
  refine dn ?_
  refine hw_reg ?_
  refine dp rfl (pop_fieldAddr ty32 rfl ty9 (by decide) rfl) ?_
  refine dp rfl (pop_load ty9 rfl rfl rfl) ?_
  refine dp rfl (pop_load ty9 rfl rfl rfl) ?_
  refine dp rfl (pop_neqs rfl rfl) ?_
  refine dp rfl (pop_assign rfl) ?_
  refine dn ?_
  refine hw_ret ?_
  refine ret_p rfl ?_
  rfl

/-- benchwarmer/benchref1.of$2 -/
theorem c_benchref1_of_2 {x y : Asset}  : ConP Tryz.prog 58 [eAsset x, eAsset y] (.int .i64 (byVal x y)) := by
  refine Con.of_body Tryz.func58 rfl Tryz.ntmps58 rfl rfl ?_
  refine hw_reg ?_
  refine dp rfl (pop_box rfl rfl) ?_
  refine dp rfl (pop_box rfl rfl) ?_
  refine dp rfl (pop_assign rfl) ?_
  refine dn ?_
  refine hw_reg ?_
  refine dp rfl (pop_fieldAddr ty32 rfl ty3 (by decide) rfl) ?_
  refine dp rfl (pop_load ty3 rfl rfl rfl) ?_
  refine dp rfl (pop_fieldAddr ty32 rfl ty3 (by decide) rfl) ?_
  refine dp rfl (pop_load ty3 rfl rfl rfl) ?_
  refine dp rfl (pop_call ca42 rfl (WeakL.refl _) c_cmp_Compare_int) ?_
  refine dp rfl (pop_assign rfl) ?_
  refine dn ?_
  refine hw_ret ?_
  refine ret_p rfl ?_
  rfl

/-- benchwarmer/benchref1.of -/
theorem c_benchref1_of {l : List Asset} {pos : Str} (hl : l.length ≤ 12) : ConP Tryz.prog 38 [eAssets l, .str pos] (eAssets (ofR l pos)) := by
  refine Con.of_body Tryz.func38 rfl Tryz.ntmps38 rfl rfl ?_
  refine hw_reg ?_
  refine dp rfl (pop_box rfl rfl) ?_
  refine dp rfl (pop_assign rfl) ?_
  refine dn ?_
  refine hw_reg ?_
  refine dp rfl (pop_move rfl) ?_
  refine de rfl (eop_calla ca33 rfl (WeakL.refl _) (c_slices_Clone_api_Asset_api_Asset (by first | assumption | omega | (simp; omega) | simp_all)) fun v6 => ?_)
  refine dp rfl (pop_makeFunc rfl rfl) ?_
  refine de rfl (eop_callx (i := 0) ca55 rfl (WeakL.refl _) rfl (c_slices_DeleteFunc_api_Asset_api_Asset (l := l) (p := fun x => !(x.Position == pos)) ca56 (fun x => c_benchref1_of_1) (by omega)) ?_)
  rintro _ _ ⟨u8, rfl, rfl⟩
  refine dp rfl (pop_assign rfl) ?_
  refine dn ?_
  refine hw_ghost (Ghost.of_eq (M' := [.arr u8 3 ((atPos l pos).map eAsset)]) (by simp [atPos])) ?_
  refine hw_reg ?_
  refine dp rfl (pop_move rfl) ?_
  refine de rfl (eop_callx (i := 0) ca57 rfl (WeakL.refl _) rfl (c_slices_SortStableFunc_api_Asset_api_Asset (l := atPos l pos) (c := byVal) (caps := []) ca58 (fun x y => c_benchref1_of_2) (by have := atPos_le l pos; omega)) ?_)
  rintro _ _ ⟨rfl, rfl⟩
  refine dn ?_
  refine hw_reg ?_
  refine dp rfl (pop_move rfl) ?_
  refine dp rfl (pop_assign rfl) ?_
  refine dn ?_
  refine hw_ret ?_
  exact ret_fa (M := []) 4 rfl rfl rfl

set_option maxHeartbeats 1000000 in
/-- benchwarmer/benchref1.FieldedOf -/
theorem c_benchref1_FieldedOf {l : List Asset} {p : List HL.Place} (hl : l.length ≤ 12) (hp : p.length ≤ 10) (hm : ∀ x ∈ p, 0 ≤ x.Many) (hv : ∀ x ∈ l, -1000000 ≤ x.Value ∧ x.Value ≤ 1000000) : ConP Tryz.prog 16 [eAssets l, ePlaces p] (.tup [.int .i64 (sumV (fieldedL (ofR l) p)), eSs (namesV (fieldedL (ofR l) p))]) := by
  have hon : ∀ s, (ofR l s).length ≤ 12 := fun s => Nat.le_trans (ofR_len l s) hl
  refine Con.of_body Tryz.func16 rfl Tryz.ntmps16 rfl rfl ?_
  refine hw_reg ?_
  refine dp rfl (pop_assign rfl) ?_
  refine dp rfl (pop_assign rfl) ?_
  refine dn ?_
  refine hw_reg ?_
  refine dp rfl (pop_assign rfl) ?_
  refine dn ?_
  refine hw_reg ?_
  refine dp rfl (pop_assign rfl) ?_
  refine dn ?_
  refine hw_ghost (Ghost.arr_nil 1) ?_
  refine hw_seq ?_
  refine hw_reg ?_
  refine dp rfl (pop_move rfl) ?_
  refine dp rfl (pop_lenm ty28 rfl) ?_
  refine dp rfl (pop_move rfl) ?_
  refine dn ?_
  refine hw_block ?_
  refine hw_loopw2 [6, 7, 9, 10, 12, 15, 16, 17, 18, 19, 20, 21, 22, 23, 24, 25, 26, 27, 28, 29, 30, 31, 32, 33, 34, 35, 36, 37, 38, 39, 40, 41, 42, 43, 44, 45, 46, 47, 48] (fun (i : Nat) (u : Value) => [(15, .int .i64 i), (6, .int .i64 (sumV (fieldedL (ofR l) (p.take i)))), (7, .raw u)]) (fun (i : Nat) (u : Value) => [.arr u 1 (((fieldedL (ofR l) (p.take i)).map (·.Player)).map .str)]) (fun (i : Nat) (u : Value) => i ≤ p.length ∧ (True)) (fun (i : Nat) (u : Value) => p.length - i) (0) (.slice none 0 0) ?_ ?_ ?_ ?_
  · exact ⟨Nat.zero_le _, by simp_all⟩
  · exact ⟨rfl, some_int (by simp [fieldedL, sumV]), rfl, trivial⟩
  · exact perm_eq (by simp [fieldedL])
  · intro i u hinv
    obtain ⟨hi, -⟩ := hinv
    refine hw_reg ?_
    refine dp rfl (pop_lss rfl rfl) ?_
    refine dn ?_
    refine hw_seq ?_
    refine hw_cond rfl (fun h1 => ?_) (fun h2 => ?_)
    · try simp at h1
      obtain ⟨x, hx⟩ : ∃ x, p[i]? = some x := ⟨_, List.getElem?_eq_getElem h1⟩
      have hdx := drop_cons hx
      refine hw_skip ?_
      refine seqQ_n ?_
      refine hw_seq ?_
      refine hw_block ?_
      refine hw_reg ?_
      refine dp rfl (pop_idx ty28 ty59 rfl rfl rfl (by first | assumption | simp_all)) ?_
      refine dp rfl (pop_loadw ty59 rfl rfl rfl rfl) ?_
      refine de rfl (eop_alloc ty59 rfl fun b9 => ?_)
      refine de0 (eop_storew ty59 rfl rfl rfl rfl rfl ?_)
      refine dn ?_
      refine hw_ghost (Ghost.fc0 9 rfl) ?_
      refine hw_reg ?_
      refine dp rfl (pop_move rfl) ?_
      refine dp rfl (pop_fieldAddr ty59 rfl ty9 (by decide) rfl) ?_
      refine dp rfl (pop_load ty9 rfl rfl rfl) ?_
      refine dp rfl (pop_call ca38 rfl (WeakL.refl _) (c_benchref1_of (by first | assumption | omega | (simp; omega) | simp_all))) ?_
      refine dp rfl (pop_assign rfl) ?_
      refine dn ?_
      have hx0 := hm x (List.mem_of_getElem? hx)
      have hon1 := hon x.Position
      obtain ⟨N, hN⟩ : ∃ N : Nat, (if ((ofR l x.Position).length : Int) < x.Many then ((ofR l x.Position).length : Int) else x.Many) = (N : Int) := ⟨_, (Int.toNat_of_nonneg (by split <;> omega)).symm⟩
      have hNle : N ≤ (ofR l x.Position).length := by split at hN <;> omega
      refine hw_reg ?_
      refine dp rfl (pop_move rfl) ?_
      refine dp rfl (pop_fieldAddr ty59 rfl ty3 (by decide) rfl) ?_
      refine dp rfl (pop_load ty3 rfl rfl rfl) ?_
      refine dp rfl (pop_move rfl) ?_
      refine dp rfl (pop_lenm ty26 rfl) ?_
      refine dp rfl (pop_eq (pop_min rfl rfl) (congrArg _ hN)) ?_
      refine dp rfl (pop_slicem (h := N) ty26 ty32 rfl rfl ⟨_, _, rfl, rfl⟩ (by omega) hNle) ?_
      refine dp rfl (pop_lenm ty26 rfl) ?_
      refine dp rfl (pop_move rfl) ?_
      refine dn ?_
      have hCl : ((List.drop 0 (List.take N (ofR l x.Position)))).length ≤ 12 := by simp; omega
      have hCm : ∀ y ∈ (List.drop 0 (List.take N (ofR l x.Position))), y ∈ l := fun y hy => by
        have := List.mem_of_mem_take (List.mem_of_mem_drop hy)
        unfold ofR atPos at this
        exact (List.mem_filter.1 ((isort_mem _).1 this)).1
      generalize hCd : List.drop 0 (List.take N (ofR l x.Position)) = C at *
      refine hw_block ?_
      refine hw_loopw2 [6, 7, 12, 31, 32, 33, 34, 35, 36, 37, 38, 39, 40, 41, 42, 43, 44, 45, 46, 47] (fun (k : Nat) (w : Value) => [(31, .int .i64 k), (6, .int .i64 (sumV ((fieldedL (ofR l) (p.take i)) ++ ((C.take k).filter (fun y => decide (0 < y.Value)))))), (7, .raw w)]) (fun (k : Nat) (w : Value) => [.arr w 1 ((((fieldedL (ofR l) (p.take i)) ++ ((C.take k).filter (fun y => decide (0 < y.Value)))).map (·.Player)).map .str)]) (fun (k : Nat) (w : Value) => k ≤ C.length ∧ (True)) (fun (k : Nat) (w : Value) => C.length - k) (0) (u) ?_ ?_ ?_ ?_
      · exact ⟨Nat.zero_le _, by simp_all⟩
      · exact ⟨rfl, some_int (by simp), rfl, trivial⟩
      · exact perm_eq (by simp)
      · intro k w hinv
        obtain ⟨hk, -⟩ := hinv
        refine hw_reg ?_
        refine dp rfl (pop_lss rfl rfl) ?_
        refine dn ?_
        refine hw_seq ?_
        refine hw_cond rfl (fun h3 => ?_) (fun h4 => ?_)
        · try simp at h3
          obtain ⟨y, hy⟩ : ∃ y, C[k]? = some y := ⟨_, List.getElem?_eq_getElem h3⟩
          have hdy := drop_cons hy
          refine hw_skip ?_
          refine seqQ_n ?_
          refine hw_seq ?_
          refine hw_block ?_
          refine hw_reg ?_
          refine dp rfl (pop_idx ty26 ty32 rfl rfl rfl (by first | assumption | simp_all)) ?_
          refine dp rfl (pop_loadw ty32 rfl rfl rfl rfl) ?_
          refine de rfl (eop_alloc ty32 rfl fun b12 => ?_)
          refine de0 (eop_storew ty32 rfl rfl rfl rfl rfl ?_)
          refine dn ?_
          refine hw_ghost (Ghost.fc0 12 rfl) ?_
          refine hw_reg ?_
          refine dp rfl (pop_fieldAddr ty32 rfl ty3 (by decide) rfl) ?_
          refine dp rfl (pop_load ty3 rfl rfl rfl) ?_
          refine dp rfl (pop_gtr rfl rfl) ?_
          refine dn ?_
          refine hw_cond rfl (fun h5 => ?_) (fun h6 => ?_)
          · try simp at h5
            refine hw_reg ?_
            refine dp rfl (pop_move rfl) ?_
            refine dp rfl (pop_fieldAddr ty32 rfl ty3 (by decide) rfl) ?_
            refine dp rfl (pop_load ty3 rfl rfl rfl) ?_
            have hb1 := field_bd (f := ofR l) (p := p) (i := i) (fun s m y => mem_chosenR) hon hp hv
            have hb2 := pos_bd (k := k) hCm hCl hv
            have hb3 := hv y (hCm y (List.mem_of_getElem? hy))
            have hb4 := sumV_app (fieldedL (ofR l) (p.take i)) ((C.take k).filter (fun y => decide (0 < y.Value)))
            refine dp rfl (pop_add64 rfl rfl (by omega) (by omega)) ?_
            refine dp rfl (pop_assign rfl) ?_
            refine dn ?_
            refine hw_reg1 ?_
            refine dp rfl (pop_move rfl) ?_
            refine dp rfl (pop_fieldAddr ty32 rfl ty9 (by decide) rfl) ?_
            refine dp rfl (pop_load ty9 rfl rfl rfl) ?_
            refine dp rfl (pop_buildSlice (hs := [_]) ty37 ty9 rfl rfl (by decide) (by decide) rfl) ?_
            refine de rfl (eop_append (i := 0) ty37 ty9 rfl rfl rfl rfl rfl (by simp [flat, hcells]) (by simp only [List.length_map, List.length_append, List.length_cons, List.length_nil]; omega) fun v46 => ?_)
            refine dp rfl (pop_assign rfl) ?_
            refine dn ?_
            refine blockQ_n ?_
            refine seqQ_n ?_
            refine hw_reg1 ?_
            refine dp rfl (pop_add64 rfl rfl (by omega) (by omega)) ?_
            refine dp rfl (pop_move rfl) ?_
            refine dn ?_
            exact ⟨k + 1, _, ⟨by omega, trivial⟩, by dsimp only; omega, ⟨rfl, some_int (by rw [pos_snoc hy, if_pos (by simp_all), ← List.append_assoc, sumV_app _ [y]]; simp [sumV]), rfl, trivial⟩, (by repeat (first | exact keeps_refl | refine keeps_upd rfl ?_ | refine keeps_loop rfl rfl ?_)), perm_eq (by dsimp only; rw [pos_snoc hy, if_pos (by simp_all)]; simp)⟩
          · try simp at h6
            refine hw_skip ?_
            refine blockQ_n ?_
            refine seqQ_n ?_
            refine hw_reg1 ?_
            refine dp rfl (pop_add64 rfl rfl (by omega) (by omega)) ?_
            refine dp rfl (pop_move rfl) ?_
            refine dn ?_
            exact ⟨k + 1, _, ⟨by omega, trivial⟩, by dsimp only; omega, ⟨rfl, some_int (by rw [pos_snoc hy, if_neg (by omega)]; simp), rfl, trivial⟩, (by repeat (first | exact keeps_refl | refine keeps_upd rfl ?_ | refine keeps_loop rfl rfl ?_)), perm_eq (by dsimp only; rw [pos_snoc hy, if_neg (by omega)]; simp)⟩
        · try simp at h4
          have hnk : C.length ≤ k := by omega
          obtain rfl : k = C.length := by omega
          refine hw_exit ?_
          refine seqQ_x ?_
          refine loopQ2_x ?_
          refine blockQ_eq ?_
          refine blockQ_n ?_
          refine seqQ_n ?_
          refine hw_reg1 ?_
          refine dp rfl (pop_add64 rfl rfl (by omega) (by omega)) ?_
          refine dp rfl (pop_move rfl) ?_
          refine dn ?_
          exact ⟨i + 1, _, ⟨by omega, trivial⟩, by dsimp only; omega, ⟨rfl, some_int (by rw [fieldedL_snoc _ hx, chosen_eq hN, hCd, List.take_length]), rfl, trivial⟩, (by repeat (first | exact keeps_refl | refine keeps_upd rfl ?_ | refine keeps_loop rfl rfl ?_)), perm_eq (by dsimp only; rw [fieldedL_snoc _ hx, chosen_eq hN, hCd, List.take_length])⟩
    · try simp at h2
      have hni : p.length ≤ i := by omega
      obtain rfl : i = p.length := by omega
      refine hw_exit ?_
      refine seqQ_x ?_
      refine loopQ2_x ?_
      refine blockQ_eq ?_
      refine seqQ_n ?_
      rw [List.take_length]
      refine hw_reg ?_
      refine dp rfl (pop_move rfl) ?_
      refine de rfl (eop_callx (i := 0) ca39 rfl (WeakL.refl _) rfl (c_slices_Sort (l := (fieldedL (ofR l) p).map (·.Player)) (by have hb1 := field_bd (f := ofR l) (p := p) (i := p.length) (fun s m y => mem_chosenR) hon hp hv; rw [List.take_length] at hb1; simp; omega)) ?_)
      rintro _ _ ⟨rfl, rfl⟩
      refine dn ?_
      refine hw_reg ?_
      refine dp rfl (pop_move rfl) ?_
      refine dp rfl (pop_move rfl) ?_
      refine dp rfl (pop_assign rfl) ?_
      refine dp rfl (pop_assign rfl) ?_
      refine dn ?_
      refine hw_ret ?_
      exact ret_fa (M := []) 5 rfl rfl rfl

/-- benchwarmer/benchref1.with$1 -/
theorem c_benchref1_with_1 {x y : Asset}  : ConP Tryz.prog 53 [eAsset x, eAsset y] (.int .i64 (byPlayer x y)) := by
  refine Con.of_body Tryz.func53 rfl Tryz.ntmps53 rfl rfl ?_
  refine hw_reg ?_
  refine dp rfl (pop_box rfl rfl) ?_
  refine dp rfl (pop_box rfl rfl) ?_
  refine dp rfl (pop_assign rfl) ?_
  refine dn ?_
  refine hw_reg ?_
  refine dp rfl (pop_fieldAddr ty32 rfl ty9 (by decide) rfl) ?_
  refine dp rfl (pop_load ty9 rfl rfl rfl) ?_
  refine dp rfl (pop_fieldAddr ty32 rfl ty9 (by decide) rfl) ?_
  refine dp rfl (pop_load ty9 rfl rfl rfl) ?_
  refine dp rfl (pop_call ca54 rfl (WeakL.refl _) c_strings_Compare) ?_
  refine dp rfl (pop_assign rfl) ?_
  refine dn ?_
  refine hw_ret ?_
  refine ret_p rfl ?_
  rfl

/-- benchwarmer/benchref1.with -/
theorem c_benchref1_with {l : List Asset} {x : Asset} (hl : l.length ≤ 11) : ConP Tryz.prog 37 [eAssets l, eAsset x] (eAssets (isort byPlayer (l ++ [x]))) := by
  refine Con.of_body Tryz.func37 rfl Tryz.ntmps37 rfl rfl ?_
  refine hw_reg ?_
  refine dp rfl (pop_box rfl rfl) ?_
  refine dp rfl (pop_assign rfl) ?_
  refine dn ?_
  refine hw_draw (fun _ => True) [] mixed ?_
  refine ahp 0 rfl rfl (by kernel_rfl) (by kernel_rfl) (pop_move rfl) ?_
  refine ahp 2 rfl rfl (by kernel_rfl) (by kernel_rfl) (pop_loadw ty32 rfl rfl rfl rfl) ?_
  refine ahp 3 rfl rfl (by kernel_rfl) (by kernel_rfl) (pop_buildSlice (hs := [_]) ty26 ty32 rfl rfl (by decide) (by decide) rfl) ?_
  refine ahe 1 rfl (by kernel_rfl) ?_
  refine hop_e rfl (eop_calla ca33 rfl (WeakL.refl _) (c_slices_Clone_api_Asset_api_Asset (by first | assumption | omega | (simp; omega) | simp_all)) fun v6 => ?_)
  refine ⟨fun _ => .inl trivial, ?_⟩
  refine ahe 4 rfl (by kernel_rfl) ?_
  refine hop_e rfl (eop_append (i := 0) ty26 ty32 rfl rfl rfl rfl rfl (by simp [flat, hcells]) (by simp; omega) fun v9 => ?_)
  refine ⟨fun _ => .inl trivial, ?_⟩
  refine ahp 5 rfl rfl (by kernel_rfl) (by kernel_rfl) (pop_assign rfl) ?_
  refine ahz (by kernel_rfl) ?_
  refine hw_ghost (Ghost.of_eq (M' := [.arr v9 3 ((l ++ [x]).map eAsset)]) (by simp)) ?_
  refine hw_reg ?_
  refine dp rfl (pop_move rfl) ?_
  refine de rfl (eop_callx (i := 0) ca52 rfl (WeakL.refl _) rfl (c_slices_SortFunc_api_Asset_api_Asset (l := l ++ [x]) (c := byPlayer) (caps := []) ca53 (fun x y => c_benchref1_with_1) (by simp; omega)) ?_)
  rintro _ _ ⟨rfl, rfl⟩
  refine dn ?_
  refine hw_reg ?_
  refine dp rfl (pop_move rfl) ?_
  refine dp rfl (pop_assign rfl) ?_
  refine dn ?_
  refine hw_ret ?_
  exact ret_fa (M := []) 4 rfl rfl rfl

/-- benchwarmer/benchref1.less$1 -/
theorem c_benchref1_less_1 {x : Asset} {who : List Str} (hw : who.length ≤ 1000000) : ConP Tryz.prog 61 [eAsset x, .vptr [eSs who] 0] (.bool (who.contains x.Player)) := by
  refine Con.of_body Tryz.func61 rfl Tryz.ntmps61 rfl rfl ?_
  refine hw_reg ?_
  refine dp rfl (pop_box rfl rfl) ?_
  refine dp rfl (pop_assign rfl) ?_
  refine dn ?_
  refine hw_reg ?_
  refine dp rfl (pop_load ty37 rfl rfl rfl) ?_
  refine dp rfl (pop_fieldAddr ty32 rfl ty9 (by decide) rfl) ?_
  refine dp rfl (pop_load ty9 rfl rfl rfl) ?_
  refine dp rfl (pop_call ca62 rfl (WeakL.refl _) (c_slices_Contains_string_string (by first | assumption | omega | (simp; omega) | simp_all))) ?_
  refine dp rfl (pop_assign rfl) ?_
  refine dn ?_
  refine hw_ret ?_
  refine ret_p rfl ?_
  rfl

/-- benchwarmer/benchref1.less -/
theorem c_benchref1_less {l : List Asset} {who : List Str} (hl : l.length ≤ 1000000) (hw : who.length ≤ 1000000) : ConP Tryz.prog 40 [eAssets l, eSs who] (eAssets (l.filter (fun x => !(who.contains x.Player)))) := by
  refine Con.of_body Tryz.func40 rfl Tryz.ntmps40 rfl rfl ?_
  refine hw_reg ?_
  refine dp rfl (pop_box rfl rfl) ?_
  refine dp rfl (pop_assign rfl) ?_
  refine dn ?_
  refine hw_reg ?_
  refine dp rfl (pop_move rfl) ?_
  refine de rfl (eop_calla ca33 rfl (WeakL.refl _) (c_slices_Clone_api_Asset_api_Asset (by first | assumption | omega | (simp; omega) | simp_all)) fun v6 => ?_)
  refine dp rfl (pop_makeFunc rfl rfl) ?_
  refine de rfl (eop_callx (i := 0) ca55 rfl (WeakL.refl _) rfl (c_slices_DeleteFunc_api_Asset_api_Asset (l := l) (p := fun x => who.contains x.Player) ca61 (fun x => c_benchref1_less_1 hw) hl) ?_)
  rintro _ _ ⟨u8, rfl, rfl⟩
  refine dp rfl (pop_assign rfl) ?_
  refine dn ?_
  refine hw_ret ?_
  exact ret_fa (M := []) 4 rfl rfl rfl

/-- benchwarmer/benchref1.BringsOf -/
theorem c_benchref1_BringsOf {l : List Asset} {p : List HL.Place} {x : Asset} (hl : l.length ≤ 11) (hp : p.length ≤ 10) (hm : ∀ x ∈ p, 0 ≤ x.Many) (hv : ∀ x ∈ l, -1000000 ≤ x.Value ∧ x.Value ≤ 1000000) (hvx : -1000000 ≤ x.Value ∧ x.Value ≤ 1000000) : ConP Tryz.prog 14 [eAssets l, ePlaces p, eAsset x] (.int .i64 (sumV (fieldedL (ofR (isort byPlayer (l ++ [x]))) p) - sumV (fieldedL (ofR l) p))) := by
  have hv1 : ∀ y ∈ isort byPlayer (l ++ [x]), -1000000 ≤ y.Value ∧ y.Value ≤ 1000000 := fun y hy => by
    rcases List.mem_append.1 ((isort_mem _).1 hy) with h | h
    · exact hv y h
    · simp at h; subst h; exact hvx
  have hb1 := field_bd (f := ofR l) (p := p) (i := p.length) (fun s m y => mem_chosenR) (fun s => Nat.le_trans (ofR_len l s) (by omega)) hp hv
  have hb2 := field_bd (f := ofR (isort byPlayer (l ++ [x]))) (p := p) (i := p.length) (fun s m y => mem_chosenR) (fun s => Nat.le_trans (ofR_len _ s) (by rw [isort_len]; simp; omega)) hp hv1
  rw [List.take_length] at hb1 hb2
  refine Con.of_body Tryz.func14 rfl Tryz.ntmps14 rfl rfl ?_
  refine hw_reg ?_
  refine dp rfl (pop_box rfl rfl) ?_
  refine dp rfl (pop_assign rfl) ?_
  refine dn ?_
  refine hw_reg ?_
  refine dp rfl (pop_move rfl) ?_
  refine dp rfl (pop_move rfl) ?_
  refine dp rfl (pop_call ca16 rfl (WeakL.refl _) (c_benchref1_FieldedOf (l := l) (p := p) (by omega) hp hm hv)) ?_
  refine dp rfl (pop_move rfl) ?_
  refine dp rfl (pop_extract rfl rfl) ?_
  refine dp rfl (pop_extract rfl rfl) ?_
  refine dp rfl (pop_assign rfl) ?_
  refine dp rfl (pop_assign rfl) ?_
  refine dn ?_
  refine hw_reg ?_
  refine dp rfl (pop_move rfl) ?_
  refine dp rfl (pop_loadw ty32 rfl rfl rfl rfl) ?_
  refine dp rfl (pop_call ca37 rfl (WeakL.refl _) (c_benchref1_with (by first | assumption | omega | (simp; omega) | simp_all))) ?_
  refine dp rfl (pop_move rfl) ?_
  refine dp rfl (pop_call ca16 rfl (WeakL.refl _) (c_benchref1_FieldedOf (l := isort byPlayer (l ++ [x])) (p := p) (by rw [isort_len]; simp; omega) hp hm hv1)) ?_
  refine dp rfl (pop_move rfl) ?_
  refine dp rfl (pop_extract rfl rfl) ?_
  refine dp rfl (pop_extract rfl rfl) ?_
  refine dp rfl (pop_assign rfl) ?_
  refine dp rfl (pop_assign rfl) ?_
  refine dn ?_
  refine hw_reg ?_
  refine dp rfl (pop_move rfl) ?_
  refine dp rfl (pop_move rfl) ?_
  refine dp rfl (pop_sub64 rfl rfl (by omega) (by omega)) ?_
  refine dp rfl (pop_assign rfl) ?_
  refine dn ?_
  refine hw_ret ?_
  refine ret_p rfl ?_
  rfl

/-- benchwarmer/benchref1.DropOf -/
theorem c_benchref1_DropOf {l : List Asset} {p : List HL.Place} (hl : l.length ≤ 11) (hp : p.length ≤ 10) (hm : ∀ x ∈ p, 0 ≤ x.Many) (hv : ∀ x ∈ l, -1000000 ≤ x.Value ∧ x.Value ≤ 1000000) (hk0 : ∀ y ∈ l, y.Player ≠ []) : ConP Tryz.prog 17 [eAssets l, ePlaces p] (.str (dropName l (dropRun l (dropG l p) l.length))) := by
  refine Con.of_body Tryz.func17 rfl Tryz.ntmps17 rfl rfl ?_
  refine hw_reg ?_
  refine dp rfl (pop_assign rfl) ?_
  refine dn ?_
  refine hw_reg ?_
  refine dp rfl (pop_assign rfl) ?_
  refine dp rfl (pop_assign rfl) ?_
  refine dp rfl (pop_assign rfl) ?_
  refine dn ?_
  refine hw_seq ?_
  refine hw_reg ?_
  refine dp rfl (pop_move rfl) ?_
  refine dp rfl (pop_lenm ty26 rfl) ?_
  refine dp rfl (pop_move rfl) ?_
  refine dn ?_
  refine hw_block ?_
  refine hw_loopw [5, 6, 7, 9, 10, 11, 14, 15, 16, 17, 18, 19, 20, 21, 22, 23, 24, 25, 26, 27, 28, 29, 30, 31, 32, 33, 34, 35, 36, 37, 38, 39, 40, 41, 42, 43, 44, 45, 46, 47] (fun (k : Nat) => [(14, .int .i64 k), (5, .str (dropName l (dropRun l (dropG l p) k))), (6, .int .i64 (left1 (dropRun l (dropG l p) k))), (7, .int .i64 (least1 l (dropRun l (dropG l p) k)))]) (fun (k : Nat) => []) (fun (k : Nat) => k ≤ l.length ∧ (True)) (fun (k : Nat) => l.length - k) (0) ?_ ?_ ?_ ?_
  · exact ⟨Nat.zero_le _, trivial⟩
  · exact ⟨rfl, rfl, rfl, rfl, trivial⟩
  · exact List.Perm.refl _
  · intro k hinv
    obtain ⟨hk, -⟩ := hinv
    refine hw_reg ?_
    refine dp rfl (pop_lss rfl rfl) ?_
    refine dn ?_
    refine hw_seq ?_
    refine hw_cond rfl (fun h1 => ?_) (fun h2 => ?_)
    · try simp at h1
      obtain ⟨x, hx⟩ : ∃ x, l[k]? = some x := ⟨_, List.getElem?_eq_getElem h1⟩
      have hdx := drop_cons hx
      refine hw_skip ?_
      refine seqQ_n ?_
      refine hw_seq ?_
      refine hw_block ?_
      refine hw_reg ?_
      refine dp rfl (pop_idx ty26 ty32 rfl rfl rfl (by first | assumption | simp_all)) ?_
      refine dp rfl (pop_loadw ty32 rfl rfl rfl rfl) ?_
      refine de rfl (eop_alloc ty32 rfl fun b9 => ?_)
      refine de0 (eop_storew ty32 rfl rfl rfl rfl rfl ?_)
      refine dn ?_
      refine hw_ghost (Ghost.fc0 9 rfl) ?_
      refine hw_reg ?_
      refine dp rfl (pop_move rfl) ?_
      refine dp rfl (pop_fieldAddr ty32 rfl ty9 (by decide) rfl) ?_
      refine dp rfl (pop_load ty9 rfl rfl rfl) ?_
      refine dp rfl (pop_buildSlice (hs := [_]) ty37 ty9 rfl rfl (by decide) (by decide) rfl) ?_
      refine dp rfl (pop_call ca40 rfl (WeakL.refl _) (c_benchref1_less (l := l) (who := [x.Player]) (by omega) (by simp))) ?_
      refine dp rfl (pop_move rfl) ?_
      have hgk : dropG l p k = sumV (fieldedL (ofR (l.filter (fun y => !([x.Player].contains y.Player)))) p) := by
        unfold dropG
        rw [getD_of hx]
        congr 3
        apply congrArg (fun q => l.filter q)
        funext y
        rw [Bool.eq_iff_iff]; simp [List.contains_cons]
      refine dp rfl (pop_eq (h' := .tup [.int .i64 (dropG l p k), eSs (namesV (fieldedL (ofR (l.filter (fun y => !([x.Player].contains y.Player)))) p))]) (pop_call ca16 rfl (WeakL.refl _) (c_benchref1_FieldedOf (l := l.filter (fun y => !([x.Player].contains y.Player))) (p := p) (Nat.le_trans (List.length_filter_le _ _) (by omega)) hp hm (fun y hy => hv y (List.mem_filter.1 hy).1))) (by rw [hgk])) ?_
      refine dp rfl (pop_move rfl) ?_
      refine dp rfl (pop_extract rfl rfl) ?_
      refine dp rfl (pop_extract rfl rfl) ?_
      refine dp rfl (pop_assign rfl) ?_
      refine dp rfl (pop_assign rfl) ?_
      refine dn ?_
      refine hw_draw (fun _ => True) [] mixed ?_
      refine ahp 0 rfl rfl (by kernel_rfl) (by kernel_rfl) (pop_move rfl) ?_
      refine ahp 1 rfl rfl (by kernel_rfl) (by kernel_rfl) (pop_eqls rfl rfl) ?_
      refine ahp 2 rfl rfl (by kernel_rfl) (by kernel_rfl) (pop_move rfl) ?_
      refine ahg 3 rfl rfl (by kernel_rfl) (by kernel_rfl) rfl (fun hc => ⟨_, OpenTo.refl _, pop_move rfl⟩) ?_
      refine ahg 4 rfl rfl (by kernel_rfl) (by kernel_rfl) rfl (fun hc => ⟨_, OpenTo.refl _, pop_move rfl⟩) ?_
      refine ahg 5 rfl rfl (by kernel_rfl) (by kernel_rfl) rfl (fun hc => ⟨_, OpenTo.upd (t := 32) rfl (by first | exact hc | simp_all) (OpenTo.upd (t := 31) rfl (by first | exact hc | simp_all) (OpenTo.refl _)), pop_call ca42 rfl (WeakL.refl _) c_cmp_Compare_int⟩) ?_
      refine ahg 6 rfl rfl (by kernel_rfl) (by kernel_rfl) rfl (fun hc => ⟨_, OpenTo.refl _, pop_fieldAddr ty32 rfl ty3 (by decide) rfl⟩) ?_
      refine ahg 7 rfl rfl (by kernel_rfl) (by kernel_rfl) rfl (fun hc => ⟨_, OpenTo.upd (t := 34) rfl (by first | exact hc | simp_all) (OpenTo.refl _), pop_load ty3 rfl rfl rfl⟩) ?_
      refine ahg 8 rfl rfl (by kernel_rfl) (by kernel_rfl) rfl (fun hc => ⟨_, OpenTo.refl _, pop_move rfl⟩) ?_
      refine ahg 9 rfl rfl (by kernel_rfl) (by kernel_rfl) rfl (fun hc => ⟨_, OpenTo.upd (t := 36) rfl (by first | exact hc | simp_all) (OpenTo.upd (t := 35) rfl (by first | exact hc | simp_all) (OpenTo.refl _)), pop_call ca42 rfl (WeakL.refl _) c_cmp_Compare_int⟩) ?_
      refine ahg 10 rfl rfl (by kernel_rfl) (by kernel_rfl) rfl (fun hc => ⟨_, OpenTo.upd (t := 37) rfl (by first | exact hc | simp_all) (OpenTo.upd (t := 33) rfl (by first | exact hc | simp_all) (OpenTo.refl _)), pop_buildSlice (hs := [_, _]) ty22 ty3 rfl rfl (by decide) (by decide) rfl⟩) ?_
      refine ahg 11 rfl rfl (by kernel_rfl) (by kernel_rfl) rfl (fun hc => ⟨_, OpenTo.upd (t := 38) rfl (by first | exact hc | simp_all) (OpenTo.refl _), pop_call ca41 rfl (WeakL.refl _) (c_cmp_Or_int (l := [_, _]) (by simp))⟩) ?_
      refine ahg 12 rfl rfl (by kernel_rfl) (by kernel_rfl) rfl (fun hc => ⟨_, OpenTo.upd (t := 39) rfl (by first | exact hc | simp_all) (OpenTo.refl _), pop_leq rfl rfl⟩) ?_
      refine ahp 13 rfl rfl (by kernel_rfl) (by kernel_rfl) (pop_picko rfl (.inl rfl) (.inr ⟨_, rfl, fun h => by simp_all⟩)) ?_
      refine ahz (by kernel_rfl) ?_
      refine hw_cond rfl (fun h3 => ?_) (fun h4 => ?_)
      · try simp at h3
        refine hw_draw1 (fun _ => True) [] mixed ?_
        refine ahp 0 rfl rfl (by kernel_rfl) (by kernel_rfl) (pop_fieldAddr ty32 rfl ty9 (by decide) rfl) ?_
        refine ahp 1 rfl rfl (by kernel_rfl) (by kernel_rfl) (pop_load ty9 rfl rfl rfl) ?_
        refine ahp 2 rfl rfl (by kernel_rfl) (by kernel_rfl) (pop_move rfl) ?_
        refine ahp 3 rfl rfl (by kernel_rfl) (by kernel_rfl) (pop_fieldAddr ty32 rfl ty3 (by decide) rfl) ?_
        refine ahp 4 rfl rfl (by kernel_rfl) (by kernel_rfl) (pop_load ty3 rfl rfl rfl) ?_
        refine ahp 5 rfl rfl (by kernel_rfl) (by kernel_rfl) (pop_assign rfl) ?_
        refine ahp 6 rfl rfl (by kernel_rfl) (by kernel_rfl) (pop_assign rfl) ?_
        refine ahp 7 rfl rfl (by kernel_rfl) (by kernel_rfl) (pop_assign rfl) ?_
        refine ahz (by kernel_rfl) ?_
        refine blockQ_n ?_
        refine seqQ_n ?_
        refine hw_reg1 ?_
        refine dp rfl (pop_add64 rfl rfl (by omega) (by omega)) ?_
        refine dp rfl (pop_move rfl) ?_
        refine dn ?_
        have hst := drop_yesR hx h3 hk0
        exact ⟨k + 1, ⟨by omega, trivial⟩, by dsimp only; omega, ⟨rfl, by rw [hst]; simp only [dropName, getD_of hx]; rfl, some_int (by rw [hst]; rfl), some_int (by rw [hst]; simp only [least1, getD_of hx]), trivial⟩, (by repeat (first | exact keeps_refl | refine keeps_upd rfl ?_ | refine keeps_loop rfl rfl ?_)), List.Perm.refl _⟩
      · try simp at h4
        refine hw_skip ?_
        refine blockQ_n ?_
        refine seqQ_n ?_
        refine hw_reg1 ?_
        refine dp rfl (pop_add64 rfl rfl (by omega) (by omega)) ?_
        refine dp rfl (pop_move rfl) ?_
        refine dn ?_
        have hst := drop_noR hx h4.1 (by omega)
        exact ⟨k + 1, ⟨by omega, trivial⟩, by dsimp only; omega, ⟨rfl, by rw [hst]; rfl, some_int (by rw [hst]), some_int (by rw [hst]), trivial⟩, (by repeat (first | exact keeps_refl | refine keeps_upd rfl ?_ | refine keeps_loop rfl rfl ?_)), List.Perm.refl _⟩
    · try simp at h2
      have hnk : l.length ≤ k := by omega
      obtain rfl : k = l.length := by omega
      refine hw_exit ?_
      refine seqQ_x ?_
      refine loopQ_x ?_
      refine blockQ_eq ?_
      refine seqQ_n ?_
      refine hw_reg ?_
      refine dp rfl (pop_move rfl) ?_
      refine dp rfl (pop_assign rfl) ?_
      refine dn ?_
      refine hw_ret ?_
      refine ret_p rfl ?_
      rfl
end Go.Proofs.YtfeimpgcpjoilaaGreatDoor
