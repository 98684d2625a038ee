/- Part 4 of the proof: a program logic, contracts of functions and plain facts; no conditions. -/
import Derived.Test.YtkamelfigfbfiaaGreatDoorPLinesMended3
import Derived.Shelf.Slices.CompactI
import Derived.Shelf.Slices.In.SortNone
import Derived.Shelf.Sort.Plain
set_option linter.unusedVariables false
set_option linter.unusedSimpArgs false
section
namespace Go.Proofs.YtkamelfigfbfiaaGreatDoor
open Go.HL
set_option maxRecDepth 100000
set_option linter.unusedVariables false
set_option linter.unusedSimpArgs false
theorem eq131 [Tracks] : EqOk Tryz.prog 131 := ⟨by kernel_rfl, by kernel_rfl, by kernel_rfl⟩
theorem ok129 [Tracks] : KeyOk Tryz.prog 129 ePlc := keyOk_struct (cs := fun x : Plc => hcells (ePlc x)) ty129 eq129 (fun x y => ⟨rfl, ⟨_, _, _, _, ty9, rfl⟩, rfl, ⟨_, _, _, _, ty3, rfl⟩, trivial⟩)
 (fun x y => by obtain ⟨a, b⟩ := x; obtain ⟨c, d⟩ := y; show (_ && (_ && true)) = _; rw [Bool.eq_iff_iff]; simp [eqH, Prod.mk.injEq]) (fun x => rfl)
theorem ok131 [Tracks] : KeyOk Tryz.prog 131 eCnt := keyOk_structM (cs := fun x : Cnt => hcells (eCnt x)) ty131 eq131
 (fun x y => ⟨rfl, .inl ⟨_, _, _, _, ty129, eq129, Nat.le_of_ble_eq_true rfl, Nat.le_of_ble_eq_true rfl, ⟨rfl, ⟨_, _, _, _, ty9, rfl⟩, rfl, ⟨_, _, _, _, ty3, rfl⟩, trivial⟩, rfl, .inr ⟨_, _, _, _, _, _, _, _, rfl, rfl, ty9, rfl, rfl, rfl⟩⟩⟩)
 (fun x y => by obtain ⟨a, b, e⟩ := x; obtain ⟨c, d, f⟩ := y; show (_ && (_ && (_ && true))) = _; rw [Bool.eq_iff_iff]; simp [eqH, Prod.mk.injEq]) (fun x => rfl)

/-- slices.SortFunc -/
theorem c_sort_Line [Tracks] {c : LineS → LineS → Int} (hO : Go.Sort.SWO (Go.Proofs.ltOf c)) {g : FuncId} (hg : Callable Tryz.prog g) {cap : List HVal} (hc : ∀ x y, @ConP trackOn Tryz.prog g (eLine x :: eLine y :: cap) (.int .i64 (c x y))) {l : List LineS} (hl : l.length ≤ 1000000) {v : Value} :
 Con Tryz.prog 97 [.raw v, .fn (.func g) [] cap] [.arr v 3 (l.map eLine)] fun x M' => ∃ l' : List LineS, x = .tup [] ∧ l'.Perm l ∧ l'.Pairwise (fun a b => ¬ c b a < 0) ∧ M' = [.arr v 3 (l'.map eLine)] :=
 con_sortf (e := eLine) Tryz.g97 (Tryz.isAgg63) (Tryz.sizeOf63) (fun _ => rfl) (fun _ => rfl) (fun _ => rfl) hO hg hc hl

/-- slices.SortFunc -/
theorem c_sort_Turned [Tracks] {c : TurnedS → TurnedS → Int} (hO : Go.Sort.SWO (Go.Proofs.ltOf c)) {g : FuncId} (hg : Callable Tryz.prog g) {cap : List HVal} (hc : ∀ x y, @ConP trackOn Tryz.prog g (eTurned x :: eTurned y :: cap) (.int .i64 (c x y))) {l : List TurnedS} (hl : l.length ≤ 1000000) {v : Value} :
 Con Tryz.prog 100 [.raw v, .fn (.func g) [] cap] [.arr v 5 (l.map eTurned)] fun x M' => ∃ l' : List TurnedS, x = .tup [] ∧ l'.Perm l ∧ l'.Pairwise (fun a b => ¬ c b a < 0) ∧ M' = [.arr v 5 (l'.map eTurned)] :=
 con_sortf (e := eTurned) Tryz.g100 (Tryz.isAgg53) (Tryz.sizeOf53) (fun _ => rfl) (fun _ => rfl) (fun _ => rfl) hO hg hc hl

/-- slices.IndexFunc[[]benchwarmer/api.Stat,benchwarmer/api.Stat] -/
theorem c_slices_IndexFunc_api_Stat_api_Stat [Tracks] {l : List StatS} {fid : FuncId} {caps : List HVal} {p : StatS → Bool} (hca : Callable Tryz.prog fid) (hp : ∀ x, ConP Tryz.prog fid ([eStat x] ++ caps) (.bool (p x))) (hl : l.length ≤ 1000000) : ConP Tryz.prog 174 [.slice 2 (l.map eStat), .fn (.func fid) [] caps] (.int .i64 (idxF p l 0)) := by
 refine Con.of_body Tryz.func174 rfl Tryz.ntmps174 rfl rfl ?_
 refine hw_reg ?_
 refine dp rfl (pop_assign rfl) ?_
 refine dn ?_
 refine hw_seq ?_
 refine hw_reg ?_
 refine dp rfl (pop_move rfl) ?_
 refine dp rfl (pop_lenm ty61 rfl) ?_
 refine dp rfl (pop_move rfl) ?_
 refine dn ?_
 refine hw_block ?_
 refine hw_loopw [4, 5, 8, 9, 10, 11, 12, 13, 14, 15, 16, 17, 18] (fun (k : Nat) => [(8, .int .i64 k)]) (fun (k : Nat) => []) (fun (k : Nat) => k ≤ l.length ∧ (idxF p l 0 = idxF p (l.drop k) k)) (fun (k : Nat) => l.length - k) (0) ?_ ?_ ?_ ?_
 ·exact ⟨Nat.zero_le _, rfl⟩
 ·exact ⟨rfl, trivial⟩
 ·exact List.Perm.refl _
 ·intro k hinv
  obtain ⟨hk, hg⟩ := hinv
  refine hw_reg ?_
  refine dp rfl (pop_lss rfl rfl) ?_
  refine dn ?_
  refine hw_seq ?_
  refine hw_cond rfl (fun h1 => ?_) (fun h2 => ?_)
  ·try simp at h1
   obtain ⟨x, hx⟩ : ∃ x, l[k]? = some x := ⟨_, List.getElem?_eq_getElem h1⟩
   have hdx := drop_cons hx
   rw [hdx] at hg
   refine hw_skip ?_
   refine seqQ_n ?_
   refine hw_seq ?_
   refine hw_block ?_
   refine hw_reg ?_
   refine dp rfl (pop_move rfl) ?_
   refine dp rfl (pop_assign rfl) ?_
   refine dn ?_
   refine hw_reg ?_
   refine dp rfl (pop_move rfl) ?_
   refine dp rfl (pop_move rfl) ?_
   refine dp rfl (pop_move rfl) ?_
   refine dp rfl (pop_idx ty61 ty121 rfl rfl rfl (by first | assumption | simp_all)) ?_
   refine dp rfl (pop_loadw ty121 rfl rfl rfl rfl) ?_
   refine dp rfl (pop_callv hca rfl rfl (WeakL.refl _) (hp _)) ?_
   refine dn ?_
   refine hw_cond rfl (fun h3 => ?_) (fun h4 => ?_)
   ·try simp at h3
    refine hw_reg ?_
    refine dp rfl (pop_move rfl) ?_
    refine dp rfl (pop_assign rfl) ?_
    refine dn ?_
    refine hw_ret ?_
    refine ret_p rfl ?_
    show HVal.int .i64 _ = _
    first | (rw [hg]; rfl) | (rw [hg]; simp_all [idxF])
   ·try simp at h4
    refine hw_skip ?_
    refine blockQ_n ?_
    refine seqQ_n ?_
    refine hw_reg1 ?_
    refine dp rfl (pop_add64 rfl rfl (by omega) (by omega)) ?_
    refine dp rfl (pop_move rfl) ?_
    refine dn ?_
    refine ⟨k + 1, ?_, ?_, ⟨rfl, trivial⟩, (by repeat (first | exact keeps_refl | refine keeps_upd rfl ?_ | refine keeps_loop rfl rfl ?_)), List.Perm.refl _⟩
    ·refine ⟨by omega, ?_⟩
     rw [hg, idxF, if_neg (by simp_all)]; rfl
    ·dsimp only; omega
  ·try simp at h2
   have hnk : l.length ≤ k := by omega
   obtain rfl : k = l.length := by omega
   rw [drop_all (Nat.le_refl _)] at hg
   refine hw_exit ?_
   refine seqQ_x ?_
   refine loopQ_x ?_
   refine blockQ_eq ?_
   refine seqQ_n ?_
   refine hw_reg ?_
   refine dp rfl (pop_assign rfl) ?_
   refine dn ?_
   refine hw_ret ?_
   refine ret_p rfl ?_
   show HVal.int .i64 _ = _
   first | (rw [hg]; rfl) | (rw [hg]; simp_all [idxF])

/-- slices.Clone[[]benchwarmer/api.Stat,benchwarmer/api.Stat] -/
theorem c_slices_Clone_api_Stat_api_Stat [Tracks] {l : List StatS} (hl : l.length ≤ 1000000) : ConA Tryz.prog 129 [.slice 2 (l.map eStat)] 2 (l.map eStat) := by
 refine Con.of_body Tryz.func129 rfl Tryz.ntmps129 rfl rfl ?_
 refine hw_reg ?_
 refine dp rfl (pop_assign rfl) ?_
 refine dn ?_
 refine hw_seq ?_
 refine hw_reg ?_
 refine dp rfl (pop_move rfl) ?_
 refine de rfl (eop_eqnil ty61 rfl rfl fun b4 hb4 => ?_)
 refine dn ?_
 refine hw_cond rfl (fun h1 => ?_) (fun h2 => ?_)
 ·try simp at h1
  refine hw_reg ?_
  refine dp rfl (pop_assign rfl) ?_
  refine dn ?_
  refine hw_ret ?_
  first | exact ret_a rfl rfl | exact ret_g (Ghost.arr_nil 2) rfl ⟨_, rfl, by simp_all⟩
 ·try simp at h2
  refine hw_skip ?_
  refine seqQ_n ?_
  refine hw_reg ?_
  refine de rfl (eop_mk0 ty61 ty121 fun v5 => ?_)
  refine dp rfl (pop_move rfl) ?_
  refine de rfl (eop_append (i := 0) ty61 ty121 rfl rfl rfl rfl rfl (by simp [flat, hcells]) (by first | omega | (simp; omega)) fun v7 => ?_)
  refine dp rfl (pop_assign rfl) ?_
  refine dn ?_
  refine hw_ret ?_
  first | exact ret_a rfl rfl | exact ret_g (Ghost.arr_nil 2) rfl ⟨_, rfl, by simp_all⟩

/-- slices.DeleteFunc[[]benchwarmer/api.Stat,benchwarmer/api.Stat] -/
theorem c_slices_DeleteFunc_api_Stat_api_Stat [Tracks] {l : List StatS} {fid : FuncId} {caps : List HVal} {p : StatS → Bool} {v : Value} (hca : Callable Tryz.prog fid) (hp : ∀ x, ConP Tryz.prog fid ([eStat x] ++ caps) (.bool (p x))) (hl : l.length ≤ 1000000) : Con Tryz.prog 130 [.raw v, .fn (.func fid) [] caps] [.arr v 2 (l.map eStat)] (fun x M' => ∃ u, x = .raw u ∧ M' = [.arr u 2 ((l.filter (fun x => !p x)).map eStat)]) := by
 refine Con.of_body Tryz.func130 rfl Tryz.ntmps130 rfl rfl ?_
 refine hw_reg ?_
 refine dp rfl (pop_assign rfl) ?_
 refine dn ?_
 refine hw_reg ?_
 refine dp rfl (pop_move rfl) ?_
 refine dp rfl (pop_move rfl) ?_
 refine de rfl (eop_callb (hs' := [.slice 2 (l.map eStat), .fn (.func fid) [] caps]) ca174 rfl ⟨.arr (i := 0) rfl, .weak (Weak.refl _), trivial⟩ (c_slices_IndexFunc_api_Stat_api_Stat (p := p) hca hp hl) rfl ?_)
 refine dp rfl (pop_assign rfl) ?_
 refine dn ?_
 refine hw_seq ?_
 refine hw_reg ?_
 refine dp rfl (pop_move rfl) ?_
 refine dp rfl (pop_eql rfl rfl) ?_
 refine dn ?_
 refine hw_cond rfl (fun h1 => ?_) (fun h2 => ?_)
 ·try simp at h1
  refine hw_reg ?_
  refine dp rfl (pop_move rfl) ?_
  refine dp rfl (pop_assign rfl) ?_
  refine dn ?_
  refine hw_ret ?_
  first
  | (refine ret_q rfl ⟨_, rfl, ?_⟩
     rw [idxF_none p l 0 (by omega) h1]
     done)
  | (refine ret_q rfl ⟨_, rfl, ?_⟩
     rw [List.take_length, ← List.map_take, hend]; rfl)
 ·try simp at h2
  refine hw_skip ?_
  refine seqQ_n ?_
  refine hw_seq ?_
  obtain ⟨i0, hi0, hil, ⟨x0, hx0, hp0⟩, hb0⟩ := idxF_found p l 0 (by omega) h2
  rw [Int.zero_add] at hi0
  obtain ⟨hD0, hn0⟩ := DelInv.start (p := p) hil hx0 hp0 hb0
  refine hw_arrc (i := 0) rfl (fun h0 he => ?_) (fun b off cap hv hcap => ?_)
  ·exfalso; have := congrArg List.length he; simp at this; subst this; simp at hil
  rw [List.length_map] at hv hcap
  subst hv
  refine hw_reg ?_
  refine dp rfl (pop_move rfl) ?_
  refine dp rfl (pop_eq (pop_add64 rfl rfl (by rw [hi0]; omega) (by rw [hi0]; omega)) (congrArg _ (by rw [hi0]))) ?_
  refine dp rfl (pop_assign rfl) ?_
  refine dn ?_
  refine hw_block ?_
  refine hw_loopw2 [5, 6, 7, 16, 17, 18, 19, 20, 21, 22, 23, 24, 25, 26, 27, 28, 29, 30, 31, 32, 33, 34, 35] (fun (j : Nat) (D : List StatS) => [(6, .int .i64 (j : Int)), (5, .int .i64 (((l.take j).filter (fun x => !p x)).length : Int))]) (fun (j : Nat) (D : List StatS) => [.arr (.slice (some ⟨b, off, none⟩) l.length cap) 2 (D.map eStat)]) (fun (j : Nat) (D : List StatS) => DelInv p l j D) (fun (j : Nat) (D : List StatS) => l.length - j) (i0 + 1) (l) ?_ ?_ ?_ ?_
  ·exact hD0
  ·exact ⟨rfl, some_int (by rw [hn0, hi0]), trivial⟩
  ·exact List.Perm.refl _
  ·intro j D hD
   have hlt0 := hD.lt
   have hle0 := hD.len
   refine hw_seq ?_
   refine hw_reg ?_
   refine dp rfl (pop_move rfl) ?_
   refine dp rfl (pop_move rfl) ?_
   first
   | refine de rfl (eop_lenm (i := 0) ty61 rfl rfl ?_)
   | refine de rfl (eop_lenm (i := 1) ty61 rfl rfl ?_)
   | refine de rfl (eop_lenm (i := 2) ty61 rfl rfl ?_)
   | refine de rfl (eop_lenm (i := 3) ty61 rfl rfl ?_)
   refine dp rfl (pop_lss rfl rfl) ?_
   refine dn ?_
   refine hw_cond rfl (fun h3 => ?_) (fun h4 => ?_)
   ·try simp at h3
    obtain ⟨x, hx⟩ : ∃ x, l[j]? = some x := ⟨_, List.getElem?_eq_getElem (by omega)⟩
    refine hw_skip ?_
    refine seqQ_n ?_
    refine hw_seq ?_
    refine hw_block ?_
    refine hw_reg ?_
    refine dp rfl (pop_move rfl) ?_
    refine dp rfl (pop_move rfl) ?_
    refine dp rfl (pop_idxraw (j := j) ty61 ty121 rfl rfl rfl (by omega)) ?_
    refine de rfl (eop_load_elw (i := 0) (j := j) ty121 rfl rfl rfl (hD.get hx) rfl rfl rfl ?_)
    refine de rfl (eop_alloc ty121 rfl fun b7 => ?_)
    refine de0 (eop_storew ty121 rfl rfl rfl rfl rfl ?_)
    refine dn ?_
    refine hw_ghost (Ghost.fc0 7 rfl) ?_
    refine hw_reg ?_
    refine dp rfl (pop_move rfl) ?_
    refine dp rfl (pop_loadw ty121 rfl rfl rfl rfl) ?_
    refine dp rfl (pop_callv hca rfl rfl (WeakL.refl _) (hp _)) ?_
    refine dp rfl (pop_not rfl) ?_
    refine dn ?_
    refine hw_cond rfl (fun h5 => ?_) (fun h6 => ?_)
    ·try simp at h5
     refine hw_reg ?_
     refine dp rfl (pop_move rfl) ?_
     refine dp rfl (pop_move rfl) ?_
     refine dp rfl (pop_loadw ty121 rfl rfl rfl rfl) ?_
     refine dp rfl (pop_idxraw (j := ((l.take j).filter (fun x => !p x)).length) ty61 ty121 rfl rfl rfl (by have := hD.lt; omega)) ?_
     refine de0 (eop_store_elw (i := 0) (j := ((l.take j).filter (fun x => !p x)).length) (y := D[((l.take j).filter (fun x => !p x)).length]'(by have := hD.lt; have := hD.len; omega)) (y' := x) ty121 rfl rfl rfl rfl (List.getElem?_eq_getElem _) rfl rfl rfl ?_)
     refine dn ?_
     refine hw_reg1 ?_
     refine dp rfl (pop_move rfl) ?_
     refine dp rfl (pop_add64 rfl rfl (by omega) (by have := hD.lt; omega)) ?_
     refine dp rfl (pop_assign rfl) ?_
     refine dn ?_
     refine blockQ_n ?_
     refine seqQ_n ?_
     refine hw_reg1 ?_
     refine dp rfl (pop_move rfl) ?_
     refine dp rfl (pop_add64 rfl rfl (by omega) (by omega)) ?_
     refine dp rfl (pop_assign rfl) ?_
     refine dn ?_
     first
     | exact ⟨j + 1, _, (hD.keep hx (by simp_all)).1, by dsimp only; omega, ⟨rfl, some_int (by rw [(hD.keep hx (by simp_all)).2]; rfl), trivial⟩, (by repeat (first | exact keeps_refl | refine keeps_upd rfl ?_ | refine keeps_loop rfl rfl ?_)), List.Perm.refl _⟩
     | exact ⟨j + 1, _, (hD.skip hx (by simp_all)).1, by dsimp only; omega, ⟨rfl, some_int (by rw [(hD.skip hx (by simp_all)).2]), trivial⟩, (by repeat (first | exact keeps_refl | refine keeps_upd rfl ?_ | refine keeps_loop rfl rfl ?_)), List.Perm.refl _⟩
    ·try simp at h6
     refine hw_skip ?_
     refine blockQ_n ?_
     refine seqQ_n ?_
     refine hw_reg1 ?_
     refine dp rfl (pop_move rfl) ?_
     refine dp rfl (pop_add64 rfl rfl (by omega) (by omega)) ?_
     refine dp rfl (pop_assign rfl) ?_
     refine dn ?_
     first
     | exact ⟨j + 1, _, (hD.keep hx (by simp_all)).1, by dsimp only; omega, ⟨rfl, some_int (by rw [(hD.keep hx (by simp_all)).2]; rfl), trivial⟩, (by repeat (first | exact keeps_refl | refine keeps_upd rfl ?_ | refine keeps_loop rfl rfl ?_)), List.Perm.refl _⟩
     | exact ⟨j + 1, _, (hD.skip hx (by simp_all)).1, by dsimp only; omega, ⟨rfl, some_int (by rw [(hD.skip hx (by simp_all)).2]), trivial⟩, (by repeat (first | exact keeps_refl | refine keeps_upd rfl ?_ | refine keeps_loop rfl rfl ?_)), List.Perm.refl _⟩
   ·try simp at h4
    obtain rfl : j = l.length := by have := hD.jle; omega
    have hend := hD.done
    refine hw_exit ?_
    refine seqQ_x ?_
    refine loopQ2_x ?_
    refine blockQ_eq ?_
    refine seqQ_n ?_
    refine hw_reg ?_
    refine dp rfl (pop_move rfl) ?_
    refine dp rfl (pop_move rfl) ?_
    refine dp rfl (pop_slraw (l := ((l.take l.length).filter (fun x => !p x)).length) ty61 ty121 rfl ⟨_, _, rfl, rfl⟩ rfl (by omega) (by omega) hcap) ?_
    refine de0 (eop_clear_at (i := 0) (m := ((l.take l.length).filter (fun x => !p x)).length) (((l.take l.length).filter (fun x => !p x)).length) ty61 ty121 rfl rfl rfl (slOff_or (by omega) hcap) rfl (by omega) (Nat.le_refl _) (by rw [List.length_map, hD.len]; omega) ?_)
    refine dn ?_
    refine hw_reg ?_
    refine dp rfl (pop_move rfl) ?_
    refine dp rfl (pop_move rfl) ?_
    refine dp rfl (pop_slraw0 (h := ((l.take l.length).filter (fun x => !p x)).length) ty61 ty121 rfl ⟨_, _, rfl, rfl⟩ (by omega)) ?_
    refine dp rfl (pop_assign rfl) ?_
    refine dn ?_
    refine hw_ret ?_
    first
    | (refine ret_q rfl ⟨_, rfl, ?_⟩
       rw [idxF_none p l 0 (by omega) h1]
       done)
    | (refine ret_q rfl ⟨_, rfl, ?_⟩
       rw [List.take_length, ← List.map_take, hend]; rfl)

/-- benchwarmer/play.byVersion -/
theorem c_play_byVersion [Tracks] {a b : MendS}  : ConP Tryz.prog 85 [eMend a, eMend b] (.int .i64 (byVer a b)) := by
 refine Con.of_body Tryz.func85 rfl Tryz.ntmps85 rfl rfl ?_
 refine hw_reg ?_
 refine dp rfl (pop_box rfl rfl) ?_
 refine dp rfl (pop_box rfl rfl) ?_
 refine dp rfl (pop_assign rfl) ?_
 refine dn ?_
 refine hw_draw (fun _ => True) [] mixed ?_
 refine ahp 0 rfl rfl (by kernel_rfl) (by kernel_rfl) (pop_fieldAddr ty69 rfl ty9 (by decide) rfl) ?_
 refine ahp 1 rfl rfl (by kernel_rfl) (by kernel_rfl) (pop_load ty9 rfl rfl rfl) ?_
 refine ahp 2 rfl rfl (by kernel_rfl) (by kernel_rfl) (pop_fieldAddr ty69 rfl ty9 (by decide) rfl) ?_
 refine ahp 3 rfl rfl (by kernel_rfl) (by kernel_rfl) (pop_load ty9 rfl rfl rfl) ?_
 refine ahp 4 rfl rfl (by kernel_rfl) (by kernel_rfl) (pop_call ca103 rfl (WeakL.refl _) c_strings_Compare) ?_
 refine ahp 5 rfl rfl (by kernel_rfl) (by kernel_rfl) (pop_fieldAddr ty69 rfl ty3 (by decide) rfl) ?_
 refine ahp 6 rfl rfl (by kernel_rfl) (by kernel_rfl) (pop_load ty3 rfl rfl rfl) ?_
 refine ahp 7 rfl rfl (by kernel_rfl) (by kernel_rfl) (pop_fieldAddr ty69 rfl ty3 (by decide) rfl) ?_
 refine ahp 8 rfl rfl (by kernel_rfl) (by kernel_rfl) (pop_load ty3 rfl rfl rfl) ?_
 refine ahp 9 rfl rfl (by kernel_rfl) (by kernel_rfl) (pop_call ca104 rfl (WeakL.refl _) c_cmp_Compare_int) ?_
 refine ahp 10 rfl rfl (by kernel_rfl) (by kernel_rfl) (pop_fieldAddr ty69 rfl ty9 (by decide) rfl) ?_
 refine ahp 11 rfl rfl (by kernel_rfl) (by kernel_rfl) (pop_load ty9 rfl rfl rfl) ?_
 refine ahp 12 rfl rfl (by kernel_rfl) (by kernel_rfl) (pop_fieldAddr ty69 rfl ty9 (by decide) rfl) ?_
 refine ahp 13 rfl rfl (by kernel_rfl) (by kernel_rfl) (pop_load ty9 rfl rfl rfl) ?_
 refine ahp 14 rfl rfl (by kernel_rfl) (by kernel_rfl) (pop_call ca103 rfl (WeakL.refl _) c_strings_Compare) ?_
 refine ahp 15 rfl rfl (by kernel_rfl) (by kernel_rfl) (pop_fieldAddr ty69 rfl ty3 (by decide) rfl) ?_
 refine ahp 16 rfl rfl (by kernel_rfl) (by kernel_rfl) (pop_load ty3 rfl rfl rfl) ?_
 refine ahp 17 rfl rfl (by kernel_rfl) (by kernel_rfl) (pop_fieldAddr ty69 rfl ty3 (by decide) rfl) ?_
 refine ahp 18 rfl rfl (by kernel_rfl) (by kernel_rfl) (pop_load ty3 rfl rfl rfl) ?_
 refine ahp 19 rfl rfl (by kernel_rfl) (by kernel_rfl) (pop_call ca104 rfl (WeakL.refl _) c_cmp_Compare_int) ?_
 refine ahp 20 rfl rfl (by kernel_rfl) (by kernel_rfl) (pop_buildSlice (hs := [_, _, _, _]) ty22 ty3 rfl rfl (by decide) (by decide) rfl) ?_
 refine ahp 21 rfl rfl (by kernel_rfl) (by kernel_rfl) (pop_call ca102 rfl (WeakL.refl _) (c_cmp_Or_int (l := [_, _, _, _]) (by simp))) ?_
 refine ahp 22 rfl rfl (by kernel_rfl) (by kernel_rfl) (pop_assign rfl) ?_
 refine ahz (by kernel_rfl) ?_
 refine hw_ret ?_
 refine ret_p rfl ?_
 rfl

/-- benchwarmer/play.byWeek -/
theorem c_play_byWeek [Tracks] {a b : LineS}  : ConP Tryz.prog 82 [eLine a, eLine b] (.int .i64 (byWk a b)) := by
 refine Con.of_body Tryz.func82 rfl Tryz.ntmps82 rfl rfl ?_
 refine hw_reg ?_
 refine dp rfl (pop_box rfl rfl) ?_
 refine dp rfl (pop_box rfl rfl) ?_
 refine dp rfl (pop_assign rfl) ?_
 refine dn ?_
 refine hw_draw (fun _ => True) [] mixed ?_
 refine ahp 0 rfl rfl (by kernel_rfl) (by kernel_rfl) (pop_fieldAddr ty63 rfl ty9 (by decide) rfl) ?_
 refine ahp 1 rfl rfl (by kernel_rfl) (by kernel_rfl) (pop_load ty9 rfl rfl rfl) ?_
 refine ahp 2 rfl rfl (by kernel_rfl) (by kernel_rfl) (pop_fieldAddr ty63 rfl ty9 (by decide) rfl) ?_
 refine ahp 3 rfl rfl (by kernel_rfl) (by kernel_rfl) (pop_load ty9 rfl rfl rfl) ?_
 refine ahp 4 rfl rfl (by kernel_rfl) (by kernel_rfl) (pop_call ca103 rfl (WeakL.refl _) c_strings_Compare) ?_
 refine ahp 5 rfl rfl (by kernel_rfl) (by kernel_rfl) (pop_fieldAddr ty63 rfl ty3 (by decide) rfl) ?_
 refine ahp 6 rfl rfl (by kernel_rfl) (by kernel_rfl) (pop_load ty3 rfl rfl rfl) ?_
 refine ahp 7 rfl rfl (by kernel_rfl) (by kernel_rfl) (pop_fieldAddr ty63 rfl ty3 (by decide) rfl) ?_
 refine ahp 8 rfl rfl (by kernel_rfl) (by kernel_rfl) (pop_load ty3 rfl rfl rfl) ?_
 refine ahp 9 rfl rfl (by kernel_rfl) (by kernel_rfl) (pop_call ca104 rfl (WeakL.refl _) c_cmp_Compare_int) ?_
 refine ahp 10 rfl rfl (by kernel_rfl) (by kernel_rfl) (pop_buildSlice (hs := [_, _]) ty22 ty3 rfl rfl (by decide) (by decide) rfl) ?_
 refine ahp 11 rfl rfl (by kernel_rfl) (by kernel_rfl) (pop_call ca102 rfl (WeakL.refl _) (c_cmp_Or_int (l := [_, _]) (by simp))) ?_
 refine ahp 12 rfl rfl (by kernel_rfl) (by kernel_rfl) (pop_assign rfl) ?_
 refine ahz (by kernel_rfl) ?_
 refine hw_ret ?_
 refine ret_p rfl ?_
 rfl

/-- benchwarmer/play.differ$1 -/
theorem c_play_differ_1 [Tracks] {a b : TurnedS}  : ConP Tryz.prog 136 [eTurned a, eTurned b] (.int .i64 (byTu a b)) := by
 refine Con.of_body Tryz.func136 rfl Tryz.ntmps136 rfl rfl ?_
 refine hw_reg ?_
 refine dp rfl (pop_box rfl rfl) ?_
 refine dp rfl (pop_box rfl rfl) ?_
 refine dp rfl (pop_assign rfl) ?_
 refine dn ?_
 refine hw_draw (fun _ => True) [] mixed ?_
 refine ahp 0 rfl rfl (by kernel_rfl) (by kernel_rfl) (pop_fieldAddr ty53 rfl ty9 (by decide) rfl) ?_
 refine ahp 1 rfl rfl (by kernel_rfl) (by kernel_rfl) (pop_load ty9 rfl rfl rfl) ?_
 refine ahp 2 rfl rfl (by kernel_rfl) (by kernel_rfl) (pop_fieldAddr ty53 rfl ty9 (by decide) rfl) ?_
 refine ahp 3 rfl rfl (by kernel_rfl) (by kernel_rfl) (pop_load ty9 rfl rfl rfl) ?_
 refine ahp 4 rfl rfl (by kernel_rfl) (by kernel_rfl) (pop_call ca103 rfl (WeakL.refl _) c_strings_Compare) ?_
 refine ahp 5 rfl rfl (by kernel_rfl) (by kernel_rfl) (pop_fieldAddr ty53 rfl ty3 (by decide) rfl) ?_
 refine ahp 6 rfl rfl (by kernel_rfl) (by kernel_rfl) (pop_load ty3 rfl rfl rfl) ?_
 refine ahp 7 rfl rfl (by kernel_rfl) (by kernel_rfl) (pop_fieldAddr ty53 rfl ty3 (by decide) rfl) ?_
 refine ahp 8 rfl rfl (by kernel_rfl) (by kernel_rfl) (pop_load ty3 rfl rfl rfl) ?_
 refine ahp 9 rfl rfl (by kernel_rfl) (by kernel_rfl) (pop_call ca104 rfl (WeakL.refl _) c_cmp_Compare_int) ?_
 refine ahp 10 rfl rfl (by kernel_rfl) (by kernel_rfl) (pop_fieldAddr ty53 rfl ty9 (by decide) rfl) ?_
 refine ahp 11 rfl rfl (by kernel_rfl) (by kernel_rfl) (pop_load ty9 rfl rfl rfl) ?_
 refine ahp 12 rfl rfl (by kernel_rfl) (by kernel_rfl) (pop_fieldAddr ty53 rfl ty9 (by decide) rfl) ?_
 refine ahp 13 rfl rfl (by kernel_rfl) (by kernel_rfl) (pop_load ty9 rfl rfl rfl) ?_
 refine ahp 14 rfl rfl (by kernel_rfl) (by kernel_rfl) (pop_call ca103 rfl (WeakL.refl _) c_strings_Compare) ?_
 refine ahp 15 rfl rfl (by kernel_rfl) (by kernel_rfl) (pop_buildSlice (hs := [_, _, _]) ty22 ty3 rfl rfl (by decide) (by decide) rfl) ?_
 refine ahp 16 rfl rfl (by kernel_rfl) (by kernel_rfl) (pop_call ca102 rfl (WeakL.refl _) (c_cmp_Or_int (l := [_, _, _]) (by simp))) ?_
 refine ahp 17 rfl rfl (by kernel_rfl) (by kernel_rfl) (pop_assign rfl) ?_
 refine ahz (by kernel_rfl) ?_
 refine hw_ret ?_
 refine ret_p rfl ?_
 rfl

/-- benchwarmer/play.CheckMends -/
theorem c_play_CheckMends [Tracks] {m : List MendS} (hl : m.length ≤ 1000000) : ConP Tryz.prog 33 [eMends m] (.int .i64 (mendsE m)) := by
 refine Con.of_body Tryz.func33 rfl Tryz.ntmps33 rfl rfl ?_
 refine hw_reg ?_
 refine dp rfl (pop_assign rfl) ?_
 refine dn ?_
 refine hw_seq ?_
 refine hw_reg ?_
 refine dp rfl (pop_move rfl) ?_
 refine dp rfl (pop_lenm ty46 rfl) ?_
 refine dp rfl (pop_gtr rfl rfl) ?_
 refine dn ?_
 refine hw_cond rfl (fun h1 => ?_) (fun h2 => ?_)
 ·try simp at h1
  refine hw_reg ?_
  refine dp rfl (pop_assign rfl) ?_
  refine dn ?_
  refine hw_ret ?_
  refine ret_p rfl ?_
  show HVal.int .i64 _ = _
  first
  | (rw [mendsE, if_pos (by omega)]; done)
  | (rw [mendsE, if_neg (by omega), hg]; rfl)
  | (refine congrArg _ (mends_bad (c := 5) (by omega) hg (by decide) ?_)
     rw [mendFault, if_pos]
     simp_all
     done)
  | (refine congrArg _ (mends_bad (c := 1) (by omega) hg (by decide) ?_)
     rw [mendFault, if_neg, if_pos]
     all_goals simp_all
     done)
  | (refine congrArg _ (mends_ord (by omega) hg ?_ ?_ ?_)
     ·rw [mendFault, if_neg, if_neg] <;> simp_all
     ·simp_all
     ·simp_all)
 ·try simp at h2
  refine hw_skip ?_
  refine seqQ_n ?_
  refine hw_seq ?_
  refine hw_reg ?_
  refine dp rfl (pop_move rfl) ?_
  refine dp rfl (pop_lenm ty46 rfl) ?_
  refine dp rfl (pop_move rfl) ?_
  refine dn ?_
  refine hw_block ?_
  refine hw_loopw (2 :: 3 :: 4 :: 10 :: 11 :: 12 :: 13 :: 14 :: 15 :: 16 :: 17 :: 18 :: 19 :: 20 :: 21 :: 22 :: 23 :: 24 :: 25 :: 26 :: 27 :: 28 :: 29 :: 30 :: 31 :: 32 :: 33 :: 34 :: 35 :: 36 :: 37 :: 38 :: 39 :: 40 :: 41 :: 42 :: 43 :: 44 :: 45 :: 46 :: 47 :: 48 :: 49 :: 50 :: 51 :: 52 :: 53 :: 54 :: 55 :: 56 :: 57 :: 58 :: 59 :: 60 :: 61 :: 62 :: 63 :: 64 :: 65 :: 66 :: []) (fun (k : Nat) => [(10, .int .i64 k)]) (fun (k : Nat) => []) (fun (k : Nat) => k ≤ m.length ∧ (chkGo mendFault byVer mend0 m 0 m = chkGo mendFault byVer mend0 m k (m.drop k))) (fun (k : Nat) => m.length - k) (0) ?_ ?_ ?_ ?_
  ·exact ⟨Nat.zero_le _, rfl⟩
  ·exact ⟨rfl, trivial⟩
  ·exact List.Perm.refl _
  ·intro k hinv
   obtain ⟨hk, hg⟩ := hinv
   refine hw_reg ?_
   refine dp rfl (pop_lss rfl rfl) ?_
   refine dn ?_
   refine hw_seq ?_
   refine hw_cond rfl (fun h3 => ?_) (fun h4 => ?_)
   ·try simp at h3
    obtain ⟨x, hx⟩ : ∃ x, m[k]? = some x := ⟨_, List.getElem?_eq_getElem h3⟩
    have hdx := drop_cons hx
    rw [hdx] at hg
    refine hw_skip ?_
    refine seqQ_n ?_
    refine hw_seq ?_
    refine hw_block ?_
    refine hw_reg ?_
    refine dp rfl (pop_move rfl) ?_
    refine dp rfl (pop_idx ty46 ty69 rfl rfl rfl (by first | assumption | simp_all)) ?_
    refine dp rfl (pop_loadw ty69 rfl rfl rfl rfl) ?_
    refine de rfl (eop_alloc ty69 rfl fun b4 => ?_)
    refine dp rfl (pop_assign rfl) ?_
    refine de0 (eop_storew ty69 rfl rfl rfl rfl rfl ?_)
    refine dn ?_
    refine hw_ghost (Ghost.fc0 4 rfl) ?_
    refine hw_block ?_
    refine hw_reg ?_
    refine dp rfl (pop_fieldAddr ty69 rfl ty9 (by decide) rfl) ?_
    refine dp rfl (pop_load ty9 rfl rfl rfl) ?_
    refine dp rfl (pop_call ca80 rfl (WeakL.refl _) c_base_Key) ?_
    refine dp rfl (pop_not rfl) ?_
    refine dp rfl (pop_move rfl) ?_
    refine dg rfl rfl (fun hc => ⟨_, OpenTo.refl _, pop_fieldAddr ty69 rfl ty9 (by decide) rfl⟩) ?_
    refine dg rfl rfl (fun hc => ⟨_, OpenTo.upd (t := 21) rfl (by first | exact hc | simp_all) (OpenTo.refl _), pop_load ty9 rfl rfl rfl⟩) ?_
    refine dg rfl rfl (fun hc => ⟨_, OpenTo.upd (t := 22) rfl (by first | exact hc | simp_all) (OpenTo.refl _), pop_call ca80 rfl (WeakL.refl _) c_base_Key⟩) ?_
    refine dg rfl rfl (fun hc => ⟨_, OpenTo.upd (t := 23) rfl (by first | exact hc | simp_all) (OpenTo.refl _), pop_not rfl⟩) ?_
    refine dp rfl (pop_picko rfl (.inl rfl) (.inr ⟨_, rfl, fun h => by simp_all⟩)) ?_
    refine dp rfl (pop_move rfl) ?_
    refine dg rfl rfl (fun hc => ⟨_, OpenTo.refl _, pop_fieldAddr ty69 rfl ty9 (by decide) rfl⟩) ?_
    refine dg rfl rfl (fun hc => ⟨_, OpenTo.upd (t := 27) rfl (by first | exact hc | simp_all) (OpenTo.refl _), pop_load ty9 rfl rfl rfl⟩) ?_
    refine dg rfl rfl (fun hc => ⟨_, OpenTo.upd (t := 28) rfl (by first | exact hc | simp_all) (OpenTo.refl _), pop_call ca80 rfl (WeakL.refl _) c_base_Key⟩) ?_
    refine dg rfl rfl (fun hc => ⟨_, OpenTo.upd (t := 29) rfl (by first | exact hc | simp_all) (OpenTo.refl _), pop_not rfl⟩) ?_
    refine dp rfl (pop_picko rfl (.inl rfl) (.inr ⟨_, rfl, fun h => by simp_all⟩)) ?_
    refine dp rfl (pop_assign rfl) ?_
    refine dn ?_
    refine hw_cond rfl (fun h5 => ?_) (fun h6 => ?_)
    ·try simp at h5
     refine hw_reg ?_
     refine dp rfl (pop_assign rfl) ?_
     refine dn ?_
     refine hw_ret ?_
     refine ret_p rfl ?_
     show HVal.int .i64 _ = _
     first
     | (rw [mendsE, if_pos (by omega)]; done)
     | (rw [mendsE, if_neg (by omega), hg]; rfl)
     | (refine congrArg _ (mends_bad (c := 5) (by omega) hg (by decide) ?_)
        rw [mendFault, if_pos]
        simp_all
        done)
     | (refine congrArg _ (mends_bad (c := 1) (by omega) hg (by decide) ?_)
        rw [mendFault, if_neg, if_pos]
        all_goals simp_all
        done)
     | (refine congrArg _ (mends_ord (by omega) hg ?_ ?_ ?_)
        ·rw [mendFault, if_neg, if_neg] <;> simp_all
        ·simp_all
        ·simp_all)
    ·try simp at h6
     refine hw_reg ?_
     refine dp rfl (pop_fieldAddr ty69 rfl ty3 (by decide) rfl) ?_
     refine dp rfl (pop_load ty3 rfl rfl rfl) ?_
     refine dp rfl (pop_call ca72 rfl (WeakL.refl _) c_base_Week) ?_
     refine dp rfl (pop_not rfl) ?_
     refine dp rfl (pop_move rfl) ?_
     refine dg rfl rfl (fun hc => ⟨_, OpenTo.refl _, pop_fieldAddr ty69 rfl ty3 (by decide) rfl⟩) ?_
     refine dg rfl rfl (fun hc => ⟨_, OpenTo.upd (t := 38) rfl (by first | exact hc | simp_all) (OpenTo.refl _), pop_load ty3 rfl rfl rfl⟩) ?_
     refine dg rfl rfl (fun hc => ⟨_, OpenTo.upd (t := 39) rfl (by first | exact hc | simp_all) (OpenTo.refl _), pop_call ca61 rfl (WeakL.refl _) c_base_Out⟩) ?_
     refine dp rfl (pop_picko rfl (.inl rfl) (.inr ⟨_, rfl, fun h => by simp_all⟩)) ?_
     refine dp rfl (pop_move rfl) ?_
     refine dg rfl rfl (fun hc => ⟨_, OpenTo.refl _, pop_fieldAddr ty69 rfl ty3 (by decide) rfl⟩) ?_
     refine dg rfl rfl (fun hc => ⟨_, OpenTo.upd (t := 43) rfl (by first | exact hc | simp_all) (OpenTo.refl _), pop_load ty3 rfl rfl rfl⟩) ?_
     refine dg rfl rfl (fun hc => ⟨_, OpenTo.upd (t := 44) rfl (by first | exact hc | simp_all) (OpenTo.refl _), pop_call ca73 rfl (WeakL.refl _) c_base_Moment⟩) ?_
     refine dg rfl rfl (fun hc => ⟨_, OpenTo.upd (t := 45) rfl (by first | exact hc | simp_all) (OpenTo.refl _), pop_not rfl⟩) ?_
     refine dp rfl (pop_picko rfl (.inl rfl) (.inr ⟨_, rfl, fun h => by simp_all⟩)) ?_
     refine dp rfl (pop_move rfl) ?_
     refine dg rfl rfl (fun hc => ⟨_, OpenTo.refl _, pop_fieldAddr ty69 rfl ty3 (by decide) rfl⟩) ?_
     refine dg rfl rfl (fun hc => ⟨_, OpenTo.upd (t := 49) rfl (by first | exact hc | simp_all) (OpenTo.refl _), pop_load ty3 rfl rfl rfl⟩) ?_
     refine dg rfl rfl (fun hc => ⟨_, OpenTo.upd (t := 50) rfl (by first | exact hc | simp_all) (OpenTo.refl _), pop_call ca61 rfl (WeakL.refl _) c_base_Out⟩) ?_
     refine dp rfl (pop_picko rfl (.inl rfl) (.inr ⟨_, rfl, fun h => by simp_all⟩)) ?_
     refine dp rfl (pop_assign rfl) ?_
     refine dn ?_
     refine hw_cond rfl (fun h7 => ?_) (fun h8 => ?_)
     ·try simp at h7
      refine hw_reg ?_
      refine dp rfl (pop_assign rfl) ?_
      refine dn ?_
      refine hw_ret ?_
      refine ret_p rfl ?_
      show HVal.int .i64 _ = _
      first
      | (rw [mendsE, if_pos (by omega)]; done)
      | (rw [mendsE, if_neg (by omega), hg]; rfl)
      | (refine congrArg _ (mends_bad (c := 5) (by omega) hg (by decide) ?_)
         rw [mendFault, if_pos]
         simp_all
         done)
      | (refine congrArg _ (mends_bad (c := 1) (by omega) hg (by decide) ?_)
         rw [mendFault, if_neg, if_pos]
         all_goals simp_all
         done)
      | (refine congrArg _ (mends_ord (by omega) hg ?_ ?_ ?_)
         ·rw [mendFault, if_neg, if_neg] <;> simp_all
         ·simp_all
         ·simp_all)
     ·try simp at h8
      refine hw_draw (fun _ => True) [] mixed ?_
      refine ahp 0 rfl rfl (by kernel_rfl) (by kernel_rfl) (pop_move rfl) ?_
      refine ahp 1 rfl rfl (by kernel_rfl) (by kernel_rfl) (pop_gtr rfl rfl) ?_
      refine ahp 2 rfl rfl (by kernel_rfl) (by kernel_rfl) (pop_move rfl) ?_
      refine ahg 3 rfl rfl (by kernel_rfl) (by kernel_rfl) rfl (fun hc => ⟨_, OpenTo.refl _, pop_loadw ty69 rfl rfl rfl rfl⟩) ?_
      refine ahg 4 rfl rfl (by kernel_rfl) (by kernel_rfl) rfl (fun hc => ⟨_, OpenTo.refl _, pop_move rfl⟩) ?_
      refine ahg 5 rfl rfl (by kernel_rfl) (by kernel_rfl) rfl (fun hc => ⟨_, OpenTo.refl _, pop_move rfl⟩) ?_
      refine ahg 6 rfl rfl (by kernel_rfl) (by kernel_rfl) rfl (fun hc => by have hq := hc; (try simp at hq); exact ⟨_, OpenTo.upd (t := 59) rfl (by first | exact hc | simp_all) (OpenTo.refl _), pop_sub64 rfl rfl (by omega) (by omega)⟩) ?_
      refine ahg 7 rfl rfl (by kernel_rfl) (by kernel_rfl) rfl (fun hc => by have hq := hc; (try simp at hq); exact ⟨_, OpenTo.upd (t := 60) rfl (by first | exact hc | simp_all) (OpenTo.upd (t := 58) rfl (by first | exact hc | simp_all) (OpenTo.refl _)), pop_idx (j := k - 1) (a := m.getD (k - 1) mend0) ty46 ty69 rfl rfl (by omega) (getD_some (by omega))⟩) ?_
      refine ahg 8 rfl rfl (by kernel_rfl) (by kernel_rfl) rfl (fun hc => ⟨_, OpenTo.upd (t := 61) rfl (by first | exact hc | simp_all) (OpenTo.refl _), pop_loadw ty69 rfl rfl rfl rfl⟩) ?_
      refine ahg 9 rfl rfl (by kernel_rfl) (by kernel_rfl) rfl (fun hc => ⟨_, OpenTo.upd (t := 62) rfl (by first | exact hc | simp_all) (OpenTo.upd (t := 57) rfl (by first | exact hc | simp_all) (OpenTo.refl _)), pop_call ca85 rfl (WeakL.refl _) c_play_byVersion⟩) ?_
      refine ahg 10 rfl rfl (by kernel_rfl) (by kernel_rfl) rfl (fun hc => ⟨_, OpenTo.upd (t := 63) rfl (by first | exact hc | simp_all) (OpenTo.refl _), pop_leq rfl rfl⟩) ?_
      refine ahp 11 rfl rfl (by kernel_rfl) (by kernel_rfl) (pop_picko rfl (.inr ⟨_, rfl, fun h => by simp_all⟩) (.inl rfl)) ?_
      refine ahp 12 rfl rfl (by kernel_rfl) (by kernel_rfl) (pop_assign rfl) ?_
      refine ahz (by kernel_rfl) ?_
      refine hw_cond rfl (fun h9 => ?_) (fun h10 => ?_)
      ·try simp at h9
       refine hw_reg ?_
       refine dp rfl (pop_assign rfl) ?_
       refine dn ?_
       refine hw_ret ?_
       refine ret_p rfl ?_
       show HVal.int .i64 _ = _
       first
       | (rw [mendsE, if_pos (by omega)]; done)
       | (rw [mendsE, if_neg (by omega), hg]; rfl)
       | (refine congrArg _ (mends_bad (c := 5) (by omega) hg (by decide) ?_)
          rw [mendFault, if_pos]
          simp_all
          done)
       | (refine congrArg _ (mends_bad (c := 1) (by omega) hg (by decide) ?_)
          rw [mendFault, if_neg, if_pos]
          all_goals simp_all
          done)
       | (refine congrArg _ (mends_ord (by omega) hg ?_ ?_ ?_)
          ·rw [mendFault, if_neg, if_neg] <;> simp_all
          ·simp_all
          ·simp_all)
      ·try simp at h10
       refine hw_skip ?_
       refine blockQ_n ?_
       refine blockQ_n ?_
       refine seqQ_n ?_
       refine hw_reg1 ?_
       refine dp rfl (pop_add64 rfl rfl (by omega) (by omega)) ?_
       refine dp rfl (pop_move rfl) ?_
       refine dn ?_
       refine ⟨k + 1, ?_, ?_, ⟨rfl, trivial⟩, (by repeat (first | exact keeps_refl | refine keeps_upd rfl ?_ | refine keeps_loop rfl rfl ?_)), List.Perm.refl _⟩
       ·refine ⟨by omega, ?_⟩
        rw [hg, chkGo_ne (by rw [mendFault, if_neg (by simp_all), if_neg (by simp_all)]) (by intro hk0; simp_all; try omega)]
       ·dsimp only; omega
   ·try simp at h4
    have hnk : m.length ≤ k := by omega
    obtain rfl : k = m.length := by omega
    rw [drop_all (Nat.le_refl _)] at hg
    refine hw_exit ?_
    refine seqQ_x ?_
    refine loopQ_x ?_
    refine blockQ_eq ?_
    refine seqQ_n ?_
    refine hw_reg ?_
    refine dp rfl (pop_assign rfl) ?_
    refine dn ?_
    refine hw_ret ?_
    refine ret_p rfl ?_
    show HVal.int .i64 _ = _
    first
    | (rw [mendsE, if_pos (by omega)]; done)
    | (rw [mendsE, if_neg (by omega), hg]; rfl)
    | (refine congrArg _ (mends_bad (c := 5) (by omega) hg (by decide) ?_)
       rw [mendFault, if_pos]
       simp_all
       done)
    | (refine congrArg _ (mends_bad (c := 1) (by omega) hg (by decide) ?_)
       rw [mendFault, if_neg, if_pos]
       all_goals simp_all
       done)
    | (refine congrArg _ (mends_ord (by omega) hg ?_ ?_ ?_)
       ·rw [mendFault, if_neg, if_neg] <;> simp_all
       ·simp_all
       ·simp_all)

/-- benchwarmer/play.statsFault -/
theorem c_play_statsFault [Tracks] {l : List StatS} (hl : l.length ≤ 1000000) : ConP Tryz.prog 81 [eStats l] (.int .i64 (statsE l)) := by
 refine Con.of_body Tryz.func81 rfl Tryz.ntmps81 rfl rfl ?_
 refine hw_reg ?_
 refine dp rfl (pop_assign rfl) ?_
 refine dn ?_
 refine hw_seq ?_
 refine hw_reg ?_
 refine dp rfl (pop_move rfl) ?_
 refine dp rfl (pop_lenm ty61 rfl) ?_
 refine dp rfl (pop_gtr rfl rfl) ?_
 refine dn ?_
 refine hw_cond rfl (fun h1 => ?_) (fun h2 => ?_)
 ·try simp at h1
  refine hw_reg ?_
  refine dp rfl (pop_assign rfl) ?_
  refine dn ?_
  refine hw_ret ?_
  refine ret_p rfl ?_
  show HVal.int .i64 _ = _
  first
  | (rw [statsE, if_pos (by omega)]; done)
  | (rw [statsE, if_neg (by omega), hg]; rfl)
  | (refine congrArg _ (stats_bad (c := 5) (by omega) hg (by decide) ?_)
     rw [statFault, if_pos]
     simp_all
     done)
  | (refine congrArg _ (stats_bad (c := 1) (by omega) hg (by decide) ?_)
     rw [statFault, if_neg, if_pos]
     all_goals simp_all
     done)
  | (refine congrArg _ (stats_ord (by omega) hg ?_ ?_ ?_)
     ·rw [statFault, if_neg, if_neg] <;> simp_all
     ·simp_all
     ·simp_all)
 ·try simp at h2
  refine hw_skip ?_
  refine seqQ_n ?_
  refine hw_seq ?_
  refine hw_reg ?_
  refine dp rfl (pop_move rfl) ?_
  refine dp rfl (pop_lenm ty61 rfl) ?_
  refine dp rfl (pop_move rfl) ?_
  refine dn ?_
  refine hw_block ?_
  refine hw_loopw [2, 3, 4, 10, 11, 12, 13, 14, 15, 16, 17, 18, 19, 20, 21, 22, 23, 24, 25, 26, 27, 28, 29, 30, 31, 32, 33, 34, 35, 36, 37, 38, 39, 40, 41, 42, 43] (fun (k : Nat) => [(10, .int .i64 k)]) (fun (k : Nat) => []) (fun (k : Nat) => k ≤ l.length ∧ (chkGo statFault byNm stat0 l 0 l = chkGo statFault byNm stat0 l k (l.drop k))) (fun (k : Nat) => l.length - k) (0) ?_ ?_ ?_ ?_
  ·exact ⟨Nat.zero_le _, rfl⟩
  ·exact ⟨rfl, trivial⟩
  ·exact List.Perm.refl _
  ·intro k hinv
   obtain ⟨hk, hg⟩ := hinv
   refine hw_reg ?_
   refine dp rfl (pop_lss rfl rfl) ?_
   refine dn ?_
   refine hw_seq ?_
   refine hw_cond rfl (fun h3 => ?_) (fun h4 => ?_)
   ·try simp at h3
    obtain ⟨x, hx⟩ : ∃ x, l[k]? = some x := ⟨_, List.getElem?_eq_getElem h3⟩
    have hdx := drop_cons hx
    rw [hdx] at hg
    refine hw_skip ?_
    refine seqQ_n ?_
    refine hw_seq ?_
    refine hw_block ?_
    refine hw_reg ?_
    refine dp rfl (pop_move rfl) ?_
    refine dp rfl (pop_idx ty61 ty121 rfl rfl rfl (by first | assumption | simp_all)) ?_
    refine dp rfl (pop_loadw ty121 rfl rfl rfl rfl) ?_
    refine de rfl (eop_alloc ty121 rfl fun b4 => ?_)
    refine dp rfl (pop_assign rfl) ?_
    refine de0 (eop_storew ty121 rfl rfl rfl rfl rfl ?_)
    refine dn ?_
    refine hw_ghost (Ghost.fc0 4 rfl) ?_
    refine hw_block ?_
    refine hw_reg ?_
    refine dp rfl (pop_fieldAddr ty121 rfl ty9 (by decide) rfl) ?_
    refine dp rfl (pop_load ty9 rfl rfl rfl) ?_
    refine dp rfl (pop_call ca80 rfl (WeakL.refl _) c_base_Key) ?_
    refine dp rfl (pop_not rfl) ?_
    refine dp rfl (pop_assign rfl) ?_
    refine dn ?_
    refine hw_cond rfl (fun h5 => ?_) (fun h6 => ?_)
    ·try simp at h5
     refine hw_reg ?_
     refine dp rfl (pop_assign rfl) ?_
     refine dn ?_
     refine hw_ret ?_
     refine ret_p rfl ?_
     show HVal.int .i64 _ = _
     first
     | (rw [statsE, if_pos (by omega)]; done)
     | (rw [statsE, if_neg (by omega), hg]; rfl)
     | (refine congrArg _ (stats_bad (c := 5) (by omega) hg (by decide) ?_)
        rw [statFault, if_pos]
        simp_all
        done)
     | (refine congrArg _ (stats_bad (c := 1) (by omega) hg (by decide) ?_)
        rw [statFault, if_neg, if_pos]
        all_goals simp_all
        done)
     | (refine congrArg _ (stats_ord (by omega) hg ?_ ?_ ?_)
        ·rw [statFault, if_neg, if_neg] <;> simp_all
        ·simp_all
        ·simp_all)
    ·try simp at h6
     refine hw_reg ?_
     refine dp rfl (pop_fieldAddr ty121 rfl ty3 (by decide) rfl) ?_
     refine dp rfl (pop_load ty3 rfl rfl rfl) ?_
     refine dp rfl (pop_call ca61 rfl (WeakL.refl _) c_base_Out) ?_
     refine dp rfl (pop_move rfl) ?_
     refine dg rfl rfl (fun hc => ⟨_, OpenTo.refl _, pop_fieldAddr ty121 rfl ty3 (by decide) rfl⟩) ?_
     refine dg rfl rfl (fun hc => ⟨_, OpenTo.upd (t := 25) rfl (by first | exact hc | simp_all) (OpenTo.refl _), pop_load ty3 rfl rfl rfl⟩) ?_
     refine dg rfl rfl (fun hc => ⟨_, OpenTo.upd (t := 26) rfl (by first | exact hc | simp_all) (OpenTo.refl _), pop_eql rfl rfl⟩) ?_
     refine dp rfl (pop_picko rfl (.inl rfl) (.inr ⟨_, rfl, fun h => by simp_all⟩)) ?_
     refine dp rfl (pop_assign rfl) ?_
     refine dn ?_
     refine hw_cond rfl (fun h7 => ?_) (fun h8 => ?_)
     ·try simp at h7
      refine hw_reg ?_
      refine dp rfl (pop_assign rfl) ?_
      refine dn ?_
      refine hw_ret ?_
      refine ret_p rfl ?_
      show HVal.int .i64 _ = _
      first
      | (rw [statsE, if_pos (by omega)]; done)
      | (rw [statsE, if_neg (by omega), hg]; rfl)
      | (refine congrArg _ (stats_bad (c := 5) (by omega) hg (by decide) ?_)
         rw [statFault, if_pos]
         simp_all
         done)
      | (refine congrArg _ (stats_bad (c := 1) (by omega) hg (by decide) ?_)
         rw [statFault, if_neg, if_pos]
         all_goals simp_all
         done)
      | (refine congrArg _ (stats_ord (by omega) hg ?_ ?_ ?_)
         ·rw [statFault, if_neg, if_neg] <;> simp_all
         ·simp_all
         ·simp_all)
     ·try simp at h8
      refine hw_draw (fun _ => True) [] mixed ?_
      refine ahp 0 rfl rfl (by kernel_rfl) (by kernel_rfl) (pop_move rfl) ?_
      refine ahp 1 rfl rfl (by kernel_rfl) (by kernel_rfl) (pop_gtr rfl rfl) ?_
      refine ahp 2 rfl rfl (by kernel_rfl) (by kernel_rfl) (pop_move rfl) ?_
      refine ahg 3 rfl rfl (by kernel_rfl) (by kernel_rfl) rfl (fun hc => ⟨_, OpenTo.refl _, pop_fieldAddr ty121 rfl ty9 (by decide) rfl⟩) ?_
      refine ahg 4 rfl rfl (by kernel_rfl) (by kernel_rfl) rfl (fun hc => ⟨_, OpenTo.upd (t := 33) rfl (by first | exact hc | simp_all) (OpenTo.refl _), pop_load ty9 rfl rfl rfl⟩) ?_
      refine ahg 5 rfl rfl (by kernel_rfl) (by kernel_rfl) rfl (fun hc => ⟨_, OpenTo.refl _, pop_move rfl⟩) ?_
      refine ahg 6 rfl rfl (by kernel_rfl) (by kernel_rfl) rfl (fun hc => ⟨_, OpenTo.refl _, pop_move rfl⟩) ?_
      refine ahg 7 rfl rfl (by kernel_rfl) (by kernel_rfl) rfl (fun hc => by have hq := hc; (try simp at hq); exact ⟨_, OpenTo.upd (t := 36) rfl (by first | exact hc | simp_all) (OpenTo.refl _), pop_sub64 rfl rfl (by omega) (by omega)⟩) ?_
      refine ahg 8 rfl rfl (by kernel_rfl) (by kernel_rfl) rfl (fun hc => by have hq := hc; (try simp at hq); exact ⟨_, OpenTo.upd (t := 37) rfl (by first | exact hc | simp_all) (OpenTo.upd (t := 35) rfl (by first | exact hc | simp_all) (OpenTo.refl _)), pop_idx (j := k - 1) (a := l.getD (k - 1) stat0) ty61 ty121 rfl rfl (by omega) (getD_some (by omega))⟩) ?_
      refine ahg 9 rfl rfl (by kernel_rfl) (by kernel_rfl) rfl (fun hc => ⟨_, OpenTo.upd (t := 38) rfl (by first | exact hc | simp_all) (OpenTo.refl _), pop_fieldAddr ty121 rfl ty9 (by decide) rfl⟩) ?_
      refine ahg 10 rfl rfl (by kernel_rfl) (by kernel_rfl) rfl (fun hc => ⟨_, OpenTo.upd (t := 39) rfl (by first | exact hc | simp_all) (OpenTo.refl _), pop_load ty9 rfl rfl rfl⟩) ?_
      refine ahg 11 rfl rfl (by kernel_rfl) (by kernel_rfl) rfl (fun hc => ⟨_, OpenTo.upd (t := 40) rfl (by first | exact hc | simp_all) (OpenTo.upd (t := 34) rfl (by first | exact hc | simp_all) (OpenTo.refl _)), pop_leqs rfl rfl⟩) ?_
      refine ahp 12 rfl rfl (by kernel_rfl) (by kernel_rfl) (pop_picko rfl (.inr ⟨_, rfl, fun h => by simp_all⟩) (.inl rfl)) ?_
      refine ahp 13 rfl rfl (by kernel_rfl) (by kernel_rfl) (pop_assign rfl) ?_
      refine ahz (by kernel_rfl) ?_
      refine hw_cond rfl (fun h9 => ?_) (fun h10 => ?_)
      ·try simp at h9
       refine hw_reg ?_
       refine dp rfl (pop_assign rfl) ?_
       refine dn ?_
       refine hw_ret ?_
       refine ret_p rfl ?_
       show HVal.int .i64 _ = _
       first
       | (rw [statsE, if_pos (by omega)]; done)
       | (rw [statsE, if_neg (by omega), hg]; rfl)
       | (refine congrArg _ (stats_bad (c := 5) (by omega) hg (by decide) ?_)
          rw [statFault, if_pos]
          simp_all
          done)
       | (refine congrArg _ (stats_bad (c := 1) (by omega) hg (by decide) ?_)
          rw [statFault, if_neg, if_pos]
          all_goals simp_all
          done)
       | (refine congrArg _ (stats_ord (by omega) hg ?_ ?_ ?_)
          ·rw [statFault, if_neg, if_neg] <;> simp_all
          ·simp_all
          ·simp_all)
      ·try simp at h10
       refine hw_skip ?_
       refine blockQ_n ?_
       refine blockQ_n ?_
       refine seqQ_n ?_
       refine hw_reg1 ?_
       refine dp rfl (pop_add64 rfl rfl (by omega) (by omega)) ?_
       refine dp rfl (pop_move rfl) ?_
       refine dn ?_
       refine ⟨k + 1, ?_, ?_, ⟨rfl, trivial⟩, (by repeat (first | exact keeps_refl | refine keeps_upd rfl ?_ | refine keeps_loop rfl rfl ?_)), List.Perm.refl _⟩
       ·refine ⟨by omega, ?_⟩
        rw [hg, stats_next (by rw [statFault, if_neg (by simp_all), if_neg (by simp_all)]) (by intro hk0; simp_all)]
       ·dsimp only; omega
   ·try simp at h4
    have hnk : l.length ≤ k := by omega
    obtain rfl : k = l.length := by omega
    rw [drop_all (Nat.le_refl _)] at hg
    refine hw_exit ?_
    refine seqQ_x ?_
    refine loopQ_x ?_
    refine blockQ_eq ?_
    refine seqQ_n ?_
    refine hw_reg ?_
    refine dp rfl (pop_assign rfl) ?_
    refine dn ?_
    refine hw_ret ?_
    refine ret_p rfl ?_
    show HVal.int .i64 _ = _
    first
    | (rw [statsE, if_pos (by omega)]; done)
    | (rw [statsE, if_neg (by omega), hg]; rfl)
    | (refine congrArg _ (stats_bad (c := 5) (by omega) hg (by decide) ?_)
       rw [statFault, if_pos]
       simp_all
       done)
    | (refine congrArg _ (stats_bad (c := 1) (by omega) hg (by decide) ?_)
       rw [statFault, if_neg, if_pos]
       all_goals simp_all
       done)
    | (refine congrArg _ (stats_ord (by omega) hg ?_ ?_ ?_)
       ·rw [statFault, if_neg, if_neg] <;> simp_all
       ·simp_all
       ·simp_all)

/-- benchwarmer/play.CheckLines -/
theorem c_play_CheckLines [Tracks] {l : List LineS} (hl : l.length ≤ 1000000) (hL : ∀ x ∈ l, x.Stats.length ≤ 1000000) : ConP Tryz.prog 26 [eLines l] (.int .i64 (linesFE l)) := by
 refine Con.of_body Tryz.func26 rfl Tryz.ntmps26 rfl rfl ?_
 refine hw_reg ?_
 refine dp rfl (pop_assign rfl) ?_
 refine dn ?_
 refine hw_seq ?_
 refine hw_reg ?_
 refine dp rfl (pop_move rfl) ?_
 refine dp rfl (pop_lenm ty54 rfl) ?_
 refine dp rfl (pop_gtr rfl rfl) ?_
 refine dn ?_
 refine hw_cond rfl (fun h1 => ?_) (fun h2 => ?_)
 ·try simp at h1
  refine hw_reg ?_
  refine dp rfl (pop_assign rfl) ?_
  refine dn ?_
  refine hw_ret ?_
  refine ret_p rfl ?_
  show HVal.int .i64 _ = _
  first
  | (rw [linesFE, if_pos (by omega)]; done)
  | (rw [linesFE, if_neg (by omega), hg]; rfl)
  | (refine congrArg _ (lines_bad (c := 5) (by omega) hg (by decide) ?_)
     rw [lineFault, if_pos]
     simp_all
     done)
  | (refine congrArg _ (lines_bad (c := 1) (by omega) hg (by decide) ?_)
     rw [lineFault, if_neg, if_pos]
     all_goals simp_all
     done)
  | (refine congrArg _ (lines_bad (c := statsE x.Stats) (by omega) hg ?_ ?_)
     ·simp_all
     ·rw [lineFault, if_neg, if_neg] <;> simp_all)
  | (refine congrArg _ (lines_ord (by omega) hg ?_ ?_ ?_)
     ·rw [lineFault, if_neg, if_neg] <;> simp_all
     ·simp_all
     ·simp_all)
 ·try simp at h2
  refine hw_skip ?_
  refine seqQ_n ?_
  refine hw_seq ?_
  refine hw_reg ?_
  refine dp rfl (pop_move rfl) ?_
  refine dp rfl (pop_lenm ty54 rfl) ?_
  refine dp rfl (pop_move rfl) ?_
  refine dn ?_
  refine hw_block ?_
  refine hw_loopw [2, 3, 4, 5, 11, 12, 13, 14, 15, 16, 17, 18, 19, 20, 21, 22, 23, 24, 25, 26, 27, 28, 29, 30, 31, 32, 33, 34, 35, 36, 37, 38, 39, 40, 41, 42, 43, 44] (fun (k : Nat) => [(11, .int .i64 k)]) (fun (k : Nat) => []) (fun (k : Nat) => k ≤ l.length ∧ (chkGo lineFault byWk line0 l 0 l = chkGo lineFault byWk line0 l k (l.drop k))) (fun (k : Nat) => l.length - k) (0) ?_ ?_ ?_ ?_
  ·exact ⟨Nat.zero_le _, rfl⟩
  ·exact ⟨rfl, trivial⟩
  ·exact List.Perm.refl _
  ·intro k hinv
   obtain ⟨hk, hg⟩ := hinv
   refine hw_reg ?_
   refine dp rfl (pop_lss rfl rfl) ?_
   refine dn ?_
   refine hw_seq ?_
   refine hw_cond rfl (fun h3 => ?_) (fun h4 => ?_)
   ·try simp at h3
    obtain ⟨x, hx⟩ : ∃ x, l[k]? = some x := ⟨_, List.getElem?_eq_getElem h3⟩
    have hdx := drop_cons hx
    rw [hdx] at hg
    refine hw_skip ?_
    refine seqQ_n ?_
    refine hw_seq ?_
    refine hw_block ?_
    refine hw_reg ?_
    refine dp rfl (pop_move rfl) ?_
    refine dp rfl (pop_idx ty54 ty63 rfl rfl rfl (by first | assumption | simp_all)) ?_
    refine dp rfl (pop_loadw ty63 rfl rfl rfl rfl) ?_
    refine de rfl (eop_alloc ty63 rfl fun b4 => ?_)
    refine dp rfl (pop_assign rfl) ?_
    refine de0 (eop_storew ty63 rfl rfl rfl rfl rfl ?_)
    refine dn ?_
    refine hw_ghost (Ghost.fc0 4 rfl) ?_
    refine hw_seq ?_
    refine hw_block ?_
    refine hw_reg ?_
    refine dp rfl (pop_fieldAddr ty63 rfl ty9 (by decide) rfl) ?_
    refine dp rfl (pop_load ty9 rfl rfl rfl) ?_
    refine dp rfl (pop_call ca80 rfl (WeakL.refl _) c_base_Key) ?_
    refine dp rfl (pop_not rfl) ?_
    refine dp rfl (pop_assign rfl) ?_
    refine dn ?_
    refine hw_cond rfl (fun h5 => ?_) (fun h6 => ?_)
    ·try simp at h5
     refine hw_reg ?_
     refine dp rfl (pop_assign rfl) ?_
     refine dn ?_
     refine hw_ret ?_
     refine ret_p rfl ?_
     show HVal.int .i64 _ = _
     first
     | (rw [linesFE, if_pos (by omega)]; done)
     | (rw [linesFE, if_neg (by omega), hg]; rfl)
     | (refine congrArg _ (lines_bad (c := 5) (by omega) hg (by decide) ?_)
        rw [lineFault, if_pos]
        simp_all
        done)
     | (refine congrArg _ (lines_bad (c := 1) (by omega) hg (by decide) ?_)
        rw [lineFault, if_neg, if_pos]
        all_goals simp_all
        done)
     | (refine congrArg _ (lines_bad (c := statsE x.Stats) (by omega) hg ?_ ?_)
        ·simp_all
        ·rw [lineFault, if_neg, if_neg] <;> simp_all)
     | (refine congrArg _ (lines_ord (by omega) hg ?_ ?_ ?_)
        ·rw [lineFault, if_neg, if_neg] <;> simp_all
        ·simp_all
        ·simp_all)
    ·try simp at h6
     refine hw_reg ?_
     refine dp rfl (pop_fieldAddr ty63 rfl ty3 (by decide) rfl) ?_
     refine dp rfl (pop_load ty3 rfl rfl rfl) ?_
     refine dp rfl (pop_call ca72 rfl (WeakL.refl _) c_base_Week) ?_
     refine dp rfl (pop_not rfl) ?_
     refine dp rfl (pop_assign rfl) ?_
     refine dn ?_
     refine hw_cond rfl (fun h7 => ?_) (fun h8 => ?_)
     ·try simp at h7
      refine hw_reg ?_
      refine dp rfl (pop_assign rfl) ?_
      refine dn ?_
      refine hw_ret ?_
      refine ret_p rfl ?_
      show HVal.int .i64 _ = _
      first
      | (rw [linesFE, if_pos (by omega)]; done)
      | (rw [linesFE, if_neg (by omega), hg]; rfl)
      | (refine congrArg _ (lines_bad (c := 5) (by omega) hg (by decide) ?_)
         rw [lineFault, if_pos]
         simp_all
         done)
      | (refine congrArg _ (lines_bad (c := 1) (by omega) hg (by decide) ?_)
         rw [lineFault, if_neg, if_pos]
         all_goals simp_all
         done)
      | (refine congrArg _ (lines_bad (c := statsE x.Stats) (by omega) hg ?_ ?_)
         ·simp_all
         ·rw [lineFault, if_neg, if_neg] <;> simp_all)
      | (refine congrArg _ (lines_ord (by omega) hg ?_ ?_ ?_)
         ·rw [lineFault, if_neg, if_neg] <;> simp_all
         ·simp_all
         ·simp_all)
     ·try simp at h8
      refine hw_skip ?_
      refine blockQ_n ?_
      refine seqQ_n ?_
      refine hw_seq ?_
      refine hw_reg ?_
      refine dp rfl (pop_fieldAddr ty63 rfl ty61 (by decide) rfl) ?_
      refine dp rfl (pop_load ty61 rfl rfl rfl) ?_
      refine dp rfl (pop_call ca81 rfl (WeakL.refl _) (c_play_statsFault (l := x.Stats) (hL x (List.mem_of_getElem? hx)))) ?_
      refine dp rfl (pop_assign rfl) ?_
      refine dn ?_
      refine hw_reg ?_
      refine dp rfl (pop_move rfl) ?_
      refine dp rfl (pop_neq rfl rfl) ?_
      refine dn ?_
      refine hw_cond rfl (fun h9 => ?_) (fun h10 => ?_)
      ·try simp at h9
       refine hw_reg ?_
       refine dp rfl (pop_move rfl) ?_
       refine dp rfl (pop_assign rfl) ?_
       refine dn ?_
       refine hw_ret ?_
       refine ret_p rfl ?_
       show HVal.int .i64 _ = _
       first
       | (rw [linesFE, if_pos (by omega)]; done)
       | (rw [linesFE, if_neg (by omega), hg]; rfl)
       | (refine congrArg _ (lines_bad (c := 5) (by omega) hg (by decide) ?_)
          rw [lineFault, if_pos]
          simp_all
          done)
       | (refine congrArg _ (lines_bad (c := 1) (by omega) hg (by decide) ?_)
          rw [lineFault, if_neg, if_pos]
          all_goals simp_all
          done)
       | (refine congrArg _ (lines_bad (c := statsE x.Stats) (by omega) hg ?_ ?_)
          ·simp_all
          ·rw [lineFault, if_neg, if_neg] <;> simp_all)
       | (refine congrArg _ (lines_ord (by omega) hg ?_ ?_ ?_)
          ·rw [lineFault, if_neg, if_neg] <;> simp_all
          ·simp_all
          ·simp_all)
      ·try simp at h10
       refine hw_skip ?_
       refine seqQ_n ?_
       refine hw_draw (fun _ => True) [] mixed ?_
       refine ahp 0 rfl rfl (by kernel_rfl) (by kernel_rfl) (pop_move rfl) ?_
       refine ahp 1 rfl rfl (by kernel_rfl) (by kernel_rfl) (pop_gtr rfl rfl) ?_
       refine ahp 2 rfl rfl (by kernel_rfl) (by kernel_rfl) (pop_move rfl) ?_
       refine ahg 3 rfl rfl (by kernel_rfl) (by kernel_rfl) rfl (fun hc => ⟨_, OpenTo.refl _, pop_loadw ty63 rfl rfl rfl rfl⟩) ?_
       refine ahg 4 rfl rfl (by kernel_rfl) (by kernel_rfl) rfl (fun hc => ⟨_, OpenTo.refl _, pop_move rfl⟩) ?_
       refine ahg 5 rfl rfl (by kernel_rfl) (by kernel_rfl) rfl (fun hc => ⟨_, OpenTo.refl _, pop_move rfl⟩) ?_
       refine ahg 6 rfl rfl (by kernel_rfl) (by kernel_rfl) rfl (fun hc => by have hq := hc; (try simp at hq); exact ⟨_, OpenTo.upd (t := 37) rfl (by first | exact hc | simp_all) (OpenTo.refl _), pop_sub64 rfl rfl (by omega) (by omega)⟩) ?_
       refine ahg 7 rfl rfl (by kernel_rfl) (by kernel_rfl) rfl (fun hc => by have hq := hc; (try simp at hq); exact ⟨_, OpenTo.upd (t := 38) rfl (by first | exact hc | simp_all) (OpenTo.upd (t := 36) rfl (by first | exact hc | simp_all) (OpenTo.refl _)), pop_idx (j := k - 1) (a := l.getD (k - 1) line0) ty54 ty63 rfl rfl (by omega) (getD_some (by omega))⟩) ?_
       refine ahg 8 rfl rfl (by kernel_rfl) (by kernel_rfl) rfl (fun hc => ⟨_, OpenTo.upd (t := 39) rfl (by first | exact hc | simp_all) (OpenTo.refl _), pop_loadw ty63 rfl rfl rfl rfl⟩) ?_
       refine ahg 9 rfl rfl (by kernel_rfl) (by kernel_rfl) rfl (fun hc => ⟨_, OpenTo.upd (t := 40) rfl (by first | exact hc | simp_all) (OpenTo.upd (t := 35) rfl (by first | exact hc | simp_all) (OpenTo.refl _)), pop_call ca82 rfl (WeakL.refl _) c_play_byWeek⟩) ?_
       refine ahg 10 rfl rfl (by kernel_rfl) (by kernel_rfl) rfl (fun hc => ⟨_, OpenTo.upd (t := 41) rfl (by first | exact hc | simp_all) (OpenTo.refl _), pop_leq rfl rfl⟩) ?_
       refine ahp 11 rfl rfl (by kernel_rfl) (by kernel_rfl) (pop_picko rfl (.inr ⟨_, rfl, fun h => by simp_all⟩) (.inl rfl)) ?_
       refine ahz (by kernel_rfl) ?_
       refine hw_cond rfl (fun h11 => ?_) (fun h12 => ?_)
       ·try simp at h11
        refine hw_reg ?_
        refine dp rfl (pop_assign rfl) ?_
        refine dn ?_
        refine hw_ret ?_
        refine ret_p rfl ?_
        show HVal.int .i64 _ = _
        first
        | (rw [linesFE, if_pos (by omega)]; done)
        | (rw [linesFE, if_neg (by omega), hg]; rfl)
        | (refine congrArg _ (lines_bad (c := 5) (by omega) hg (by decide) ?_)
           rw [lineFault, if_pos]
           simp_all
           done)
        | (refine congrArg _ (lines_bad (c := 1) (by omega) hg (by decide) ?_)
           rw [lineFault, if_neg, if_pos]
           all_goals simp_all
           done)
        | (refine congrArg _ (lines_bad (c := statsE x.Stats) (by omega) hg ?_ ?_)
           ·simp_all
           ·rw [lineFault, if_neg, if_neg] <;> simp_all)
        | (refine congrArg _ (lines_ord (by omega) hg ?_ ?_ ?_)
           ·rw [lineFault, if_neg, if_neg] <;> simp_all
           ·simp_all
           ·simp_all)
       ·try simp at h12
        refine hw_skip ?_
        refine blockQ_n ?_
        refine seqQ_n ?_
        refine hw_reg1 ?_
        refine dp rfl (pop_add64 rfl rfl (by omega) (by omega)) ?_
        refine dp rfl (pop_move rfl) ?_
        refine dn ?_
        refine ⟨k + 1, ?_, ?_, ⟨rfl, trivial⟩, (by repeat (first | exact keeps_refl | refine keeps_upd rfl ?_ | refine keeps_loop rfl rfl ?_)), List.Perm.refl _⟩
        ·refine ⟨by omega, ?_⟩
         rw [hg, chkGo_ne (by rw [lineFault, if_neg (by simp_all), if_neg (by simp_all)]; simp_all) (by intro hk0; simp_all; try omega)]
        ·dsimp only; omega
   ·try simp at h4
    have hnk : l.length ≤ k := by omega
    obtain rfl : k = l.length := by omega
    rw [drop_all (Nat.le_refl _)] at hg
    refine hw_exit ?_
    refine seqQ_x ?_
    refine loopQ_x ?_
    refine blockQ_eq ?_
    refine seqQ_n ?_
    refine hw_reg ?_
    refine dp rfl (pop_assign rfl) ?_
    refine dn ?_
    refine hw_ret ?_
    refine ret_p rfl ?_
    show HVal.int .i64 _ = _
    first
    | (rw [linesFE, if_pos (by omega)]; done)
    | (rw [linesFE, if_neg (by omega), hg]; rfl)
    | (refine congrArg _ (lines_bad (c := 5) (by omega) hg (by decide) ?_)
       rw [lineFault, if_pos]
       simp_all
       done)
    | (refine congrArg _ (lines_bad (c := 1) (by omega) hg (by decide) ?_)
       rw [lineFault, if_neg, if_pos]
       all_goals simp_all
       done)
    | (refine congrArg _ (lines_bad (c := statsE x.Stats) (by omega) hg ?_ ?_)
       ·simp_all
       ·rw [lineFault, if_neg, if_neg] <;> simp_all)
    | (refine congrArg _ (lines_ord (by omega) hg ?_ ?_ ?_)
       ·rw [lineFault, if_neg, if_neg] <;> simp_all
       ·simp_all
       ·simp_all)

/-- benchwarmer/play.mended$1 -/
theorem c_play_mended_1 [Tracks] {s : StatS} {x : MendS}  : ConP Tryz.prog 131 [eStat s, .vptr (hcells (eMend x)) 0] (.bool (s.Name == x.Stat)) := by
 refine Con.of_body Tryz.func131 rfl Tryz.ntmps131 rfl rfl ?_
 refine hw_reg ?_
 refine dp rfl (pop_box rfl rfl) ?_
 refine dp rfl (pop_assign rfl) ?_
 refine dn ?_
 refine hw_reg ?_
 refine dp rfl (pop_fieldAddr ty121 rfl ty9 (by decide) rfl) ?_
 refine dp rfl (pop_load ty9 rfl rfl rfl) ?_
 refine dp rfl (pop_fieldAddr ty69 rfl ty9 (by decide) rfl) ?_
 refine dp rfl (pop_load ty9 rfl rfl rfl) ?_
 refine dp rfl (pop_eqls rfl rfl) ?_
 refine dp rfl (pop_assign rfl) ?_
 refine dn ?_
 refine hw_ret ?_
 refine ret_p rfl ?_
 rfl

set_option maxHeartbeats 2000000 in
/-- benchwarmer/play.mended -/
theorem c_play_mended [Tracks] {l : List LineS} {m : List MendS} {n : Int} (hl : l.length ≤ 1000) (hm : m.length ≤ 100) (hL : ∀ x ∈ l, x.Stats.length ≤ 1000) (hs : ∀ x ∈ l, (x.Stats.map (·.Name)).Nodup) (h40 : GLen 40 (mdMap l m n)) : ConP Tryz.prog 76 [eLines l, eMends m, .int .i64 n] (.tup [eLines (mdL l m n), .int .i64 0]) := by
 refine Con.of_body Tryz.func76 rfl Tryz.ntmps76 rfl rfl ?_
 refine hw_reg ?_
 refine dp rfl (pop_assign rfl) ?_
 refine dp rfl (pop_assign rfl) ?_
 refine dn ?_
 refine hw_reg ?_
 refine de rfl (eop_makeMap fun m18 => ?_)
 refine dp rfl (pop_assign rfl) ?_
 refine dn ?_
 refine hw_ghost (Ghost.of_eq (M' := [.map m18 (kk ePlc (em fG ([] : GrV)))] ++ grpK 2 eStat ([] : GrV)) rfl) ?_
 refine hw_seq ?_
 refine hw_reg ?_
 refine dp rfl (pop_move rfl) ?_
 refine dp rfl (pop_lenm ty54 rfl) ?_
 refine dp rfl (pop_move rfl) ?_
 refine dn ?_
 refine hw_block ?_
 refine hw_loopw2 [10, 21, 22, 23, 24, 25, 26, 27, 28, 29, 30, 31, 32, 33, 34] (fun (k : Nat) (G : GrV) => [(21, .int .i64 k)]) (fun (k : Nat) (G : GrV) => [.map m18 (kk ePlc (em fG G))] ++ grpK 2 eStat G) (fun (k : Nat) (G : GrV) => k ≤ l.length ∧ (ANodup G ∧ conV G = lnMap (l.take k))) (fun (k : Nat) (G : GrV) => l.length - k) (0) ([]) ?_ ?_ ?_ ?_
 ·exact ⟨Nat.zero_le _, ANodup.nil, rfl⟩
 ·exact ⟨rfl, trivial⟩
 ·exact perm_eq rfl
 ·intro k G hinv
  obtain ⟨hk, ⟨hn, hc⟩⟩ := hinv
  refine hw_reg ?_
  refine dp rfl (pop_lss rfl rfl) ?_
  refine dn ?_
  refine hw_seq ?_
  refine hw_cond rfl (fun h1 => ?_) (fun h2 => ?_)
  ·try simp at h1
   obtain ⟨x, hx⟩ : ∃ x, l[k]? = some x := ⟨_, List.getElem?_eq_getElem h1⟩
   have hdx := drop_cons hx
   refine hw_skip ?_
   refine seqQ_n ?_
   refine hw_seq ?_
   refine hw_block ?_
   refine hw_reg ?_
   refine dp rfl (pop_idx ty54 ty63 rfl rfl rfl (by first | assumption | simp_all)) ?_
   refine dp rfl (pop_loadw ty63 rfl rfl rfl rfl) ?_
   refine de rfl (eop_alloc ty63 rfl fun b10 => ?_)
   refine de0 (eop_storew ty63 rfl rfl rfl rfl rfl ?_)
   refine dn ?_
   refine hw_ghost (Ghost.fc0 10 rfl) ?_
   refine hw_draw1 (fun _ => True) [] mixed ?_
   refine ahp 0 rfl rfl (by kernel_rfl) (by kernel_rfl) (pop_move rfl) ?_
   refine ahp 1 rfl rfl (by kernel_rfl) (by kernel_rfl) ((by first | exact pop_fieldAddr ty63 rfl ty9 (by decide) rfl | exact pop_fieldAddr_raw ty63 rfl ty9 (by decide) rfl)) ?_
   refine ahp 2 rfl rfl (by kernel_rfl) (by kernel_rfl) (pop_load ty9 rfl rfl rfl) ?_
   refine ahp 3 rfl rfl (by kernel_rfl) (by kernel_rfl) ((by first | exact pop_fieldAddr ty63 rfl ty3 (by decide) rfl | exact pop_fieldAddr_raw ty63 rfl ty3 (by decide) rfl)) ?_
   refine ahp 4 rfl rfl (by kernel_rfl) (by kernel_rfl) (pop_load ty3 rfl rfl rfl) ?_
   refine ahp 5 rfl rfl (by kernel_rfl) (by kernel_rfl) (pop_build (cs := [_, _]) ty129 pl129 rfl) ?_
   refine ahp 6 rfl rfl (by kernel_rfl) (by kernel_rfl) ((by first | exact pop_fieldAddr ty63 rfl ty61 (by decide) rfl | exact pop_fieldAddr_raw ty63 rfl ty61 (by decide) rfl)) ?_
   refine ahp 7 rfl rfl (by kernel_rfl) (by kernel_rfl) (pop_load ty61 rfl rfl rfl) ?_
   refine ahe 8 rfl (by kernel_rfl) ?_
   refine hop_e rfl (eop_calla ca129 rfl (WeakL.refl _) (c_slices_Clone_api_Stat_api_Stat (l := x.Stats) (Nat.le_trans (hL x (List.mem_of_getElem? hx)) (by decide))) fun v33 => ?_)
   refine ⟨fun _ => .inl trivial, ?_⟩
   refine ahe 9 rfl (by kernel_rfl) ?_
   refine hop_e0 (EOp.post_ghost (eop_updatekA (i := 1) (s := (x.Player, x.Week)) (f := fG) (L := G) (v := (v33, x.Stats)) ty183 ok129 rfl rfl rfl rfl ⟨_, grpK_over (A := [.map m18 (kk ePlc (em fG (aput (x.Player, x.Week) (v33, x.Stats) G)))]) (s := (x.Player, x.Week)) (v := v33) (l := x.Stats) hn, ?_⟩))
   refine ⟨fun _ => .inl trivial, ?_⟩
   refine ahz (by kernel_rfl) ?_
   refine blockQ_n ?_
   refine seqQ_n ?_
   refine hw_reg1 ?_
   refine dp rfl (pop_add64 rfl rfl (by omega) (by omega)) ?_
   refine dp rfl (pop_move rfl) ?_
   refine dn ?_
   exact ⟨k + 1, aput (x.Player, x.Week) (v33, x.Stats) G, ⟨by omega, hn.put, by rw [conV_put, hc, lnMap_snoc hx]⟩, by dsimp only; omega, ⟨rfl, trivial⟩, (by repeat (first | exact keeps_refl | refine keeps_upd rfl ?_ | refine keeps_loop rfl rfl ?_)), perm_eq rfl⟩
  ·try simp at h2
   have hnk : l.length ≤ k := by omega
   obtain rfl : k = l.length := by omega
   rw [List.take_length] at hc
   refine hw_exit ?_
   refine seqQ_x ?_
   refine loopQ2_x ?_
   refine blockQ_eq ?_
   refine seqQ_n ?_
   refine hw_seq ?_
   refine hw_reg ?_
   refine dp rfl (pop_move rfl) ?_
   refine dp rfl (pop_lenm ty46 rfl) ?_
   refine dp rfl (pop_move rfl) ?_
   refine dn ?_
   refine hw_block ?_
   refine hw_loopw2 [12, 13, 14, 37, 38, 39, 40, 41, 42, 43, 44, 45, 46, 47, 48, 49, 50, 51, 52, 53, 54, 55, 56, 57, 58, 59, 60, 61, 62, 63, 64, 65, 66, 67, 68, 69] (fun (k : Nat) (G : GrV) => [(37, .int .i64 k)]) (fun (k : Nat) (G : GrV) => [.map m18 (kk ePlc (em fG G))] ++ grpK 2 eStat G) (fun (k : Nat) (G : GrV) => k ≤ m.length ∧ (ANodup G ∧ conV G = mdGo (lnMap l) (m.take k) n)) (fun (k : Nat) (G : GrV) => m.length - k) (0) (G) ?_ ?_ ?_ ?_
   ·exact ⟨Nat.zero_le _, hn, hc⟩
   ·exact ⟨rfl, trivial⟩
   ·exact perm_eq rfl
   ·intro k G hinv
    obtain ⟨hk, ⟨hn, hc⟩⟩ := hinv
    refine hw_reg ?_
    refine dp rfl (pop_lss rfl rfl) ?_
    refine dn ?_
    refine hw_seq ?_
    refine hw_cond rfl (fun h3 => ?_) (fun h4 => ?_)
    ·try simp at h3
     obtain ⟨x, hx⟩ : ∃ x, m[k]? = some x := ⟨_, List.getElem?_eq_getElem h3⟩
     have hdx := drop_cons hx
     refine hw_skip ?_
     refine seqQ_n ?_
     refine hw_seq ?_
     refine hw_block ?_
     refine hw_reg ?_
     refine dp rfl (pop_idx ty46 ty69 rfl rfl rfl (by first | assumption | simp_all)) ?_
     refine dp rfl (pop_loadw ty69 rfl rfl rfl rfl) ?_
     refine de rfl (eop_alloc ty69 rfl fun b12 => ?_)
     refine de0 (eop_storew ty69 rfl rfl rfl rfl rfl ?_)
     refine dn ?_
     refine hw_ghost (Ghost.fc0 12 rfl) ?_
     refine hw_seq ?_
     refine hw_reg ?_
     refine dp rfl ((by first | exact pop_fieldAddr ty69 rfl ty3 (by decide) rfl | exact pop_fieldAddr_raw ty69 rfl ty3 (by decide) rfl)) ?_
     refine dp rfl (pop_load ty3 rfl rfl rfl) ?_
     refine dp rfl (pop_move rfl) ?_
     refine dp rfl (pop_gtr rfl rfl) ?_
     refine dn ?_
     refine hw_cond rfl (fun h5 => ?_) (fun h6 => ?_)
     ·try simp at h5
      refine hw_exit ?_
      refine seqQ_x ?_
      refine blockQ_eq ?_
      refine seqQ_n ?_
      refine hw_reg1 ?_
      refine dp rfl (pop_add64 rfl rfl (by omega) (by omega)) ?_
      refine dp rfl (pop_move rfl) ?_
      refine dn ?_
      exact ⟨k + 1, G, ⟨by omega, hn, by rw [mdGo_snoc hx, mdStep, if_pos (by omega)]; exact hc⟩, by dsimp only; omega, ⟨rfl, trivial⟩, (by repeat (first | exact keeps_refl | refine keeps_upd rfl ?_ | refine keeps_loop rfl rfl ?_)), perm_eq rfl⟩
     ·try simp at h6
      refine hw_skip ?_
      refine seqQ_n ?_
      refine hw_reg ?_
      refine dp rfl ((by first | exact pop_fieldAddr ty69 rfl ty9 (by decide) rfl | exact pop_fieldAddr_raw ty69 rfl ty9 (by decide) rfl)) ?_
      refine dp rfl (pop_load ty9 rfl rfl rfl) ?_
      refine dp rfl ((by first | exact pop_fieldAddr ty69 rfl ty3 (by decide) rfl | exact pop_fieldAddr_raw ty69 rfl ty3 (by decide) rfl)) ?_
      refine dp rfl (pop_load ty3 rfl rfl rfl) ?_
      refine dp rfl (pop_build (cs := [_, _]) ty129 pl129 rfl) ?_
      refine de rfl (eop_alloc ty129 rfl fun b13 => ?_)
      refine de0 (eop_storew ty129 rfl rfl rfl rfl rfl ?_)
      refine dn ?_
      refine hw_ghost (Ghost.fc0 13 rfl) ?_
      have hgl := md_glen (n := n) hL hm hc (x.Player, x.Week)
      refine hw_ghost (Ghost.grpK_take (A := [.map m18 (kk ePlc (em fG G))]) (G := G) (G' := G) (s := (x.Player, x.Week)) hn rfl) ?_
      refine hw_reg ?_
      refine dp rfl (pop_move rfl) ?_
      refine dp rfl (pop_loadw ty129 rfl rfl rfl rfl) ?_
      refine de rfl (eop_lookupkA (i := 1) (s := (x.Player, x.Week)) (z0 := gZ StatS) ty183 ok129 ty61 rfl rfl rfl rfl ?_)
      refine dp rfl (pop_makeFunc rfl rfl) ?_
      refine de rfl (eop_callx (i := 0) ca130 rfl (WeakL.refl _) rfl (c_slices_DeleteFunc_api_Stat_api_Stat (l := gLK (x.Player, x.Week) G) (p := fun s => s.Name == x.Stat) ca131 (fun _ => c_play_mended_1) (by omega)) ?_)
      rintro _ _ ⟨u54, rfl, rfl⟩
      refine dp rfl (pop_assign rfl) ?_
      refine dn ?_
      refine hw_join [14, 55, 56, 57, 58, 59, 60, 61, 62, 63, 64, 65] (fun (w : Value) => [(14, .raw w)]) (fun (w : Value) => .arr w 2 ((mdPut x (gLK (x.Player, x.Week) G)).map eStat) :: ([.map m18 (kk ePlc (em fG G))] ++ grpK 2 eStat (G.filter fun q => decide (q.1 ≠ (x.Player, x.Week))))) (fun (w : Value) => True) ?_ ?_
      ·skip
       refine hw_reg ?_
       refine dp rfl ((by first | exact pop_fieldAddr ty69 rfl ty3 (by decide) rfl | exact pop_fieldAddr_raw ty69 rfl ty3 (by decide) rfl)) ?_
       refine dp rfl (pop_load ty3 rfl rfl rfl) ?_
       refine dp rfl (pop_neq rfl rfl) ?_
       refine dn ?_
       refine hw_cond rfl (fun h7 => ?_) (fun h8 => ?_)
       ·try simp at h7
        refine hw_reg1 ?_
        refine dp rfl (pop_move rfl) ?_
        refine dp rfl ((by first | exact pop_fieldAddr ty69 rfl ty9 (by decide) rfl | exact pop_fieldAddr_raw ty69 rfl ty9 (by decide) rfl)) ?_
        refine dp rfl (pop_load ty9 rfl rfl rfl) ?_
        refine dp rfl ((by first | exact pop_fieldAddr ty69 rfl ty3 (by decide) rfl | exact pop_fieldAddr_raw ty69 rfl ty3 (by decide) rfl)) ?_
        refine dp rfl (pop_load ty3 rfl rfl rfl) ?_
        refine dp rfl (pop_build (cs := [_, _]) ty121 pl121 rfl) ?_
        refine dp rfl (pop_buildSlice (hs := [_]) ty61 ty121 rfl rfl (by decide) (by decide) rfl) ?_
        refine de rfl (eop_append (i := 0) ty61 ty121 rfl rfl rfl rfl rfl (by simp [flat, hcells]) (by have := mdDel_len x (gLK (x.Player, x.Week) G); unfold mdDel at this; simp only [List.length_map, List.length_cons, List.length_nil]; omega) fun v65 => ?_)
        refine dp rfl (pop_assign rfl) ?_
        refine dn ?_
        exact ⟨v65, trivial, ⟨rfl, trivial⟩, (by repeat (first | exact keeps_refl | refine keeps_upd rfl ?_ | refine keeps_loop rfl rfl ?_)), perm_eq (by rw [mdPut, if_pos (by assumption), List.map_append]; rfl)⟩
       ·try simp at h8
        refine hw_skip ?_
        exact ⟨u54, trivial, ⟨rfl, trivial⟩, (by repeat (first | exact keeps_refl | refine keeps_upd rfl ?_ | refine keeps_loop rfl rfl ?_)), perm_eq (by rw [mdPut, if_neg (by simp_all), List.append_nil]; rfl)⟩
      ·intro w _
       refine hw_reg1 ?_
       refine dp rfl (pop_move rfl) ?_
       refine dp rfl (pop_loadw ty129 rfl rfl rfl rfl) ?_
       refine dp rfl (pop_move rfl) ?_
       refine de0 (EOp.post_perm (eop_updatekA (i := 1) (s := (x.Player, x.Week)) (f := fG) (L := G) (v := (w, mdPut x (gLK (x.Player, x.Week) G))) ty183 ok129 rfl rfl rfl rfl ⟨_, grpK_put (A := [.map m18 (kk ePlc (em fG (aput (x.Player, x.Week) (w, mdPut x (gLK (x.Player, x.Week) G)) G)))]) (s := (x.Player, x.Week)) (v := w) (l := mdPut x (gLK (x.Player, x.Week) G)) hn, ?_⟩))
       refine dn ?_
       refine blockQ_n ?_
       refine seqQ_n ?_
       refine hw_reg1 ?_
       refine dp rfl (pop_add64 rfl rfl (by omega) (by omega)) ?_
       refine dp rfl (pop_move rfl) ?_
       refine dn ?_
       exact ⟨k + 1, aput (x.Player, x.Week) (w, mdPut x (gLK (x.Player, x.Week) G)) G, ⟨by omega, hn.put, by rw [mdGo_snoc hx, ← hc, mdStep_go (n := n) (by omega)]⟩, by dsimp only; omega, ⟨rfl, trivial⟩, (by repeat (first | exact keeps_refl | refine keeps_upd rfl ?_ | refine keeps_loop rfl rfl ?_)), perm_eq rfl⟩
    ·try simp at h4
     have hnk : m.length ≤ k := by omega
     obtain rfl : k = m.length := by omega
     rw [List.take_length] at hc
     refine hw_exit ?_
     refine seqQ_x ?_
     refine loopQ2_x ?_
     refine blockQ_eq ?_
     refine seqQ_n ?_
     refine hw_seq ?_
     have hGl := md_many hl hm hc
     have hkl : (kk ePlc (em fG G)).length = G.length := by simp [kk]
     refine hw_reg ?_
     refine dp rfl (pop_move rfl) ?_
     first
     | refine de rfl (eop_maplen (i := 0) ty183 rfl rfl ?_)
     | refine de rfl (eop_maplen (i := 1) ty183 rfl rfl ?_)
     | refine de rfl (eop_maplen (i := 2) ty183 rfl rfl ?_)
     | refine de rfl (eop_maplen (i := 3) ty183 rfl rfl ?_)
     refine dp rfl (pop_gtr rfl rfl) ?_
     refine dn ?_
     refine hw_cond rfl (fun h9 => ?_) (fun h9 => ?_)
     ·exfalso
      try simp at h9
      omega
     ·try simp at h9
      refine hw_skip ?_
      refine seqQ_n ?_
      refine hw_reg ?_
      refine dp rfl (pop_assign rfl) ?_
      refine dn ?_
      refine hw_ghost (Ghost.arr_nil 3) ?_
      refine hw_seq ?_
      refine hw_reg ?_
      refine dp rfl (pop_move rfl) ?_
      refine de rfl (eop_range (i := 1) ty183 rfl rfl fun r => ?_)
      refine dn ?_
      refine hw_block ?_
      refine hw_loopw3 [6, 7, 15, 16, 17, 75, 76, 77, 78, 79, 80, 81, 82, 83, 84, 85, 86, 87, 88, 89, 90, 91, 92, 93] (fun (vis : List Nat) (E : List (Plc × (Value × List StatS))) (u : Value) => [(15, .raw u)]) (fun (vis : List Nat) (E : List (Plc × (Value × List StatS))) (u : Value) => [.arr u 3 ((E.map gLine).map eLine), .iter r m18 (kk ePlc (em fG G)) vis] ++ grpK 2 eStat (restK G (E.map (·.1)))) (fun (vis : List Nat) (E : List (Plc × (Value × List StatS))) (u : Value) => VisOk (G) vis E ∧ (True)) (fun (vis : List Nat) (E : List (Plc × (Value × List StatS))) (u : Value) => (G).length - vis.length) ([]) ([]) (.slice none 0 0) ?_ ?_ ?_ ?_
      ·exact ⟨VisOk.nil _, trivial⟩
      ·exact ⟨rfl, trivial⟩
      ·exact perm_eq (by simp only [List.map_nil, restK_nil]; rfl)
      ·intro vis E u hinv
       obtain ⟨hvis, -⟩ := hinv
       refine hw_reg ?_
       refine de rfl (eop_nextA (i := 1) (L := G) (enc := (fun p : Plc × (Value × List StatS) => (ePlc p.1, fG p.2))) rfl rfl (kk_em _ _ _) hvis.nd hvis.lt fun cb R vis' hnx => ?_)
       refine dp rfl (pop_extract rfl rfl) ?_
       refine dn ?_
       refine hw_seq ?_
       refine hw_cond rfl (fun h10 => ?_) (fun h11 => ?_)
       ·try simp at h10
        obtain ⟨j, q, hq, hj, rfl⟩ := hnx.t h10
        have hroom := hvis.room hq hj
        have hstep := hvis.step hq hj
        have hqm := List.mem_of_getElem? hq
        refine hw_skip ?_
        refine seqQ_n ?_
        refine hw_block ?_
        refine hw_reg ?_
        refine de rfl (eop_entryA (i := 1) (L := G) (enc := (fun p : Plc × (Value × List StatS) => (ePlc p.1, fG p.2))) rfl rfl (kk_em _ _ _) hq ?_)
        refine dp rfl (pop_extract rfl rfl) ?_
        refine dp rfl (pop_extract rfl rfl) ?_
        refine de rfl (eop_alloc ty129 rfl fun b16 => ?_)
        refine de0 (eop_storew ty129 rfl rfl rfl rfl rfl ?_)
        refine dp rfl (pop_assign rfl) ?_
        refine dn ?_
        refine hw_ghost (Ghost.fc0 16 rfl) ?_
        have hqa : alk q.1 G = some q.2 := (alk_mem hn).1 hqm
        have hqx : q.1 ∉ E.map (·.1) := alk_none.1 (hvis.fresh hn hq hj)
        obtain ⟨gv1, gl1⟩ := gK_of hqa
        have hq40 := md_q40 h40 hc hqm
        have hqn := md_qn hs hc hqm
        refine hw_ghost (Ghost.grpK_take (A := [.arr u 3 ((E.map gLine).map eLine), .iter r m18 (kk ePlc (em fG G)) (vis ++ [j])]) (G := restK G (E.map (·.1))) (G' := G) (s := q.1) (restK_nodup hn) (restK_alk hqx)) ?_
        rw [restK_snoc, gv1, gl1]
        refine hw_seq ?_
        refine hw_reg ?_
        refine dp rfl (pop_move rfl) ?_
        refine de rfl (eop_lenm (i := 0) (es := q.2.2) ty61 rfl rfl ?_)
        refine dp rfl (pop_gtr rfl rfl) ?_
        refine dn ?_
        refine hw_cond rfl (fun h12 => ?_) (fun h12 => ?_)
        ·exfalso
         try simp at h12
         omega
        ·try simp at h12
         refine hw_skip ?_
         refine seqQ_n ?_
         refine hw_reg ?_
         refine dp rfl (pop_move rfl) ?_
         refine de rfl (eop_callf (M1 := [.arr q.2.1 2 (q.2.2.map eStat)]) (R := _) ca132 rfl (WeakL.refl _) (List.Perm.refl _) (c_sort_Stat (c := byNm) (swo_cmp byNm_cmp) ca133 (fun _ _ => @c_play_byName trackOn _ _) (l := q.2.2) (by omega)) ?_)
         rintro _ _ ⟨l', rfl, hp', hw', rfl⟩
         obtain rfl := stat_sorted hqn hp' hw'
         refine dn ?_
         refine hw_ghost (Ghost.fa 17 (i := 0) rfl rfl) ?_
         refine hw_reg1 ?_
         refine dp rfl (pop_move rfl) ?_
         refine dp rfl ((by first | exact pop_fieldAddr ty129 rfl ty9 (by decide) rfl | exact pop_fieldAddr_raw ty129 rfl ty9 (by decide) rfl)) ?_
         refine dp rfl (pop_load ty9 rfl rfl rfl) ?_
         refine dp rfl ((by first | exact pop_fieldAddr ty129 rfl ty3 (by decide) rfl | exact pop_fieldAddr_raw ty129 rfl ty3 (by decide) rfl)) ?_
         refine dp rfl (pop_load ty3 rfl rfl rfl) ?_
         refine dp rfl (pop_move rfl) ?_
         refine dp rfl (pop_build (cs := [_, _, _]) ty63 pl63 rfl) ?_
         refine dp rfl (pop_buildSlice (hs := [_]) ty54 ty63 rfl rfl (by decide) (by decide) rfl) ?_
         refine de rfl (eop_append (i := 0) ty54 ty63 rfl rfl rfl rfl rfl (by simp [flat, hcells]) (by have := hvis.len; simp only [List.length_map, List.length_cons, List.length_nil]; omega) fun v93 => ?_)
         refine dp rfl (pop_assign rfl) ?_
         refine dn ?_
         refine blockQ_n ?_
         exact ⟨_, E ++ [q], v93, ⟨hstep, trivial⟩, by dsimp only; rw [List.length_append]; simp only [List.length_cons, List.length_nil]; omega, ⟨rfl, trivial⟩, (by repeat (first | exact keeps_refl | refine keeps_upd rfl ?_ | refine keeps_loop rfl rfl ?_)), perm_eq (by dsimp only; simp only [List.map_append, List.map_cons, List.map_nil]; rfl)⟩
       ·try simp at h11
        obtain ⟨rfl, hlen⟩ := hnx.f h11
        have hEp := hvis.done hlen
        refine hw_exit ?_
        refine seqQ_x ?_
        refine loopQ3_x ?_
        refine blockQ_eq ?_
        refine seqQ_n ?_
        have hr0 : restK G (E.map (·.1)) = [] := restK_all (fun q hq => List.mem_map_of_mem (hEp.mem_iff.2 hq))
        rw [hr0]
        refine hw_ghost (Ghost.iterOver (i := 1) rfl) ?_
        refine hw_ghost (Ghost.of_eq (M' := [.arr u 3 ((E.map gLine).map eLine), .map m18 (kk ePlc (em fG G))]) rfl) ?_
        refine hw_reg ?_
        refine dp rfl (pop_move rfl) ?_
        refine de rfl (eop_callf (M1 := [.arr u 3 ((E.map gLine).map eLine)]) (R := [.map m18 (kk ePlc (em fG G))]) ca97 rfl (WeakL.refl _) (List.Perm.refl _) (c_sort_Line (c := byWk) (swo_cmp byWk_cmp) ca82 (fun _ _ => @c_play_byWeek trackOn _ _) (l := E.map gLine) (by have := hEp.length_eq; simp only [List.length_map]; omega)) ?_)
        rintro _ _ ⟨l', rfl, hp', hw', rfl⟩
        obtain rfl := mdL_of hc hEp hp' hw'
        refine dn ?_
        refine hw_ghost (Ghost.only (i := 0) rfl) ?_
        refine hw_reg ?_
        refine dp rfl (pop_move rfl) ?_
        refine dp rfl (pop_assign rfl) ?_
        refine dp rfl (pop_assign rfl) ?_
        refine dn ?_
        refine hw_ret ?_
        exact ret_fa (M := []) 6 rfl rfl rfl

/-- benchwarmer/play.Mended -/
theorem c_play_Mended [Tracks] {l : List LineS} {m : List MendS} {n : Int} (hl : l.length ≤ 1000) (hm : m.length ≤ 100) (hL : ∀ x ∈ l, x.Stats.length ≤ 1000) (h40 : linesFE l = 0 → GLen 40 (mdMap l m n)) : ConP Tryz.prog 22 [eLines l, eMends m, .int .i64 n] (.tup [eLines (MendedL l m n), .int .i64 (MendedE l m n)]) := by
 refine Con.of_body Tryz.func22 rfl Tryz.ntmps22 rfl rfl ?_
 refine hw_reg ?_
 refine dp rfl (pop_assign rfl) ?_
 refine dp rfl (pop_assign rfl) ?_
 refine dn ?_
 refine hw_seq ?_
 refine hw_reg ?_
 refine dp rfl (pop_move rfl) ?_
 refine dp rfl (pop_call ca26 rfl (WeakL.refl _) (c_play_CheckLines (l := l) (by omega) (fun x hx => Nat.le_trans (hL x hx) (by decide)))) ?_
 refine dp rfl (pop_move rfl) ?_
 refine dp rfl (pop_call ca33 rfl (WeakL.refl _) (c_play_CheckMends (m := m) (by omega))) ?_
 refine dp rfl (pop_buildSlice (hs := [_, _]) ty136 ty31 rfl rfl (by decide) (by decide) rfl) ?_
 refine dp rfl (pop_call ca65 rfl (WeakL.refl _) (c_base_First (l := [_, _]) (by simp))) ?_
 refine dp rfl (pop_assign rfl) ?_
 refine dn ?_
 refine hw_reg ?_
 refine dp rfl (pop_move rfl) ?_
 refine dp rfl (pop_neq rfl rfl) ?_
 refine dn ?_
 refine hw_cond rfl (fun h1 => ?_) (fun h2 => ?_)
 ·try simp at h1
  refine hw_reg ?_
  refine dp rfl (pop_move rfl) ?_
  refine dp rfl (pop_assign rfl) ?_
  refine dp rfl (pop_assign rfl) ?_
  refine dn ?_
  refine hw_ret ?_
  first
  | exact ret_w rfl (weak_tup2 (by rw [MendedL, if_pos (by simpa using h1)]; exact weak_nil 3) (by rw [MendedE, if_pos (by simpa using h1)]; exact Weak.refl _))
  | exact ret_w rfl (weak_tup2 (by rw [MendedL, if_neg (by simpa using h2), if_neg (by simp_all)]; exact weak_nil 3) (by rw [MendedE, if_neg (by simpa using h2), if_neg (by simp_all)]; exact Weak.refl _))
  | (refine ret_p rfl ?_
     rw [MendedL, MendedE, if_neg (by simpa using h2), if_pos (by simp_all), if_neg (by simpa using h2), if_pos (by simp_all)])
 ·try simp at h2
  refine hw_skip ?_
  refine seqQ_n ?_
  refine hw_seq ?_
  refine hw_reg ?_
  refine dp rfl (pop_move rfl) ?_
  refine dp rfl (pop_call ca73 rfl (WeakL.refl _) c_base_Moment) ?_
  refine dp rfl (pop_not rfl) ?_
  refine dn ?_
  refine hw_cond rfl (fun h3 => ?_) (fun h4 => ?_)
  ·try simp at h3
   refine hw_reg ?_
   refine dp rfl (pop_assign rfl) ?_
   refine dp rfl (pop_assign rfl) ?_
   refine dn ?_
   refine hw_ret ?_
   first
   | exact ret_w rfl (weak_tup2 (by rw [MendedL, if_pos (by simpa using h1)]; exact weak_nil 3) (by rw [MendedE, if_pos (by simpa using h1)]; exact Weak.refl _))
   | exact ret_w rfl (weak_tup2 (by rw [MendedL, if_neg (by simpa using h2), if_neg (by simp_all)]; exact weak_nil 3) (by rw [MendedE, if_neg (by simpa using h2), if_neg (by simp_all)]; exact Weak.refl _))
   | (refine ret_p rfl ?_
      rw [MendedL, MendedE, if_neg (by simpa using h2), if_pos (by simp_all), if_neg (by simpa using h2), if_pos (by simp_all)])
  ·try simp at h4
   refine hw_skip ?_
   refine seqQ_n ?_
   refine hw_reg ?_
   refine dp rfl (pop_move rfl) ?_
   refine dp rfl (pop_move rfl) ?_
   refine dp rfl (pop_move rfl) ?_
   refine dp rfl (pop_call ca76 rfl (WeakL.refl _) (c_play_mended (l := l) (m := m) (n := n) hl hm hL (line_names (or2z h2).1) (h40 (or2z h2).1))) ?_
   refine dp rfl (pop_extract rfl rfl) ?_
   refine dp rfl (pop_extract rfl rfl) ?_
   refine dp rfl (pop_assign rfl) ?_
   refine dp rfl (pop_assign rfl) ?_
   refine dn ?_
   refine hw_ret ?_
   first
   | exact ret_w rfl (weak_tup2 (by rw [MendedL, if_pos (by simpa using h1)]; exact weak_nil 3) (by rw [MendedE, if_pos (by simpa using h1)]; exact Weak.refl _))
   | exact ret_w rfl (weak_tup2 (by rw [MendedL, if_neg (by simpa using h2), if_neg (by simp_all)]; exact weak_nil 3) (by rw [MendedE, if_neg (by simpa using h2), if_neg (by simp_all)]; exact Weak.refl _))
   | (refine ret_p rfl ?_
      rw [MendedL, MendedE, if_neg (by simpa using h2), if_pos (by simp_all), if_neg (by simpa using h2), if_pos (by simp_all)])

/-- benchwarmer/play.counts -/
theorem c_play_counts [Tracks] {l : List LineS} (hl : l.length ≤ 1000) (hL : ∀ x ∈ l, x.Stats.length ≤ 1000) : Con Tryz.prog 83 [eLines l] [] (fun x M' => ∃ b, x = .raw (.map (some b)) ∧ M' = [.map b (kk eCnt (em (HVal.int .i64) (cnL l)))]) := by
 refine Con.of_body Tryz.func83 rfl Tryz.ntmps83 rfl rfl ?_
 refine hw_reg ?_
 refine dp rfl (pop_assign rfl) ?_
 refine dn ?_
 refine hw_reg ?_
 refine de rfl (eop_makeMap fun m8 => ?_)
 refine dp rfl (pop_assign rfl) ?_
 refine dn ?_
 refine hw_seq ?_
 refine hw_reg ?_
 refine dp rfl (pop_move rfl) ?_
 refine dp rfl (pop_lenm ty54 rfl) ?_
 refine dp rfl (pop_move rfl) ?_
 refine dn ?_
 refine hw_block ?_
 refine hw_loopw [5, 7, 11, 12, 13, 14, 15, 16, 17, 18, 19, 20, 21, 22, 23, 24, 25, 26, 27, 28, 29, 30, 31, 32, 33, 34] (fun (k : Nat) => [(11, .int .i64 k)]) (fun (k : Nat) => [.map m8 (kk eCnt (em (HVal.int .i64) (cnL (l.take k))))]) (fun (k : Nat) => k ≤ l.length ∧ (True)) (fun (k : Nat) => l.length - k) (0) ?_ ?_ ?_ ?_
 ·exact ⟨Nat.zero_le _, trivial⟩
 ·exact ⟨rfl, trivial⟩
 ·exact perm_eq rfl
 ·intro k hinv
  obtain ⟨hk, -⟩ := hinv
  refine hw_reg ?_
  refine dp rfl (pop_lss rfl rfl) ?_
  refine dn ?_
  refine hw_seq ?_
  refine hw_cond rfl (fun h1 => ?_) (fun h2 => ?_)
  ·try simp at h1
   obtain ⟨x, hx⟩ : ∃ x, l[k]? = some x := ⟨_, List.getElem?_eq_getElem h1⟩
   have hdx := drop_cons hx
   have hsl := hL x (List.mem_of_getElem? hx)
   refine hw_skip ?_
   refine seqQ_n ?_
   refine hw_seq ?_
   refine hw_block ?_
   refine hw_reg ?_
   refine dp rfl (pop_idx ty54 ty63 rfl rfl rfl (by first | assumption | simp_all)) ?_
   refine dp rfl (pop_loadw ty63 rfl rfl rfl rfl) ?_
   refine de rfl (eop_alloc ty63 rfl fun b5 => ?_)
   refine de0 (eop_storew ty63 rfl rfl rfl rfl rfl ?_)
   refine dn ?_
   refine hw_ghost (Ghost.fc0 5 rfl) ?_
   refine hw_reg ?_
   refine dp rfl (pop_fieldAddr ty63 rfl ty61 (by decide) rfl) ?_
   refine dp rfl (pop_load ty61 rfl rfl rfl) ?_
   refine dp rfl (pop_lenm ty61 rfl) ?_
   refine dp rfl (pop_move rfl) ?_
   refine dn ?_
   refine hw_block ?_
   refine hw_loopw [7, 18, 19, 20, 21, 22, 23, 24, 25, 26, 27, 28, 29, 30, 31, 32, 33] (fun (j : Nat) => [(18, .int .i64 j)]) (fun (j : Nat) => [.map m8 (kk eCnt (em (HVal.int .i64) (cnRow x (cnL (l.take k)) (x.Stats.take j))))]) (fun (j : Nat) => j ≤ x.Stats.length ∧ (True)) (fun (j : Nat) => x.Stats.length - j) (0) ?_ ?_ ?_ ?_
   ·exact ⟨Nat.zero_le _, trivial⟩
   ·exact ⟨rfl, trivial⟩
   ·exact perm_eq rfl
   ·intro j hinv
    obtain ⟨hj, -⟩ := hinv
    refine hw_reg ?_
    refine dp rfl (pop_lss rfl rfl) ?_
    refine dn ?_
    refine hw_seq ?_
    refine hw_cond rfl (fun h3 => ?_) (fun h4 => ?_)
    ·try simp at h3
     obtain ⟨s, hs⟩ : ∃ s, x.Stats[j]? = some s := ⟨_, List.getElem?_eq_getElem h3⟩
     have hds := drop_cons hs
     refine hw_skip ?_
     refine seqQ_n ?_
     refine hw_seq ?_
     refine hw_block ?_
     refine hw_reg ?_
     refine dp rfl (pop_idx ty61 ty121 rfl rfl rfl (by first | assumption | simp_all)) ?_
     refine dp rfl (pop_loadw ty121 rfl rfl rfl rfl) ?_
     refine de rfl (eop_alloc ty121 rfl fun b7 => ?_)
     refine de0 (eop_storew ty121 rfl rfl rfl rfl rfl ?_)
     refine dn ?_
     refine hw_ghost (Ghost.fc0 7 rfl) ?_
     refine hw_reg1 ?_
     refine dp rfl (pop_move rfl) ?_
     refine dp rfl (pop_fieldAddr ty63 rfl ty9 (by decide) rfl) ?_
     refine dp rfl (pop_load ty9 rfl rfl rfl) ?_
     refine dp rfl (pop_fieldAddr ty63 rfl ty3 (by decide) rfl) ?_
     refine dp rfl (pop_load ty3 rfl rfl rfl) ?_
     refine dp rfl (pop_build (cs := [_, _]) ty129 pl129 rfl) ?_
     refine dp rfl (pop_fieldAddr ty121 rfl ty9 (by decide) rfl) ?_
     refine dp rfl (pop_load ty9 rfl rfl rfl) ?_
     refine dp rfl (pop_build (cs := [_, _, _]) ty131 pl131 rfl) ?_
     refine dp rfl (pop_fieldAddr ty121 rfl ty3 (by decide) rfl) ?_
     refine dp rfl (pop_load ty3 rfl rfl rfl) ?_
     refine de0 (eop_updatekA (i := 0) (s := (x.Player, x.Week, s.Name)) (v := s.Count) ty126 ok131 rfl rfl rfl rfl ?_)
     refine dn ?_
     refine blockQ_n ?_
     refine seqQ_n ?_
     refine hw_reg1 ?_
     refine dp rfl (pop_add64 rfl rfl (by omega) (by omega)) ?_
     refine dp rfl (pop_move rfl) ?_
     refine dn ?_
     exact ⟨j + 1, ⟨by omega, trivial⟩, by dsimp only; omega, ⟨rfl, trivial⟩, (by repeat (first | exact keeps_refl | refine keeps_upd rfl ?_ | refine keeps_loop rfl rfl ?_)), perm_eq (by dsimp only; rw [cnRow_snoc hs]; rfl)⟩
    ·try simp at h4
     have hnj : x.Stats.length ≤ j := by omega
     obtain rfl : j = x.Stats.length := by omega
     rw [List.take_length]
     refine hw_exit ?_
     refine seqQ_x ?_
     refine loopQ_x ?_
     refine blockQ_eq ?_
     refine blockQ_n ?_
     refine seqQ_n ?_
     refine hw_reg1 ?_
     refine dp rfl (pop_add64 rfl rfl (by omega) (by omega)) ?_
     refine dp rfl (pop_move rfl) ?_
     refine dn ?_
     exact ⟨k + 1, ⟨by omega, trivial⟩, by dsimp only; omega, ⟨rfl, trivial⟩, (by repeat (first | exact keeps_refl | refine keeps_upd rfl ?_ | refine keeps_loop rfl rfl ?_)), perm_eq (by dsimp only; rw [cnL_snoc hx])⟩
  ·try simp at h2
   have hnk : l.length ≤ k := by omega
   obtain rfl : k = l.length := by omega
   rw [List.take_length]
   refine hw_exit ?_
   refine seqQ_x ?_
   refine loopQ_x ?_
   refine blockQ_eq ?_
   refine seqQ_n ?_
   refine hw_reg ?_
   refine dp rfl (pop_move rfl) ?_
   refine dp rfl (pop_assign rfl) ?_
   refine dn ?_
   refine hw_ret ?_
   exact ret_q rfl ⟨_, rfl, rfl⟩

theorem c_clone_counts [Tracks] {b : Nat} {l : List (HVal × HVal)} : Con Tryz.prog 134 [.raw (.map (some b))] [.map b l] fun x M' => ∃ b', x = .raw (.map (some b')) ∧ M' = [.map b' l, .map b l] :=
 con_clone Tryz.g134

/-- maps.Copy[map[benchwarmer/play.count]int,map[benchwarmer/play.count]int,benchwarmer/play.count,int] -/
theorem c_copy_counts [Tracks] {bd bs : Nat} {D0 S : List (Cnt × Int)} (hS : S.length ≤ 1000000) : Con Tryz.prog 135 [.raw (.map (some bd)), .raw (.map (some bs))] [.map bd (kk eCnt (em (HVal.int .i64) D0)), .map bs (kk eCnt (em (HVal.int .i64) S))] (fun x M' => ∃ E, x = .tup [] ∧ E.Perm S ∧ M' = [.map bd (kk eCnt (em (HVal.int .i64) (merA D0 E))), .map bs (kk eCnt (em (HVal.int .i64) S))]) := by
 refine Con.of_body Tryz.func135 rfl Tryz.ntmps135 rfl rfl ?_
 refine hw_reg ?_
 refine dp rfl (pop_move rfl) ?_
 refine de rfl (eop_range (i := 1) ty126 rfl rfl fun r => ?_)
 refine dn ?_
 refine hw_block ?_
 refine hw_loopw2 [4, 5, 8, 9, 10, 11, 12, 13, 14, 15] (fun (vis : List Nat) (E : List (Cnt × Int)) => []) (fun (vis : List Nat) (E : List (Cnt × Int)) => [.map bd (kk eCnt (em (HVal.int .i64) (merA D0 E))), .iter r bs (kk eCnt (em (HVal.int .i64) S)) vis]) (fun (vis : List Nat) (E : List (Cnt × Int)) => VisOk (S) vis E ∧ (True)) (fun (vis : List Nat) (E : List (Cnt × Int)) => (S).length - vis.length) ([]) ([]) ?_ ?_ ?_ ?_
 ·exact ⟨VisOk.nil _, trivial⟩
 ·exact trivial
 ·exact perm_eq rfl
 ·intro vis E hinv
  obtain ⟨hvis, -⟩ := hinv
  refine hw_reg ?_
  refine de rfl (eop_nextA (i := 1) (L := S) (enc := (fun p : Cnt × Int => (eCnt p.1, HVal.int .i64 p.2))) rfl rfl (kk_em _ _ _) hvis.nd hvis.lt fun cb R vis' hnx => ?_)
  refine dp rfl (pop_extract rfl rfl) ?_
  refine dn ?_
  refine hw_seq ?_
  refine hw_cond rfl (fun h1 => ?_) (fun h2 => ?_)
  ·try simp at h1
   obtain ⟨j, q, hq, hj, rfl⟩ := hnx.t h1
   have hroom := hvis.room hq hj
   have hstep := hvis.step hq hj
   have hqm := List.mem_of_getElem? hq
   refine hw_skip ?_
   refine seqQ_n ?_
   refine hw_block ?_
   refine hw_reg ?_
   refine de rfl (eop_entryA (i := 1) (L := S) (enc := (fun p : Cnt × Int => (eCnt p.1, HVal.int .i64 p.2))) rfl rfl (kk_em _ _ _) hq ?_)
   refine dp rfl (pop_extract rfl rfl) ?_
   refine dp rfl (pop_extract rfl rfl) ?_
   refine de rfl (eop_alloc ty131 rfl fun b4 => ?_)
   refine de0 (eop_storew ty131 rfl rfl rfl rfl rfl ?_)
   refine dp rfl (pop_assign rfl) ?_
   refine dn ?_
   refine hw_ghost (Ghost.fc0 4 rfl) ?_
   refine hw_reg1 ?_
   refine dp rfl (pop_move rfl) ?_
   refine dp rfl (pop_loadw ty131 rfl rfl rfl rfl) ?_
   refine dp rfl (pop_move rfl) ?_
   refine de0 (eop_updatekA (i := 0) (s := q.1) (v := q.2) ty126 ok131 rfl rfl rfl rfl ?_)
   refine dn ?_
   refine blockQ_n ?_
   exact ⟨_, E ++ [q], ⟨hstep, trivial⟩, by dsimp only; rw [List.length_append]; simp only [List.length_cons, List.length_nil]; omega, trivial, (by repeat (first | exact keeps_refl | refine keeps_upd rfl ?_ | refine keeps_loop rfl rfl ?_)), perm_eq (by dsimp only; rw [merA_snoc]; rfl)⟩
  ·try simp at h2
   obtain ⟨rfl, hlen⟩ := hnx.f h2
   have hEp := hvis.done hlen
   refine hw_exit ?_
   refine seqQ_x ?_
   refine loopQ2_x ?_
   refine blockQ_eq ?_
   exact ret_g (Ghost.iterOver (i := 1) rfl) rfl ⟨E, rfl, hEp, rfl⟩

set_option maxHeartbeats 2000000 in
/-- benchwarmer/play.differ -/
theorem c_play_differ [Tracks] {a b : List LineS} (hla : a.length ≤ 1000) (hLa : ∀ x ∈ a, x.Stats.length ≤ 100) (hlb : b.length ≤ 1000) (hLb : ∀ x ∈ b, x.Stats.length ≤ 100) : ConP Tryz.prog 77 [eLines a, eLines b] (eTurneds (dfL a b)) := by
 have hka := cnL_many hLa
 have hkb := cnL_many hLb
 refine Con.of_body Tryz.func77 rfl Tryz.ntmps77 rfl rfl ?_
 refine hw_reg ?_
 refine dp rfl (pop_assign rfl) ?_
 refine dn ?_
 refine hw_reg ?_
 refine dp rfl (pop_move rfl) ?_
 refine de rfl (eop_callf (M1 := []) (R := []) ca83 rfl (WeakL.refl _) (List.Perm.refl _) (c_play_counts (l := a) hla (fun x hx => Nat.le_trans (hLa x hx) (by decide))) ?_)
 rintro _ _ ⟨b11, rfl, rfl⟩
 refine dp rfl (pop_move rfl) ?_
 refine de rfl (eop_callf (M1 := []) (R := [.map b11 (kk eCnt (em (HVal.int .i64) (cnL a)))]) ca83 rfl (WeakL.refl _) (List.Perm.refl _) (c_play_counts (l := b) hlb (fun x hx => Nat.le_trans (hLb x hx) (by decide))) ?_)
 rintro _ _ ⟨b13, rfl, rfl⟩
 refine dp rfl (pop_assign rfl) ?_
 refine dp rfl (pop_assign rfl) ?_
 refine dn ?_
 refine hw_reg ?_
 refine dp rfl (pop_move rfl) ?_
 refine de rfl (eop_callf (M1 := [.map b11 (kk eCnt (em (HVal.int .i64) (cnL a)))]) (R := [.map b13 (kk eCnt (em (HVal.int .i64) (cnL b)))]) ca134 rfl (WeakL.refl _) (List.Perm.swap _ _ _) c_clone_counts ?_)
 rintro _ _ ⟨b15, rfl, rfl⟩
 refine dp rfl (pop_assign rfl) ?_
 refine dn ?_
 refine hw_reg ?_
 refine dp rfl (pop_move rfl) ?_
 refine dp rfl (pop_move rfl) ?_
 refine de rfl (eop_callf (M1 := [.map b15 (kk eCnt (em (HVal.int .i64) (cnL a))), .map b13 (kk eCnt (em (HVal.int .i64) (cnL b)))]) (R := [.map b11 (kk eCnt (em (HVal.int .i64) (cnL a)))]) ca135 rfl (WeakL.refl _) (List.Perm.cons _ (List.Perm.swap _ _ _)) (c_copy_counts (D0 := cnL a) (S := cnL b) (by omega)) ?_)
 rintro _ _ ⟨E0, rfl, hE0, rfl⟩
 refine dn ?_
 have hDl := merA_len E0 (cnL a)
 have hE0l := hE0.length_eq
 generalize hD : merA (cnL a) E0 = D at hDl ⊢
 refine hw_reg ?_
 refine dp rfl (pop_assign rfl) ?_
 refine dn ?_
 refine hw_ghost (Ghost.arr_nil 5) ?_
 refine hw_seq ?_
 refine hw_reg ?_
 refine dp rfl (pop_move rfl) ?_
 refine de rfl (eop_range (i := 1) ty126 rfl rfl fun r => ?_)
 refine dn ?_
 refine hw_block ?_
 refine hw_loopw3 [8, 9, 21, 22, 23, 24, 25, 26, 27, 28, 29, 30, 31, 32, 33, 34, 35, 36, 37, 38, 39, 40, 41, 42, 43, 44, 45, 46, 47, 48, 49] (fun (vis : List Nat) (E : List (Cnt × Int)) (u : Value) => [(8, .raw u)]) (fun (vis : List Nat) (E : List (Cnt × Int)) (u : Value) => [.arr u 5 (((E.map (·.1)).filterMap (dfT a b)).map eTurned), .iter r b15 (kk eCnt (em (HVal.int .i64) D)) vis, .map b13 (kk eCnt (em (HVal.int .i64) (cnL b))), .map b11 (kk eCnt (em (HVal.int .i64) (cnL a)))]) (fun (vis : List Nat) (E : List (Cnt × Int)) (u : Value) => VisOk (D) vis E ∧ (True)) (fun (vis : List Nat) (E : List (Cnt × Int)) (u : Value) => (D).length - vis.length) ([]) ([]) (.slice none 0 0) ?_ ?_ ?_ ?_
 ·exact ⟨VisOk.nil _, trivial⟩
 ·exact ⟨rfl, trivial⟩
 ·exact perm_eq rfl
 ·intro vis E u hinv
  obtain ⟨hvis, -⟩ := hinv
  refine hw_reg ?_
  refine de rfl (eop_nextA (i := 1) (L := D) (enc := (fun p : Cnt × Int => (eCnt p.1, HVal.int .i64 p.2))) rfl rfl (kk_em _ _ _) hvis.nd hvis.lt fun cb R vis' hnx => ?_)
  refine dp rfl (pop_extract rfl rfl) ?_
  refine dn ?_
  refine hw_seq ?_
  refine hw_cond rfl (fun h1 => ?_) (fun h2 => ?_)
  ·try simp at h1
   obtain ⟨j, q, hq, hj, rfl⟩ := hnx.t h1
   have hroom := hvis.room hq hj
   have hstep := hvis.step hq hj
   have hqm := List.mem_of_getElem? hq
   refine hw_skip ?_
   refine seqQ_n ?_
   refine hw_block ?_
   refine hw_reg ?_
   refine de rfl (eop_entryA (i := 1) (L := D) (enc := (fun p : Cnt × Int => (eCnt p.1, HVal.int .i64 p.2))) rfl rfl (kk_em _ _ _) hq ?_)
   refine dp rfl (pop_extract rfl rfl) ?_
   refine de rfl (eop_alloc ty131 rfl fun b9 => ?_)
   refine de0 (eop_storew ty131 rfl rfl rfl rfl rfl ?_)
   refine dn ?_
   refine hw_ghost (Ghost.fc0 9 rfl) ?_
   refine hw_draw (fun M => M = [.arr u 5 (((E.map (·.1)).filterMap (dfT a b)).map eTurned), .iter r b15 (kk eCnt (em (HVal.int .i64) D)) (vis ++ [j]), .map b13 (kk eCnt (em (HVal.int .i64) (cnL b))), .map b11 (kk eCnt (em (HVal.int .i64) (cnL a)))]) [2, 5] mixed ?_
   refine ahp 0 rfl rfl (by kernel_rfl) (by kernel_rfl) (pop_move rfl) ?_
   refine ahp 1 rfl rfl (by kernel_rfl) (by kernel_rfl) (pop_loadw ty131 rfl rfl rfl rfl) ?_
   refine ahl 2 rfl rfl (by kernel_rfl) (by kernel_rfl) (by simp) rfl (fun M hM => by
   subst hM
   exact eop_lookupkA (i := 3) (s := q.1) (z0 := (0 : Int)) (f := (HVal.int .i64)) ty126 ok131 ty3 rfl rfl rfl rfl ⟨rfl, rfl⟩) ?_
   refine ahp 3 rfl rfl (by kernel_rfl) (by kernel_rfl) (pop_move rfl) ?_
   refine ahp 4 rfl rfl (by kernel_rfl) (by kernel_rfl) (pop_loadw ty131 rfl rfl rfl rfl) ?_
   refine ahl 5 rfl rfl (by kernel_rfl) (by kernel_rfl) (by simp) rfl (fun M hM => by
   subst hM
   exact eop_lookupkA (i := 2) (s := q.1) (z0 := (0 : Int)) (f := (HVal.int .i64)) ty126 ok131 ty3 rfl rfl rfl rfl ⟨rfl, rfl⟩) ?_
   refine ahp 6 rfl rfl (by kernel_rfl) (by kernel_rfl) (pop_neq rfl rfl) ?_
   refine ahz (by kernel_rfl) ?_
   refine hw_cond rfl (fun h3 => ?_) (fun h4 => ?_)
   ·try simp at h3
    refine hw_draw1 (fun M => ∃ a0 : MObj, M = [a0, .iter r b15 (kk eCnt (em (HVal.int .i64) D)) (vis ++ [j]), .map b13 (kk eCnt (em (HVal.int .i64) (cnL b))), .map b11 (kk eCnt (em (HVal.int .i64) (cnL a)))]) [11, 14] mixed ?_
    refine ahp 0 rfl rfl (by kernel_rfl) (by kernel_rfl) (pop_move rfl) ?_
    refine ahp 1 rfl rfl (by kernel_rfl) (by kernel_rfl) ((by first | exact pop_fieldAddr ty131 rfl ty129 (by decide) rfl | exact pop_fieldAddr_raw ty131 rfl ty129 (by decide) rfl)) ?_
    refine ahp 2 rfl rfl (by kernel_rfl) (by kernel_rfl) ((by first | exact pop_fieldAddr ty129 rfl ty9 (by decide) rfl | exact pop_fieldAddr_raw ty129 rfl ty9 (by decide) rfl)) ?_
    refine ahp 3 rfl rfl (by kernel_rfl) (by kernel_rfl) (pop_load ty9 rfl rfl rfl) ?_
    refine ahp 4 rfl rfl (by kernel_rfl) (by kernel_rfl) ((by first | exact pop_fieldAddr ty131 rfl ty129 (by decide) rfl | exact pop_fieldAddr_raw ty131 rfl ty129 (by decide) rfl)) ?_
    refine ahp 5 rfl rfl (by kernel_rfl) (by kernel_rfl) ((by first | exact pop_fieldAddr ty129 rfl ty3 (by decide) rfl | exact pop_fieldAddr_raw ty129 rfl ty3 (by decide) rfl)) ?_
    refine ahp 6 rfl rfl (by kernel_rfl) (by kernel_rfl) (pop_load ty3 rfl rfl rfl) ?_
    refine ahp 7 rfl rfl (by kernel_rfl) (by kernel_rfl) ((by first | exact pop_fieldAddr ty131 rfl ty9 (by decide) rfl | exact pop_fieldAddr_raw ty131 rfl ty9 (by decide) rfl)) ?_
    refine ahp 8 rfl rfl (by kernel_rfl) (by kernel_rfl) (pop_load ty9 rfl rfl rfl) ?_
    refine ahp 9 rfl rfl (by kernel_rfl) (by kernel_rfl) (pop_move rfl) ?_
    refine ahp 10 rfl rfl (by kernel_rfl) (by kernel_rfl) (pop_loadw ty131 rfl rfl rfl rfl) ?_
    refine ahl 11 rfl rfl (by kernel_rfl) (by kernel_rfl) (by simp) ⟨_, rfl⟩ (fun M hM => by
   obtain ⟨a0, rfl⟩ := hM
   exact eop_lookupkA (i := 3) (s := q.1) (z0 := (0 : Int)) (f := (HVal.int .i64)) ty126 ok131 ty3 rfl rfl rfl rfl ⟨rfl, rfl⟩) ?_
    refine ahp 12 rfl rfl (by kernel_rfl) (by kernel_rfl) (pop_move rfl) ?_
    refine ahp 13 rfl rfl (by kernel_rfl) (by kernel_rfl) (pop_loadw ty131 rfl rfl rfl rfl) ?_
    refine ahl 14 rfl rfl (by kernel_rfl) (by kernel_rfl) (by simp) ⟨_, rfl⟩ (fun M hM => by
   obtain ⟨a0, rfl⟩ := hM
   exact eop_lookupkA (i := 2) (s := q.1) (z0 := (0 : Int)) (f := (HVal.int .i64)) ty126 ok131 ty3 rfl rfl rfl rfl ⟨rfl, rfl⟩) ?_
    refine ahp 15 rfl rfl (by kernel_rfl) (by kernel_rfl) (pop_build (cs := [_, _, _, _, _]) ty53 pl53 rfl) ?_
    refine ahp 16 rfl rfl (by kernel_rfl) (by kernel_rfl) (pop_buildSlice (hs := [_]) ty49 ty53 rfl rfl (by decide) (by decide) rfl) ?_
    refine ahe 17 rfl (by kernel_rfl) ?_
    refine hop_e rfl (eop_append (i := 0) ty49 ty53 rfl rfl rfl rfl rfl (by simp [flat, hcells]) (by have h8 := dfT_len a b E; have h9 := hvis.len; simp only [List.length_map, List.length_cons, List.length_nil]; omega) fun v49 => ?_)
    refine ⟨fun _ => .inl ⟨_, rfl⟩, ?_⟩
    refine ahp 18 rfl rfl (by kernel_rfl) (by kernel_rfl) (pop_assign rfl) ?_
    refine ahz (by kernel_rfl) ?_
    refine blockQ_n ?_
    exact ⟨_, E ++ [q], v49, ⟨hstep, trivial⟩, by dsimp only; rw [List.length_append]; simp only [List.length_cons, List.length_nil]; omega, ⟨rfl, trivial⟩, (by repeat (first | exact keeps_refl | refine keeps_upd rfl ?_ | refine keeps_loop rfl rfl ?_)), perm_eq (by dsimp only; rw [dfT_snoc, dfT_yes (by assumption)]; simp only [Option.toList, List.map_append, List.map_cons, List.map_nil, List.append_nil]; rfl)⟩
   ·try simp at h4
    refine hw_skip ?_
    refine blockQ_n ?_
    exact ⟨_, E ++ [q], u, ⟨hstep, trivial⟩, by dsimp only; rw [List.length_append]; simp only [List.length_cons, List.length_nil]; omega, ⟨rfl, trivial⟩, (by repeat (first | exact keeps_refl | refine keeps_upd rfl ?_ | refine keeps_loop rfl rfl ?_)), perm_eq (by dsimp only; rw [dfT_snoc, dfT_no (by assumption)]; simp only [Option.toList, List.map_append, List.map_cons, List.map_nil, List.append_nil]; rfl)⟩
  ·try simp at h2
   obtain ⟨rfl, hlen⟩ := hnx.f h2
   have hEp := hvis.done hlen
   refine hw_exit ?_
   refine seqQ_x ?_
   refine loopQ3_x ?_
   refine blockQ_eq ?_
   refine seqQ_n ?_
   refine hw_ghost (Ghost.iterOver (i := 1) rfl) ?_
   refine hw_ghost (Ghost.of_eq (M' := [.arr u 5 (((E.map (·.1)).filterMap (dfT a b)).map eTurned), .map b15 (kk eCnt (em (HVal.int .i64) D)), .map b13 (kk eCnt (em (HVal.int .i64) (cnL b))), .map b11 (kk eCnt (em (HVal.int .i64) (cnL a)))]) rfl) ?_
   refine hw_reg ?_
   refine dp rfl (pop_move rfl) ?_
   refine de rfl (eop_callf (M1 := [.arr u 5 (((E.map (·.1)).filterMap (dfT a b)).map eTurned)]) (R := _) ca100 rfl (WeakL.refl _) (List.Perm.refl _) (c_sort_Turned (c := byTu) (swo_cmp byTu_cmp) ca136 (fun _ _ => @c_play_differ_1 trackOn _ _) (l := ((E.map (·.1)).filterMap (dfT a b))) (by have := dfT_len a b E; have := hEp.length_eq; omega)) ?_)
   rintro _ _ ⟨l', rfl, hp', hw', rfl⟩
   obtain rfl := dfL_of ((hEp.map _).trans (by rw [← hD]; exact merA_perm (cnL_nodup a) hE0)) hp' hw'
   refine dn ?_
   refine hw_ghost (Ghost.only (i := 0) rfl) ?_
   refine hw_reg ?_
   refine dp rfl (pop_move rfl) ?_
   refine dp rfl (pop_assign rfl) ?_
   refine dn ?_
   refine hw_ret ?_
   exact ret_fa (M := []) 4 rfl rfl rfl

/-- benchwarmer/play.Differ -/
theorem c_play_Differ [Tracks] {a b : List LineS} (hla : a.length ≤ 1000) (hLa : ∀ x ∈ a, x.Stats.length ≤ 100) (hlb : b.length ≤ 1000) (hLb : ∀ x ∈ b, x.Stats.length ≤ 100) : ConP Tryz.prog 23 [eLines a, eLines b] (.tup [eTurneds (if orI [linesFE a, linesFE b] ≠ 0 then [] else dfL a b), .int .i64 (orI [linesFE a, linesFE b])]) := by
 refine Con.of_body Tryz.func23 rfl Tryz.ntmps23 rfl rfl ?_
 refine hw_reg ?_
 refine dp rfl (pop_assign rfl) ?_
 refine dp rfl (pop_assign rfl) ?_
 refine dn ?_
 refine hw_seq ?_
 refine hw_reg ?_
 refine dp rfl (pop_move rfl) ?_
 refine dp rfl (pop_call ca26 rfl (WeakL.refl _) (c_play_CheckLines (l := a) (by omega) (fun x hx => Nat.le_trans (hLa x hx) (by decide)))) ?_
 refine dp rfl (pop_move rfl) ?_
 refine dp rfl (pop_call ca26 rfl (WeakL.refl _) (c_play_CheckLines (l := b) (by omega) (fun x hx => Nat.le_trans (hLb x hx) (by decide)))) ?_
 refine dp rfl (pop_buildSlice (hs := [_, _]) ty136 ty31 rfl rfl (by decide) (by decide) rfl) ?_
 refine dp rfl (pop_call ca65 rfl (WeakL.refl _) (c_base_First (l := [_, _]) (by simp))) ?_
 refine dp rfl (pop_assign rfl) ?_
 refine dn ?_
 refine hw_reg ?_
 refine dp rfl (pop_move rfl) ?_
 refine dp rfl (pop_neq rfl rfl) ?_
 refine dn ?_
 refine hw_cond rfl (fun h1 => ?_) (fun h2 => ?_)
 ·try simp at h1
  refine hw_reg ?_
  refine dp rfl (pop_move rfl) ?_
  refine dp rfl (pop_assign rfl) ?_
  refine dp rfl (pop_assign rfl) ?_
  refine dn ?_
  refine hw_ret ?_
  first
  | exact ret_w rfl (weak_tup2 (by rw [if_pos (by simpa using h1)]; exact weak_nil 5) (Weak.refl _))
  | (refine ret_p rfl ?_
     have hz : orI [linesFE a, linesFE b] = 0 := by simpa using h2
     rw [if_neg (by simpa using h2), hz]; rfl)
 ·try simp at h2
  refine hw_skip ?_
  refine seqQ_n ?_
  refine hw_reg ?_
  refine dp rfl (pop_move rfl) ?_
  refine dp rfl (pop_move rfl) ?_
  refine dp rfl (pop_call ca77 rfl (WeakL.refl _) (c_play_differ hla hLa hlb hLb)) ?_
  refine dp rfl (pop_assign rfl) ?_
  refine dp rfl (pop_assign rfl) ?_
  refine dn ?_
  refine hw_ret ?_
  first
  | exact ret_w rfl (weak_tup2 (by rw [if_pos (by simpa using h1)]; exact weak_nil 5) (Weak.refl _))
  | (refine ret_p rfl ?_
     have hz : orI [linesFE a, linesFE b] = 0 := by simpa using h2
     rw [if_neg (by simpa using h2), hz]; rfl)

/-- benchwarmer/play.Count -/
theorem c_play_Count [Tracks] {l : List LineS} {p : Str} {w : Int} {s : Str} (hl : l.length ≤ 1000) (hL : ∀ x ∈ l, x.Stats.length ≤ 1000) : ConP Tryz.prog 27 [eLines l, .str p, .int .i64 w, .str s] (.tup [.int .i64 (CountV l p w s), .int .i64 (CountE l p w s)]) := by
 refine Con.of_body Tryz.func27 rfl Tryz.ntmps27 rfl rfl ?_
 refine hw_reg ?_
 refine dp rfl (pop_assign rfl) ?_
 refine dp rfl (pop_assign rfl) ?_
 refine dn ?_
 refine hw_seq ?_
 refine hw_reg ?_
 refine dp rfl (pop_move rfl) ?_
 refine dp rfl (pop_call ca26 rfl (WeakL.refl _) (c_play_CheckLines (l := l) (by omega) (fun x hx => Nat.le_trans (hL x hx) (by decide)))) ?_
 refine dp rfl (pop_assign rfl) ?_
 refine dn ?_
 refine hw_reg ?_
 refine dp rfl (pop_move rfl) ?_
 refine dp rfl (pop_neq rfl rfl) ?_
 refine dn ?_
 refine hw_cond rfl (fun h1 => ?_) (fun h2 => ?_)
 ·try simp at h1
  refine hw_reg ?_
  refine dp rfl (pop_move rfl) ?_
  refine dp rfl (pop_assign rfl) ?_
  refine dp rfl (pop_assign rfl) ?_
  refine dn ?_
  refine hw_ret ?_
  refine ret_g Ghost.clear rfl ⟨?_, rfl⟩
  show HVal.tup [.int .i64 _, .int .i64 _] = _
  unfold CountV CountE cntOf
  simp_all
 ·try simp at h2
  refine hw_skip ?_
  refine seqQ_n ?_
  refine hw_seq ?_
  refine hw_block ?_
  refine hw_reg ?_
  refine dp rfl (pop_move rfl) ?_
  refine dp rfl (pop_call ca80 rfl (WeakL.refl _) c_base_Key) ?_
  refine dp rfl (pop_not rfl) ?_
  refine dp rfl (pop_assign rfl) ?_
  refine dn ?_
  refine hw_cond rfl (fun h3 => ?_) (fun h4 => ?_)
  ·try simp at h3
   refine hw_reg ?_
   refine dp rfl (pop_assign rfl) ?_
   refine dp rfl (pop_assign rfl) ?_
   refine dn ?_
   refine hw_ret ?_
   refine ret_g Ghost.clear rfl ⟨?_, rfl⟩
   show HVal.tup [.int .i64 _, .int .i64 _] = _
   unfold CountV CountE cntOf
   simp_all
  ·try simp at h4
   refine hw_reg ?_
   refine dp rfl (pop_move rfl) ?_
   refine dp rfl (pop_call ca72 rfl (WeakL.refl _) c_base_Week) ?_
   refine dp rfl (pop_not rfl) ?_
   refine dp rfl (pop_assign rfl) ?_
   refine dn ?_
   refine hw_cond rfl (fun h5 => ?_) (fun h6 => ?_)
   ·try simp at h5
    refine hw_reg ?_
    refine dp rfl (pop_assign rfl) ?_
    refine dp rfl (pop_assign rfl) ?_
    refine dn ?_
    refine hw_ret ?_
    refine ret_g Ghost.clear rfl ⟨?_, rfl⟩
    show HVal.tup [.int .i64 _, .int .i64 _] = _
    unfold CountV CountE cntOf
    simp_all
   ·try simp at h6
    refine hw_reg ?_
    refine dp rfl (pop_move rfl) ?_
    refine dp rfl (pop_call ca80 rfl (WeakL.refl _) c_base_Key) ?_
    refine dp rfl (pop_not rfl) ?_
    refine dp rfl (pop_assign rfl) ?_
    refine dn ?_
    refine hw_cond rfl (fun h7 => ?_) (fun h8 => ?_)
    ·try simp at h7
     refine hw_reg ?_
     refine dp rfl (pop_assign rfl) ?_
     refine dp rfl (pop_assign rfl) ?_
     refine dn ?_
     refine hw_ret ?_
     refine ret_g Ghost.clear rfl ⟨?_, rfl⟩
     show HVal.tup [.int .i64 _, .int .i64 _] = _
     unfold CountV CountE cntOf
     simp_all
    ·try simp at h8
     refine hw_skip ?_
     refine blockQ_n ?_
     refine seqQ_n ?_
     refine hw_reg ?_
     refine dp rfl (pop_move rfl) ?_
     refine de rfl (eop_callf (M1 := []) (R := []) ca83 rfl (WeakL.refl _) (List.Perm.refl _) (c_play_counts (l := l) hl hL) ?_)
     rintro _ _ ⟨b29, rfl, rfl⟩
     refine dp rfl (pop_move rfl) ?_
     refine dp rfl (pop_move rfl) ?_
     refine dp rfl (pop_build (cs := [_, _]) ty129 pl129 rfl) ?_
     refine dp rfl (pop_move rfl) ?_
     refine dp rfl (pop_build (cs := [_, _, _]) ty131 pl131 rfl) ?_
     refine de rfl (eop_lookupkA (i := 0) (s := (p, w, s)) (z0 := (0 : Int)) (f := (HVal.int .i64)) ty126 ok131 ty3 rfl rfl rfl rfl ?_)
     refine dp rfl (pop_assign rfl) ?_
     refine dp rfl (pop_assign rfl) ?_
     refine dn ?_
     refine hw_ret ?_
     refine ret_g Ghost.clear rfl ⟨?_, rfl⟩
     show HVal.tup [.int .i64 _, .int .i64 _] = _
     unfold CountV CountE cntOf
     simp_all
end Go.Proofs.YtkamelfigfbfiaaGreatDoor
end
section
namespace Go.HL
section
variable {κ : Type}
/-- A value that is a map, or none. -/
abbrev fM (o : Option Nat) : HVal := .raw (.map o)
/-- The inner maps by the outer key: block and entries. -/
abbrev GrM (κ : Type) := List (Str × (Nat × List (κ × Int)))
def outerL (G : GrM κ) : List (Str × Option Nat) := G.map fun p => (p.1, some p.2.1)
def grm (ek : κ → HVal) (G : GrM κ) : List MObj := G.map fun p => .map p.2.1 (kk ek (em (HVal.int .i64) p.2.2))
theorem outer_get {s : Str} : ∀ {G : GrM κ}, alk s (outerL G) = (alk s G).map fun q => some q.1
 | [] => rfl
 | p :: r => by
   have ih := outer_get (s := s) (G := r)
   simp only [outerL, List.map_cons, alk] at ih ⊢
   by_cases h : s = p.1
   ·rw [if_pos h, if_pos h]; rfl
   ·rw [if_neg h, if_neg h]; exact ih
theorem outer_put {s : Str} {b : Nat} {L : List (κ × Int)} : ∀ {G : GrM κ}, aput s (some b) (outerL G) = outerL (aput s (b, L) G)
 | [] => rfl
 | p :: r => by
   have ih := outer_put (s := s) (b := b) (L := L) (G := r)
   simp only [outerL, List.map_cons, aput] at ih ⊢
   by_cases h : s = p.1
   ·rw [if_pos h, if_pos h]; rfl
   ·rw [if_neg h, if_neg h, List.map_cons, ih]
/-- Where the block stays the outer map stays. -/
theorem outer_same {s : Str} {b : Nat} {L L' : List (κ × Int)} : ∀ {G : GrM κ}, alk s G = some (b, L) → outerL (aput s (b, L') G) = outerL G
 | [], h => by simp [alk] at h
 | p :: r, h => by
   simp only [alk] at h
   by_cases hs : s = p.1
   ·rw [if_pos hs] at h
    simp only [Option.some.injEq] at h
    simp only [aput, if_pos hs, outerL, List.map_cons]
    rw [h, hs]
   ·rw [if_neg hs] at h
    have ih := outer_same (L' := L') h
    simp only [aput, if_neg hs, outerL, List.map_cons] at ih ⊢
    rw [ih]
theorem aput_filter {α : Type} {s : Str} {v : α} : ∀ {G : List (Str × α)}, ANodup G → (aput s v G).Perm ((s, v) :: G.filter fun q => decide (q.1 ≠ s))
 | [], _ => by simp [aput]
 | p :: r, hn => by
   have h1 := List.nodup_cons.1 hn
   simp only [aput]
   by_cases hs : s = p.1
   ·rw [if_pos hs]
    have h2 : alk s r = none := by rw [alk_none, hs]; exact h1.1
    rw [List.filter_cons, if_neg (by simp [hs]), filter_ne_none h2]
   ·rw [if_neg hs, List.filter_cons, if_pos (by simp; exact fun e => hs e.symm)]
    exact (List.Perm.cons p (aput_filter h1.2)).trans (List.Perm.swap _ _ _)
/-- One inner map is taken to the head. -/
theorem grm_take {ek : κ → HVal} {A : List MObj} {G : GrM κ} {s : Str} {b : Nat} {L : List (κ × Int)} (hn : ANodup G) (hq : alk s G = some (b, L)) : (A ++ grm ek G).Perm (.map b (kk ek (em (HVal.int .i64) L)) :: (A ++ grm ek (G.filter fun q => decide (q.1 ≠ s)))) := by
 have h := ((filter_ne_perm hn hq).map fun p => MObj.map p.2.1 (kk ek (em (HVal.int .i64) p.2.2))).append_left A
 refine h.trans ?_
 simp only [List.map_cons, grm]
 exact List.perm_middle
/-- And put back, with other entries; or a new one is put. -/
theorem grm_put {ek : κ → HVal} {A : List MObj} {G : GrM κ} {s : Str} {b : Nat} {L : List (κ × Int)} (hn : ANodup G) : (.map b (kk ek (em (HVal.int .i64) L)) :: (A ++ grm ek (G.filter fun q => decide (q.1 ≠ s)))).Perm (A ++ grm ek (aput s (b, L) G)) := by
 have h := ((aput_filter (s := s) (v := (b, L)) hn).map fun p => MObj.map p.2.1 (kk ek (em (HVal.int .i64) p.2.2))).append_left A
 refine List.Perm.symm (h.trans ?_)
 simp only [List.map_cons, grm]
 exact List.perm_middle
theorem grm_new {ek : κ → HVal} {A : List MObj} {G : GrM κ} {s : Str} {b : Nat} {L : List (κ × Int)} (hn : ANodup G) (hq : alk s G = none) : (.map b (kk ek (em (HVal.int .i64) L)) :: (A ++ grm ek G)).Perm (A ++ grm ek (aput s (b, L) G)) := by
 have h := grm_put (ek := ek) (A := A) (s := s) (b := b) (L := L) hn
 rw [filter_ne_none hq] at h
 exact h
end
end Go.HL
end
section
namespace Go.HL
section
variable {P : Program} {e : Env} {dst : Option Tmp} {ty : TypeId} {pos : String} {af : Array Edge} {g : Option (Nat × Bool)} {M : List MObj} {K : HVal → List MObj → Prop}
theorem run_equal_mapnil {t k el : TypeId} (hu : P.underlying t = some (.map k el)) (a : Option Nat) (w : World) : (Op.equal t (.map a) (.map none)).run P w = .ok a.isNone w := by
 have h : ∀ d, (Op.equalIn (d + 1) t (.map a) (.map none)).run P w = .ok a.isNone w := fun d => by
  cases a <;> simp only [Op.equalIn, Sem.run_bind, run_underlying hu, Result.andThen_ok, Sem.run_pure, Option.isNone]
 exact h 9999
theorem pop_eqnilM [Tracks] {x y : Operand} {t t' k el : TypeId} {size bytes : Nat} {zero : Value} {o : Option Nat} (hf : Fits P t (.map k el) size bytes zero) (hx : evalO e x = some (.raw (.map o))) (hy : evalO e y = some (.raw (.map none))) :
 POp P e ⟨dst, .binOp .eql t x y t', ty, pos, af, g⟩ (.bool o.isNone) :=
 POp.of_val fun I a w ho => by
  have h1 := (ho.one (x := x) (by simp [Op.operands]) hx).raw_inv
  have h2 := (ho.one (x := y) (by simp [Op.operands]) hy).raw_inv
  refine ⟨_, ?_, .bool _⟩
  simp [execOp, h1, h2, eqGuard, binOp, run_equal_mapnil hf.mapD]
/-! arrays of two scalars -/
end
end Go.HL
end
section
namespace Go.HL
variable {P : Program}
open Go.Sort Go.Proofs
end Go.HL
end
section
namespace Go.HL
theorem idxOf_at (s : Str) : ∀ (l : List Str) (k : Int), 0 ≤ k → (idxOf s l k = -1 ∧ s ∉ l) ∨ ∃ i : Nat, idxOf s l k = k + i ∧ l[i]? = some s ∧ ∀ j : Nat, j < i → l[j]? ≠ some s
 | [], k, _ => .inl ⟨rfl, by simp⟩
 | x :: r, k, h => by
   simp only [idxOf]
   by_cases e : s = x
   ·subst e
    rw [if_pos rfl]
    exact .inr ⟨0, by simp, rfl, fun j hj => by omega⟩
   ·rw [if_neg e]
    rcases idxOf_at s r (k + 1) (by omega) with ⟨h1, h2⟩ | ⟨i, h1, h2, h3⟩
    ·exact .inl ⟨h1, by simp [e, h2]⟩
    ·refine .inr ⟨i + 1, by rw [h1]; omega, h2, fun j hj => ?_⟩
     cases j with
     | zero => simp; exact fun q => e q.symm
     | succ j => exact h3 j (by omega)
theorem find_first {α : Type} {q : α → Bool} : ∀ {l : List α} {k : Nat} {s : α}, l[k]? = some s → q s = true → (∀ j t, j < k → l[j]? = some t → q t = false) → l.find? q = some s
 | [], k, s, h, _, _ => by simp at h
 | x :: r, 0, s, h, hq, _ => by
   simp at h; subst h; rw [List.find?_cons_of_pos hq]
 | x :: r, k + 1, s, h, hq, hm => by
   rw [List.find?_cons_of_neg (by rw [hm 0 x (by omega) rfl]; simp)]
   exact find_first (k := k) (by simpa using h) hq fun j t hj ht => hm (j + 1) t (by omega) (by simpa using ht)
/-- A play of a match that is trusted and known. -/
def CanSrc (trust : List Str) (n : Int) (m : Str) (p : Play) : Prop := p.Match = m ∧ p.At ≤ n ∧ 0 ≤ idxOf p.Source trust 0
def BestIs (trust : List Str) (n : Int) (m : Str) (B : List (Str × Int)) (l : List Play) : Prop :=
 (alk m B = none ∧ ∀ p ∈ l, ¬ CanSrc trust n m p) ∨ ∃ k, alk m B = some k ∧ (∃ p ∈ l, CanSrc trust n m p ∧ idxOf p.Source trust 0 = k) ∧ ∀ p ∈ l, CanSrc trust n m p → k ≤ idxOf p.Source trust 0
theorem best_step_is {trust : List Str} {n : Int} {m : Str} {B : List (Str × Int)} {l : List Play} (x : Play) (h : BestIs trust n m B l) : BestIs trust n m (bestStep trust n B x) (l ++ [x]) := by
 have hold : ¬ CanSrc trust n m x → BestIs trust n m B (l ++ [x]) := fun hx => by
  rcases h with ⟨h1, h2⟩ | ⟨k, h1, ⟨p, hp, h2⟩, h3⟩
  ·refine .inl ⟨h1, fun p hp => ?_⟩
   rcases List.mem_append.1 hp with hp | hp
   ·exact h2 p hp
   ·rw [List.mem_singleton.1 hp]; exact hx
  ·refine .inr ⟨k, h1, ⟨p, List.mem_append_left _ hp, h2⟩, fun p hp hc => ?_⟩
   rcases List.mem_append.1 hp with hp | hp
   ·exact h3 p hp hc
   ·rw [List.mem_singleton.1 hp] at hc; exact absurd hc hx
 unfold bestStep
 by_cases c1 : n < x.At ∨ idxOf x.Source trust 0 < 0
 ·rw [if_pos c1]
  exact hold fun hx => by have := hx.2; omega
 ·rw [if_neg c1]
  by_cases hm : x.Match = m
  ·have hcan : CanSrc trust n m x := ⟨hm, by omega, by omega⟩
   rw [hm]
   rcases h with ⟨h1, h2⟩ | ⟨k, h1, ⟨p, hp, h2, h2'⟩, h3⟩
   ·rw [h1, if_pos (.inl rfl)]
    refine .inr ⟨idxOf x.Source trust 0, by rw [alk_put, if_pos rfl], ⟨x, by simp, hcan, rfl⟩, fun p hp hc => ?_⟩
    rcases List.mem_append.1 hp with hp | hp
    ·exact absurd hc (h2 p hp)
    ·rw [List.mem_singleton.1 hp]; exact Int.le_refl _
   ·rw [h1]
    by_cases c2 : idxOf x.Source trust 0 < k
    ·rw [if_pos (.inr c2)]
     refine .inr ⟨idxOf x.Source trust 0, by rw [alk_put, if_pos rfl], ⟨x, by simp, hcan, rfl⟩, fun p hp hc => ?_⟩
     rcases List.mem_append.1 hp with hp | hp
     ·have := h3 p hp hc; omega
     ·rw [List.mem_singleton.1 hp]; exact Int.le_refl _
    ·rw [if_neg (by simp; omega)]
     refine .inr ⟨k, h1, ⟨p, List.mem_append_left _ hp, h2, h2'⟩, fun p hp hc => ?_⟩
     rcases List.mem_append.1 hp with hp | hp
     ·exact h3 p hp hc
     ·rw [List.mem_singleton.1 hp]; omega
  ·have hno : ¬ CanSrc trust n m x := fun hx => hm hx.1
   have := hold hno
   split
   ·unfold BestIs at *
    rw [alk_put, if_neg (fun e => hm e.symm)]
    exact this
   ·exact this
theorem best_is (l : List Play) (trust : List Str) (n : Int) (m : Str) : BestIs trust n m (bestL l trust n) l := by
 have key : ∀ k, k ≤ l.length → BestIs trust n m (bestL (l.take k) trust n) (l.take k) := by
  intro k
  induction k with
  | zero => intro _; exact .inl ⟨rfl, by simp⟩
  | succ k ih =>
    intro hk
    have hx := List.getElem?_eq_getElem (l := l) (i := k) (by omega)
    rw [bestL_snoc hx, take_snoc' hx]
    exact best_step_is _ (ih (by omega))
 have := key l.length (Nat.le_refl _)
 rwa [List.take_length] at this
/-- The source that counts, told the other way. -/
def hasSrc (l : List Play) (m : Str) (n : Int) (s : Str) : Bool := l.any fun x => x.Source == s && x.Match == m && decide (x.At ≤ n)
theorem src_find (l : List Play) (trust : List Str) (n : Int) (m : Str) : srcOf l trust n m = trust.find? (hasSrc l m n) := by
 unfold srcOf
 rcases best_is l trust n m with ⟨h1, h2⟩ | ⟨k, h1, ⟨p, hp, ⟨c1, c2, c3⟩, h2⟩, h3⟩
 ·rw [h1]
  symm
  refine List.find?_eq_none.2 fun s hs hq => ?_
  unfold hasSrc at hq
  rw [List.any_eq_true] at hq
  obtain ⟨x, hx, hq⟩ := hq
  simp only [Bool.and_eq_true, beq_iff_eq, decide_eq_true_eq] at hq
  refine h2 x hx ⟨hq.1.2, hq.2, ?_⟩
  rcases idxOf_at x.Source trust 0 (by omega) with ⟨_, q⟩ | ⟨i, q, _⟩
  ·rw [hq.1.1] at q; exact absurd hs q
  ·omega
 ·rw [h1]
  rcases idxOf_at p.Source trust 0 (by omega) with ⟨q, _⟩ | ⟨i, q1, q2, q3⟩
  ·omega
  ·have hk : k.toNat = i := by omega
   have e : trust.getD k.toNat [] = p.Source := by rw [hk]; simp [List.getD, q2]
   rw [Option.map_some, e]
   symm
   refine find_first q2 ?_ fun j t hj ht => ?_
   ·unfold hasSrc
    rw [List.any_eq_true]
    exact ⟨p, hp, by simp [c1, c2]⟩
   ·rw [Bool.eq_false_iff]
    intro hq
    unfold hasSrc at hq
    rw [List.any_eq_true] at hq
    obtain ⟨x, hx, hq⟩ := hq
    simp only [Bool.and_eq_true, beq_iff_eq, decide_eq_true_eq] at hq
    rcases idxOf_at x.Source trust 0 (by omega) with ⟨_, r⟩ | ⟨i', r1, r2, r3⟩
    ·rw [hq.1.1] at r; exact r (List.mem_of_getElem? ht)
    ·have hle := h3 x hx ⟨hq.1.2, hq.2, by omega⟩
     have : ¬ j < i' := fun hji => r3 j hji (by rw [hq.1.1]; exact ht)
     omega
def countingR (l : List Play) (trust : List Str) (m : Str) (n : Int) : Str := (trust.find? (hasSrc l m n)).getD []
theorem counting_src (l : List Play) (trust : List Str) (m : Str) (n : Int) : countingR l trust m n = (srcOf l trust n m).getD [] := by
 rw [src_find]; rfl
end Go.HL
end
section
namespace Go.HL
theorem Cmp.lt_trans {α : Type} {c : α → α → Int} {s : α → Prop} (h : Cmp c s) {x y z : α} (hx : s x) (hy : s y) (hz : s z) (h1 : c x y < 0) (h2 : c y z < 0) : c x z < 0 := by
 rcases Int.lt_or_le (c x z) 0 with q | q
 ·exact q
 ·exfalso
  have a1 := h.flip y z hy hz
  have a2 := h.flip z x hz hx
  have hzx : c z x ≤ 0 := by
   rcases Int.lt_or_le 0 (c z x) with r | r
   ·have := h.flip x z hx hz; omega
   ·exact r
  have := h.trans z x y hz hx hy hzx (by omega)
  omega
theorem cmpS_lt_trans {a b c : Str} (h1 : cmpS a b ≤ 0) (h2 : cmpS b c ≤ 0) (h : cmpS a c = 0) : cmpS a b = 0 ∧ cmpS b c = 0 := by
 have e := cmpS_zero.1 h
 subst e
 rw [cmpS_flip b a] at *
 omega
end Go.HL
end
section
namespace Go.HL
def SLt (a b : Str) : Prop := a ≤ b ∧ a ≠ b
theorem strict_ext {a b : List Str} (ha : a.Pairwise SLt) (hb : b.Pairwise SLt) (h : ∀ x, x ∈ a ↔ x ∈ b) : a = b := by
 have na : a.Nodup := ha.imp fun q => q.2
 have nb : b.Nodup := hb.imp fun q => q.2
 have hp : a.Perm b := (List.perm_ext_iff_of_nodup na nb).2 h
 exact List.Perm.eq_of_pairwise (le := SLt) (fun x y _ _ h1 h2 => List.le_antisymm h1.1 h2.1) ha hb hp
theorem mem_uniqP' : ∀ (l : List Str) (p : Option Str) (s : Str), s ∈ l → s ∈ uniqP p l ∨ p = some s
 | [], _, _, h => by cases h
 | x :: r, p, s, h => by
   simp only [uniqP]
   rcases List.mem_cons.1 h with rfl | h
   ·split
    ·rename_i e; exact .inr e
    ·exact .inl (by simp)
   ·rcases mem_uniqP' r (some x) s h with q | q
    ·split
     ·exact .inl q
     ·exact .inl (List.mem_cons_of_mem _ q)
    ·cases q
     split
     ·rename_i e; exact .inr e
     ·exact .inl (by simp)
theorem uniqP_strict : ∀ (l : List Str) (p : Option Str), l.Pairwise (fun x y => x ≤ y) → (∀ q, p = some q → ∀ x ∈ l, q ≤ x) → (uniqP p l).Pairwise SLt ∧ ∀ q, p = some q → ∀ y ∈ uniqP p l, SLt q y
 | [], _, _, _ => ⟨by simp [uniqP], fun q _ y hy => by simp [uniqP] at hy⟩
 | x :: r, p, h, hp => by
   obtain ⟨h1, h2⟩ := List.pairwise_cons.1 h
   obtain ⟨i1, i2⟩ := uniqP_strict r (some x) h2 (fun q e y hy => by cases e; exact h1 y hy)
   simp only [uniqP]
   split
   ·rename_i e
    refine ⟨i1, fun q eq y hy => ?_⟩
    rw [e] at eq; cases eq
    exact i2 x rfl y hy
   ·rename_i e
    refine ⟨List.pairwise_cons.2 ⟨fun y hy => i2 x rfl y hy, i1⟩, fun q eq y hy => ?_⟩
    have hqx : SLt q x := ⟨hp q eq x (by simp), fun he => e (by rw [eq, he])⟩
    rcases List.mem_cons.1 hy with rfl | hy
    ·exact hqx
    ·have hxy := i2 x rfl y hy
     refine ⟨List.le_trans hqx.1 hxy.1, fun he => ?_⟩
     subst he
     exact hqx.2 (List.le_antisymm hqx.1 hxy.1)
def onceL (l : List Str) : List Str := Lib.compact (sortS l)
theorem onceL_strict (l : List Str) : (onceL l).Pairwise SLt := by
 unfold onceL
 rw [compact_uniq]
 exact (uniqP_strict _ none (sortS_sorted l) (fun q e => by cases e)).1
theorem mem_onceL {l : List Str} {s : Str} : s ∈ onceL l ↔ s ∈ l := by
 constructor
 ·exact mem_cs
 ·intro h
  unfold onceL
  rw [compact_uniq]
  rcases mem_uniqP' (sortS l) none s ((List.mergeSort_perm _ _).mem_iff.2 h) with q | q
  ·exact q
  ·cases q
theorem sortS_strict {l : List Str} (h : l.Nodup) : (sortS l).Pairwise SLt := by
 have hn : (sortS l).Nodup := (List.mergeSort_perm _ _).nodup_iff.2 h
 have hs := sortS_sorted l
 rw [List.pairwise_iff_getElem] at *
 intro i j hi hj hij
 exact ⟨hs i j hi hj hij, List.pairwise_iff_getElem.1 hn i j hi hj hij⟩
theorem onceL_nodup {l : List Str} (h : l.Nodup) : onceL l = sortS l :=
 strict_ext (onceL_strict l) (sortS_strict h) fun x => by rw [mem_onceL, sortS, (List.mergeSort_perm _ _).mem_iff]
/-- What is told of the sources, the reference's way. -/
def toldR (l : List Play) (trust : List Str) (n : Int) : List PairS := ((onceL (l.map (·.Match))).filter fun m => countingR l trust m n != []).map fun m => ⟨m, countingR l trust m n⟩
theorem told_eq {l : List Play} {trust : List Str} {n : Int} {O : List (Str × Str)} (hn : ANodup O) (hO : ∀ m, alk m O = srcOf l trust n m) (ht : ∀ s ∈ trust, s ≠ []) :
 ((sortS (O.map (·.1))).map fun m => (⟨m, (alk m O).getD []⟩ : PairS)) = toldR l trust n := by
 unfold toldR
 have e : sortS (O.map (·.1)) = (onceL (l.map (·.Match))).filter fun m => countingR l trust m n != [] := by
  refine strict_ext (sortS_strict hn) ((onceL_strict _).filter _) fun m => ?_
  rw [sortS, (List.mergeSort_perm _ _).mem_iff, List.mem_filter, mem_onceL]
  have hk : m ∈ O.map (·.1) ↔ ¬ alk m O = none := by rw [alk_none]; exact Decidable.not_not.symm
  rw [hk, hO, counting_src]
  constructor
  ·intro h
   obtain ⟨s, hs⟩ := Option.ne_none_iff_exists'.1 h
   rw [hs]
   rw [src_find] at hs
   have h1 := List.find?_some hs
   have h2 := List.mem_of_find?_eq_some hs
   unfold hasSrc at h1
   rw [List.any_eq_true] at h1
   obtain ⟨x, hx, hq⟩ := h1
   simp only [Bool.and_eq_true, beq_iff_eq, decide_eq_true_eq] at hq
   exact ⟨List.mem_map.2 ⟨x, hx, hq.1.2⟩, by simpa using ht s h2⟩
  ·rintro ⟨_, h⟩ hc
   rw [hc] at h; simp at h
 rw [e]
 refine List.map_congr_left fun m _ => ?_
 rw [counting_src, hO]
/-- The sums of one player. -/
def inner {κ : Type} (c : List ((Str × κ) × Int)) (s : Str) : List (κ × Int) := (c.filter fun e => e.1.1 == s).map fun e => (e.1.2, e.2)
theorem inner_put {κ : Type} [DecidableEq κ] (s : Str) (st : κ) (v : Int) (s' : Str) : ∀ c : List ((Str × κ) × Int), inner (aput (s, st) v c) s' = if s' = s then aput st v (inner c s) else inner c s'
 | [] => by
   by_cases e : s' = s
   ·subst e; simp [inner, aput]
   ·have : ¬ s = s' := fun q => e q.symm
    simp [inner, aput, e, this]
 | p :: r => by
   have ih := inner_put s st v s' r
   obtain ⟨⟨a, b⟩, w⟩ := p
   simp only [aput, Prod.mk.injEq]
   by_cases h1 : s = a
   ·subst h1
    by_cases h2 : st = b
    ·subst h2
     rw [if_pos ⟨rfl, rfl⟩]
     by_cases e : s' = s
     ·subst e; simp [inner, aput]
     ·have : ¬ s = s' := fun q => e q.symm
      simp [inner, e, this]
    ·rw [if_neg (fun q => h2 q.2)]
     by_cases e : s' = s
     ·subst e
      rw [if_pos rfl] at ih ⊢
      simp only [inner, List.filter_cons, beq_self_eq_true, if_true, List.map_cons, aput, if_neg h2] at ih ⊢
      rw [ih]
     ·have : ¬ s = s' := fun q => e q.symm
      rw [if_neg e] at ih ⊢
      simp only [inner, List.filter_cons, beq_iff_eq, if_neg this] at ih ⊢
      exact ih
   ·rw [if_neg (fun q => h1 q.1)]
    by_cases e : s' = s
    ·subst e
     have : ¬ a = s' := fun q => h1 q.symm
     rw [if_pos rfl] at ih ⊢
     simp only [inner, List.filter_cons, beq_iff_eq, if_neg this] at ih ⊢
     exact ih
    ·rw [if_neg e] at ih ⊢
     by_cases h3 : a = s'
     ·simp only [inner, List.filter_cons, beq_iff_eq, if_pos h3, List.map_cons] at ih ⊢
      rw [ih]
     ·simp only [inner, List.filter_cons, beq_iff_eq, if_neg h3] at ih ⊢
      exact ih
theorem inner_get {κ : Type} [DecidableEq κ] (s : Str) (st : κ) : ∀ c : List ((Str × κ) × Int), alk st (inner c s) = alk (s, st) c
 | [] => rfl
 | ⟨⟨a, b⟩, w⟩ :: r => by
   have ih := inner_get s st r
   by_cases h : a = s
   ·subst h
    simp only [inner, List.filter_cons, beq_self_eq_true, if_true, List.map_cons, alk, Prod.mk.injEq, true_and] at ih ⊢
    rw [ih]
   ·have : ¬ s = a := fun q => h q.symm
    simp only [inner, List.filter_cons, beq_iff_eq, if_neg h, alk, Prod.mk.injEq, this, false_and, if_false] at ih ⊢
    exact ih
def statsR (E : List (Str × Int)) : List StatS := isort byNm ((E.filter fun e => e.2 != 0).map fun e => ⟨e.1, e.2⟩)
theorem rawStats_inner (c : List (Of2 × Int)) (s : Str) : rawStats c s = ((inner c s).filter fun e => e.2 != 0).map fun e => ⟨e.1, e.2⟩ := by
 unfold rawStats inner
 rw [List.filter_map, List.map_map, List.filter_filter]
 congr 1
 refine List.filter_congr fun e _ => ?_
 simp [Bool.and_comm]
theorem statsOf_inner (c : List (Of2 × Int)) (s : Str) : statsOf c s = statsR (inner c s) := by unfold statsOf statsR; rw [rawStats_inner]
end Go.HL
end
section
namespace Go.HL
/-- Too great a count, or too many. -/
def fullR (L : List LineS) : Bool := L.any fun x => decide (40 < x.Stats.length) || x.Stats.any fun s => out s.Count (-100000) 100000
theorem statsOf_len (c : List (Of2 × Int)) (s : Str) : (statsOf c s).length = (rawStats c s).length := by unfold statsOf; rw [isort_len]
theorem mem_stats {c : List (Of2 × Int)} {s : Str} {x : StatS} : x ∈ statsOf c s ↔ x ∈ rawStats c s := by unfold statsOf; rw [isort_mem]
theorem full_eq {c : List (Of2 × Int)} {S : List Str} {week : Int} (hin : ∀ e ∈ c, e.1.1 ∈ S) : fullR ((sortS S).map fun s => ⟨s, week, statsOf c s⟩) = fullB c S := by
 rw [Bool.eq_iff_iff]
 unfold fullR fullB
 rw [List.any_map, Bool.or_eq_true, List.any_eq_true, List.any_eq_true, List.any_eq_true]
 constructor
 ·rintro ⟨s, hs, h⟩
  have hs' : s ∈ S := (List.mergeSort_perm _ _).mem_iff.1 hs
  simp only [Function.comp, Bool.or_eq_true, decide_eq_true_eq] at h
  rcases h with h | h
  ·rw [statsOf_len] at h
   exact .inr ⟨s, hs', by simpa using h⟩
  ·obtain ⟨x, hx, ho⟩ := List.any_eq_true.1 h
   rw [mem_stats] at hx
   unfold rawStats at hx
   obtain ⟨e, he, rfl⟩ := List.mem_map.1 hx
   exact .inl ⟨e, (List.mem_filter.1 he).1, ho⟩
 ·rintro (⟨e, he, ho⟩ | ⟨s, hs, h⟩)
  ·refine ⟨e.1.1, (List.mergeSort_perm _ _).mem_iff.2 (hin e he), ?_⟩
   simp only [Function.comp, Bool.or_eq_true]
   right
   rw [List.any_eq_true]
   refine ⟨⟨e.1.2, e.2⟩, ?_, ho⟩
   rw [mem_stats]
   refine List.mem_map.2 ⟨e, List.mem_filter.2 ⟨he, ?_⟩, rfl⟩
   have : e.2 ≠ 0 := fun q => by rw [q] at ho; simp [out] at ho
   simp [this]
  ·refine ⟨s, (List.mergeSort_perm _ _).mem_iff.2 hs, ?_⟩
   simp only [Function.comp, Bool.or_eq_true]
   left
   rw [statsOf_len]; simpa using h
/-- The lines of the references, before they are looked at. -/
def rawLines (q : LnS) (week : Int) : List LineS := (onceL q.S).map fun s => ⟨s, week, statsR (inner q.c s)⟩
end Go.HL
end
section
namespace Go.HL
def byOf (a b : Of2) : Int := orI [cmpS a.1 b.1, cmpS a.2 b.2]
theorem byOf_eq (a b : Of2) : byOf a b = if cmpS a.1 b.1 ≠ 0 then cmpS a.1 b.1 else cmpS a.2 b.2 := by unfold byOf; rw [orI2]
theorem byOf_flip (a b : Of2) : byOf a b = -byOf b a := by
 unfold byOf
 rw [cmpS_flip a.1, cmpS_flip a.2, orI_flip]
theorem byOf_cmp : Cmp byOf (fun _ => True) where
 flip x y _ _ := by rw [byOf_flip x y]; omega
 trans x y z _ _ _ h1 h2 := by
  rw [byOf_eq] at *
  have k1 : cmpS x.1 y.1 ≤ 0 := by split at h1 <;> omega
  have k2 : cmpS y.1 z.1 ≤ 0 := by split at h2 <;> omega
  have k3 := cmpS_trans k1 k2
  split
  ·exact k3
  ·rename_i hz
   have hz' : cmpS x.1 z.1 = 0 := by simpa using hz
   obtain ⟨e1, e2⟩ := cmpS_lt_trans k1 k2 hz'
   rw [if_neg (by simp [e1])] at h1
   rw [if_neg (by simp [e2])] at h2
   exact cmpS_trans h1 h2
def OLt (a b : Of2) : Prop := byOf a b < 0
/-- The sums of each source: who told, and what they count. -/
structure DisS where
 S : List Str
 c : List ((Str × Of2) × Int)
def disKey (p : Play) : Str × Of2 := (p.Source, (p.Player, p.Stat))
def disPut (q : DisS) (p : Play) : List ((Str × Of2) × Int) := aput (disKey p) ((alk (disKey p) q.c).getD 0 + p.Count) q.c
end Go.HL
end
section
namespace Go.HL
theorem aput_keys' {α : Type} {s : Str} {v : α} : ∀ {G : List (Str × α)}, (aput s v G).map (·.1) = sadd s (G.map (·.1))
 | [] => by simp [aput, sadd]
 | p :: r => by
   have ih := aput_keys' (s := s) (v := v) (G := r)
   simp only [aput]
   by_cases h : s = p.1
   ·rw [if_pos h]
    unfold sadd
    rw [if_pos (by simp [h])]
    simp [h]
   ·rw [if_neg h, List.map_cons, ih]
    unfold sadd
    by_cases hc : (r.map (·.1)).contains s = true
    ·rw [if_pos hc, if_pos (by simp at hc ⊢; exact .inr hc)]; rfl
    ·rw [if_neg hc, if_neg (by simp at hc ⊢; exact ⟨h, hc⟩)]; rfl
theorem aput_mem' {α : Type} {s : Str} {v : α} {p : Str × α} : ∀ {G : List (Str × α)}, ANodup G → p ∈ aput s v G → p = (s, v) ∨ (p ∈ G ∧ p.1 ≠ s)
 | [], _, h => by simp [aput] at h; exact .inl h
 | q :: r, hn, h => by
   have h1 := List.nodup_cons.1 hn
   simp only [aput] at h
   by_cases hs : s = q.1
   ·rw [if_pos hs] at h
    rcases List.mem_cons.1 h with h | h
    ·exact .inl h
    ·refine .inr ⟨List.mem_cons_of_mem _ h, fun e => h1.1 ?_⟩
     show q.1 ∈ r.map (·.1)
     rw [← hs, ← e]; exact List.mem_map_of_mem h
   ·rw [if_neg hs] at h
    rcases List.mem_cons.1 h with h | h
    ·subst h; exact .inr ⟨by simp, fun e => hs e.symm⟩
    ·rcases aput_mem' h1.2 h with e | e
     ·exact .inl e
     ·exact .inr ⟨List.mem_cons_of_mem _ e.1, e.2⟩
section
variable {κ : Type}
/-- The maps of maps hold the flat sums. -/
structure GrOk (S : List Str) (c : List ((Str × κ) × Int)) (G : GrM κ) : Prop where
 keys : G.map (·.1) = S
 nodup : S.Nodup
 val : ∀ p ∈ G, p.2.2 = inner c p.1
 inS : ∀ e ∈ c, e.1.1 ∈ S
theorem GrOk.anodup {S : List Str} {c : List ((Str × κ) × Int)} {G : GrM κ} (h : GrOk S c G) : ANodup G := by unfold ANodup; rw [h.keys]; exact h.nodup
theorem GrOk.nil : GrOk ([] : List Str) ([] : List ((Str × κ) × Int)) [] := ⟨rfl, List.nodup_nil, (fun p h => by cases h), (fun e h => by cases h)⟩
theorem GrOk.get {S : List Str} {c : List ((Str × κ) × Int)} {G : GrM κ} (h : GrOk S c G) {s : Str} {b : Nat} {L : List (κ × Int)} (hq : alk s G = some (b, L)) : L = inner c s := h.val _ (alk_of_mem hq)
theorem GrOk.none {S : List Str} {c : List ((Str × κ) × Int)} {G : GrM κ} (h : GrOk S c G) {s : Str} : alk s G = none ↔ s ∉ S := by rw [alk_none, h.keys]
theorem inner_nil {S : List Str} {c : List ((Str × κ) × Int)} {s : Str} (h : ∀ e ∈ c, e.1.1 ∈ S) (hs : s ∉ S) : inner c s = [] := by
 unfold inner
 rw [List.map_eq_nil_iff, List.filter_eq_nil_iff]
 intro e he hq
 exact hs ((eq_of_beq hq) ▸ h e he)
theorem GrOk.add {S : List Str} {c : List ((Str × κ) × Int)} {G : GrM κ} (h : GrOk S c G) {s : Str} (b : Nat) (hs : alk s G = Option.none) : GrOk (sadd s S) c (aput s (b, []) G) := by
 have hn := h.none.1 hs
 refine ⟨by rw [aput_keys', h.keys], sadd_nodup h.nodup, fun p hp => ?_, fun e he => mem_sadd.2 (.inr (h.inS e he))⟩
 rcases aput_mem' h.anodup hp with rfl | ⟨hp, _⟩
 ·exact (inner_nil h.inS hn).symm
 ·exact h.val p hp
variable [DecidableEq κ]
theorem GrOk.put {S : List Str} {c : List ((Str × κ) × Int)} {G : GrM κ} (h : GrOk S c G) {s : Str} {b : Nat} {L : List (κ × Int)} (hq : alk s G = some (b, L)) (k : κ) (v : Int) : GrOk S (aput (s, k) v c) (aput s (b, aput k v L) G) := by
 have hs : s ∈ S := by
  refine Decidable.not_not.1 fun hn => ?_
  have := h.none.2 hn
  rw [this] at hq; cases hq
 refine ⟨?_, h.nodup, fun p hp => ?_, fun e he => ?_⟩
 ·rw [aput_keys', h.keys]
  unfold sadd
  rw [if_pos (by simpa using hs)]
 ·rw [inner_put]
  rcases aput_mem' h.anodup hp with rfl | ⟨hp, hne⟩
  ·rw [if_pos rfl, ← h.get hq]
  ·rw [if_neg hne]; exact h.val p hp
 ·rcases mem_aput he with rfl | he
  ·exact hs
  ·exact h.inS e he
end
end Go.HL
end
section
namespace Go.HL
end Go.HL
end
section
namespace Go.HL
/-- A list without the things that equal the one before (p ahead of the first). -/
def uniqO (p : Option Of2) : List Of2 → List Of2
 | [] => []
 | x :: r => if p = some x then uniqO (some x) r else x :: uniqO (some x) r
theorem OLt.trans {a b c : Of2} (h1 : OLt a b) (h2 : OLt b c) : OLt a c := byOf_cmp.lt_trans trivial trivial trivial h1 h2
end Go.HL
end
section
namespace Go.HL
/-- The plays of the sources that count. -/
def keptB (l : List Play) (trust : List Str) (n : Int) (x : Play) : Bool := decide (srcOf l trust n x.Match = some x.Source)
def kept (l : List Play) (trust : List Str) (n : Int) : List Play := l.filter (keptB l trust n)
end Go.HL
end
section
namespace Go.HL
structure ChkIs (q : ChkS) (l : List Play) : Prop where
 sn : q.S.Nodup
 s : ∀ s, s ∈ q.S ↔ ∃ x ∈ l, x.Source = s
 wn : ANodup q.W
 w : ∀ m, m ∈ q.W.map (·.1) ↔ ∃ x ∈ l, x.Match = m
 wv : ∀ m v, alk m q.W = some v → ∃ x ∈ l, x.Match = m ∧ x.Week = v
 c : q.c = false ↔ ∀ x ∈ l, ∀ y ∈ l, x.Match = y.Match → x.Week = y.Week
theorem ChkIs.step {q : ChkS} {l : List Play} (h : ChkIs q l) (p : Play) : ChkIs (chkStep q p) (l ++ [p]) where
 sn := sadd_nodup h.sn
 s s := by
  show s ∈ sadd p.Source q.S ↔ _
  rw [mem_sadd, h.s]
  constructor
  ·rintro (rfl | ⟨x, hx, e⟩)
   ·exact ⟨p, by simp, rfl⟩
   ·exact ⟨x, List.mem_append_left _ hx, e⟩
  ·rintro ⟨x, hx, e⟩
   rcases List.mem_append.1 hx with hx | hx
   ·exact .inr ⟨x, hx, e⟩
   ·rw [List.mem_singleton.1 hx] at e; exact .inl e.symm
 wn := h.wn.put
 w m := by
  show m ∈ (aput p.Match p.Week q.W).map (·.1) ↔ _
  rw [aput_keys, h.w]
  constructor
  ·rintro (rfl | ⟨x, hx, e⟩)
   ·exact ⟨p, by simp, rfl⟩
   ·exact ⟨x, List.mem_append_left _ hx, e⟩
  ·rintro ⟨x, hx, e⟩
   rcases List.mem_append.1 hx with hx | hx
   ·exact .inr ⟨x, hx, e⟩
   ·rw [List.mem_singleton.1 hx] at e; exact .inl e.symm
 wv m v hv := by
  have hv' : alk m (aput p.Match p.Week q.W) = some v := hv
  rw [alk_put] at hv'
  by_cases e : m = p.Match
  ·rw [if_pos e] at hv'; cases hv'
   exact ⟨p, by simp, e.symm, rfl⟩
  ·rw [if_neg e] at hv'
   obtain ⟨x, hx, e1⟩ := h.wv m v hv'
   exact ⟨x, List.mem_append_left _ hx, e1⟩
 c := by
  show (q.c || ((alk p.Match q.W).isSome && ((alk p.Match q.W).getD 0 != p.Week))) = false ↔ _
  rw [Bool.or_eq_false_iff, h.c]
  constructor
  ·rintro ⟨h1, h2⟩
   have hp : ∀ x ∈ l, x.Match = p.Match → x.Week = p.Week := fun x hx e => by
    have hk : p.Match ∈ q.W.map (·.1) := (h.w _).2 ⟨x, hx, e⟩
    have hne : ¬ alk p.Match q.W = none := by rw [alk_none]; exact fun z => z hk
    obtain ⟨v, hv⟩ := Option.ne_none_iff_exists'.1 hne
    rw [hv] at h2
    simp at h2
    obtain ⟨y, hy, e1, e2⟩ := h.wv _ _ hv
    rw [h1 x hx y hy (by rw [e, e1]), e2, h2]
   intro x hx y hy e
   rcases List.mem_append.1 hx with hx | hx <;> rcases List.mem_append.1 hy with hy | hy
   ·exact h1 x hx y hy e
   ·rw [List.mem_singleton.1 hy] at e ⊢; exact hp x hx e
   ·rw [List.mem_singleton.1 hx] at e ⊢; exact (hp y hy e.symm).symm
   ·rw [List.mem_singleton.1 hx, List.mem_singleton.1 hy]
  ·intro hall
   refine ⟨fun x hx y hy e => hall x (List.mem_append_left _ hx) y (List.mem_append_left _ hy) e, ?_⟩
   cases hv : alk p.Match q.W with
   | none => rfl
   | some v =>
     obtain ⟨y, hy, e1, e2⟩ := h.wv _ _ hv
     have := hall y (List.mem_append_left _ hy) p (by simp) e1
     simp
     rw [← e2, this]
end Go.HL
end
section
namespace Go.HL
def rawS (E : List (Str × Int)) : List StatS := (E.filter fun e => e.2 != 0).map fun e => ⟨e.1, e.2⟩
theorem rawS_snoc (E : List (Str × Int)) (q : Str × Int) : rawS (E ++ [q]) = rawS E ++ if q.2 ≠ 0 then [⟨q.1, q.2⟩] else [] := by
 unfold rawS
 rw [List.filter_append, List.map_append, List.filter_cons]
 by_cases h : q.2 ≠ 0
 ·rw [if_pos h, if_pos (by simpa using h)]; rfl
 ·rw [if_neg h, if_neg (by simpa using h)]; rfl
theorem rawS_yes {E : List (Str × Int)} {q : Str × Int} (h : q.2 ≠ 0) : rawS (E ++ [q]) = rawS E ++ [⟨q.1, q.2⟩] := by rw [rawS_snoc, if_pos h]
theorem rawS_no {E : List (Str × Int)} {q : Str × Int} (h : ¬ q.2 ≠ 0) : rawS (E ++ [q]) = rawS E := by rw [rawS_snoc, if_neg h, List.append_nil]
theorem rawS_le (E : List (Str × Int)) : (rawS E).length ≤ E.length := by unfold rawS; rw [List.length_map]; exact List.length_filter_le _ _
theorem rawS_perm {E c : List (Str × Int)} (h : E.Perm c) : (rawS E).Perm (rawS c) := (h.filter _).map _
theorem rawS_names {c : List (Str × Int)} (h : ANodup c) {x y : StatS} (hx : x ∈ rawS c) (hy : y ∈ rawS c) (e : x.Name = y.Name) : x = y := by
 unfold rawS at hx hy
 obtain ⟨p, hp, rfl⟩ := List.mem_map.1 hx
 obtain ⟨p', hp', rfl⟩ := List.mem_map.1 hy
 have h1 := (List.mem_filter.1 hp).1
 have h2 := (List.mem_filter.1 hp').1
 have e' : p.1 = p'.1 := e
 have a1 := (alk_mem h (x := p.1) (v := p.2)).1 h1
 have a2 := (alk_mem h (x := p'.1) (v := p'.2)).1 h2
 rw [← e', a1] at a2
 have k : p.2 = p'.2 := Option.some.inj a2
 rw [e', k]
theorem stats_map {E c : List (Str × Int)} (hE : E.Perm c) (hn : ANodup c) {L : List StatS} (hp : L.Perm (rawS E)) (hw : L.Pairwise fun a b => ¬ byNm b a < 0) : L = statsR c := by
 show L = isort byNm (rawS c)
 exact isort_of_sorted byNm_cmp (fun x y hx hy e => rawS_names hn hx hy (cmpS_zero.1 e)) (hp.trans (rawS_perm hE)) hw
theorem statsR_len (c : List (Str × Int)) : (statsR c).length ≤ c.length := by
 show (isort byNm (rawS c)).length ≤ _
 rw [isort_len]; exact rawS_le c
/-! the sums of players keep apart -/
theorem inner_nodup {κ : Type} [DecidableEq κ] {c : List ((Str × κ) × Int)} (h : ANodup c) (s : Str) : ANodup (inner c s) := by
 unfold ANodup List.Nodup at *
 rw [List.pairwise_map] at h
 unfold inner
 rw [List.map_map, List.pairwise_map]
 refine (h.sublist List.filter_sublist).imp_of_mem fun {a b} ha hb hne e => hne ?_
 have k1 := (List.mem_filter.1 ha).2
 have k2 := (List.mem_filter.1 hb).2
 simp only [beq_iff_eq] at k1 k2
 exact Prod.ext (k1.trans k2.symm) e
theorem inner_len {κ : Type} (c : List ((Str × κ) × Int)) (s : Str) : (inner c s).length ≤ c.length := by
 unfold inner; rw [List.length_map]; exact List.length_filter_le _ _
/-- What the lines say, step by step. -/
def lineR (q : LnS) (week : Int) (s : Str) : LineS := ⟨s, week, statsR (inner q.c s)⟩
theorem rawLines_is (q : LnS) (week : Int) : rawLines q week = (onceL q.S).map (lineR q week) := rfl
/-! what is told to a bound -/
theorem onceL_len (l : List Str) : (onceL l).length ≤ l.length := by
 unfold onceL
 rw [compact_uniq]
 have := uniqP_le (sortS l) none
 rw [sortS_len] at this
 exact this
end Go.HL
end
section
namespace Go.HL
instance : DecidableEq PairS := fun a b => by
 obtain ⟨x, y⟩ := a; obtain ⟨u, v⟩ := b
 exact if h : x = u ∧ y = v then isTrue (by rw [h.1, h.2]) else isFalse fun e => by cases e; exact h ⟨rfl, rfl⟩
end Go.HL
end
section
namespace Go.Proofs.YtkamelfigfbfiaaGreatDoor
open Go.HL
set_option maxRecDepth 100000
set_option linter.unusedVariables false
set_option linter.unusedSimpArgs false
/-- slices.ContainsFunc[[]benchwarmer/api.Stat,benchwarmer/api.Stat] -/
theorem c_slices_ContainsFunc_api_Stat_api_Stat [Tracks] {l : List StatS} {fid : FuncId} {caps : List HVal} {p : StatS → Bool} (hca : Callable Tryz.prog fid) (hp : ∀ x, ConP Tryz.prog fid ([eStat x] ++ caps) (.bool (p x))) (hl : l.length ≤ 1000000) : ConP Tryz.prog 155 [.slice 2 (l.map eStat), .fn (.func fid) [] caps] (.bool (l.any p)) := by
 refine Con.of_body Tryz.func155 rfl Tryz.ntmps155 rfl rfl ?_
 refine hw_reg ?_
 refine dp rfl (pop_assign rfl) ?_
 refine dn ?_
 refine hw_reg ?_
 refine dp rfl (pop_move rfl) ?_
 refine dp rfl (pop_move rfl) ?_
 refine dp rfl (pop_call ca174 rfl (WeakL.refl _) (c_slices_IndexFunc_api_Stat_api_Stat hca hp hl)) ?_
 refine dp rfl (pop_geq rfl rfl) ?_
 refine dp rfl (pop_assign rfl) ?_
 refine dn ?_
 refine hw_ret ?_
 refine ret_p rfl ?_
 congr 1; exact idxF_nonneg p l 0 (by omega)

/-- benchwarmer/benchref1.WeekFault -/
theorem c_benchref1_WeekFault [Tracks] {n : Int}  : ConP Tryz.prog 43 [.int .i64 n] (.int .i64 (if weekB n then 0 else 1)) := by
 refine Con.of_body Tryz.func43 rfl Tryz.ntmps43 rfl rfl ?_
 refine hw_reg ?_
 refine dp rfl (pop_assign rfl) ?_
 refine dn ?_
 refine hw_reg ?_
 refine dp rfl (pop_move rfl) ?_
 refine dp rfl (pop_call ca92 rfl (WeakL.refl _) c_benchref1_SpanFault) ?_
 refine dp rfl (pop_assign rfl) ?_
 refine dn ?_
 refine hw_ret ?_
 refine ret_p rfl ?_
 show HVal.int .i64 _ = _
 unfold weekB
 cases out n 1 60 <;> rfl

/-- benchwarmer/benchref1.KeyFault -/
theorem c_benchref1_KeyFault [Tracks] {s : Str} (hs : s.length ≤ 1000000) : ConP Tryz.prog 42 [.str s] (.int .i64 (if key s then 0 else 5)) := by
 refine Con.of_body Tryz.func42 rfl Tryz.ntmps42 rfl rfl ?_
 refine hw_reg ?_
 refine dp rfl (pop_assign rfl) ?_
 refine dn ?_
 refine hw_seq ?_
 refine hw_reg ?_
 refine dp rfl (pop_move rfl) ?_
 refine dp rfl (pop_call ca52 rfl (WeakL.refl _) (c_benchref1_Key (by assumption))) ?_
 refine dp rfl (pop_not rfl) ?_
 refine dn ?_
 refine hw_cond rfl (fun h1 => ?_) (fun h2 => ?_)
 ·try simp at h1
  refine hw_reg ?_
  refine dp rfl (pop_assign rfl) ?_
  refine dn ?_
  refine hw_ret ?_
  refine ret_p rfl ?_
  show HVal.int .i64 _ = _
  simp_all
 ·try simp at h2
  refine hw_skip ?_
  refine seqQ_n ?_
  refine hw_reg ?_
  refine dp rfl (pop_assign rfl) ?_
  refine dn ?_
  refine hw_ret ?_
  refine ret_p rfl ?_
  show HVal.int .i64 _ = _
  simp_all

/-- benchwarmer/benchref1.stats$1 -/
theorem c_benchref1_stats_1 [Tracks] {a b : StatS}  : ConP Tryz.prog 154 [eStat a, eStat b] (.int .i64 (byNm a b)) := by
 refine Con.of_body Tryz.func154 rfl Tryz.ntmps154 rfl rfl ?_
 refine hw_reg ?_
 refine dp rfl (pop_box rfl rfl) ?_
 refine dp rfl (pop_box rfl rfl) ?_
 refine dp rfl (pop_assign rfl) ?_
 refine dn ?_
 refine hw_reg ?_
 refine dp rfl (pop_fieldAddr ty121 rfl ty9 (by decide) rfl) ?_
 refine dp rfl (pop_load ty9 rfl rfl rfl) ?_
 refine dp rfl (pop_fieldAddr ty121 rfl ty9 (by decide) rfl) ?_
 refine dp rfl (pop_load ty9 rfl rfl rfl) ?_
 refine dp rfl (pop_call ca103 rfl (WeakL.refl _) c_strings_Compare) ?_
 refine dp rfl (pop_assign rfl) ?_
 refine dn ?_
 refine hw_ret ?_
 refine ret_p rfl ?_
 rfl

set_option maxHeartbeats 1000000 in
/-- benchwarmer/benchref1.stats -/
theorem c_benchref1_stats [Tracks] {b : Nat} {c : List (Str × Int)} (hn : ANodup c) (hc : c.length ≤ 1000000) : Con Tryz.prog 107 [.raw (.map (some b))] [.map b (sk (em (HVal.int .i64) c))] (fun x M' => x = eStats (statsR c) ∧ M' = [.map b (sk (em (HVal.int .i64) c))]) := by
 refine Con.of_body Tryz.func107 rfl Tryz.ntmps107 rfl rfl ?_
 refine hw_reg ?_
 refine dp rfl (pop_assign rfl) ?_
 refine dn ?_
 refine hw_reg ?_
 refine dp rfl (pop_assign rfl) ?_
 refine dn ?_
 refine hw_ghost (Ghost.arr_nil 2) ?_
 refine hw_seq ?_
 refine hw_reg ?_
 refine dp rfl (pop_move rfl) ?_
 refine de rfl (eop_range (i := 1) ty155 rfl rfl fun r => ?_)
 refine dn ?_
 refine hw_block ?_
 refine hw_loopw3 [3, 4, 5, 8, 9, 10, 11, 12, 13, 14, 15, 16, 17, 18, 19, 20] (fun (vis : List Nat) (E : List (Str × Int)) (u : Value) => [(3, .raw u)]) (fun (vis : List Nat) (E : List (Str × Int)) (u : Value) => [.arr u 2 ((rawS E).map eStat), .iter r b (sk (em (HVal.int .i64) c)) vis]) (fun (vis : List Nat) (E : List (Str × Int)) (u : Value) => VisOk (c) vis E ∧ (True)) (fun (vis : List Nat) (E : List (Str × Int)) (u : Value) => (c).length - vis.length) ([]) ([]) (.slice none 0 0) ?_ ?_ ?_ ?_
 ·exact ⟨VisOk.nil _, trivial⟩
 ·exact ⟨rfl, trivial⟩
 ·exact perm_eq rfl
 ·intro vis E u hinv
  obtain ⟨hvis, -⟩ := hinv
  refine hw_reg ?_
  refine de rfl (eop_nextA (i := 1) (L := c) (enc := (fun p : Str × Int => (HVal.str p.1, HVal.int .i64 p.2))) rfl rfl (sk_em _ _) hvis.nd hvis.lt fun cb R vis' hnx => ?_)
  refine dp rfl (pop_extract rfl rfl) ?_
  refine dn ?_
  refine hw_seq ?_
  refine hw_cond rfl (fun h1 => ?_) (fun h2 => ?_)
  ·try simp at h1
   obtain ⟨j, q, hq, hj, rfl⟩ := hnx.t h1
   have hroom := hvis.room hq hj
   have hstep := hvis.step hq hj
   have hqm := List.mem_of_getElem? hq
   refine hw_skip ?_
   refine seqQ_n ?_
   refine hw_block ?_
   refine hw_reg ?_
   refine de rfl (eop_entryA (i := 1) (L := c) (enc := (fun p : Str × Int => (HVal.str p.1, HVal.int .i64 p.2))) rfl rfl (sk_em _ _) hq ?_)
   refine dp rfl (pop_extract rfl rfl) ?_
   refine dp rfl (pop_extract rfl rfl) ?_
   refine dp rfl (pop_assign rfl) ?_
   refine dp rfl (pop_assign rfl) ?_
   refine dn ?_
   refine hw_reg ?_
   refine dp rfl (pop_move rfl) ?_
   refine dp rfl (pop_neq rfl rfl) ?_
   refine dn ?_
   refine hw_cond rfl (fun h3 => ?_) (fun h4 => ?_)
   ·try simp at h3
    refine hw_reg1 ?_
    refine dp rfl (pop_move rfl) ?_
    refine dp rfl (pop_move rfl) ?_
    refine dp rfl (pop_move rfl) ?_
    refine dp rfl (pop_build (cs := [_, _]) ty121 pl121 rfl) ?_
    refine dp rfl (pop_buildSlice (hs := [_]) ty61 ty121 rfl rfl (by decide) (by decide) rfl) ?_
    refine de rfl (eop_append (i := 0) ty61 ty121 rfl rfl rfl rfl rfl (by simp [flat, hcells]) (by have := rawS_le E; have := hvis.len; simp only [List.length_map, List.length_cons, List.length_nil]; omega) fun v20 => ?_)
    refine dp rfl (pop_assign rfl) ?_
    refine dn ?_
    refine blockQ_n ?_
    exact ⟨_, E ++ [q], v20, ⟨hstep, trivial⟩, by dsimp only; rw [List.length_append]; simp only [List.length_cons, List.length_nil]; omega, ⟨rfl, trivial⟩, (by repeat (first | exact keeps_refl | refine keeps_upd rfl ?_ | refine keeps_loop rfl rfl ?_)), perm_eq (by dsimp only; rw [rawS_yes (by simpa using h3)]; try simp)⟩
   ·try simp at h4
    refine hw_skip ?_
    refine blockQ_n ?_
    exact ⟨_, E ++ [q], u, ⟨hstep, trivial⟩, by dsimp only; rw [List.length_append]; simp only [List.length_cons, List.length_nil]; omega, ⟨rfl, trivial⟩, (by repeat (first | exact keeps_refl | refine keeps_upd rfl ?_ | refine keeps_loop rfl rfl ?_)), perm_eq (by dsimp only; rw [rawS_no (by simpa using h4)]; try simp)⟩
  ·try simp at h2
   obtain ⟨rfl, hlen⟩ := hnx.f h2
   have hEp := hvis.done hlen
   refine hw_exit ?_
   refine seqQ_x ?_
   refine loopQ3_x ?_
   refine blockQ_eq ?_
   refine seqQ_n ?_
   refine hw_ghost (Ghost.iterOver (i := 1) rfl) ?_
   refine hw_ghost (Ghost.of_eq (M' := [.arr u 2 ((rawS E).map eStat), .map b (sk (em (HVal.int .i64) c))]) rfl) ?_
   have hEl := hEp.length_eq
   have hrl := rawS_le E
   refine hw_reg ?_
   refine dp rfl (pop_move rfl) ?_
   refine de rfl (eop_callf (M1 := [.arr u 2 ((rawS E).map eStat)]) (R := [.map b (sk (em (HVal.int .i64) c))]) ca132 rfl (WeakL.refl _) (List.Perm.refl _) (c_sort_Stat (c := byNm) (swo_cmp byNm_cmp) ca154 (fun _ _ => @c_benchref1_stats_1 trackOn _ _) (l := rawS E) (by omega)) ?_)
   rintro _ _ ⟨l', rfl, hp', hw', rfl⟩
   obtain rfl := stats_map hEp hn hp' hw'
   refine dn ?_
   refine hw_reg ?_
   refine dp rfl (pop_move rfl) ?_
   refine dp rfl (pop_assign rfl) ?_
   refine dn ?_
   refine hw_ret ?_
   refine ret_g (Ghost.fa 2 (i := 0) rfl rfl) rfl ⟨rfl, rfl⟩

/-- benchwarmer/benchref1.full$1 -/
theorem c_benchref1_full_1 [Tracks] {x : StatS}  : ConP Tryz.prog 156 [eStat x] (.bool (out x.Count (-100000) 100000)) := by
 refine Con.of_body Tryz.func156 rfl Tryz.ntmps156 rfl rfl ?_
 refine hw_reg ?_
 refine dp rfl (pop_box rfl rfl) ?_
 refine dp rfl (pop_assign rfl) ?_
 refine dn ?_
 refine hw_reg ?_
 refine dp rfl (pop_fieldAddr ty121 rfl ty3 (by decide) rfl) ?_
 refine dp rfl (pop_load ty3 rfl rfl rfl) ?_
 refine dp rfl (pop_call ca53 rfl (WeakL.refl _) c_benchref1_in) ?_
 refine dp rfl (pop_not rfl) ?_
 refine dp rfl (pop_assign rfl) ?_
 refine dn ?_
 refine hw_ret ?_
 refine ret_p rfl ?_
 show HVal.bool _ = _
 simp

/-- benchwarmer/benchref1.full -/
theorem c_benchref1_full [Tracks] {l : List LineS} (hl : l.length ≤ 1000000) (hs : ∀ y ∈ l, y.Stats.length ≤ 1000000) : ConP Tryz.prog 108 [eLines l] (.int .i64 (if fullR l then 12 else 0)) := by
 refine Con.of_body Tryz.func108 rfl Tryz.ntmps108 rfl rfl ?_
 refine hw_reg ?_
 refine dp rfl (pop_assign rfl) ?_
 refine dn ?_
 refine hw_seq ?_
 refine hw_reg ?_
 refine dp rfl (pop_move rfl) ?_
 refine dp rfl (pop_lenm ty54 rfl) ?_
 refine dp rfl (pop_move rfl) ?_
 refine dn ?_
 refine hw_block ?_
 refine hw_loopw [2, 4, 7, 8, 9, 10, 11, 12, 13, 14, 15, 16, 17, 18, 19, 20] (fun (k : Nat) => [(7, .int .i64 k)]) (fun (k : Nat) => []) (fun (k : Nat) => k ≤ l.length ∧ (fullR l = fullR (l.drop k))) (fun (k : Nat) => l.length - k) (0) ?_ ?_ ?_ ?_
 ·exact ⟨Nat.zero_le _, rfl⟩
 ·exact ⟨rfl, trivial⟩
 ·exact List.Perm.refl _
 ·intro k hinv
  obtain ⟨hk, hg⟩ := hinv
  refine hw_reg ?_
  refine dp rfl (pop_lss rfl rfl) ?_
  refine dn ?_
  refine hw_seq ?_
  refine hw_cond rfl (fun h1 => ?_) (fun h2 => ?_)
  ·try simp at h1
   obtain ⟨x, hx⟩ : ∃ x, l[k]? = some x := ⟨_, List.getElem?_eq_getElem h1⟩
   have hdx := drop_cons hx
   rw [hdx] at hg
   refine hw_skip ?_
   refine seqQ_n ?_
   refine hw_seq ?_
   refine hw_block ?_
   refine hw_reg ?_
   refine dp rfl (pop_idx ty54 ty63 rfl rfl rfl (by assumption)) ?_
   refine dp rfl (pop_loadw ty63 rfl rfl rfl rfl) ?_
   refine de rfl (eop_alloc ty63 rfl fun b4 => ?_)
   refine de0 (eop_storew ty63 rfl rfl rfl rfl rfl ?_)
   refine dn ?_
   refine hw_ghost (Ghost.fc0 4 rfl) ?_
   refine hw_reg ?_
   refine dp rfl (pop_fieldAddr ty63 rfl ty61 (by decide) rfl) ?_
   refine dp rfl (pop_load ty61 rfl rfl rfl) ?_
   refine dp rfl (pop_lenm ty61 rfl) ?_
   refine dp rfl (pop_gtr rfl rfl) ?_
   refine dp rfl (pop_move rfl) ?_
   refine dg rfl rfl (fun hc => ⟨_, OpenTo.refl _, pop_fieldAddr ty63 rfl ty61 (by decide) rfl⟩) ?_
   refine dg rfl rfl (fun hc => ⟨_, OpenTo.upd (t := 16) rfl (hc) (OpenTo.refl _), pop_load ty61 rfl rfl rfl⟩) ?_
   refine dg rfl rfl (fun hc => ⟨_, OpenTo.upd (t := 17) rfl (hc) (OpenTo.refl _), pop_call ca155 rfl (WeakL.refl _) (c_slices_ContainsFunc_api_Stat_api_Stat (p := fun y => out y.Count (-100000) 100000) ca156 (fun _ => c_benchref1_full_1) (hs x (List.mem_of_getElem? hx)))⟩) ?_
   refine dp rfl (pop_picko rfl (.inl rfl) (.inr ⟨_, rfl, fun h => by simp_all⟩)) ?_
   refine dn ?_
   refine hw_cond rfl (fun h3 => ?_) (fun h4 => ?_)
   ·try simp at h3
    refine hw_reg ?_
    refine dp rfl (pop_assign rfl) ?_
    refine dn ?_
    refine hw_ret ?_
    refine ret_p rfl ?_
    show HVal.int .i64 _ = _
    rw [hg]
    (have hx3 : (decide (40 < x.Stats.length) || x.Stats.any fun s => out s.Count (-100000) 100000) = true := by
      rw [Bool.or_eq_true]
      rcases h3 with q | ⟨y, hy, q⟩
      ·exact .inl (decide_eq_true (by omega))
      ·exact .inr (List.any_eq_true.2 ⟨y, hy, q⟩)
     rw [fullR, List.any_cons, hx3, Bool.true_or]; rfl)
   ·try simp at h4
    refine hw_skip ?_
    refine blockQ_n ?_
    refine seqQ_n ?_
    refine hw_reg1 ?_
    refine dp rfl (pop_add64 rfl rfl (by omega) (by omega)) ?_
    refine dp rfl (pop_move rfl) ?_
    refine dn ?_
    refine ⟨k + 1, ?_, ?_, ⟨rfl, trivial⟩, (by repeat (first | exact keeps_refl | refine keeps_upd rfl ?_ | refine keeps_loop rfl rfl ?_)), List.Perm.refl _⟩
    ·refine ⟨by omega, ?_⟩
     have hx4 : (decide (40 < x.Stats.length) || x.Stats.any fun s => out s.Count (-100000) 100000) = false := by
      rw [Bool.or_eq_false_iff]
      exact ⟨decide_eq_false (by omega), List.any_eq_false.2 fun y hy => by rw [h4.2 y hy]; simp⟩
     rw [hg, fullR, List.any_cons, hx4, Bool.false_or]; rfl
    ·dsimp only; omega
  ·try simp at h2
   have hnk : l.length ≤ k := by omega
   obtain rfl : k = l.length := by omega
   rw [drop_all (Nat.le_refl _)] at hg
   refine hw_exit ?_
   refine seqQ_x ?_
   refine loopQ_x ?_
   refine blockQ_eq ?_
   refine seqQ_n ?_
   refine hw_reg ?_
   refine dp rfl (pop_assign rfl) ?_
   refine dn ?_
   refine hw_ret ?_
   refine ret_p rfl ?_
   show HVal.int .i64 _ = _
   rw [hg]
   rfl

end Go.Proofs.YtkamelfigfbfiaaGreatDoor
end
section
namespace Go.HL
/-! mends as they are made up -/
def GoodMd (x : MendS) : Prop := Sh x.Player ∧ Sh x.Stat ∧ Sh x.By
structure GoodMds (k : List MendS) : Prop where
 len : k.length ≤ 24
 all : ∀ x ∈ k, GoodMd x
def mp3 : List Str := [[97, 110, 110], [98, 101, 97], [122, 111, 101]]
def ms2 : List Str := [[103, 111, 97, 108], [112, 97, 115, 115]]
theorem mp3_sh : ∀ s ∈ mp3, Sh s := fun s hs => by
 simp [mp3] at hs; rcases hs with rfl | rfl | rfl <;> (unfold Sh; simp)
theorem ms2_sh : ∀ s ∈ ms2, Sh s := fun s hs => by
 simp [ms2] at hs; rcases hs with rfl | rfl <;> (unfold Sh; simp)
theorem GLok.mono {α : Type} {P : α → Prop} {n n' m m' : Nat} {q : GL α} (h : GLok P n m q) (hn : n ≤ n') (hm : m ≤ m') : GLok P n' m' q := ⟨Nat.le_trans h.len hn, h.all, Nat.le_trans h.a hm⟩
/-! the lines of plays, with mends -/
end Go.HL
end
section
namespace Go.Proofs.YtkamelfigfbfiaaGreatDoor
open Go.HL
set_option maxRecDepth 100000
set_option linter.unusedVariables false
set_option linter.unusedSimpArgs false
/-- benchwarmer/benchref1.byMend -/
theorem c_benchref1_byMend [Tracks] {a b : MendS}  : ConP Tryz.prog 69 [eMend a, eMend b] (.int .i64 (byVer a b)) := by
 refine Con.of_body Tryz.func69 rfl Tryz.ntmps69 rfl rfl ?_
 refine hw_reg ?_
 refine dp rfl (pop_box rfl rfl) ?_
 refine dp rfl (pop_box rfl rfl) ?_
 refine dp rfl (pop_assign rfl) ?_
 refine dn ?_
 refine hw_draw (fun _ => True) [] mixed ?_
 refine ahp 0 rfl rfl (by kernel_rfl) (by kernel_rfl) (pop_fieldAddr ty69 rfl ty9 (by decide) rfl) ?_
 refine ahp 1 rfl rfl (by kernel_rfl) (by kernel_rfl) (pop_load ty9 rfl rfl rfl) ?_
 refine ahp 2 rfl rfl (by kernel_rfl) (by kernel_rfl) (pop_fieldAddr ty69 rfl ty9 (by decide) rfl) ?_
 refine ahp 3 rfl rfl (by kernel_rfl) (by kernel_rfl) (pop_load ty9 rfl rfl rfl) ?_
 refine ahp 4 rfl rfl (by kernel_rfl) (by kernel_rfl) (pop_call ca103 rfl (WeakL.refl _) c_strings_Compare) ?_
 refine ahp 5 rfl rfl (by kernel_rfl) (by kernel_rfl) (pop_fieldAddr ty69 rfl ty3 (by decide) rfl) ?_
 refine ahp 6 rfl rfl (by kernel_rfl) (by kernel_rfl) (pop_load ty3 rfl rfl rfl) ?_
 refine ahp 7 rfl rfl (by kernel_rfl) (by kernel_rfl) (pop_fieldAddr ty69 rfl ty3 (by decide) rfl) ?_
 refine ahp 8 rfl rfl (by kernel_rfl) (by kernel_rfl) (pop_load ty3 rfl rfl rfl) ?_
 refine ahp 9 rfl rfl (by kernel_rfl) (by kernel_rfl) (pop_call ca104 rfl (WeakL.refl _) c_cmp_Compare_int) ?_
 refine ahp 10 rfl rfl (by kernel_rfl) (by kernel_rfl) (pop_fieldAddr ty69 rfl ty9 (by decide) rfl) ?_
 refine ahp 11 rfl rfl (by kernel_rfl) (by kernel_rfl) (pop_load ty9 rfl rfl rfl) ?_
 refine ahp 12 rfl rfl (by kernel_rfl) (by kernel_rfl) (pop_fieldAddr ty69 rfl ty9 (by decide) rfl) ?_
 refine ahp 13 rfl rfl (by kernel_rfl) (by kernel_rfl) (pop_load ty9 rfl rfl rfl) ?_
 refine ahp 14 rfl rfl (by kernel_rfl) (by kernel_rfl) (pop_call ca103 rfl (WeakL.refl _) c_strings_Compare) ?_
 refine ahp 15 rfl rfl (by kernel_rfl) (by kernel_rfl) (pop_fieldAddr ty69 rfl ty3 (by decide) rfl) ?_
 refine ahp 16 rfl rfl (by kernel_rfl) (by kernel_rfl) (pop_load ty3 rfl rfl rfl) ?_
 refine ahp 17 rfl rfl (by kernel_rfl) (by kernel_rfl) (pop_fieldAddr ty69 rfl ty3 (by decide) rfl) ?_
 refine ahp 18 rfl rfl (by kernel_rfl) (by kernel_rfl) (pop_load ty3 rfl rfl rfl) ?_
 refine ahp 19 rfl rfl (by kernel_rfl) (by kernel_rfl) (pop_call ca104 rfl (WeakL.refl _) c_cmp_Compare_int) ?_
 refine ahp 20 rfl rfl (by kernel_rfl) (by kernel_rfl) (pop_buildSlice (hs := [_, _, _, _]) ty22 ty3 rfl rfl (by decide) (by decide) rfl) ?_
 refine ahp 21 rfl rfl (by kernel_rfl) (by kernel_rfl) (pop_call ca102 rfl (WeakL.refl _) (c_cmp_Or_int (l := [_, _, _, _]) (by simp))) ?_
 refine ahp 22 rfl rfl (by kernel_rfl) (by kernel_rfl) (pop_assign rfl) ?_
 refine ahz (by kernel_rfl) ?_
 refine hw_ret ?_
 refine ret_p rfl ?_
 rfl

/-- benchwarmer/benchref1.MendsFault -/
theorem c_benchref1_MendsFault [Tracks] {m : List MendS} (hl : m.length ≤ 1000000) (hgm : ∀ x ∈ m, GoodMd x) : ConP Tryz.prog 18 [eMends m] (.int .i64 (mendsE m)) := by
 refine Con.of_body Tryz.func18 rfl Tryz.ntmps18 rfl rfl ?_
 refine hw_reg ?_
 refine dp rfl (pop_assign rfl) ?_
 refine dn ?_
 refine hw_seq ?_
 refine hw_reg ?_
 refine dp rfl (pop_move rfl) ?_
 refine dp rfl (pop_lenm ty46 rfl) ?_
 refine dp rfl (pop_gtr rfl rfl) ?_
 refine dn ?_
 refine hw_cond rfl (fun h1 => ?_) (fun h2 => ?_)
 ·try simp at h1
  refine hw_reg ?_
  refine dp rfl (pop_assign rfl) ?_
  refine dn ?_
  refine hw_ret ?_
  refine ret_p rfl ?_
  show HVal.int .i64 _ = _
  first
  | (rw [mendsE, if_pos (by omega)]; done)
  | (rw [mendsE, if_neg (by omega), hg]; rfl)
  | (refine congrArg _ (mends_bad (c := 5) (by omega) hg (by decide) ?_)
     rw [mendFault, if_pos]
     simp_all
     done)
  | (refine congrArg _ (mends_bad (c := 1) (by omega) hg (by decide) ?_)
     rw [mendFault, if_neg, if_pos]
     all_goals simp_all
     done)
  | (have f1 := byVer_cmp.flip x (m.getD (k - 1) mend0) trivial trivial
     have f2 := byVer_cmp.flip (m.getD (k - 1) mend0) x trivial trivial
     refine congrArg _ (mends_ord (by omega) hg ?_ ?_ ?_)
     ·rw [mendFault, if_neg, if_neg] <;> simp_all
     ·simp_all
     ·simp_all; omega)
 ·try simp at h2
  refine hw_skip ?_
  refine seqQ_n ?_
  refine hw_seq ?_
  refine hw_reg ?_
  refine dp rfl (pop_move rfl) ?_
  refine dp rfl (pop_lenm ty46 rfl) ?_
  refine dp rfl (pop_move rfl) ?_
  refine dn ?_
  refine hw_block ?_
  refine hw_loopw (2 :: 3 :: 4 :: 10 :: 11 :: 12 :: 13 :: 14 :: 15 :: 16 :: 17 :: 18 :: 19 :: 20 :: 21 :: 22 :: 23 :: 24 :: 25 :: 26 :: 27 :: 28 :: 29 :: 30 :: 31 :: 32 :: 33 :: 34 :: 35 :: 36 :: 37 :: 38 :: 39 :: 40 :: 41 :: 42 :: 43 :: 44 :: 45 :: 46 :: 47 :: 48 :: 49 :: 50 :: 51 :: 52 :: 53 :: 54 :: 55 :: 56 :: 57 :: 58 :: 59 :: 60 :: 61 :: 62 :: 63 :: 64 :: 65 :: 66 :: 67 :: 68 :: []) (fun (k : Nat) => [(10, .int .i64 k)]) (fun (k : Nat) => []) (fun (k : Nat) => k ≤ m.length ∧ (chkGo mendFault byVer mend0 m 0 m = chkGo mendFault byVer mend0 m k (m.drop k))) (fun (k : Nat) => m.length - k) (0) ?_ ?_ ?_ ?_
  ·exact ⟨Nat.zero_le _, rfl⟩
  ·exact ⟨rfl, trivial⟩
  ·exact List.Perm.refl _
  ·intro k hinv
   obtain ⟨hk, hg⟩ := hinv
   refine hw_reg ?_
   refine dp rfl (pop_lss rfl rfl) ?_
   refine dn ?_
   refine hw_seq ?_
   refine hw_cond rfl (fun h3 => ?_) (fun h4 => ?_)
   ·try simp at h3
    obtain ⟨x, hx⟩ : ∃ x, m[k]? = some x := ⟨_, List.getElem?_eq_getElem h3⟩
    have hdx := drop_cons hx
    rw [hdx] at hg
    refine hw_skip ?_
    refine seqQ_n ?_
    refine hw_seq ?_
    refine hw_block ?_
    refine hw_reg ?_
    refine dp rfl (pop_move rfl) ?_
    refine dp rfl (pop_idx ty46 ty69 rfl rfl rfl (by first | assumption | simp_all)) ?_
    refine dp rfl (pop_loadw ty69 rfl rfl rfl rfl) ?_
    refine de rfl (eop_alloc ty69 rfl fun b4 => ?_)
    refine dp rfl (pop_assign rfl) ?_
    refine de0 (eop_storew ty69 rfl rfl rfl rfl rfl ?_)
    refine dn ?_
    refine hw_ghost (Ghost.fc0 4 rfl) ?_
    refine hw_block ?_
    refine hw_reg ?_
    refine dp rfl (pop_fieldAddr ty69 rfl ty9 (by decide) rfl) ?_
    refine dp rfl (pop_load ty9 rfl rfl rfl) ?_
    refine dp rfl (pop_call ca52 rfl (WeakL.refl _) (c_benchref1_Key (hgm x (List.mem_of_getElem? hx)).1)) ?_
    refine dp rfl (pop_not rfl) ?_
    refine dp rfl (pop_move rfl) ?_
    refine dg rfl rfl (fun hc => ⟨_, OpenTo.refl _, pop_fieldAddr ty69 rfl ty9 (by decide) rfl⟩) ?_
    refine dg rfl rfl (fun hc => ⟨_, OpenTo.upd (t := 21) rfl (by first | exact hc | simp_all) (OpenTo.refl _), pop_load ty9 rfl rfl rfl⟩) ?_
    refine dg rfl rfl (fun hc => ⟨_, OpenTo.upd (t := 22) rfl (by first | exact hc | simp_all) (OpenTo.refl _), pop_call ca52 rfl (WeakL.refl _) (c_benchref1_Key (hgm x (List.mem_of_getElem? hx)).2.1)⟩) ?_
    refine dg rfl rfl (fun hc => ⟨_, OpenTo.upd (t := 23) rfl (by first | exact hc | simp_all) (OpenTo.refl _), pop_not rfl⟩) ?_
    refine dp rfl (pop_picko rfl (.inl rfl) (.inr ⟨_, rfl, fun h => by simp_all⟩)) ?_
    refine dp rfl (pop_move rfl) ?_
    refine dg rfl rfl (fun hc => ⟨_, OpenTo.refl _, pop_fieldAddr ty69 rfl ty9 (by decide) rfl⟩) ?_
    refine dg rfl rfl (fun hc => ⟨_, OpenTo.upd (t := 27) rfl (by first | exact hc | simp_all) (OpenTo.refl _), pop_load ty9 rfl rfl rfl⟩) ?_
    refine dg rfl rfl (fun hc => ⟨_, OpenTo.upd (t := 28) rfl (by first | exact hc | simp_all) (OpenTo.refl _), pop_call ca52 rfl (WeakL.refl _) (c_benchref1_Key (hgm x (List.mem_of_getElem? hx)).2.2)⟩) ?_
    refine dg rfl rfl (fun hc => ⟨_, OpenTo.upd (t := 29) rfl (by first | exact hc | simp_all) (OpenTo.refl _), pop_not rfl⟩) ?_
    refine dp rfl (pop_picko rfl (.inl rfl) (.inr ⟨_, rfl, fun h => by simp_all⟩)) ?_
    refine dp rfl (pop_assign rfl) ?_
    refine dn ?_
    refine hw_cond rfl (fun h5 => ?_) (fun h6 => ?_)
    ·try simp at h5
     refine hw_reg ?_
     refine dp rfl (pop_assign rfl) ?_
     refine dn ?_
     refine hw_ret ?_
     refine ret_p rfl ?_
     show HVal.int .i64 _ = _
     first
     | (rw [mendsE, if_pos (by omega)]; done)
     | (rw [mendsE, if_neg (by omega), hg]; rfl)
     | (refine congrArg _ (mends_bad (c := 5) (by omega) hg (by decide) ?_)
        rw [mendFault, if_pos]
        simp_all
        done)
     | (refine congrArg _ (mends_bad (c := 1) (by omega) hg (by decide) ?_)
        rw [mendFault, if_neg, if_pos]
        all_goals simp_all
        done)
     | (have f1 := byVer_cmp.flip x (m.getD (k - 1) mend0) trivial trivial
        have f2 := byVer_cmp.flip (m.getD (k - 1) mend0) x trivial trivial
        refine congrArg _ (mends_ord (by omega) hg ?_ ?_ ?_)
        ·rw [mendFault, if_neg, if_neg] <;> simp_all
        ·simp_all
        ·simp_all; omega)
    ·try simp at h6
     refine hw_reg ?_
     refine dp rfl (pop_fieldAddr ty69 rfl ty3 (by decide) rfl) ?_
     refine dp rfl (pop_load ty3 rfl rfl rfl) ?_
     refine dp rfl (pop_call ca43 rfl (WeakL.refl _) c_benchref1_WeekFault) ?_
     refine dp rfl (pop_neq rfl rfl) ?_
     refine dp rfl (pop_move rfl) ?_
     refine dg rfl rfl (fun hc => ⟨_, OpenTo.refl _, pop_fieldAddr ty69 rfl ty3 (by decide) rfl⟩) ?_
     refine dg rfl rfl (fun hc => ⟨_, OpenTo.upd (t := 38) rfl (by first | exact hc | simp_all) (OpenTo.refl _), pop_load ty3 rfl rfl rfl⟩) ?_
     refine dg rfl rfl (fun hc => ⟨_, OpenTo.upd (t := 39) rfl (by first | exact hc | simp_all) (OpenTo.refl _), pop_call ca53 rfl (WeakL.refl _) c_benchref1_in⟩) ?_
     refine dg rfl rfl (fun hc => ⟨_, OpenTo.upd (t := 40) rfl (by first | exact hc | simp_all) (OpenTo.refl _), pop_not rfl⟩) ?_
     refine dp rfl (pop_picko rfl (.inl rfl) (.inr ⟨_, rfl, fun h => by simp_all⟩)) ?_
     refine dp rfl (pop_move rfl) ?_
     refine dg rfl rfl (fun hc => ⟨_, OpenTo.refl _, pop_fieldAddr ty69 rfl ty3 (by decide) rfl⟩) ?_
     refine dg rfl rfl (fun hc => ⟨_, OpenTo.upd (t := 44) rfl (by first | exact hc | simp_all) (OpenTo.refl _), pop_load ty3 rfl rfl rfl⟩) ?_
     refine dg rfl rfl (fun hc => ⟨_, OpenTo.upd (t := 45) rfl (by first | exact hc | simp_all) (OpenTo.refl _), pop_call ca38 rfl (WeakL.refl _) c_benchref1_MomentFault⟩) ?_
     refine dg rfl rfl (fun hc => ⟨_, OpenTo.upd (t := 46) rfl (by first | exact hc | simp_all) (OpenTo.refl _), pop_neq rfl rfl⟩) ?_
     refine dp rfl (pop_picko rfl (.inl rfl) (.inr ⟨_, rfl, fun h => by simp_all⟩)) ?_
     refine dp rfl (pop_move rfl) ?_
     refine dg rfl rfl (fun hc => ⟨_, OpenTo.refl _, pop_fieldAddr ty69 rfl ty3 (by decide) rfl⟩) ?_
     refine dg rfl rfl (fun hc => ⟨_, OpenTo.upd (t := 50) rfl (by first | exact hc | simp_all) (OpenTo.refl _), pop_load ty3 rfl rfl rfl⟩) ?_
     refine dg rfl rfl (fun hc => ⟨_, OpenTo.upd (t := 51) rfl (by first | exact hc | simp_all) (OpenTo.refl _), pop_call ca53 rfl (WeakL.refl _) c_benchref1_in⟩) ?_
     refine dg rfl rfl (fun hc => ⟨_, OpenTo.upd (t := 52) rfl (by first | exact hc | simp_all) (OpenTo.refl _), pop_not rfl⟩) ?_
     refine dp rfl (pop_picko rfl (.inl rfl) (.inr ⟨_, rfl, fun h => by simp_all⟩)) ?_
     refine dp rfl (pop_assign rfl) ?_
     refine dn ?_
     refine hw_cond rfl (fun h7 => ?_) (fun h8 => ?_)
     ·try simp at h7
      refine hw_reg ?_
      refine dp rfl (pop_assign rfl) ?_
      refine dn ?_
      refine hw_ret ?_
      refine ret_p rfl ?_
      show HVal.int .i64 _ = _
      first
      | (rw [mendsE, if_pos (by omega)]; done)
      | (rw [mendsE, if_neg (by omega), hg]; rfl)
      | (refine congrArg _ (mends_bad (c := 5) (by omega) hg (by decide) ?_)
         rw [mendFault, if_pos]
         simp_all
         done)
      | (refine congrArg _ (mends_bad (c := 1) (by omega) hg (by decide) ?_)
         rw [mendFault, if_neg, if_pos]
         all_goals simp_all
         done)
      | (have f1 := byVer_cmp.flip x (m.getD (k - 1) mend0) trivial trivial
         have f2 := byVer_cmp.flip (m.getD (k - 1) mend0) x trivial trivial
         refine congrArg _ (mends_ord (by omega) hg ?_ ?_ ?_)
         ·rw [mendFault, if_neg, if_neg] <;> simp_all
         ·simp_all
         ·simp_all; omega)
     ·try simp at h8
      refine hw_draw (fun _ => True) [] mixed ?_
      refine ahp 0 rfl rfl (by kernel_rfl) (by kernel_rfl) (pop_move rfl) ?_
      refine ahp 1 rfl rfl (by kernel_rfl) (by kernel_rfl) (pop_gtr rfl rfl) ?_
      refine ahp 2 rfl rfl (by kernel_rfl) (by kernel_rfl) (pop_move rfl) ?_
      refine ahg 3 rfl rfl (by kernel_rfl) (by kernel_rfl) rfl (fun hc => ⟨_, OpenTo.refl _, pop_move rfl⟩) ?_
      refine ahg 4 rfl rfl (by kernel_rfl) (by kernel_rfl) rfl (fun hc => ⟨_, OpenTo.refl _, pop_move rfl⟩) ?_
      refine ahg 5 rfl rfl (by kernel_rfl) (by kernel_rfl) rfl (fun hc => by have hq := hc; (try simp at hq); exact ⟨_, OpenTo.upd (t := 60) rfl (by first | exact hc | simp_all) (OpenTo.refl _), pop_sub64 rfl rfl (by omega) (by omega)⟩) ?_
      refine ahg 6 rfl rfl (by kernel_rfl) (by kernel_rfl) rfl (fun hc => by have hq := hc; (try simp at hq); exact ⟨_, OpenTo.upd (t := 61) rfl (by first | exact hc | simp_all) (OpenTo.upd (t := 59) rfl (by first | exact hc | simp_all) (OpenTo.refl _)), pop_idx (j := k - 1) (a := m.getD (k - 1) mend0) ty46 ty69 rfl rfl (by omega) (getD_some (by omega))⟩) ?_
      refine ahg 7 rfl rfl (by kernel_rfl) (by kernel_rfl) rfl (fun hc => ⟨_, OpenTo.upd (t := 62) rfl (by first | exact hc | simp_all) (OpenTo.refl _), pop_loadw ty69 rfl rfl rfl rfl⟩) ?_
      refine ahg 8 rfl rfl (by kernel_rfl) (by kernel_rfl) rfl (fun hc => ⟨_, OpenTo.refl _, pop_loadw ty69 rfl rfl rfl rfl⟩) ?_
      refine ahg 9 rfl rfl (by kernel_rfl) (by kernel_rfl) rfl (fun hc => ⟨_, OpenTo.upd (t := 64) rfl (by first | exact hc | simp_all) (OpenTo.upd (t := 63) rfl (by first | exact hc | simp_all) (OpenTo.refl _)), pop_call ca69 rfl (WeakL.refl _) c_benchref1_byMend⟩) ?_
      refine ahg 10 rfl rfl (by kernel_rfl) (by kernel_rfl) rfl (fun hc => ⟨_, OpenTo.upd (t := 65) rfl (by first | exact hc | simp_all) (OpenTo.refl _), pop_geq rfl rfl⟩) ?_
      refine ahp 11 rfl rfl (by kernel_rfl) (by kernel_rfl) (pop_picko rfl (.inr ⟨_, rfl, fun h => by simp_all⟩) (.inl rfl)) ?_
      refine ahp 12 rfl rfl (by kernel_rfl) (by kernel_rfl) (pop_assign rfl) ?_
      refine ahz (by kernel_rfl) ?_
      refine hw_cond rfl (fun h9 => ?_) (fun h10 => ?_)
      ·try simp at h9
       refine hw_reg ?_
       refine dp rfl (pop_assign rfl) ?_
       refine dn ?_
       refine hw_ret ?_
       refine ret_p rfl ?_
       show HVal.int .i64 _ = _
       first
       | (rw [mendsE, if_pos (by omega)]; done)
       | (rw [mendsE, if_neg (by omega), hg]; rfl)
       | (refine congrArg _ (mends_bad (c := 5) (by omega) hg (by decide) ?_)
          rw [mendFault, if_pos]
          simp_all
          done)
       | (refine congrArg _ (mends_bad (c := 1) (by omega) hg (by decide) ?_)
          rw [mendFault, if_neg, if_pos]
          all_goals simp_all
          done)
       | (have f1 := byVer_cmp.flip x (m.getD (k - 1) mend0) trivial trivial
          have f2 := byVer_cmp.flip (m.getD (k - 1) mend0) x trivial trivial
          refine congrArg _ (mends_ord (by omega) hg ?_ ?_ ?_)
          ·rw [mendFault, if_neg, if_neg] <;> simp_all
          ·simp_all
          ·simp_all; omega)
      ·try simp at h10
       refine hw_skip ?_
       refine blockQ_n ?_
       refine blockQ_n ?_
       refine seqQ_n ?_
       refine hw_reg1 ?_
       refine dp rfl (pop_add64 rfl rfl (by omega) (by omega)) ?_
       refine dp rfl (pop_move rfl) ?_
       refine dn ?_
       refine ⟨k + 1, ?_, ?_, ⟨rfl, trivial⟩, (by repeat (first | exact keeps_refl | refine keeps_upd rfl ?_ | refine keeps_loop rfl rfl ?_)), List.Perm.refl _⟩
       ·refine ⟨by omega, ?_⟩
        rw [hg, chkGo_ne (by rw [mendFault, if_neg (by simp_all), if_neg (by simp_all)]) (by intro hk0; have := byVer_cmp.flip x (m.getD (k - 1) mend0) trivial trivial; have := byVer_cmp.flip (m.getD (k - 1) mend0) x trivial trivial; simp_all; try omega)]
       ·dsimp only; omega
   ·try simp at h4
    have hnk : m.length ≤ k := by omega
    obtain rfl : k = m.length := by omega
    rw [drop_all (Nat.le_refl _)] at hg
    refine hw_exit ?_
    refine seqQ_x ?_
    refine loopQ_x ?_
    refine blockQ_eq ?_
    refine seqQ_n ?_
    refine hw_reg ?_
    refine dp rfl (pop_assign rfl) ?_
    refine dn ?_
    refine hw_ret ?_
    refine ret_p rfl ?_
    show HVal.int .i64 _ = _
    first
    | (rw [mendsE, if_pos (by omega)]; done)
    | (rw [mendsE, if_neg (by omega), hg]; rfl)
    | (refine congrArg _ (mends_bad (c := 5) (by omega) hg (by decide) ?_)
       rw [mendFault, if_pos]
       simp_all
       done)
    | (refine congrArg _ (mends_bad (c := 1) (by omega) hg (by decide) ?_)
       rw [mendFault, if_neg, if_pos]
       all_goals simp_all
       done)
    | (have f1 := byVer_cmp.flip x (m.getD (k - 1) mend0) trivial trivial
       have f2 := byVer_cmp.flip (m.getD (k - 1) mend0) x trivial trivial
       refine congrArg _ (mends_ord (by omega) hg ?_ ?_ ?_)
       ·rw [mendFault, if_neg, if_neg] <;> simp_all
       ·simp_all
       ·simp_all; omega)
end Go.Proofs.YtkamelfigfbfiaaGreatDoor
end
section
namespace Go.HL
theorem sadd_new {s : Str} {S : List Str} (h : s ∉ S) : sadd s S = S ++ [s] := by
 unfold sadd; rw [if_neg (by simpa using h)]
theorem sadd_old {s : Str} {S : List Str} (h : s ∈ S) : sadd s S = S := by
 unfold sadd; rw [if_pos (by simpa using h)]
section
variable {κ : Type}
theorem outer_none {G : GrM κ} {s : Str} (h : ((alk s (outerL G)).getD none).isNone = true) : alk s G = none := by
 rw [outer_get] at h
 cases hq : alk s G with
 | none => rfl
 | some q => rw [hq] at h; simp at h
theorem outer_some {G : GrM κ} {s : Str} (h : ((alk s (outerL G)).getD none).isNone = false) : ∃ b L, alk s G = some (b, L) := by
 rw [outer_get] at h
 cases hq : alk s G with
 | none => rw [hq] at h; simp at h
 | some q => exact ⟨q.1, q.2, rfl⟩
theorem GrOk.mem {S : List Str} {c : List ((Str × κ) × Int)} {G : GrM κ} (h : GrOk S c G) {s : Str} {b : Nat} {L : List (κ × Int)} (hq : alk s G = some (b, L)) : s ∈ S := by
 refine Decidable.not_not.1 fun hn => ?_
 rw [h.none.2 hn] at hq; cases hq
theorem GrOk.find {S : List Str} {c : List ((Str × κ) × Int)} {G : GrM κ} (h : GrOk S c G) {s : Str} (hs : s ∈ S) : ∃ b L, alk s G = some (b, L) := by
 cases hq : alk s G with
 | none => exact absurd hs (h.none.1 hq)
 | some q => exact ⟨q.1, q.2, rfl⟩
end
theorem rawLines_len {q : LnS} {week : Int} : (rawLines q week).length ≤ q.S.length := by
 rw [rawLines_is, List.length_map]; exact onceL_len _
theorem rawLines_stats {q : LnS} {week : Int} : ∀ y ∈ rawLines q week, y.Stats.length ≤ q.c.length := fun y hy => by
 rw [rawLines_is] at hy
 obtain ⟨s, _, rfl⟩ := List.mem_map.1 hy
 exact Nat.le_trans (statsR_len _) (inner_len _ _)
end Go.HL
end
section
namespace Go.HL
structure DisOk (q : DisS) (n : Nat) : Prop where
 c : ANodup q.c
 S : q.S.Nodup
 k : ∀ s ∈ q.S, s.length ≤ 40
 cl : q.c.length ≤ n
 Sl : q.S.length ≤ n
 bd : ∀ e ∈ q.c, -(100000 * (n : Int)) ≤ e.2 ∧ e.2 ≤ 100000 * (n : Int)
theorem DisOk.val {q : DisS} {n : Nat} (h : DisOk q n) (s : Str × Of2) : -(100000 * (n : Int)) ≤ (alk s q.c).getD 0 ∧ (alk s q.c).getD 0 ≤ 100000 * (n : Int) := by
 cases hq : alk s q.c with
 | none => simp; omega
 | some v => exact h.bd _ (alk_of_mem hq)
theorem DisOk.sput {q : DisS} {n : Nat} (h : DisOk q n) {p : Play} (hp : playFault p = 0) : DisOk ⟨sadd p.Source q.S, q.c⟩ (n + 1) := by
 refine ⟨h.c, sadd_nodup h.S, fun s hs => ?_, by have := h.cl; dsimp only; omega, Nat.le_trans (sadd_le _ _) (by have := h.Sl; omega), fun e he => by have := h.bd e he; omega⟩
 rcases mem_sadd.1 hs with rfl | hs
 ·exact key_len (playFault_ok hp).1
 ·exact h.k s hs
theorem DisOk.put {q : DisS} {n : Nat} (h : DisOk q n) {p : Play} (hp : playFault p = 0) : DisOk ⟨sadd p.Source q.S, disPut q p⟩ (n + 1) := by
 have hs := h.sput hp
 obtain ⟨_, _, _, _, _, hb, _⟩ := playFault_ok hp
 have hv := h.val (disKey p)
 refine ⟨h.c.put, hs.S, hs.k, Nat.le_trans (aput_le _ _ _) (by have := h.cl; omega), hs.Sl, fun e he => ?_⟩
 rcases mem_aput he with rfl | he
 ·dsimp only; omega
 ·have := h.bd e he; omega
end Go.HL
end
section
namespace Go.HL
section
variable {P : Program} {e : Env} {dst : Option Tmp} {ty : TypeId} {pos : String} {af : Array Edge} {g : Option (Nat × Bool)}
end
section
variable {P : Program} {n : Nat} {e e' : Env} {M M' : List MObj} {Q Q' : Exit → Env → List MObj → Prop} {c c' : Code}
def LoopW4 {α β γ δ : Type} (e : Env) (ks : List Nat) (W : α → β → γ → δ → List (Nat × HVal)) (MM : α → β → γ → δ → List MObj) (Iv : α → β → γ → δ → Prop) (μ : α → β → γ → δ → Nat) (x : α) (y : β) (u : γ) (v : δ) (Q : Exit → Env → List MObj → Prop) : Exit → Env → List MObj → Prop
 | .normal, e', M => ∃ j k l m, Iv j k l m ∧ μ j k l m < μ x y u v ∧ HoldsW e' (W j k l m) ∧ Keeps ks e e' ∧ M.Perm (MM j k l m)
 | z, e', M => Q z e' M
theorem loopQ4_x {α β γ δ : Type} {e0 : Env} {ks : List Nat} {W : α → β → γ → δ → List (Nat × HVal)} {MM : α → β → γ → δ → List MObj} {Iv : α → β → γ → δ → Prop} {μ : α → β → γ → δ → Nat} {x : α} {y : β} {u : γ} {v : δ} {id : Nat} (h : Q (.exit id) e M) :
 LoopW4 e0 ks W MM Iv μ x y u v Q (.exit id) e M := h
theorem hw_loopw4 [Tracks] {α β γ δ : Type} (ks : List Nat) (W : α → β → γ → δ → List (Nat × HVal)) (MM : α → β → γ → δ → List MObj) (Iv : α → β → γ → δ → Prop) (μ : α → β → γ → δ → Nat) (x : α) (y : β) (u : γ) (v : δ) (h0 : Iv x y u v) (hW : HoldsW e (W x y u v)) (hM : M.Perm (MM x y u v))
 (hb : ∀ x y u v, Iv x y u v → HWp P n c (loopE e ks (W x y u v)) (MM x y u v) (LoopW4 e ks W MM Iv μ x y u v Q)) : HWp P n (.loop c) e M Q := by
 refine hw_loopw (ι := α × β × γ × δ) ks (fun p => W p.1 p.2.1 p.2.2.1 p.2.2.2) (fun p => MM p.1 p.2.1 p.2.2.1 p.2.2.2) (fun p => Iv p.1 p.2.1 p.2.2.1 p.2.2.2) (fun p => μ p.1 p.2.1 p.2.2.1 p.2.2.2) (x, y, u, v) h0 hW hM fun p hp => hw_mono (hb p.1 p.2.1 p.2.2.1 p.2.2.2 hp) ?_
 intro z e1 M1 hq
 cases z with
 | normal => obtain ⟨j, k, l, m, h⟩ := hq; exact ⟨(j, k, l, m), h⟩
 | _ => exact hq
end
end Go.HL
end
section
namespace Go.HL
end Go.HL
end
section
namespace Go.HL
theorem uniqO_snoc (x : Of2) : ∀ (A : List Of2) (p : Option Of2), uniqO p (A ++ [x]) = uniqO p A ++ if (A.getLast?.or p) = some x then [] else [x]
 | [], p => by
   by_cases h : p = some x <;> simp [uniqO, h]
 | y :: A, p => by
   have ih := uniqO_snoc x A (some y)
   have e : ((y :: A).getLast?.or p) = (A.getLast?.or (some y)) := by
    cases A with
    | nil => simp
    | cons z A => simp [List.getLast?_cons_cons, List.getLast?_cons]
   simp only [List.cons_append, uniqO]
   rw [e, ih]
   split <;> simp
theorem uniqO_step {l : List Of2} {k : Nat} {x y : Of2} (hx : l[k]? = some x) (hy : l[k - 1]? = some y) (h0 : 0 < k) : uniqO none (l.take (k + 1)) = uniqO none (l.take k) ++ if x = y then [] else [x] := by
 have hk := lt_of_get hx
 rw [take_snoc' hx, uniqO_snoc]
 have e : ((l.take k).getLast?.or none) = some y := by
  rw [List.getLast?_eq_getElem?, List.length_take, Nat.min_eq_left (by omega), List.getElem?_take_of_lt (by omega), hy]; rfl
 rw [e]
 by_cases h : x = y
 ·rw [if_pos h, if_pos (by rw [h])]
 ·rw [if_neg h, if_neg (by simpa using fun q : y = x => h q.symm)]
structure CmpO (l : List Of2) (j : Nat) (D : List Of2) : Prop where
 len : D.length = l.length
 lo : D.take (uniqO none (l.take j)).length = uniqO none (l.take j)
 lt : (uniqO none (l.take j)).length < j
 hi : ∀ i, j ≤ i + 1 → D[i]? = l[i]?
theorem CmpO.start {l : List Of2} {k : Nat} {x y : Of2} (hx : l[k]? = some x) (hy : l[k - 1]? = some y) (h0 : 0 < k) (e : x = y) (h : uniqO none (l.take k) = l.take k) : CmpO l (k + 1) l ∧ (uniqO none (l.take (k + 1))).length = k := by
 have hk := lt_of_get hx
 have h1 : uniqO none (l.take (k + 1)) = l.take k := by rw [uniqO_step hx hy h0, if_pos e, h]; simp
 have h2 : (l.take k).length = k := by rw [List.length_take]; omega
 exact ⟨⟨rfl, by rw [h1, h2], by rw [h1, h2]; omega, fun _ _ => rfl⟩, by rw [h1, h2]⟩
theorem CmpO.same {l D : List Of2} {j : Nat} (h : CmpO l j D) {x y : Of2} (hx : l[j]? = some x) (hy : l[j - 1]? = some y) (e : x = y) : CmpO l (j + 1) D ∧ (uniqO none (l.take (j + 1))).length = (uniqO none (l.take j)).length := by
 have h0 := h.lt
 have h1 : uniqO none (l.take (j + 1)) = uniqO none (l.take j) := by rw [uniqO_step hx hy (by omega), if_pos e]; simp
 exact ⟨⟨h.len, by rw [h1]; exact h.lo, by rw [h1]; omega, fun i hi => h.hi i (by omega)⟩, by rw [h1]⟩
end Go.HL
end
section
namespace Go.HL
theorem eqStats_refl : ∀ l : List StatS, eqSts eStat l l = true
 | [] => rfl
 | a :: r => by simp [eqSts, eqSt, eqStats_refl r, hcells, eqHL, eqH]
def byLn (a b : LineS) : Int := orI [cmpS a.Player b.Player, cmpI a.Week b.Week]
theorem byLn_refl (x : LineS) : byLn x x = 0 := by
 unfold byLn; rw [orI2, if_neg (by simp [cmpS_zero]), cmpI_zero]
abbrev eM (n : Int) : Int := if moment n then 0 else 1
end Go.HL
end
section
namespace Go.Proofs.YtkamelfigfbfiaaGreatDoor
open Go.HL
set_option maxRecDepth 100000
set_option linter.unusedVariables false
set_option linter.unusedSimpArgs false
/-- (*benchwarmer/benchmake.Stream).Known -/
theorem c_benchmake_Stream_Known [Tracks] {b : Nat} {l : List Int} {a : Nat}  (ha : a ≤ 800000) : Con Tryz.prog 30 [pAt b] [St b l a] (fun x M' => ∃ y : Int, x = .int .i64 y ∧ M' = [St b l (a + 1 + 1)]) := by
 refine Con.of_body Tryz.func30 rfl Tryz.ntmps30 rfl rfl ?_
 refine hw_reg ?_
 refine dp rfl (pop_assign rfl) ?_
 refine dn ?_
 refine hw_reg ?_
 refine dp rfl (pop_move rfl) ?_
 refine dp rfl (pop_move rfl) ?_
 refine dp rfl (pop_buildSlice (hs := [_, _]) ty22 ty3 rfl rfl (by decide) (by decide) rfl) ?_
 refine de rfl (eop_callx (i := 0) ca32 rfl (WeakL.refl _) rfl (c_benchmake_Stream_Pick (L := [_, _]) (by first | assumption | omega | (simp; omega) | simp_all) (by first | assumption | omega | (simp; omega) | simp_all) (by first | assumption | omega | (simp; omega) | simp_all)) ?_)
 rintro _ _ ⟨y6, rfl, hy6, rfl⟩
 refine dp rfl (pop_buildSlice (hs := [_, _, _, _, _, _, _, _]) ty22 ty3 rfl rfl (by decide) (by decide) rfl) ?_
 refine de rfl (eop_callx (i := 0) ca32 rfl (WeakL.refl _) rfl (c_benchmake_Stream_Pick (L := [_, _, _, _, _, _, _, _]) (by first | assumption | omega | (simp; omega) | simp_all) (by first | assumption | omega | (simp; omega) | simp_all) (by first | assumption | omega | (simp; omega) | simp_all)) ?_)
 rintro _ _ ⟨y8, rfl, hy8, rfl⟩
 refine dp rfl (pop_assign rfl) ?_
 refine dn ?_
 refine hw_ret ?_
 exact ret_q rfl ⟨_, rfl, rfl⟩

end Go.Proofs.YtkamelfigfbfiaaGreatDoor
end
section
namespace Go.Proofs.YtkamelfigfbfiaaGreatDoor
open Go.HL
set_option maxRecDepth 100000
set_option linter.unusedVariables false
set_option linter.unusedSimpArgs false
set_option maxHeartbeats 4000000 in
/-- (*benchwarmer/benchmake.Stream).Mends -/
theorem c_benchmake_Stream_Mends [Tracks] {b : Nat} {l : List Int} {a : Nat}  (ha : a ≤ 700000) : Con Tryz.prog 17 [pAt b] [St b l a] (fun x M' => ∃ k a', x = eMends k ∧ GoodMds k ∧ a' ≤ a + 100 ∧ M' = [St b l a']) := by
 refine Con.of_body Tryz.func17 rfl Tryz.ntmps17 rfl rfl ?_
 refine hw_reg ?_
 refine dp rfl (pop_assign rfl) ?_
 refine dn ?_
 refine hw_reg ?_
 refine dp rfl (pop_assign rfl) ?_
 refine dn ?_
 refine hw_ghost (Ghost.arr_nil 7) ?_
 refine hw_seq ?_
 refine hw_reg ?_
 refine dp rfl (pop_buildSlice (hs := [_, _, _]) ty36 ty9 rfl rfl (by decide) (by decide) rfl) ?_
 refine dp rfl (pop_lenm (f := HVal.str) (l := mp3) ty36 rfl) ?_
 refine dp rfl (pop_move rfl) ?_
 refine dn ?_
 refine hw_block ?_
 refine hw_loopw2 [3, 5, 6, 8, 9, 13, 14, 15, 16, 17, 18, 19, 20, 21, 22, 23, 24, 25, 26, 27, 28, 29, 30, 31, 32, 33, 34, 35, 36, 37, 38, 39, 40, 41, 42, 43, 44, 45, 46, 47, 48] (fun (k : Nat) (q : GL MendS) => [(13, .int .i64 k), (3, .raw q.u)]) (fun (k : Nat) (q : GL MendS) => [St b l q.a, .arr q.u 7 (q.out.map eMend)]) (fun (k : Nat) (q : GL MendS) => k ≤ mp3.length ∧ (GLok GoodMd (8 * k) (a + 24 * k) q)) (fun (k : Nat) (q : GL MendS) => mp3.length - k) (0) (⟨.slice none 0 0, [], a⟩) ?_ ?_ ?_ ?_
 ·exact ⟨by decide, ⟨by simp, by simp, by dsimp only; omega⟩⟩
 ·exact ⟨rfl, rfl, trivial⟩
 ·repeat (first | exact List.Perm.nil | refine permTo 0 rfl ?_ | refine permTo 1 rfl ?_ | refine permTo 2 rfl ?_ | refine permTo 3 rfl ?_ | (refine permToE 0 rfl ?hq ?_; (case hq => simp [setL, hcells]; done)) | (refine permToE 1 rfl ?hq ?_; (case hq => simp [setL, hcells]; done)) | (refine permToE 2 rfl ?hq ?_; (case hq => simp [setL, hcells]; done)) | (refine permToE 3 rfl ?hq ?_; (case hq => simp [setL, hcells]; done)) | fail)
 ·intro k q hinv
  obtain ⟨hk, hq⟩ := hinv
  have hk3 : mp3.length = 3 := rfl
  obtain ⟨u, out, a2⟩ := q
  obtain ⟨g1, g2, g3⟩ := id hq
  dsimp only at g1 g2 g3
  refine hw_reg ?_
  refine dp rfl (pop_lss rfl rfl) ?_
  refine dn ?_
  refine hw_seq ?_
  refine hw_cond rfl (fun h1 => ?_) (fun h2 => ?_)
  ·try simp at h1
   obtain ⟨x, hx⟩ : ∃ x, mp3[k]? = some x := ⟨_, List.getElem?_eq_getElem h1⟩
   have hdx := drop_cons hx
   refine hw_skip ?_
   refine seqQ_n ?_
   refine hw_seq ?_
   refine hw_block ?_
   refine hw_reg ?_
   refine dp rfl (pop_idx (f := HVal.str) (l := mp3) (j := k) (a := x) ty36 ty9 rfl rfl rfl hx) ?_
   refine dp rfl (pop_load ty9 rfl rfl rfl) ?_
   refine dp rfl (pop_assign rfl) ?_
   refine dn ?_
   refine hw_reg ?_
   refine dp rfl (pop_assign rfl) ?_
   refine dn ?_
   refine hw_block ?_
   refine hw_loopw2 [3, 6, 8, 9, 17, 18, 19, 20, 21, 22, 23, 24, 25, 26, 27, 28, 29, 30, 31, 32, 33, 34, 35, 36, 37, 38, 39, 40, 41, 42, 43, 44, 45, 46, 47] (fun (w : Nat) (q2 : GL MendS) => [(6, .int .i64 ((w : Int) + 1)), (3, .raw q2.u)]) (fun (w : Nat) (q2 : GL MendS) => [St b l q2.a, .arr q2.u 7 (q2.out.map eMend)]) (fun (w : Nat) (q2 : GL MendS) => w ≤ 2 ∧ GLok GoodMd (8 * k + 4 * w) (a + 24 * k + 12 * w) q2) (fun (w : Nat) (q2 : GL MendS) => 2 - w) (0) (⟨u, out, a2⟩) ?_ ?_ ?_ ?_
   ·exact ⟨by omega, hq.mono (by omega) (by omega)⟩
   ·exact ⟨some_int (by omega), rfl, trivial⟩
   ·repeat (first | exact List.Perm.nil | refine permTo 0 rfl ?_ | refine permTo 1 rfl ?_ | refine permTo 2 rfl ?_ | refine permTo 3 rfl ?_ | (refine permToE 0 rfl ?hq ?_; (case hq => simp [setL, hcells]; done)) | (refine permToE 1 rfl ?hq ?_; (case hq => simp [setL, hcells]; done)) | (refine permToE 2 rfl ?hq ?_; (case hq => simp [setL, hcells]; done)) | (refine permToE 3 rfl ?hq ?_; (case hq => simp [setL, hcells]; done)) | fail)
   ·intro w q2 hinv
    obtain ⟨hw, hq2⟩ := hinv
    obtain ⟨u, out, a2⟩ := q2
    obtain ⟨g1, g2, g3⟩ := id hq2
    dsimp only at g1 g2 g3
    refine hw_seq ?_
    refine hw_reg ?_
    refine dp rfl (pop_move rfl) ?_
    refine dp rfl (pop_leq rfl rfl) ?_
    refine dn ?_
    refine hw_cond rfl (fun h3 => ?_) (fun h4 => ?_)
    ·try simp at h3
     refine hw_skip ?_
     refine seqQ_n ?_
     refine hw_seq ?_
     refine hw_block ?_
     refine hw_reg ?_
     refine dp rfl (pop_buildSlice (hs := [_, _]) ty36 ty9 rfl rfl (by decide) (by decide) rfl) ?_
     refine dp rfl (pop_lenm (f := HVal.str) (l := ms2) ty36 rfl) ?_
     refine dp rfl (pop_move rfl) ?_
     refine dn ?_
     refine hw_block ?_
     refine hw_loopw2 [3, 8, 9, 23, 24, 25, 26, 27, 28, 29, 30, 31, 32, 33, 34, 35, 36, 37, 38, 39, 40, 41, 42, 43, 44, 45, 46, 47] (fun (j : Nat) (q3 : GL MendS) => [(23, .int .i64 j), (3, .raw q3.u)]) (fun (j : Nat) (q3 : GL MendS) => [St b l q3.a, .arr q3.u 7 (q3.out.map eMend)]) (fun (j : Nat) (q3 : GL MendS) => j ≤ ms2.length ∧ (GLok GoodMd (8 * k + 4 * w + 2 * j) (a + 24 * k + 12 * w + 6 * j) q3)) (fun (j : Nat) (q3 : GL MendS) => ms2.length - j) (0) (⟨u, out, a2⟩) ?_ ?_ ?_ ?_
     ·exact ⟨by decide, hq2.mono (by omega) (by omega)⟩
     ·exact ⟨rfl, rfl, trivial⟩
     ·repeat (first | exact List.Perm.nil | refine permTo 0 rfl ?_ | refine permTo 1 rfl ?_ | refine permTo 2 rfl ?_ | refine permTo 3 rfl ?_ | (refine permToE 0 rfl ?hq ?_; (case hq => simp [setL, hcells]; done)) | (refine permToE 1 rfl ?hq ?_; (case hq => simp [setL, hcells]; done)) | (refine permToE 2 rfl ?hq ?_; (case hq => simp [setL, hcells]; done)) | (refine permToE 3 rfl ?hq ?_; (case hq => simp [setL, hcells]; done)) | fail)
     ·intro j q3 hinv
      obtain ⟨hj, hq3⟩ := hinv
      have hj2 : ms2.length = 2 := rfl
      obtain ⟨u, out, a2⟩ := q3
      obtain ⟨g1, g2, g3⟩ := id hq3
      dsimp only at g1 g2 g3
      refine hw_reg ?_
      refine dp rfl (pop_lss rfl rfl) ?_
      refine dn ?_
      refine hw_seq ?_
      refine hw_cond rfl (fun h5 => ?_) (fun h6 => ?_)
      ·try simp at h5
       obtain ⟨z, hz⟩ : ∃ z, ms2[j]? = some z := ⟨_, List.getElem?_eq_getElem h5⟩
       have hdz := drop_cons hz
       refine hw_skip ?_
       refine seqQ_n ?_
       refine hw_seq ?_
       refine hw_block ?_
       refine hw_reg ?_
       refine dp rfl (pop_idx (f := HVal.str) (l := ms2) (j := j) (a := z) ty36 ty9 rfl rfl rfl hz) ?_
       refine dp rfl (pop_load ty9 rfl rfl rfl) ?_
       refine dp rfl (pop_assign rfl) ?_
       refine dn ?_
       refine hw_reg ?_
       refine dp rfl (pop_assign rfl) ?_
       refine dn ?_
       refine hw_block ?_
       refine hw_loopw2 [3, 9, 27, 28, 29, 30, 31, 32, 33, 34, 35, 36, 37, 38, 39, 40, 41, 42, 43, 44, 45, 46] (fun (v : Nat) (q4 : GL MendS) => [(9, .int .i64 ((v : Int) + 1)), (3, .raw q4.u)]) (fun (v : Nat) (q4 : GL MendS) => [St b l q4.a, .arr q4.u 7 (q4.out.map eMend)]) (fun (v : Nat) (q4 : GL MendS) => v ≤ 2 ∧ GLok GoodMd (8 * k + 4 * w + 2 * j + v) (a + 24 * k + 12 * w + 6 * j + 3 * v) q4) (fun (v : Nat) (q4 : GL MendS) => 2 - v) (0) (⟨u, out, a2⟩) ?_ ?_ ?_ ?_
       ·exact ⟨by omega, hq3.mono (by omega) (by omega)⟩
       ·exact ⟨some_int (by omega), rfl, trivial⟩
       ·repeat (first | exact List.Perm.nil | refine permTo 0 rfl ?_ | refine permTo 1 rfl ?_ | refine permTo 2 rfl ?_ | refine permTo 3 rfl ?_ | (refine permToE 0 rfl ?hq ?_; (case hq => simp [setL, hcells]; done)) | (refine permToE 1 rfl ?hq ?_; (case hq => simp [setL, hcells]; done)) | (refine permToE 2 rfl ?hq ?_; (case hq => simp [setL, hcells]; done)) | (refine permToE 3 rfl ?hq ?_; (case hq => simp [setL, hcells]; done)) | fail)
       ·intro v q4 hinv
        obtain ⟨hv, hq4⟩ := hinv
        obtain ⟨u, out, a2⟩ := q4
        obtain ⟨g1, g2, g3⟩ := id hq4
        dsimp only at g1 g2 g3
        refine hw_seq ?_
        refine hw_reg ?_
        refine dp rfl (pop_move rfl) ?_
        refine dp rfl (pop_leq rfl rfl) ?_
        refine dn ?_
        refine hw_cond rfl (fun h7 => ?_) (fun h8 => ?_)
        ·try simp at h7
         refine hw_skip ?_
         refine seqQ_n ?_
         refine hw_seq ?_
         refine hw_block ?_
         refine hw_reg ?_
         refine dp rfl (pop_move rfl) ?_
         first
         | refine de rfl (eop_callx (i := 0) ca49 rfl (WeakL.refl _) rfl (c_benchmake_Stream_Flip (by first | assumption | omega | (simp; omega) | simp_all) (by first | assumption | omega | (simp; omega) | simp_all)) ?_)
         | refine de rfl (eop_callx (i := 1) ca49 rfl (WeakL.refl _) rfl (c_benchmake_Stream_Flip (by first | assumption | omega | (simp; omega) | simp_all) (by first | assumption | omega | (simp; omega) | simp_all)) ?_)
         | refine de rfl (eop_callx (i := 2) ca49 rfl (WeakL.refl _) rfl (c_benchmake_Stream_Flip (by first | assumption | omega | (simp; omega) | simp_all) (by first | assumption | omega | (simp; omega) | simp_all)) ?_)
         | refine de rfl (eop_callx (i := 3) ca49 rfl (WeakL.refl _) rfl (c_benchmake_Stream_Flip (by first | assumption | omega | (simp; omega) | simp_all) (by first | assumption | omega | (simp; omega) | simp_all)) ?_)
         rintro _ _ ⟨y32, rfl, rfl⟩
         refine dn ?_
         refine hw_cond rfl (fun h9 => ?_) (fun h10 => ?_)
         ·try simp at h9
          refine hw_reg1 ?_
          refine dp rfl (pop_move rfl) ?_
          refine dp rfl (pop_move rfl) ?_
          refine dp rfl (pop_move rfl) ?_
          refine dp rfl (pop_move rfl) ?_
          refine dp rfl (pop_move rfl) ?_
          refine dp rfl (pop_buildSlice (hs := [_, _, _]) ty22 ty3 rfl rfl (by decide) (by decide) rfl) ?_
          first
          | refine de rfl (eop_callx (i := 0) ca32 rfl (WeakL.refl _) rfl (c_benchmake_Stream_Pick (L := [_, _, _]) (by first | assumption | omega | (simp; omega) | simp_all) (by first | assumption | omega | (simp; omega) | simp_all) (by first | assumption | omega | (simp; omega) | simp_all)) ?_)
          | refine de rfl (eop_callx (i := 1) ca32 rfl (WeakL.refl _) rfl (c_benchmake_Stream_Pick (L := [_, _, _]) (by first | assumption | omega | (simp; omega) | simp_all) (by first | assumption | omega | (simp; omega) | simp_all) (by first | assumption | omega | (simp; omega) | simp_all)) ?_)
          | refine de rfl (eop_callx (i := 2) ca32 rfl (WeakL.refl _) rfl (c_benchmake_Stream_Pick (L := [_, _, _]) (by first | assumption | omega | (simp; omega) | simp_all) (by first | assumption | omega | (simp; omega) | simp_all) (by first | assumption | omega | (simp; omega) | simp_all)) ?_)
          | refine de rfl (eop_callx (i := 3) ca32 rfl (WeakL.refl _) rfl (c_benchmake_Stream_Pick (L := [_, _, _]) (by first | assumption | omega | (simp; omega) | simp_all) (by first | assumption | omega | (simp; omega) | simp_all) (by first | assumption | omega | (simp; omega) | simp_all)) ?_)
          rintro _ _ ⟨y39, rfl, hy39, rfl⟩
          refine dp rfl (pop_move rfl) ?_
          refine dp rfl (pop_buildSlice (hs := [_, _, _]) ty22 ty3 rfl rfl (by decide) (by decide) rfl) ?_
          first
          | refine de rfl (eop_callx (i := 0) ca32 rfl (WeakL.refl _) rfl (c_benchmake_Stream_Pick (L := [_, _, _]) (by first | assumption | omega | (simp; omega) | simp_all) (by first | assumption | omega | (simp; omega) | simp_all) (by first | assumption | omega | (simp; omega) | simp_all)) ?_)
          | refine de rfl (eop_callx (i := 1) ca32 rfl (WeakL.refl _) rfl (c_benchmake_Stream_Pick (L := [_, _, _]) (by first | assumption | omega | (simp; omega) | simp_all) (by first | assumption | omega | (simp; omega) | simp_all) (by first | assumption | omega | (simp; omega) | simp_all)) ?_)
          | refine de rfl (eop_callx (i := 2) ca32 rfl (WeakL.refl _) rfl (c_benchmake_Stream_Pick (L := [_, _, _]) (by first | assumption | omega | (simp; omega) | simp_all) (by first | assumption | omega | (simp; omega) | simp_all) (by first | assumption | omega | (simp; omega) | simp_all)) ?_)
          | refine de rfl (eop_callx (i := 3) ca32 rfl (WeakL.refl _) rfl (c_benchmake_Stream_Pick (L := [_, _, _]) (by first | assumption | omega | (simp; omega) | simp_all) (by first | assumption | omega | (simp; omega) | simp_all) (by first | assumption | omega | (simp; omega) | simp_all)) ?_)
          rintro _ _ ⟨y42, rfl, hy42, rfl⟩
          refine dp rfl (pop_move rfl) ?_
          refine dp rfl (pop_build (cs := [_, _, _, _, _, _, _]) ty69 pl69 rfl) ?_
          refine dp rfl (pop_buildSlice (hs := [_]) ty46 ty69 rfl rfl (by decide) (by decide) rfl) ?_
          refine de rfl (eop_append (i := 1) ty46 ty69 rfl rfl rfl rfl rfl (by simp [flat, hcells, ofVal, ofVal1]) (by simp; omega) fun v46 => ?_)
          refine dp rfl (pop_assign rfl) ?_
          refine dn ?_
          refine blockQ_n ?_
          refine seqQ_n ?_
          refine hw_reg1 ?_
          refine dp rfl (pop_move rfl) ?_
          refine dp rfl (pop_add64 rfl rfl (by omega) (by omega)) ?_
          refine dp rfl (pop_assign rfl) ?_
          refine dn ?_
          exact ⟨v + 1, ⟨v46, out ++ [(⟨x, (w : Int) + 1, z, y39, y42, (v : Int) + 1, [98, 111, 115, 115]⟩ : MendS)], a2 + 1 + 1 + 1⟩, ⟨by omega, hq4.add (x := (⟨x, (w : Int) + 1, z, y39, y42, (v : Int) + 1, [98, 111, 115, 115]⟩ : MendS)) ⟨mp3_sh x (List.mem_of_getElem? hx), ms2_sh z (List.mem_of_getElem? hz), by unfold Sh; simp⟩ (by omega)⟩, by dsimp only; omega, ⟨some_int (by omega), rfl, trivial⟩, (by repeat (first | exact keeps_refl | refine keeps_upd rfl ?_ | refine keeps_loop rfl rfl ?_)), perm_eq (by dsimp only; rw [List.map_append]; rfl)⟩
         ·try simp at h10
          refine hw_skip ?_
          refine blockQ_n ?_
          refine seqQ_n ?_
          refine hw_reg1 ?_
          refine dp rfl (pop_move rfl) ?_
          refine dp rfl (pop_add64 rfl rfl (by omega) (by omega)) ?_
          refine dp rfl (pop_assign rfl) ?_
          refine dn ?_
          exact ⟨v + 1, ⟨u, out, a2 + 1⟩, ⟨by omega, hq4.same (by omega)⟩, by dsimp only; omega, ⟨some_int (by omega), rfl, trivial⟩, (by repeat (first | exact keeps_refl | refine keeps_upd rfl ?_ | refine keeps_loop rfl rfl ?_)), by repeat (first | exact List.Perm.nil | refine permTo 0 rfl ?_ | refine permTo 1 rfl ?_ | refine permTo 2 rfl ?_ | refine permTo 3 rfl ?_ | (refine permToE 0 rfl ?hq ?_; (case hq => simp [setL, hcells]; done)) | (refine permToE 1 rfl ?hq ?_; (case hq => simp [setL, hcells]; done)) | (refine permToE 2 rfl ?hq ?_; (case hq => simp [setL, hcells]; done)) | (refine permToE 3 rfl ?hq ?_; (case hq => simp [setL, hcells]; done)) | fail)⟩
        ·try simp at h8
         refine hw_exit ?_
         refine seqQ_x ?_
         refine loopQ2_x ?_
         refine blockQ_eq ?_
         refine blockQ_n ?_
         refine seqQ_n ?_
         refine hw_reg1 ?_
         refine dp rfl (pop_add64 rfl rfl (by omega) (by omega)) ?_
         refine dp rfl (pop_move rfl) ?_
         refine dn ?_
         exact ⟨j + 1, ⟨u, out, a2⟩, ⟨by omega, hq4.mono (by omega) (by omega)⟩, by dsimp only; omega, ⟨rfl, rfl, trivial⟩, (by repeat (first | exact keeps_refl | refine keeps_upd rfl ?_ | refine keeps_loop rfl rfl ?_)), by repeat (first | exact List.Perm.nil | refine permTo 0 rfl ?_ | refine permTo 1 rfl ?_ | refine permTo 2 rfl ?_ | refine permTo 3 rfl ?_ | (refine permToE 0 rfl ?hq ?_; (case hq => simp [setL, hcells]; done)) | (refine permToE 1 rfl ?hq ?_; (case hq => simp [setL, hcells]; done)) | (refine permToE 2 rfl ?hq ?_; (case hq => simp [setL, hcells]; done)) | (refine permToE 3 rfl ?hq ?_; (case hq => simp [setL, hcells]; done)) | fail)⟩
      ·try simp at h6
       have hnj : ms2.length ≤ j := by omega
       obtain rfl : j = ms2.length := by omega
       refine hw_exit ?_
       refine seqQ_x ?_
       refine loopQ2_x ?_
       refine blockQ_eq ?_
       refine blockQ_n ?_
       refine seqQ_n ?_
       refine hw_reg1 ?_
       refine dp rfl (pop_move rfl) ?_
       refine dp rfl (pop_add64 rfl rfl (by omega) (by omega)) ?_
       refine dp rfl (pop_assign rfl) ?_
       refine dn ?_
       exact ⟨w + 1, ⟨u, out, a2⟩, ⟨by omega, hq3.mono (by omega) (by omega)⟩, by dsimp only; omega, ⟨some_int (by omega), rfl, trivial⟩, (by repeat (first | exact keeps_refl | refine keeps_upd rfl ?_ | refine keeps_loop rfl rfl ?_)), by repeat (first | exact List.Perm.nil | refine permTo 0 rfl ?_ | refine permTo 1 rfl ?_ | refine permTo 2 rfl ?_ | refine permTo 3 rfl ?_ | (refine permToE 0 rfl ?hq ?_; (case hq => simp [setL, hcells]; done)) | (refine permToE 1 rfl ?hq ?_; (case hq => simp [setL, hcells]; done)) | (refine permToE 2 rfl ?hq ?_; (case hq => simp [setL, hcells]; done)) | (refine permToE 3 rfl ?hq ?_; (case hq => simp [setL, hcells]; done)) | fail)⟩
    ·try simp at h4
     refine hw_exit ?_
     refine seqQ_x ?_
     refine loopQ2_x ?_
     refine blockQ_eq ?_
     refine blockQ_n ?_
     refine seqQ_n ?_
     refine hw_reg1 ?_
     refine dp rfl (pop_add64 rfl rfl (by omega) (by omega)) ?_
     refine dp rfl (pop_move rfl) ?_
     refine dn ?_
     exact ⟨k + 1, ⟨u, out, a2⟩, ⟨by omega, hq2.mono (by omega) (by omega)⟩, by dsimp only; omega, ⟨rfl, rfl, trivial⟩, (by repeat (first | exact keeps_refl | refine keeps_upd rfl ?_ | refine keeps_loop rfl rfl ?_)), by repeat (first | exact List.Perm.nil | refine permTo 0 rfl ?_ | refine permTo 1 rfl ?_ | refine permTo 2 rfl ?_ | refine permTo 3 rfl ?_ | (refine permToE 0 rfl ?hq ?_; (case hq => simp [setL, hcells]; done)) | (refine permToE 1 rfl ?hq ?_; (case hq => simp [setL, hcells]; done)) | (refine permToE 2 rfl ?hq ?_; (case hq => simp [setL, hcells]; done)) | (refine permToE 3 rfl ?hq ?_; (case hq => simp [setL, hcells]; done)) | fail)⟩
  ·try simp at h2
   have hnk : mp3.length ≤ k := by omega
   obtain rfl : k = mp3.length := by omega
   refine hw_exit ?_
   refine seqQ_x ?_
   refine loopQ2_x ?_
   refine blockQ_eq ?_
   refine seqQ_n ?_
   refine hw_join (10 :: 49 :: 50 :: 51 :: 52 :: 53 :: 54 :: 55 :: 56 :: 57 :: 58 :: 59 :: 60 :: 61 :: 62 :: 63 :: 64 :: 65 :: 66 :: 67 :: 68 :: 69 :: 70 :: 71 :: 72 :: 73 :: 74 :: 75 :: 76 :: 77 :: 78 :: 79 :: 80 :: 81 :: 82 :: 83 :: 84 :: 85 :: 86 :: 87 :: 88 :: 89 :: 90 :: 91 :: 92 :: 93 :: 94 :: 95 :: 96 :: 97 :: 98 :: 99 :: 100 :: 101 :: 102 :: 103 :: 104 :: 105 :: 106 :: 107 :: []) (fun (q5 : List MendS × Nat) => []) (fun (q5 : List MendS × Nat) => [St b l q5.2, .arr u 7 (q5.1.map eMend)]) (fun (q5 : List MendS × Nat) => q5.1.length ≤ 24 ∧ (∀ x ∈ q5.1, GoodMd x) ∧ q5.2 ≤ a + 100) ?_ ?_
   ·skip
    refine hw_reg ?_
    refine dp rfl (pop_move rfl) ?_
    first
    | refine de rfl (eop_lenm (i := 0) ty46 rfl rfl ?_)
    | refine de rfl (eop_lenm (i := 1) ty46 rfl rfl ?_)
    | refine de rfl (eop_lenm (i := 2) ty46 rfl rfl ?_)
    | refine de rfl (eop_lenm (i := 3) ty46 rfl rfl ?_)
    refine dp rfl (pop_gtr rfl rfl) ?_
    refine dp rfl (pop_move rfl) ?_
    refine dg rfl rfl (fun hc => ⟨_, OpenTo.refl _, pop_move rfl⟩) ?_
    refine dgx (fun x M' => ∃ (y : Bool) (a3 : Nat), x = .bool y ∧ a3 ≤ a2 + 1 ∧ M' = [St b l a3, .arr u 7 (out.map eMend)]) rfl rfl (fun hc => ⟨_, false, a2, rfl, by omega, rfl⟩) (fun hc => ⟨_, OpenTo.upd (t := 53) rfl (by first | exact hc | simp_all) (OpenTo.refl _), eop_callx (i := 0) ca49 rfl (WeakL.refl _) rfl (c_benchmake_Stream_Flip (a := a2) (by omega) (by omega)) (fun h M' hh => by
     obtain ⟨y, h1, h2⟩ := hh
     exact ⟨y, a2 + 1, h1, by omega, by rw [h2]; rfl⟩)⟩) ?_
    rintro _ _ ⟨y, a3, rfl, ha3, rfl⟩
    refine dp rfl (pop_picko rfl (.inr ⟨_, rfl, fun h => by simp_all⟩) (.inl rfl)) ?_
    refine dn ?_
    refine hw_cond rfl (fun h11 => ?_) (fun h12 => ?_)
    ·try simp at h11
     have ho0 : 0 < out.length := by simp_all
     refine hw_arrc (i := 1) rfl (fun h0 he => ?_) (fun ob off cap hv hcap => ?_)
     ·exfalso; have := congrArg List.length he; simp at this; subst this; simp at ho0
     subst hv
     refine hw_reg ?_
     refine dp rfl (pop_move rfl) ?_
     refine dp rfl (pop_move rfl) ?_
     refine dp rfl (pop_move rfl) ?_
     first
     | refine de rfl (eop_lenm (i := 0) ty46 rfl rfl ?_)
     | refine de rfl (eop_lenm (i := 1) ty46 rfl rfl ?_)
     | refine de rfl (eop_lenm (i := 2) ty46 rfl rfl ?_)
     | refine de rfl (eop_lenm (i := 3) ty46 rfl rfl ?_)
     first
     | refine de rfl (eop_callx (i := 0) ca50 rfl (WeakL.refl _) rfl (c_benchmake_Stream_Next (by first | assumption | omega | (simp; omega) | simp_all) (by first | assumption | omega | (simp; omega) | simp_all)) ?_)
     | refine de rfl (eop_callx (i := 1) ca50 rfl (WeakL.refl _) rfl (c_benchmake_Stream_Next (by first | assumption | omega | (simp; omega) | simp_all) (by first | assumption | omega | (simp; omega) | simp_all)) ?_)
     | refine de rfl (eop_callx (i := 2) ca50 rfl (WeakL.refl _) rfl (c_benchmake_Stream_Next (by first | assumption | omega | (simp; omega) | simp_all) (by first | assumption | omega | (simp; omega) | simp_all)) ?_)
     | refine de rfl (eop_callx (i := 3) ca50 rfl (WeakL.refl _) rfl (c_benchmake_Stream_Next (by first | assumption | omega | (simp; omega) | simp_all) (by first | assumption | omega | (simp; omega) | simp_all)) ?_)
     rintro _ _ ⟨y60, rfl, hy60, rfl⟩
     refine dp rfl (pop_idxraw (j := y60) ty46 ty69 rfl rfl rfl (by simp; omega)) ?_
     refine dp rfl (pop_assign rfl) ?_
     refine dn ?_
     obtain ⟨x, hx⟩ : ∃ x, out[y60]? = some x := ⟨_, List.getElem?_eq_getElem (by omega)⟩
     refine hw_draw1 (fun M => ∃ i : Nat, M[i]? = some (.arr (.slice (some ⟨ob, off, none⟩) (out.map eMend).length cap) 7 (out.map eMend))) [9, 16, 23, 30] mixed ?_
     refine ahp 0 rfl rfl (by kernel_rfl) (by kernel_rfl) (pop_move rfl) ?_
     refine ahp 1 rfl rfl (by kernel_rfl) (by kernel_rfl) (pop_move rfl) ?_
     refine ahp 2 rfl rfl (by kernel_rfl) (by kernel_rfl) (pop_move rfl) ?_
     refine ahp 3 rfl rfl (by kernel_rfl) (by kernel_rfl) (pop_move rfl) ?_
     refine ahp 4 rfl rfl (by kernel_rfl) (by kernel_rfl) (pop_move rfl) ?_
     refine ahp 5 rfl rfl (by kernel_rfl) (by kernel_rfl) (pop_move rfl) ?_
     refine ahp 6 rfl rfl (by kernel_rfl) (by kernel_rfl) (pop_move rfl) ?_
     refine ahp 7 rfl rfl (by kernel_rfl) (by kernel_rfl) ((by first | exact pop_nilCheck rfl | exact pop_nilCheck_raw rfl)) ?_
     refine ahp 8 rfl rfl (by kernel_rfl) (by kernel_rfl) ((by first | exact pop_fieldAddr ty69 rfl ty9 (by decide) rfl | exact pop_fieldAddr_raw ty69 rfl ty9 (by decide) rfl)) ?_
     refine ahl 9 rfl rfl (by kernel_rfl) (by kernel_rfl) (by simp) ⟨1, rfl⟩ (fun M hM => by obtain ⟨i, hi⟩ := hM; exact eop_load_el (i := i) (j := y60) 0 ty9 rfl (by omega) hi hx rfl rfl ⟨rfl, rfl⟩) ?_
     refine ahp 10 rfl rfl (by kernel_rfl) (by kernel_rfl) (pop_buildSlice (hs := [_, _, _]) ty36 ty9 rfl rfl (by decide) (by decide) rfl) ?_
     refine ahp 12 rfl rfl (by kernel_rfl) (by kernel_rfl) (pop_move rfl) ?_
     refine ahp 13 rfl rfl (by kernel_rfl) (by kernel_rfl) (pop_move rfl) ?_
     refine ahp 14 rfl rfl (by kernel_rfl) (by kernel_rfl) ((by first | exact pop_nilCheck rfl | exact pop_nilCheck_raw rfl)) ?_
     refine ahp 15 rfl rfl (by kernel_rfl) (by kernel_rfl) ((by first | exact pop_fieldAddr ty69 rfl ty3 (by decide) rfl | exact pop_fieldAddr_raw ty69 rfl ty3 (by decide) rfl)) ?_
     refine ahl 16 rfl rfl (by kernel_rfl) (by kernel_rfl) (by simp) ⟨1, rfl⟩ (fun M hM => by obtain ⟨i, hi⟩ := hM; exact eop_load_el (i := i) (j := y60) 1 ty3 rfl (by omega) hi hx rfl rfl ⟨rfl, rfl⟩) ?_
     refine ahp 17 rfl rfl (by kernel_rfl) (by kernel_rfl) (pop_buildSlice (hs := [_, _]) ty22 ty3 rfl rfl (by decide) (by decide) rfl) ?_
     refine ahp 19 rfl rfl (by kernel_rfl) (by kernel_rfl) (pop_move rfl) ?_
     refine ahp 20 rfl rfl (by kernel_rfl) (by kernel_rfl) (pop_move rfl) ?_
     refine ahp 21 rfl rfl (by kernel_rfl) (by kernel_rfl) ((by first | exact pop_nilCheck rfl | exact pop_nilCheck_raw rfl)) ?_
     refine ahp 22 rfl rfl (by kernel_rfl) (by kernel_rfl) ((by first | exact pop_fieldAddr ty69 rfl ty3 (by decide) rfl | exact pop_fieldAddr_raw ty69 rfl ty3 (by decide) rfl)) ?_
     refine ahl 23 rfl rfl (by kernel_rfl) (by kernel_rfl) (by simp) ⟨1, rfl⟩ (fun M hM => by obtain ⟨i, hi⟩ := hM; exact eop_load_el (i := i) (j := y60) 3 ty3 rfl (by omega) hi hx rfl rfl ⟨rfl, rfl⟩) ?_
     refine ahp 24 rfl rfl (by kernel_rfl) (by kernel_rfl) (pop_buildSlice (hs := [_, _]) ty22 ty3 rfl rfl (by decide) (by decide) rfl) ?_
     refine ahp 26 rfl rfl (by kernel_rfl) (by kernel_rfl) (pop_move rfl) ?_
     refine ahp 27 rfl rfl (by kernel_rfl) (by kernel_rfl) (pop_move rfl) ?_
     refine ahp 28 rfl rfl (by kernel_rfl) (by kernel_rfl) ((by first | exact pop_nilCheck rfl | exact pop_nilCheck_raw rfl)) ?_
     refine ahp 29 rfl rfl (by kernel_rfl) (by kernel_rfl) ((by first | exact pop_fieldAddr ty69 rfl ty3 (by decide) rfl | exact pop_fieldAddr_raw ty69 rfl ty3 (by decide) rfl)) ?_
     refine ahl 30 rfl rfl (by kernel_rfl) (by kernel_rfl) (by simp) ⟨1, rfl⟩ (fun M hM => by obtain ⟨i, hi⟩ := hM; exact eop_load_el (i := i) (j := y60) 5 ty3 rfl (by omega) hi hx rfl rfl ⟨rfl, rfl⟩) ?_
     refine ahp 31 rfl rfl (by kernel_rfl) (by kernel_rfl) (pop_buildSlice (hs := [_, _, _]) ty22 ty3 rfl rfl (by decide) (by decide) rfl) ?_
     refine ahp 33 rfl rfl (by kernel_rfl) (by kernel_rfl) (pop_move rfl) ?_
     refine ahp 34 rfl rfl (by kernel_rfl) (by kernel_rfl) (pop_buildSlice (hs := [_, _]) ty36 ty9 rfl rfl (by decide) (by decide) rfl) ?_
     refine ahe 11 rfl (by kernel_rfl) ?_
     first
     | refine hop_e rfl (eop_callx (i := 0) ca31 rfl (WeakL.refl _) rfl (c_benchmake_Stream_Some (L := [_, _, _]) (by first | assumption | omega | (simp; omega) | simp_all) (by first | assumption | omega | (simp; omega) | simp_all) (by first | assumption | omega | (simp; omega) | simp_all)) ?_)
     | refine hop_e rfl (eop_callx (i := 1) ca31 rfl (WeakL.refl _) rfl (c_benchmake_Stream_Some (L := [_, _, _]) (by first | assumption | omega | (simp; omega) | simp_all) (by first | assumption | omega | (simp; omega) | simp_all) (by first | assumption | omega | (simp; omega) | simp_all)) ?_)
     | refine hop_e rfl (eop_callx (i := 2) ca31 rfl (WeakL.refl _) rfl (c_benchmake_Stream_Some (L := [_, _, _]) (by first | assumption | omega | (simp; omega) | simp_all) (by first | assumption | omega | (simp; omega) | simp_all) (by first | assumption | omega | (simp; omega) | simp_all)) ?_)
     | refine hop_e rfl (eop_callx (i := 3) ca31 rfl (WeakL.refl _) rfl (c_benchmake_Stream_Some (L := [_, _, _]) (by first | assumption | omega | (simp; omega) | simp_all) (by first | assumption | omega | (simp; omega) | simp_all) (by first | assumption | omega | (simp; omega) | simp_all)) ?_)
     rintro _ _ ⟨y73, rfl, hy73, rfl⟩
     refine ⟨fun _ => by first | exact .inl ⟨0, rfl⟩ | exact .inl ⟨1, rfl⟩ | exact .inl ⟨2, rfl⟩ | exact .inr (by simp [Before, Region.binds]), ?_⟩
     refine ahe 18 rfl (by kernel_rfl) ?_
     first
     | refine hop_e rfl (eop_callx (i := 0) ca32 rfl (WeakL.refl _) rfl (c_benchmake_Stream_Pick (L := [_, _]) (by first | assumption | omega | (simp; omega) | simp_all) (by first | assumption | omega | (simp; omega) | simp_all) (by first | assumption | omega | (simp; omega) | simp_all)) ?_)
     | refine hop_e rfl (eop_callx (i := 1) ca32 rfl (WeakL.refl _) rfl (c_benchmake_Stream_Pick (L := [_, _]) (by first | assumption | omega | (simp; omega) | simp_all) (by first | assumption | omega | (simp; omega) | simp_all) (by first | assumption | omega | (simp; omega) | simp_all)) ?_)
     | refine hop_e rfl (eop_callx (i := 2) ca32 rfl (WeakL.refl _) rfl (c_benchmake_Stream_Pick (L := [_, _]) (by first | assumption | omega | (simp; omega) | simp_all) (by first | assumption | omega | (simp; omega) | simp_all) (by first | assumption | omega | (simp; omega) | simp_all)) ?_)
     | refine hop_e rfl (eop_callx (i := 3) ca32 rfl (WeakL.refl _) rfl (c_benchmake_Stream_Pick (L := [_, _]) (by first | assumption | omega | (simp; omega) | simp_all) (by first | assumption | omega | (simp; omega) | simp_all) (by first | assumption | omega | (simp; omega) | simp_all)) ?_)
     rintro _ _ ⟨y80, rfl, hy80, rfl⟩
     refine ⟨fun _ => by first | exact .inl ⟨0, rfl⟩ | exact .inl ⟨1, rfl⟩ | exact .inl ⟨2, rfl⟩ | exact .inr (by simp [Before, Region.binds]), ?_⟩
     refine ahe 25 rfl (by kernel_rfl) ?_
     first
     | refine hop_e rfl (eop_callx (i := 0) ca32 rfl (WeakL.refl _) rfl (c_benchmake_Stream_Pick (L := [_, _]) (by first | assumption | omega | (simp; omega) | simp_all) (by first | assumption | omega | (simp; omega) | simp_all) (by first | assumption | omega | (simp; omega) | simp_all)) ?_)
     | refine hop_e rfl (eop_callx (i := 1) ca32 rfl (WeakL.refl _) rfl (c_benchmake_Stream_Pick (L := [_, _]) (by first | assumption | omega | (simp; omega) | simp_all) (by first | assumption | omega | (simp; omega) | simp_all) (by first | assumption | omega | (simp; omega) | simp_all)) ?_)
     | refine hop_e rfl (eop_callx (i := 2) ca32 rfl (WeakL.refl _) rfl (c_benchmake_Stream_Pick (L := [_, _]) (by first | assumption | omega | (simp; omega) | simp_all) (by first | assumption | omega | (simp; omega) | simp_all) (by first | assumption | omega | (simp; omega) | simp_all)) ?_)
     | refine hop_e rfl (eop_callx (i := 3) ca32 rfl (WeakL.refl _) rfl (c_benchmake_Stream_Pick (L := [_, _]) (by first | assumption | omega | (simp; omega) | simp_all) (by first | assumption | omega | (simp; omega) | simp_all) (by first | assumption | omega | (simp; omega) | simp_all)) ?_)
     rintro _ _ ⟨y87, rfl, hy87, rfl⟩
     refine ⟨fun _ => by first | exact .inl ⟨0, rfl⟩ | exact .inl ⟨1, rfl⟩ | exact .inl ⟨2, rfl⟩ | exact .inr (by simp [Before, Region.binds]), ?_⟩
     refine ahe 32 rfl (by kernel_rfl) ?_
     first
     | refine hop_e rfl (eop_callx (i := 0) ca32 rfl (WeakL.refl _) rfl (c_benchmake_Stream_Pick (L := [_, _, _]) (by first | assumption | omega | (simp; omega) | simp_all) (by first | assumption | omega | (simp; omega) | simp_all) (by first | assumption | omega | (simp; omega) | simp_all)) ?_)
     | refine hop_e rfl (eop_callx (i := 1) ca32 rfl (WeakL.refl _) rfl (c_benchmake_Stream_Pick (L := [_, _, _]) (by first | assumption | omega | (simp; omega) | simp_all) (by first | assumption | omega | (simp; omega) | simp_all) (by first | assumption | omega | (simp; omega) | simp_all)) ?_)
     | refine hop_e rfl (eop_callx (i := 2) ca32 rfl (WeakL.refl _) rfl (c_benchmake_Stream_Pick (L := [_, _, _]) (by first | assumption | omega | (simp; omega) | simp_all) (by first | assumption | omega | (simp; omega) | simp_all) (by first | assumption | omega | (simp; omega) | simp_all)) ?_)
     | refine hop_e rfl (eop_callx (i := 3) ca32 rfl (WeakL.refl _) rfl (c_benchmake_Stream_Pick (L := [_, _, _]) (by first | assumption | omega | (simp; omega) | simp_all) (by first | assumption | omega | (simp; omega) | simp_all) (by first | assumption | omega | (simp; omega) | simp_all)) ?_)
     rintro _ _ ⟨y94, rfl, hy94, rfl⟩
     refine ⟨fun _ => by first | exact .inl ⟨0, rfl⟩ | exact .inl ⟨1, rfl⟩ | exact .inl ⟨2, rfl⟩ | exact .inr (by simp [Before, Region.binds]), ?_⟩
     refine ahe 35 rfl (by kernel_rfl) ?_
     first
     | refine hop_e rfl (eop_callx (i := 0) ca31 rfl (WeakL.refl _) rfl (c_benchmake_Stream_Some (L := [_, _]) (by first | assumption | omega | (simp; omega) | simp_all) (by first | assumption | omega | (simp; omega) | simp_all) (by first | assumption | omega | (simp; omega) | simp_all)) ?_)
     | refine hop_e rfl (eop_callx (i := 1) ca31 rfl (WeakL.refl _) rfl (c_benchmake_Stream_Some (L := [_, _]) (by first | assumption | omega | (simp; omega) | simp_all) (by first | assumption | omega | (simp; omega) | simp_all) (by first | assumption | omega | (simp; omega) | simp_all)) ?_)
     | refine hop_e rfl (eop_callx (i := 2) ca31 rfl (WeakL.refl _) rfl (c_benchmake_Stream_Some (L := [_, _]) (by first | assumption | omega | (simp; omega) | simp_all) (by first | assumption | omega | (simp; omega) | simp_all) (by first | assumption | omega | (simp; omega) | simp_all)) ?_)
     | refine hop_e rfl (eop_callx (i := 3) ca31 rfl (WeakL.refl _) rfl (c_benchmake_Stream_Some (L := [_, _]) (by first | assumption | omega | (simp; omega) | simp_all) (by first | assumption | omega | (simp; omega) | simp_all) (by first | assumption | omega | (simp; omega) | simp_all)) ?_)
     rintro _ _ ⟨y97, rfl, hy97, rfl⟩
     refine ⟨fun _ => by first | exact .inl ⟨0, rfl⟩ | exact .inl ⟨1, rfl⟩ | exact .inl ⟨2, rfl⟩ | exact .inr (by simp [Before, Region.binds]), ?_⟩
     refine ahp 36 rfl rfl (by kernel_rfl) (by kernel_rfl) ((by first | exact pop_nilCheck rfl | exact pop_nilCheck_raw rfl)) ?_
     refine ahp 37 rfl rfl (by kernel_rfl) (by kernel_rfl) ((by first | exact pop_fieldAddr ty69 rfl ty9 (by decide) rfl | exact pop_fieldAddr_raw ty69 rfl ty9 (by decide) rfl)) ?_
     refine ahe 38 rfl (by kernel_rfl) ?_
     refine hop_e0 (eop_store_arr (i := 1) (j := y60) (f := 0) (y := eMend x) (y' := eMend ⟨y73, x.Week, x.Stat, x.Count, x.At, x.Version, x.By⟩) ty9 rfl (by omega) rfl rfl (map_get hx) rfl rfl (by simp [hcells]) rfl ?_)
     refine ⟨fun _ => .inr (by simp [Before, Region.binds]), ?_⟩
     refine ahp 39 rfl rfl (by kernel_rfl) (by kernel_rfl) ((by first | exact pop_nilCheck rfl | exact pop_nilCheck_raw rfl)) ?_
     refine ahp 40 rfl rfl (by kernel_rfl) (by kernel_rfl) ((by first | exact pop_fieldAddr ty69 rfl ty3 (by decide) rfl | exact pop_fieldAddr_raw ty69 rfl ty3 (by decide) rfl)) ?_
     refine ahe 41 rfl (by kernel_rfl) ?_
     refine hop_e0 (eop_store_arr (i := 1) (j := y60) (f := 1) (y := eMend ⟨y73, x.Week, x.Stat, x.Count, x.At, x.Version, x.By⟩) (y' := eMend ⟨y73, y80, x.Stat, x.Count, x.At, x.Version, x.By⟩) ty3 rfl (by omega) rfl rfl (set_self (map_get hx)) rfl rfl (by simp [hcells]) rfl ?_)
     refine ⟨fun _ => .inr (by simp [Before, Region.binds]), ?_⟩
     refine ahp 42 rfl rfl (by kernel_rfl) (by kernel_rfl) ((by first | exact pop_nilCheck rfl | exact pop_nilCheck_raw rfl)) ?_
     refine ahp 43 rfl rfl (by kernel_rfl) (by kernel_rfl) ((by first | exact pop_fieldAddr ty69 rfl ty3 (by decide) rfl | exact pop_fieldAddr_raw ty69 rfl ty3 (by decide) rfl)) ?_
     refine ahe 44 rfl (by kernel_rfl) ?_
     refine hop_e0 (eop_store_arr (i := 1) (j := y60) (f := 3) (y := eMend ⟨y73, y80, x.Stat, x.Count, x.At, x.Version, x.By⟩) (y' := eMend ⟨y73, y80, x.Stat, y87, x.At, x.Version, x.By⟩) ty3 rfl (by omega) rfl rfl (set_self (set_self (map_get hx))) rfl rfl (by simp [hcells]) rfl ?_)
     refine ⟨fun _ => .inr (by simp [Before, Region.binds]), ?_⟩
     refine ahp 45 rfl rfl (by kernel_rfl) (by kernel_rfl) ((by first | exact pop_nilCheck rfl | exact pop_nilCheck_raw rfl)) ?_
     refine ahp 46 rfl rfl (by kernel_rfl) (by kernel_rfl) ((by first | exact pop_fieldAddr ty69 rfl ty3 (by decide) rfl | exact pop_fieldAddr_raw ty69 rfl ty3 (by decide) rfl)) ?_
     refine ahe 47 rfl (by kernel_rfl) ?_
     refine hop_e0 (eop_store_arr (i := 1) (j := y60) (f := 5) (y := eMend ⟨y73, y80, x.Stat, y87, x.At, x.Version, x.By⟩) (y' := eMend ⟨y73, y80, x.Stat, y87, x.At, y94, x.By⟩) ty3 rfl (by omega) rfl rfl (set_self (set_self (set_self (map_get hx)))) rfl rfl (by simp [hcells]) rfl ?_)
     refine ⟨fun _ => .inr (by simp [Before, Region.binds]), ?_⟩
     refine ahp 48 rfl rfl (by kernel_rfl) (by kernel_rfl) ((by first | exact pop_nilCheck rfl | exact pop_nilCheck_raw rfl)) ?_
     refine ahp 49 rfl rfl (by kernel_rfl) (by kernel_rfl) ((by first | exact pop_fieldAddr ty69 rfl ty9 (by decide) rfl | exact pop_fieldAddr_raw ty69 rfl ty9 (by decide) rfl)) ?_
     refine ahe 50 rfl (by kernel_rfl) ?_
     refine hop_e0 (eop_store_arr (i := 1) (j := y60) (f := 6) (y := eMend ⟨y73, y80, x.Stat, y87, x.At, y94, x.By⟩) (y' := eMend ⟨y73, y80, x.Stat, y87, x.At, y94, y97⟩) ty9 rfl (by omega) rfl rfl (set_self (set_self (set_self (set_self (map_get hx))))) rfl rfl (by simp [hcells]) rfl ?_)
     refine ⟨fun _ => .inr (by simp [Before, Region.binds]), ?_⟩
     refine ahz (by kernel_rfl) ?_
     exact ⟨(out.set y60 ⟨y73, y80, x.Stat, y87, x.At, y94, y97⟩, a3 + 1 + 1 + 1 + 1 + 1 + 1), ⟨by simp; omega, all_set (P := GoodMd) g2 (by
      have hgx := g2 x (List.mem_of_getElem? hx)
      exact ⟨by simp at hy73; rcases hy73 with rfl | rfl | rfl; exact hgx.1; exact nil_sh; (unfold Sh; simp), hgx.2.1, by simp at hy97; rcases hy97 with rfl | rfl <;> (unfold Sh; simp)⟩), by dsimp only; omega⟩, trivial, (by repeat (first | exact keeps_refl | refine keeps_upd rfl ?_ | refine keeps_loop rfl rfl ?_)), by repeat (first | exact List.Perm.nil | refine permTo 0 rfl ?_ | refine permTo 1 rfl ?_ | refine permTo 2 rfl ?_ | refine permTo 3 rfl ?_ | (refine permToE 0 rfl ?hq ?_; (case hq => simp [setL, hcells]; done)) | (refine permToE 1 rfl ?hq ?_; (case hq => simp [setL, hcells]; done)) | (refine permToE 2 rfl ?hq ?_; (case hq => simp [setL, hcells]; done)) | (refine permToE 3 rfl ?hq ?_; (case hq => simp [setL, hcells]; done)) | fail)⟩
    ·try simp at h12
     refine hw_skip ?_
     exact ⟨(out, a3), ⟨by dsimp only; omega, g2, by dsimp only; omega⟩, trivial, (by repeat (first | exact keeps_refl | refine keeps_upd rfl ?_ | refine keeps_loop rfl rfl ?_)), by repeat (first | exact List.Perm.nil | refine permTo 0 rfl ?_ | refine permTo 1 rfl ?_ | refine permTo 2 rfl ?_ | refine permTo 3 rfl ?_ | (refine permToE 0 rfl ?hq ?_; (case hq => simp [setL, hcells]; done)) | (refine permToE 1 rfl ?hq ?_; (case hq => simp [setL, hcells]; done)) | (refine permToE 2 rfl ?hq ?_; (case hq => simp [setL, hcells]; done)) | (refine permToE 3 rfl ?hq ?_; (case hq => simp [setL, hcells]; done)) | fail)⟩
   ·intro q5 hq5
    obtain ⟨k1, a4⟩ := q5
    dsimp only at hq5
    obtain ⟨q1, q2, q3⟩ := hq5
    refine hw_reg ?_
    refine dp rfl (pop_move rfl) ?_
    refine dp rfl (pop_assign rfl) ?_
    refine dn ?_
    refine hw_ret ?_
    exact ret_g (Ghost.fa 2 (i := 1) rfl rfl) rfl ⟨k1, a4, rfl, ⟨by omega, q2⟩, by omega, rfl⟩
end Go.Proofs.YtkamelfigfbfiaaGreatDoor
end
section
namespace Go.HL
/-- The slice in a cell of an element of an owned slice. -/
theorem Ghost.farr [Tracks] {e : Env} {M : List MObj} {i k r j : Nat} {u v : Value} {sz sz' : Nat} {es fs cs : List HVal} (hm : M[i]? = some (.arr v sz es)) (hk : (M.eraseIdx i)[k]? = some (.arr u sz' fs)) (hr : fs[r]? = some (.agg cs)) (hj : cs[j]? = some (.raw v)) :
 Ghost e M e ((M.eraseIdx i).set k (.arr u sz' (fs.set r (.agg (cs.set j (.slice sz es)))))) := fun P I F tmps w h1 hs => by
 obtain ⟨J, hl, hs', hv⟩ := (hs.pull hm).freeze_arr
 have hp := hs'.pull hk
 have hnd : (MObj.arr u sz' (fs.set r (.agg (cs.set j (.slice sz es))))).blocks.Nodup := by
  have := hp.nodup
  simp only [blocks, List.flatMap_cons] at this
  have h2 := (List.nodup_append.1 this).1
  have e1 : (MObj.arr u sz' (fs.set r (.agg (cs.set j (.slice sz es))))).blocks = (MObj.arr u sz' fs).blocks := by
   cases u <;> try rfl
   rename_i a _ _; cases a <;> rfl
  rw [e1]; exact h2
 have hbl : ∀ b ∈ (MObj.arr u sz' (fs.set r (.agg (cs.set j (.slice sz es))))).blocks, b ∈ (MObj.arr u sz' fs).blocks ∨ w.heap.size ≤ b := fun b hb => by
  left
  have e1 : (MObj.arr u sz' (fs.set r (.agg (cs.set j (.slice sz es))))).blocks = (MObj.arr u sz' fs).blocks := by
   cases u <;> try rfl
   rename_i a _ _; cases a <;> rfl
  rw [← e1]; exact hb
 refine ⟨J, hl, h1.mono hl, Sat.unpull hk (hp.change (m' := .arr u sz' (fs.set r (.agg (cs.set j (.slice sz es))))) (fun _ _ _ => rfl) hbl hnd ?_ rfl rfl rfl)⟩
 rcases hp.obj _ List.mem_cons_self with ⟨_, h0⟩ | ⟨b, off, cap, rc, el, fr, a1, a2, a3, a4, a5, a6, a7⟩
 ·rw [h0] at hr; simp at hr
 ·refine .inr ⟨b, off, cap, rc, el, fr, by rw [List.length_set]; exact a1, a2, a3, fun x hx => ?_, by rw [List.length_set]; exact a5, a6, fun i' j' e' c' v' b1 b2 b3 => ?_⟩
  ·rcases List.mem_or_eq_of_mem_set hx with hx | hx
   ·exact a4 x hx
   ·have := a4 _ (List.mem_of_getElem? hr)
    rw [hx]; simp only [hcells, List.length_set] at this ⊢; exact this
  ·by_cases hi : i' = r
   ·subst hi
    have hlt := lt_of_get hr
    rw [List.getElem?_set_self hlt] at b1
    obtain rfl := Option.some.inj b1
    simp only [hcells] at b2
    by_cases hj' : j' = j
    ·subst hj'
     have hjl := lt_of_get hj
     rw [List.getElem?_set_self hjl] at b2
     obtain rfl := Option.some.inj b2
     have := a7 i' j' _ _ v' hr hj b3
     rw [this.raw_inv]; exact hv
    ·rw [List.getElem?_set_ne (Ne.symm hj')] at b2
     exact a7 i' j' _ c' v' hr b2 b3
   ·rw [List.getElem?_set_ne (Ne.symm hi)] at b1
    exact a7 i' j' e' c' v' b1 b2 b3
/-- One after the other: the elements from n on hold their slices as owned ones. -/
theorem Ghost.fz_each [Tracks] {e : Env} {α β : Type} {A : List MObj} {u : Value} {sz sz' : Nat} {enc : α → HVal} {raw : α → Value → HVal} {st : α → List β} {eb : β → HVal} {j : Nat} {cs : α → Value → List HVal}
 (h1 : ∀ x v, raw x v = .agg (cs x v)) (h2 : ∀ x v, (cs x v)[j]? = some (.raw v)) (h3 : ∀ x v, HVal.agg ((cs x v).set j (.slice sz ((st x).map eb))) = enc x) :
 ∀ (O : List (α × Value)) (D : List α), Ghost e (A ++ .arr u sz' (D.map enc ++ O.map fun p => raw p.1 p.2) :: O.map fun p => .arr p.2 sz ((st p.1).map eb)) e (A ++ [.arr u sz' ((D ++ O.map (·.1)).map enc)])
 | [], D => by
   refine Ghost.of_eq ?_
   simp
 | p :: O, D => by
   have key := Ghost.fz_each (e := e) (A := A) (u := u) (sz := sz) (sz' := sz') h1 h2 h3 O (D ++ [p.1])
   have e9 : D ++ (p :: O).map (·.1) = (D ++ [p.1]) ++ O.map (·.1) := by simp
   rw [e9]
   refine Ghost.trans ?_ key
   have hm : (A ++ .arr u sz' (D.map enc ++ (p :: O).map fun p => raw p.1 p.2) :: (p :: O).map fun p => MObj.arr p.2 sz ((st p.1).map eb))[A.length + 1]? = some (.arr p.2 sz ((st p.1).map eb)) := by
    rw [List.getElem?_append_right (by omega)]; simp
   have he : (A ++ .arr u sz' (D.map enc ++ (p :: O).map fun p => raw p.1 p.2) :: (p :: O).map fun p => MObj.arr p.2 sz ((st p.1).map eb)).eraseIdx (A.length + 1) = A ++ .arr u sz' (D.map enc ++ (p :: O).map fun p => raw p.1 p.2) :: O.map fun p => MObj.arr p.2 sz ((st p.1).map eb) := by
    rw [List.eraseIdx_append_of_length_le (by omega)]; simp
   have hk : ((A ++ .arr u sz' (D.map enc ++ (p :: O).map fun p => raw p.1 p.2) :: (p :: O).map fun p => MObj.arr p.2 sz ((st p.1).map eb)).eraseIdx (A.length + 1))[A.length]? = some (.arr u sz' (D.map enc ++ (p :: O).map fun p => raw p.1 p.2)) := by
    rw [he]; simp
   have hr : (D.map enc ++ (p :: O).map fun p => raw p.1 p.2)[D.length]? = some (.agg (cs p.1 p.2)) := by
    rw [List.getElem?_append_right (by simp)]; simp [h1]
   have g := Ghost.farr (e := e) hm hk hr (h2 p.1 p.2)
   have e5 : ((A ++ .arr u sz' (D.map enc ++ (p :: O).map fun p => raw p.1 p.2) :: (p :: O).map fun p => MObj.arr p.2 sz ((st p.1).map eb)).eraseIdx (A.length + 1)).set A.length (.arr u sz' ((D.map enc ++ (p :: O).map fun p => raw p.1 p.2).set D.length (.agg ((cs p.1 p.2).set j (.slice sz ((st p.1).map eb)))))) = A ++ .arr u sz' ((D ++ [p.1]).map enc ++ O.map fun p => raw p.1 p.2) :: O.map fun p => MObj.arr p.2 sz ((st p.1).map eb) := by
    rw [he, h3, List.set_append_right _ _ (Nat.le_refl _)]
    simp
   rw [e5] at g
   exact g
end Go.HL
end
section
namespace Go.HL
def GoodLn (x : LineS) : Prop := Sh x.Player ∧ ∀ s ∈ x.Stats, Sh s.Name
structure GoodLns (k : List LineS) : Prop where
 len : k.length ≤ 6
 st : ∀ x ∈ k, x.Stats.length ≤ 4
 all : ∀ x ∈ k, GoodLn x
abbrev LnV := LineS × Value
abbrev rLn (p : LnV) : HVal := .agg [.str p.1.Player, .int .i64 p.1.Week, .raw p.2]
abbrev sLn (p : LnV) : MObj := .arr p.2 2 (p.1.Stats.map eStat)
structure LG where
 u : Value
 out : List LnV
 a : Nat
def GoodLV (p : LnV) : Prop := GoodLn p.1 ∧ p.1.Stats.length ≤ 3
structure LGok (n m : Nat) (q : LG) : Prop where
 len : q.out.length ≤ n
 all : ∀ p ∈ q.out, GoodLV p
 a : q.a ≤ m
theorem LGok.mono {n n' m m' : Nat} {q : LG} (h : LGok n m q) (hn : n ≤ n') (hm : m ≤ m') : LGok n' m' q := ⟨Nat.le_trans h.len hn, h.all, Nat.le_trans h.a hm⟩
theorem LGok.same {n m m' : Nat} {u : Value} {out : List LnV} {a1 a2 : Nat} (h : LGok n m ⟨u, out, a1⟩) (ha : a2 ≤ m') : LGok (n + 1) m' ⟨u, out, a2⟩ := ⟨Nat.le_succ_of_le h.len, h.all, ha⟩
theorem LGok.add {n m m' : Nat} {u u' : Value} {out : List LnV} {a1 a2 : Nat} {p : LnV} (h : LGok n m ⟨u, out, a1⟩) (hp : GoodLV p) (ha : a2 ≤ m') : LGok (n + 1) m' ⟨u', out ++ [p], a2⟩ :=
 ⟨by have := h.len; simp only [List.length_append, List.length_cons, List.length_nil] at *; omega, fun y hy => by
  rcases List.mem_append.1 hy with hy | hy
  ·exact h.all y hy
  ·rw [List.mem_singleton.1 hy]; exact hp, ha⟩
def lp3 : List Str := [[97, 110, 110], [98, 101, 97], [99, 105, 100]]
def ls3 : List Str := [[103, 111, 97, 108], [112, 97, 115, 115], [115, 97, 118, 101]]
theorem lp3_sh : ∀ s ∈ lp3, Sh s := fun s hs => by
 simp [lp3] at hs; rcases hs with rfl | rfl | rfl <;> (unfold Sh; simp)
theorem ls3_sh : ∀ s ∈ ls3, Sh s := fun s hs => by
 simp [ls3] at hs; rcases hs with rfl | rfl | rfl <;> (unfold Sh; simp)
theorem ln_norm [Tracks] {P : Program} {s m0 m1 m3 : MObj} {T : List MObj} (J : Imm) (F : List MObj) (w : World) (hs : Sat P J ((s :: m0 :: m1 :: m3 :: T) ++ F) w) : Sat P J ((s :: m3 :: (T ++ [m0])) ++ F) w := by
 have h1 : Sat P J (m1 :: (s :: m0 :: m3 :: T) ++ F) w := hs.perm (((List.perm_middle (l₁ := [s, m0]) (a := m1) (l₂ := m3 :: T))).append_right F)
 have h2 : Sat P J ((s :: m0 :: m3 :: T) ++ F) w := h1.drop
 have hp : (s :: m0 :: m3 :: T).Perm (s :: m3 :: (T ++ [m0])) := by
  refine List.Perm.cons _ ((List.Perm.swap m3 m0 T).trans (List.Perm.cons _ ?_))
  exact (List.perm_append_comm (l₁ := [m0]) (l₂ := T))
 exact h2.perm (hp.append_right F)
theorem sLn_same {O : List LnV} {i : Nat} {x n : LnV} (hx : O[i]? = some x) (h : sLn n = sLn x) : (O.set i n).map sLn = O.map sLn := by
 rw [List.map_set, h]
 refine List.ext_getElem? fun j => ?_
 by_cases hj : j = i
 ·subst hj
  have hlt := lt_of_get hx
  rw [List.getElem?_set_self (by simpa using hlt), List.getElem?_map, hx]; rfl
 ·rw [List.getElem?_set_ne (Ne.symm hj)]
end Go.HL
end
section
namespace Go.Proofs.YtkamelfigfbfiaaGreatDoor
open Go.HL
set_option maxRecDepth 100000
set_option linter.unusedVariables false
set_option linter.unusedSimpArgs false
set_option maxHeartbeats 4000000 in
/-- (*benchwarmer/benchmake.Stream).LineList -/
theorem c_benchmake_Stream_LineList [Tracks] {b : Nat} {l : List Int} {a : Nat}  (ha : a ≤ 700000) : Con Tryz.prog 20 [pAt b] [St b l a] (fun x M' => ∃ k a', x = eLines k ∧ GoodLns k ∧ a' ≤ a + 60 ∧ M' = [St b l a']) := by
 refine Con.of_body Tryz.func20 rfl Tryz.ntmps20 rfl rfl ?_
 refine hw_reg ?_
 refine dp rfl (pop_assign rfl) ?_
 refine dn ?_
 refine hw_reg ?_
 refine dp rfl (pop_assign rfl) ?_
 refine dn ?_
 refine hw_ghost (Ghost.arr_nil 3) ?_
 refine hw_ghost (Ghost.perm (List.Perm.swap _ _ _)) ?_
 refine hw_seq ?_
 refine hw_reg ?_
 refine dp rfl (pop_buildSlice (hs := [_, _, _]) ty36 ty9 rfl rfl (by decide) (by decide) rfl) ?_
 refine dp rfl (pop_lenm (f := HVal.str) (l := lp3) ty36 rfl) ?_
 refine dp rfl (pop_move rfl) ?_
 refine dn ?_
 refine hw_block ?_
 refine hw_loopw2 [3, 5, 6, 7, 9, 13, 14, 15, 16, 17, 18, 19, 20, 21, 22, 23, 24, 25, 26, 27, 28, 29, 30, 31, 32, 33, 34, 35, 36, 37, 38, 39, 40, 41, 42, 43, 44, 45, 46, 47, 48, 49] (fun (k : Nat) (q : LG) => [(13, .int .i64 k), (3, .raw q.u)]) (fun (k : Nat) (q : LG) => [St b l q.a, .arr q.u 3 (q.out.map rLn)] ++ q.out.map sLn) (fun (k : Nat) (q : LG) => k ≤ lp3.length ∧ (LGok (2 * k) (a + 14 * k) q)) (fun (k : Nat) (q : LG) => lp3.length - k) (0) (⟨.slice none 0 0, [], a⟩) ?_ ?_ ?_ ?_
 ·exact ⟨by decide, ⟨by simp, by simp, by dsimp only; omega⟩⟩
 ·exact ⟨rfl, rfl, trivial⟩
 ·exact perm_eq rfl
 ·intro k q hinv
  obtain ⟨hk, hq⟩ := hinv
  have hk3 : lp3.length = 3 := rfl
  obtain ⟨u, out, a2⟩ := q
  obtain ⟨g1, g2, g3⟩ := id hq
  dsimp only at g1 g2 g3
  refine hw_reg ?_
  refine dp rfl (pop_lss rfl rfl) ?_
  refine dn ?_
  refine hw_seq ?_
  refine hw_cond rfl (fun h1 => ?_) (fun h2 => ?_)
  ·try simp at h1
   obtain ⟨x, hx⟩ : ∃ x, lp3[k]? = some x := ⟨_, List.getElem?_eq_getElem h1⟩
   have hdx := drop_cons hx
   refine hw_skip ?_
   refine seqQ_n ?_
   refine hw_seq ?_
   refine hw_block ?_
   refine hw_reg ?_
   refine dp rfl (pop_idx (f := HVal.str) (l := lp3) (j := k) (a := x) ty36 ty9 rfl rfl rfl hx) ?_
   refine dp rfl (pop_load ty9 rfl rfl rfl) ?_
   refine dp rfl (pop_assign rfl) ?_
   refine dn ?_
   refine hw_reg ?_
   refine dp rfl (pop_assign rfl) ?_
   refine dn ?_
   refine hw_block ?_
   refine hw_loopw2 [3, 6, 7, 9, 17, 18, 19, 20, 21, 22, 23, 24, 25, 26, 27, 28, 29, 30, 31, 32, 33, 34, 35, 36, 37, 38, 39, 40, 41, 42, 43, 44, 45, 46, 47, 48] (fun (w : Nat) (q2 : LG) => [(6, .int .i64 ((w : Int) + 1)), (3, .raw q2.u)]) (fun (w : Nat) (q2 : LG) => [St b l q2.a, .arr q2.u 3 (q2.out.map rLn)] ++ q2.out.map sLn) (fun (w : Nat) (q2 : LG) => w ≤ 2 ∧ LGok (2 * k + w) (a + 14 * k + 7 * w) q2) (fun (w : Nat) (q2 : LG) => 2 - w) (0) (⟨u, out, a2⟩) ?_ ?_ ?_ ?_
   ·exact ⟨by omega, hq.mono (by omega) (by omega)⟩
   ·exact ⟨some_int (by omega), rfl, trivial⟩
   ·exact perm_eq rfl
   ·intro w q2 hinv
    obtain ⟨hw, hq2⟩ := hinv
    obtain ⟨u, out, a2⟩ := q2
    obtain ⟨g1, g2, g3⟩ := id hq2
    dsimp only at g1 g2 g3
    refine hw_seq ?_
    refine hw_reg ?_
    refine dp rfl (pop_move rfl) ?_
    refine dp rfl (pop_leq rfl rfl) ?_
    refine dn ?_
    refine hw_cond rfl (fun h3 => ?_) (fun h4 => ?_)
    ·try simp at h3
     refine hw_skip ?_
     refine seqQ_n ?_
     refine hw_seq ?_
     refine hw_block ?_
     refine hw_seq ?_
     refine hw_reg ?_
     refine dp rfl (pop_move rfl) ?_
     first
     | refine de rfl (eop_callx (i := 0) ca49 rfl (WeakL.refl _) rfl (c_benchmake_Stream_Flip (by first | assumption | omega | (simp; omega) | simp_all) (by first | assumption | omega | (simp; omega) | simp_all)) ?_)
     | refine de rfl (eop_callx (i := 1) ca49 rfl (WeakL.refl _) rfl (c_benchmake_Stream_Flip (by first | assumption | omega | (simp; omega) | simp_all) (by first | assumption | omega | (simp; omega) | simp_all)) ?_)
     | refine de rfl (eop_callx (i := 2) ca49 rfl (WeakL.refl _) rfl (c_benchmake_Stream_Flip (by first | assumption | omega | (simp; omega) | simp_all) (by first | assumption | omega | (simp; omega) | simp_all)) ?_)
     | refine de rfl (eop_callx (i := 3) ca49 rfl (WeakL.refl _) rfl (c_benchmake_Stream_Flip (by first | assumption | omega | (simp; omega) | simp_all) (by first | assumption | omega | (simp; omega) | simp_all)) ?_)
     rintro _ _ ⟨y22, rfl, rfl⟩
     refine dn ?_
     refine hw_cond rfl (fun h5 => ?_) (fun h6 => ?_)
     ·try simp at h5
      refine hw_exit ?_
      refine seqQ_x ?_
      refine blockQ_eq ?_
      refine seqQ_n ?_
      refine hw_reg1 ?_
      refine dp rfl (pop_move rfl) ?_
      refine dp rfl (pop_add64 rfl rfl (by omega) (by omega)) ?_
      refine dp rfl (pop_assign rfl) ?_
      refine dn ?_
      exact ⟨w + 1, ⟨u, out, a2 + 1⟩, ⟨by omega, hq2.same (by omega)⟩, by dsimp only; omega, ⟨some_int (by omega), rfl, trivial⟩, (by repeat (first | exact keeps_refl | refine keeps_upd rfl ?_ | refine keeps_loop rfl rfl ?_)), perm_eq rfl⟩
     ·try simp at h6
      refine hw_skip ?_
      refine seqQ_n ?_
      refine hw_reg ?_
      refine dp rfl (pop_move rfl) ?_
      refine dp rfl (pop_move rfl) ?_
      refine dp rfl (pop_build (cs := [_, _, _]) ty63 pl63 rfl) ?_
      refine de rfl (eop_alloc ty63 rfl fun b7 => ?_)
      first
      | refine de0 (eop_store (i := 0) ty63 rfl rfl rfl rfl rfl (Nat.le_of_ble_eq_true rfl) ?_)
      | refine de0 (eop_store (i := 1) ty63 rfl rfl rfl rfl rfl (Nat.le_of_ble_eq_true rfl) ?_)
      | refine de0 (eop_store (i := 2) ty63 rfl rfl rfl rfl rfl (Nat.le_of_ble_eq_true rfl) ?_)
      | refine de0 (eop_store (i := 3) ty63 rfl rfl rfl rfl rfl (Nat.le_of_ble_eq_true rfl) ?_)
      refine dn ?_
      refine hw_ghost (Ghost.arr_nil 2) ?_
      refine hw_ghost (Ghost.perm (List.perm_middle (l₁ := [_, _]))) ?_
      refine hw_seq ?_
      refine hw_reg ?_
      refine dp rfl (pop_buildSlice (hs := [_, _, _]) ty36 ty9 rfl rfl (by decide) (by decide) rfl) ?_
      refine dp rfl (pop_lenm (f := HVal.str) (l := ls3) ty36 rfl) ?_
      refine dp rfl (pop_move rfl) ?_
      refine dn ?_
      refine hw_block ?_
      refine hw_loopw4 [9, 28, 29, 30, 31, 32, 33, 34, 35, 36, 37, 38, 39, 40, 41, 42, 43, 44] (fun (j : Nat) (v : Value) (st : List StatS) (a4 : Nat) => [(28, .int .i64 j)]) (fun (j : Nat) (v : Value) (st : List StatS) (a4 : Nat) => [St b l a4, .arr v 2 (st.map eStat), .cells b7 [.str x, .int .i64 ((w : Int) + 1), .raw v], .arr u 3 (out.map rLn)] ++ out.map sLn) (fun (j : Nat) (v : Value) (st : List StatS) (a4 : Nat) => j ≤ ls3.length ∧ (st.length ≤ j ∧ (∀ s ∈ st, Sh s.Name) ∧ a4 ≤ a2 + 1 + 2 * j)) (fun (j : Nat) (v : Value) (st : List StatS) (a4 : Nat) => ls3.length - j) (0) (.slice none 0 0) ([]) (a2 + 1) ?_ ?_ ?_ ?_
      ·exact ⟨by decide, by simp, by simp, by omega⟩
      ·exact ⟨rfl, trivial⟩
      ·exact perm_eq rfl
      ·intro j v st a4 hinv
       obtain ⟨hj, ⟨hs1, hs2, hs3⟩⟩ := hinv
       have hj3 : ls3.length = 3 := rfl
       refine hw_reg ?_
       refine dp rfl (pop_lss rfl rfl) ?_
       refine dn ?_
       refine hw_seq ?_
       refine hw_cond rfl (fun h7 => ?_) (fun h8 => ?_)
       ·try simp at h7
        obtain ⟨z, hz⟩ : ∃ z, ls3[j]? = some z := ⟨_, List.getElem?_eq_getElem h7⟩
        have hdz := drop_cons hz
        refine hw_skip ?_
        refine seqQ_n ?_
        refine hw_seq ?_
        refine hw_block ?_
        refine hw_reg ?_
        refine dp rfl (pop_idx (f := HVal.str) (l := ls3) (j := j) (a := z) ty36 ty9 rfl rfl rfl hz) ?_
        refine dp rfl (pop_load ty9 rfl rfl rfl) ?_
        refine dp rfl (pop_assign rfl) ?_
        refine dn ?_
        refine hw_reg ?_
        refine dp rfl (pop_move rfl) ?_
        first
        | refine de rfl (eop_callx (i := 0) ca49 rfl (WeakL.refl _) rfl (c_benchmake_Stream_Flip (by first | assumption | omega | (simp; omega) | simp_all) (by first | assumption | omega | (simp; omega) | simp_all)) ?_)
        | refine de rfl (eop_callx (i := 1) ca49 rfl (WeakL.refl _) rfl (c_benchmake_Stream_Flip (by first | assumption | omega | (simp; omega) | simp_all) (by first | assumption | omega | (simp; omega) | simp_all)) ?_)
        | refine de rfl (eop_callx (i := 2) ca49 rfl (WeakL.refl _) rfl (c_benchmake_Stream_Flip (by first | assumption | omega | (simp; omega) | simp_all) (by first | assumption | omega | (simp; omega) | simp_all)) ?_)
        | refine de rfl (eop_callx (i := 3) ca49 rfl (WeakL.refl _) rfl (c_benchmake_Stream_Flip (by first | assumption | omega | (simp; omega) | simp_all) (by first | assumption | omega | (simp; omega) | simp_all)) ?_)
        rintro _ _ ⟨y33, rfl, rfl⟩
        refine dn ?_
        refine hw_cond rfl (fun h9 => ?_) (fun h10 => ?_)
        ·try simp at h9
         refine hw_draw1 (fun M => ∃ i : Nat, M[i]? = some (.cells b7 [.str x, .int .i64 ((w : Int) + 1), .raw v])) [1] mixed ?_
         refine ahp 0 rfl rfl (by kernel_rfl) (by kernel_rfl) (pop_fieldAddr_raw ty63 rfl ty61 (by decide) rfl) ?_
         refine ahl 1 rfl rfl (by kernel_rfl) (by kernel_rfl) (by simp) (by first | exact ⟨0, rfl⟩ | exact ⟨1, rfl⟩ | exact ⟨2, rfl⟩) (fun M hM => by obtain ⟨i, hi⟩ := hM; exact eop_load (i := i) ty61 rfl hi (.inl ⟨rfl, rfl⟩) ⟨rfl, rfl⟩) ?_
         refine ahp 2 rfl rfl (by kernel_rfl) (by kernel_rfl) (pop_move rfl) ?_
         refine ahp 3 rfl rfl (by kernel_rfl) (by kernel_rfl) (pop_move rfl) ?_
         refine ahp 4 rfl rfl (by kernel_rfl) (by kernel_rfl) (pop_buildSlice (hs := [_, _, _, _]) ty22 ty3 rfl rfl (by decide) (by decide) rfl) ?_
         refine ahe 5 rfl (by kernel_rfl) ?_
         first
         | refine hop_e rfl (eop_callx (i := 0) ca32 rfl (WeakL.refl _) rfl (c_benchmake_Stream_Pick (L := [_, _, _, _]) (by first | assumption | omega | (simp; omega) | simp_all) (by first | assumption | omega | (simp; omega) | simp_all) (by first | assumption | omega | (simp; omega) | simp_all)) ?_)
         | refine hop_e rfl (eop_callx (i := 1) ca32 rfl (WeakL.refl _) rfl (c_benchmake_Stream_Pick (L := [_, _, _, _]) (by first | assumption | omega | (simp; omega) | simp_all) (by first | assumption | omega | (simp; omega) | simp_all) (by first | assumption | omega | (simp; omega) | simp_all)) ?_)
         | refine hop_e rfl (eop_callx (i := 2) ca32 rfl (WeakL.refl _) rfl (c_benchmake_Stream_Pick (L := [_, _, _, _]) (by first | assumption | omega | (simp; omega) | simp_all) (by first | assumption | omega | (simp; omega) | simp_all) (by first | assumption | omega | (simp; omega) | simp_all)) ?_)
         | refine hop_e rfl (eop_callx (i := 3) ca32 rfl (WeakL.refl _) rfl (c_benchmake_Stream_Pick (L := [_, _, _, _]) (by first | assumption | omega | (simp; omega) | simp_all) (by first | assumption | omega | (simp; omega) | simp_all) (by first | assumption | omega | (simp; omega) | simp_all)) ?_)
         rintro _ _ ⟨y39, rfl, hy39, rfl⟩
         refine ⟨fun _ => by first | exact .inl ⟨0, rfl⟩ | exact .inl ⟨1, rfl⟩ | exact .inl ⟨2, rfl⟩ | exact .inr (by simp [Before, Region.binds]), ?_⟩
         refine ahp 6 rfl rfl (by kernel_rfl) (by kernel_rfl) (pop_build (cs := [_, _]) ty121 pl121 rfl) ?_
         refine ahp 7 rfl rfl (by kernel_rfl) (by kernel_rfl) (pop_buildSlice (hs := [_]) ty61 ty121 rfl rfl (by decide) (by decide) rfl) ?_
         refine ahe 8 rfl (by kernel_rfl) ?_
         first
         | refine hop_e rfl (eop_append (i := 0) ty61 ty121 rfl rfl rfl rfl rfl (by simp [flat, hcells]) (by first | omega | (simp; omega)) fun v42 => ?_)
         | refine hop_e rfl (eop_append (i := 1) ty61 ty121 rfl rfl rfl rfl rfl (by simp [flat, hcells]) (by first | omega | (simp; omega)) fun v42 => ?_)
         | refine hop_e rfl (eop_append (i := 2) ty61 ty121 rfl rfl rfl rfl rfl (by simp [flat, hcells]) (by first | omega | (simp; omega)) fun v42 => ?_)
         | refine hop_e rfl (eop_append (i := 3) ty61 ty121 rfl rfl rfl rfl rfl (by simp [flat, hcells]) (by first | omega | (simp; omega)) fun v42 => ?_)
         refine ⟨fun _ => by first | exact .inl ⟨0, rfl⟩ | exact .inl ⟨1, rfl⟩ | exact .inl ⟨2, rfl⟩ | exact .inr (by simp [Before, Region.binds]), ?_⟩
         refine ahp 9 rfl rfl (by kernel_rfl) (by kernel_rfl) (pop_fieldAddr_raw ty63 rfl ty61 (by decide) rfl) ?_
         refine ahe 10 rfl (by kernel_rfl) ?_
         first
         | refine hop_e0 (eop_store (i := 0) ty61 rfl rfl rfl rfl rfl (Nat.le_of_ble_eq_true rfl) ?_)
         | refine hop_e0 (eop_store (i := 1) ty61 rfl rfl rfl rfl rfl (Nat.le_of_ble_eq_true rfl) ?_)
         | refine hop_e0 (eop_store (i := 2) ty61 rfl rfl rfl rfl rfl (Nat.le_of_ble_eq_true rfl) ?_)
         | refine hop_e0 (eop_store (i := 3) ty61 rfl rfl rfl rfl rfl (Nat.le_of_ble_eq_true rfl) ?_)
         refine ⟨fun _ => by first | exact .inl ⟨0, rfl⟩ | exact .inl ⟨1, rfl⟩ | exact .inl ⟨2, rfl⟩ | exact .inr (by simp [Before, Region.binds]), ?_⟩
         refine ahz (by kernel_rfl) ?_
         refine blockQ_n ?_
         refine seqQ_n ?_
         refine hw_reg1 ?_
         refine dp rfl (pop_add64 rfl rfl (by omega) (by omega)) ?_
         refine dp rfl (pop_move rfl) ?_
         refine dn ?_
         exact ⟨j + 1, v42, st ++ [⟨z, y39⟩], a4 + 1 + 1, ⟨by omega, by simp; omega, fun s hs => by
          rcases List.mem_append.1 hs with hs | hs
          ·exact hs2 s hs
          ·rw [List.mem_singleton.1 hs]; exact ls3_sh z (List.mem_of_getElem? hz), by omega⟩, by dsimp only; omega, ⟨rfl, trivial⟩, (by repeat (first | exact keeps_refl | refine keeps_upd rfl ?_ | refine keeps_loop rfl rfl ?_)), perm_eq (by dsimp only; rw [List.map_append]; rfl)⟩
        ·try simp at h10
         refine hw_skip ?_
         refine blockQ_n ?_
         refine seqQ_n ?_
         refine hw_reg1 ?_
         refine dp rfl (pop_add64 rfl rfl (by omega) (by omega)) ?_
         refine dp rfl (pop_move rfl) ?_
         refine dn ?_
         exact ⟨j + 1, v, st, a4 + 1, ⟨by omega, by omega, hs2, by omega⟩, by dsimp only; omega, ⟨rfl, trivial⟩, (by repeat (first | exact keeps_refl | refine keeps_upd rfl ?_ | refine keeps_loop rfl rfl ?_)), perm_eq rfl⟩
       ·try simp at h8
        have hnj : ls3.length ≤ j := by omega
        obtain rfl : j = ls3.length := by omega
        refine hw_exit ?_
        refine seqQ_x ?_
        refine loopQ4_x ?_
        refine blockQ_eq ?_
        refine seqQ_n ?_
        refine hw_reg1 ?_
        refine dp rfl (pop_move rfl) ?_
        refine de rfl (eop_loadw (i := 2) (h := rLn (⟨x, (w : Int) + 1, st⟩, v)) ty63 rfl rfl rfl rfl rfl ?_)
        refine dp rfl (pop_buildSlice (hs := [_]) ty54 ty63 rfl rfl (by decide) (by decide) rfl) ?_
        refine de rfl (EOp.post_ghost (eop_append (i := 3) (v := u) (es := out.map rLn) ty54 ty63 rfl rfl rfl rfl rfl (by simp [flat, hcells]) (by simp; omega) fun v48 => ⟨_, ln_norm, ?_⟩))
        refine dp rfl (pop_assign rfl) ?_
        refine dn ?_
        refine blockQ_n ?_
        refine seqQ_n ?_
        refine hw_reg1 ?_
        refine dp rfl (pop_move rfl) ?_
        refine dp rfl (pop_add64 rfl rfl (by omega) (by omega)) ?_
        refine dp rfl (pop_assign rfl) ?_
        refine dn ?_
        exact ⟨w + 1, ⟨v48, out ++ [(⟨x, (w : Int) + 1, st⟩, v)], a4⟩, ⟨by omega, hq2.add (p := (⟨x, (w : Int) + 1, st⟩, v)) ⟨⟨lp3_sh x (List.mem_of_getElem? hx), hs2⟩, by dsimp only; have : ls3.length = 3 := rfl; omega⟩ (by have : ls3.length = 3 := rfl; omega)⟩, by dsimp only; omega, ⟨some_int (by omega), rfl, trivial⟩, (by repeat (first | exact keeps_refl | refine keeps_upd rfl ?_ | refine keeps_loop rfl rfl ?_)), perm_eq (by dsimp only; simp only [List.map_append, List.map_cons, List.map_nil]; rfl)⟩
    ·try simp at h4
     refine hw_exit ?_
     refine seqQ_x ?_
     refine loopQ2_x ?_
     refine blockQ_eq ?_
     refine blockQ_n ?_
     refine seqQ_n ?_
     refine hw_reg1 ?_
     refine dp rfl (pop_add64 rfl rfl (by omega) (by omega)) ?_
     refine dp rfl (pop_move rfl) ?_
     refine dn ?_
     exact ⟨k + 1, ⟨u, out, a2⟩, ⟨by omega, hq2.mono (by omega) (by omega)⟩, by dsimp only; omega, ⟨rfl, rfl, trivial⟩, (by repeat (first | exact keeps_refl | refine keeps_upd rfl ?_ | refine keeps_loop rfl rfl ?_)), perm_eq rfl⟩
  ·try simp at h2
   have hnk : lp3.length ≤ k := by omega
   obtain rfl : k = lp3.length := by omega
   refine hw_exit ?_
   refine seqQ_x ?_
   refine loopQ2_x ?_
   refine blockQ_eq ?_
   refine seqQ_n ?_
   refine hw_join [10, 50, 51, 52, 53, 54, 55, 56, 57, 58, 59, 60, 61, 62, 63, 64, 65, 66, 67, 68, 69, 70, 71, 72, 73, 74, 75, 76, 77, 78, 79, 80, 81, 82, 83, 84, 85, 86, 87, 88, 89, 90, 91, 92, 93, 94, 95, 96, 97, 98] (fun (q5 : List LnV × Nat) => []) (fun (q5 : List LnV × Nat) => [St b l q5.2, .arr u 3 (q5.1.map rLn)] ++ q5.1.map sLn) (fun (q5 : List LnV × Nat) => q5.1.length ≤ 6 ∧ (∀ p ∈ q5.1, GoodLn p.1 ∧ p.1.Stats.length ≤ 4) ∧ q5.2 ≤ a + 60) ?_ ?_
   ·skip
    refine hw_reg ?_
    refine dp rfl (pop_move rfl) ?_
    first
    | refine de rfl (eop_lenm (i := 0) ty54 rfl rfl ?_)
    | refine de rfl (eop_lenm (i := 1) ty54 rfl rfl ?_)
    | refine de rfl (eop_lenm (i := 2) ty54 rfl rfl ?_)
    | refine de rfl (eop_lenm (i := 3) ty54 rfl rfl ?_)
    refine dp rfl (pop_gtr rfl rfl) ?_
    refine dp rfl (pop_move rfl) ?_
    refine dg rfl rfl (fun hc => ⟨_, OpenTo.refl _, pop_move rfl⟩) ?_
    refine dgx (fun x M' => ∃ (y : Bool) (a3 : Nat), x = .bool y ∧ a3 ≤ a2 + 1 ∧ M' = [St b l a3, .arr u 3 (out.map rLn)] ++ out.map sLn) rfl rfl (fun hc => ⟨_, false, a2, rfl, by omega, rfl⟩) (fun hc => ⟨_, OpenTo.upd (t := 54) rfl (by first | exact hc | simp_all) (OpenTo.refl _), eop_callx (i := 0) ca49 rfl (WeakL.refl _) rfl (c_benchmake_Stream_Flip (a := a2) (by omega) (by omega)) (fun h M' hh => by
     obtain ⟨y, h1, h2⟩ := hh
     exact ⟨y, a2 + 1, h1, by omega, by rw [h2]; rfl⟩)⟩) ?_
    rintro _ _ ⟨y, a3, rfl, ha3, rfl⟩
    refine dp rfl (pop_picko rfl (.inr ⟨_, rfl, fun h => by simp_all⟩) (.inl rfl)) ?_
    refine dn ?_
    refine hw_cond rfl (fun h11 => ?_) (fun h12 => ?_)
    ·try simp at h11
     have ho0 : 0 < out.length := by simp_all
     refine hw_arrc (i := 1) rfl (fun h0 he => ?_) (fun ob off cap hv hcap => ?_)
     ·exfalso; have := congrArg List.length he; simp at this; subst this; simp at ho0
     subst hv
     refine hw_reg ?_
     refine dp rfl (pop_move rfl) ?_
     refine dp rfl (pop_move rfl) ?_
     refine dp rfl (pop_move rfl) ?_
     first
     | refine de rfl (eop_lenm (i := 0) ty54 rfl rfl ?_)
     | refine de rfl (eop_lenm (i := 1) ty54 rfl rfl ?_)
     | refine de rfl (eop_lenm (i := 2) ty54 rfl rfl ?_)
     | refine de rfl (eop_lenm (i := 3) ty54 rfl rfl ?_)
     first
     | refine de rfl (eop_callx (i := 0) ca50 rfl (WeakL.refl _) rfl (c_benchmake_Stream_Next (by first | assumption | omega | (simp; omega) | simp_all) (by first | assumption | omega | (simp; omega) | simp_all)) ?_)
     | refine de rfl (eop_callx (i := 1) ca50 rfl (WeakL.refl _) rfl (c_benchmake_Stream_Next (by first | assumption | omega | (simp; omega) | simp_all) (by first | assumption | omega | (simp; omega) | simp_all)) ?_)
     | refine de rfl (eop_callx (i := 2) ca50 rfl (WeakL.refl _) rfl (c_benchmake_Stream_Next (by first | assumption | omega | (simp; omega) | simp_all) (by first | assumption | omega | (simp; omega) | simp_all)) ?_)
     | refine de rfl (eop_callx (i := 3) ca50 rfl (WeakL.refl _) rfl (c_benchmake_Stream_Next (by first | assumption | omega | (simp; omega) | simp_all) (by first | assumption | omega | (simp; omega) | simp_all)) ?_)
     rintro _ _ ⟨y61, rfl, hy61, rfl⟩
     refine dp rfl (pop_idxraw (j := y61) ty54 ty63 rfl rfl rfl (by simp; omega)) ?_
     refine dp rfl (pop_assign rfl) ?_
     refine dn ?_
     obtain ⟨x, hx⟩ : ∃ x, out[y61]? = some x := ⟨_, List.getElem?_eq_getElem (by omega)⟩
     refine hw_draw (fun M => ∃ i : Nat, M[i]? = some (.arr (.slice (some ⟨ob, off, none⟩) (out.map rLn).length cap) 3 (out.map rLn))) [6, 13] mixed ?_
     refine ahp 0 rfl rfl (by kernel_rfl) (by kernel_rfl) (pop_move rfl) ?_
     refine ahp 1 rfl rfl (by kernel_rfl) (by kernel_rfl) (pop_move rfl) ?_
     refine ahp 2 rfl rfl (by kernel_rfl) (by kernel_rfl) (pop_move rfl) ?_
     refine ahp 3 rfl rfl (by kernel_rfl) (by kernel_rfl) (pop_move rfl) ?_
     refine ahp 4 rfl rfl (by kernel_rfl) (by kernel_rfl) ((by first | exact pop_nilCheck rfl | exact pop_nilCheck_raw rfl)) ?_
     refine ahp 5 rfl rfl (by kernel_rfl) (by kernel_rfl) ((by first | exact pop_fieldAddr ty63 rfl ty9 (by decide) rfl | exact pop_fieldAddr_raw ty63 rfl ty9 (by decide) rfl)) ?_
     refine ahl 6 rfl rfl (by kernel_rfl) (by kernel_rfl) (by simp) ⟨1, rfl⟩ (fun M hM => by obtain ⟨i, hi⟩ := hM; exact eop_load_el (i := i) (j := y61) 0 ty9 rfl (by omega) hi hx rfl rfl ⟨rfl, rfl⟩) ?_
     refine ahp 7 rfl rfl (by kernel_rfl) (by kernel_rfl) (pop_buildSlice (hs := [_, _, _]) ty36 ty9 rfl rfl (by decide) (by decide) rfl) ?_
     refine ahp 9 rfl rfl (by kernel_rfl) (by kernel_rfl) (pop_move rfl) ?_
     refine ahp 10 rfl rfl (by kernel_rfl) (by kernel_rfl) (pop_move rfl) ?_
     refine ahp 11 rfl rfl (by kernel_rfl) (by kernel_rfl) ((by first | exact pop_nilCheck rfl | exact pop_nilCheck_raw rfl)) ?_
     refine ahp 12 rfl rfl (by kernel_rfl) (by kernel_rfl) ((by first | exact pop_fieldAddr ty63 rfl ty3 (by decide) rfl | exact pop_fieldAddr_raw ty63 rfl ty3 (by decide) rfl)) ?_
     refine ahl 13 rfl rfl (by kernel_rfl) (by kernel_rfl) (by simp) ⟨1, rfl⟩ (fun M hM => by obtain ⟨i, hi⟩ := hM; exact eop_load_el (i := i) (j := y61) 1 ty3 rfl (by omega) hi hx rfl rfl ⟨rfl, rfl⟩) ?_
     refine ahp 14 rfl rfl (by kernel_rfl) (by kernel_rfl) (pop_buildSlice (hs := [_, _, _]) ty22 ty3 rfl rfl (by decide) (by decide) rfl) ?_
     refine ahe 8 rfl (by kernel_rfl) ?_
     first
     | refine hop_e rfl (eop_callx (i := 0) ca31 rfl (WeakL.refl _) rfl (c_benchmake_Stream_Some (L := [_, _, _]) (by first | assumption | omega | (simp; omega) | simp_all) (by first | assumption | omega | (simp; omega) | simp_all) (by first | assumption | omega | (simp; omega) | simp_all)) ?_)
     | refine hop_e rfl (eop_callx (i := 1) ca31 rfl (WeakL.refl _) rfl (c_benchmake_Stream_Some (L := [_, _, _]) (by first | assumption | omega | (simp; omega) | simp_all) (by first | assumption | omega | (simp; omega) | simp_all) (by first | assumption | omega | (simp; omega) | simp_all)) ?_)
     | refine hop_e rfl (eop_callx (i := 2) ca31 rfl (WeakL.refl _) rfl (c_benchmake_Stream_Some (L := [_, _, _]) (by first | assumption | omega | (simp; omega) | simp_all) (by first | assumption | omega | (simp; omega) | simp_all) (by first | assumption | omega | (simp; omega) | simp_all)) ?_)
     | refine hop_e rfl (eop_callx (i := 3) ca31 rfl (WeakL.refl _) rfl (c_benchmake_Stream_Some (L := [_, _, _]) (by first | assumption | omega | (simp; omega) | simp_all) (by first | assumption | omega | (simp; omega) | simp_all) (by first | assumption | omega | (simp; omega) | simp_all)) ?_)
     rintro _ _ ⟨y71, rfl, hy71, rfl⟩
     refine ⟨fun _ => by first | exact .inl ⟨0, rfl⟩ | exact .inl ⟨1, rfl⟩ | exact .inl ⟨2, rfl⟩ | exact .inr (by simp [Before, Region.binds]), ?_⟩
     refine ahe 15 rfl (by kernel_rfl) ?_
     first
     | refine hop_e rfl (eop_callx (i := 0) ca32 rfl (WeakL.refl _) rfl (c_benchmake_Stream_Pick (L := [_, _, _]) (by first | assumption | omega | (simp; omega) | simp_all) (by first | assumption | omega | (simp; omega) | simp_all) (by first | assumption | omega | (simp; omega) | simp_all)) ?_)
     | refine hop_e rfl (eop_callx (i := 1) ca32 rfl (WeakL.refl _) rfl (c_benchmake_Stream_Pick (L := [_, _, _]) (by first | assumption | omega | (simp; omega) | simp_all) (by first | assumption | omega | (simp; omega) | simp_all) (by first | assumption | omega | (simp; omega) | simp_all)) ?_)
     | refine hop_e rfl (eop_callx (i := 2) ca32 rfl (WeakL.refl _) rfl (c_benchmake_Stream_Pick (L := [_, _, _]) (by first | assumption | omega | (simp; omega) | simp_all) (by first | assumption | omega | (simp; omega) | simp_all) (by first | assumption | omega | (simp; omega) | simp_all)) ?_)
     | refine hop_e rfl (eop_callx (i := 3) ca32 rfl (WeakL.refl _) rfl (c_benchmake_Stream_Pick (L := [_, _, _]) (by first | assumption | omega | (simp; omega) | simp_all) (by first | assumption | omega | (simp; omega) | simp_all) (by first | assumption | omega | (simp; omega) | simp_all)) ?_)
     rintro _ _ ⟨y78, rfl, hy78, rfl⟩
     refine ⟨fun _ => by first | exact .inl ⟨0, rfl⟩ | exact .inl ⟨1, rfl⟩ | exact .inl ⟨2, rfl⟩ | exact .inr (by simp [Before, Region.binds]), ?_⟩
     refine ahp 16 rfl rfl (by kernel_rfl) (by kernel_rfl) ((by first | exact pop_nilCheck rfl | exact pop_nilCheck_raw rfl)) ?_
     refine ahp 17 rfl rfl (by kernel_rfl) (by kernel_rfl) ((by first | exact pop_fieldAddr ty63 rfl ty9 (by decide) rfl | exact pop_fieldAddr_raw ty63 rfl ty9 (by decide) rfl)) ?_
     refine ahe 18 rfl (by kernel_rfl) ?_
     refine hop_e0 (eop_store_arr (i := 1) (j := y61) (f := 0) (y := rLn x) (y' := rLn (⟨y71, x.1.Week, x.1.Stats⟩, x.2)) ty9 rfl (by omega) rfl rfl (map_get hx) rfl rfl (by simp [hcells]) rfl ?_)
     refine ⟨fun _ => .inr (by simp [Before, Region.binds]), ?_⟩
     refine ahp 19 rfl rfl (by kernel_rfl) (by kernel_rfl) ((by first | exact pop_nilCheck rfl | exact pop_nilCheck_raw rfl)) ?_
     refine ahp 20 rfl rfl (by kernel_rfl) (by kernel_rfl) ((by first | exact pop_fieldAddr ty63 rfl ty3 (by decide) rfl | exact pop_fieldAddr_raw ty63 rfl ty3 (by decide) rfl)) ?_
     refine ahe 21 rfl (by kernel_rfl) ?_
     refine hop_e0 (eop_store_arr (i := 1) (j := y61) (f := 1) (y := rLn (⟨y71, x.1.Week, x.1.Stats⟩, x.2)) (y' := rLn (⟨y71, y78, x.1.Stats⟩, x.2)) ty3 rfl (by omega) rfl rfl (set_self (map_get hx)) rfl rfl (by simp [hcells]) rfl ?_)
     refine ⟨fun _ => .inr (by simp [Before, Region.binds]), ?_⟩
     refine ahz (by kernel_rfl) ?_
     have hx2 : (out.set y61 (⟨y71, y78, x.1.Stats⟩, x.2))[y61]? = some (⟨y71, y78, x.1.Stats⟩, x.2) := List.getElem?_set_self (by omega)
     refine hw_ghost (Ghost.of_eq (M' := [St b l (a3 + 1 + 1 + 1), .arr (.slice (some ⟨ob, off, none⟩) (out.map rLn).length cap) 3 ((out.set y61 (⟨y71, y78, x.1.Stats⟩, x.2)).map rLn)] ++ (out.set y61 (⟨y71, y78, x.1.Stats⟩, x.2)).map sLn) (by rw [sLn_same (n := (⟨y71, y78, x.1.Stats⟩, x.2)) hx rfl, List.map_set, List.set_set, List.set_set]; rfl)) ?_
     refine hw_draw1 (fun M => ∃ i : Nat, M[i]? = some (.arr (.slice (some ⟨ob, off, none⟩) (out.map rLn).length cap) 3 ((out.set y61 (⟨y71, y78, x.1.Stats⟩, x.2)).map rLn))) [4] mixed ?_
     refine ahp 0 rfl rfl (by kernel_rfl) (by kernel_rfl) (pop_move rfl) ?_
     refine ahp 1 rfl rfl (by kernel_rfl) (by kernel_rfl) (pop_move rfl) ?_
     refine ahp 2 rfl rfl (by kernel_rfl) (by kernel_rfl) ((by first | exact pop_nilCheck rfl | exact pop_nilCheck_raw rfl)) ?_
     refine ahp 3 rfl rfl (by kernel_rfl) (by kernel_rfl) ((by first | exact pop_fieldAddr ty63 rfl ty61 (by decide) rfl | exact pop_fieldAddr_raw ty63 rfl ty61 (by decide) rfl)) ?_
     refine ahl 4 rfl rfl (by kernel_rfl) (by kernel_rfl) (by simp) ⟨1, rfl⟩ (fun M hM => by obtain ⟨i, hi⟩ := hM; exact eop_load_el (i := i) (j := y61) 2 ty61 rfl (by omega) hi hx2 rfl rfl ⟨rfl, rfl⟩) ?_
     refine ahp 5 rfl rfl (by kernel_rfl) (by kernel_rfl) (pop_move rfl) ?_
     refine ahp 6 rfl rfl (by kernel_rfl) (by kernel_rfl) (pop_buildSlice (hs := [_, _, _]) ty36 ty9 rfl rfl (by decide) (by decide) rfl) ?_
     refine ahp 8 rfl rfl (by kernel_rfl) (by kernel_rfl) (pop_move rfl) ?_
     refine ahp 9 rfl rfl (by kernel_rfl) (by kernel_rfl) (pop_buildSlice (hs := [_, _, _]) ty22 ty3 rfl rfl (by decide) (by decide) rfl) ?_
     refine ahe 7 rfl (by kernel_rfl) ?_
     first
     | refine hop_e rfl (eop_callx (i := 0) ca31 rfl (WeakL.refl _) rfl (c_benchmake_Stream_Some (L := [_, _, _]) (by first | assumption | omega | (simp; omega) | simp_all) (by first | assumption | omega | (simp; omega) | simp_all) (by first | assumption | omega | (simp; omega) | simp_all)) ?_)
     | refine hop_e rfl (eop_callx (i := 1) ca31 rfl (WeakL.refl _) rfl (c_benchmake_Stream_Some (L := [_, _, _]) (by first | assumption | omega | (simp; omega) | simp_all) (by first | assumption | omega | (simp; omega) | simp_all) (by first | assumption | omega | (simp; omega) | simp_all)) ?_)
     | refine hop_e rfl (eop_callx (i := 2) ca31 rfl (WeakL.refl _) rfl (c_benchmake_Stream_Some (L := [_, _, _]) (by first | assumption | omega | (simp; omega) | simp_all) (by first | assumption | omega | (simp; omega) | simp_all) (by first | assumption | omega | (simp; omega) | simp_all)) ?_)
     | refine hop_e rfl (eop_callx (i := 3) ca31 rfl (WeakL.refl _) rfl (c_benchmake_Stream_Some (L := [_, _, _]) (by first | assumption | omega | (simp; omega) | simp_all) (by first | assumption | omega | (simp; omega) | simp_all) (by first | assumption | omega | (simp; omega) | simp_all)) ?_)
     rintro _ _ ⟨y90, rfl, hy90, rfl⟩
     refine ⟨fun _ => by first | exact .inl ⟨0, rfl⟩ | exact .inl ⟨1, rfl⟩ | exact .inl ⟨2, rfl⟩ | exact .inr (by simp [Before, Region.binds]), ?_⟩
     refine ahe 10 rfl (by kernel_rfl) ?_
     first
     | refine hop_e rfl (eop_callx (i := 0) ca32 rfl (WeakL.refl _) rfl (c_benchmake_Stream_Pick (L := [_, _, _]) (by first | assumption | omega | (simp; omega) | simp_all) (by first | assumption | omega | (simp; omega) | simp_all) (by first | assumption | omega | (simp; omega) | simp_all)) ?_)
     | refine hop_e rfl (eop_callx (i := 1) ca32 rfl (WeakL.refl _) rfl (c_benchmake_Stream_Pick (L := [_, _, _]) (by first | assumption | omega | (simp; omega) | simp_all) (by first | assumption | omega | (simp; omega) | simp_all) (by first | assumption | omega | (simp; omega) | simp_all)) ?_)
     | refine hop_e rfl (eop_callx (i := 2) ca32 rfl (WeakL.refl _) rfl (c_benchmake_Stream_Pick (L := [_, _, _]) (by first | assumption | omega | (simp; omega) | simp_all) (by first | assumption | omega | (simp; omega) | simp_all) (by first | assumption | omega | (simp; omega) | simp_all)) ?_)
     | refine hop_e rfl (eop_callx (i := 3) ca32 rfl (WeakL.refl _) rfl (c_benchmake_Stream_Pick (L := [_, _, _]) (by first | assumption | omega | (simp; omega) | simp_all) (by first | assumption | omega | (simp; omega) | simp_all) (by first | assumption | omega | (simp; omega) | simp_all)) ?_)
     rintro _ _ ⟨y93, rfl, hy93, rfl⟩
     refine ⟨fun _ => by first | exact .inl ⟨0, rfl⟩ | exact .inl ⟨1, rfl⟩ | exact .inl ⟨2, rfl⟩ | exact .inr (by simp [Before, Region.binds]), ?_⟩
     refine ahp 11 rfl rfl (by kernel_rfl) (by kernel_rfl) (pop_build (cs := [_, _]) ty121 pl121 rfl) ?_
     refine ahp 12 rfl rfl (by kernel_rfl) (by kernel_rfl) (pop_buildSlice (hs := [_]) ty61 ty121 rfl rfl (by decide) (by decide) rfl) ?_
     refine ahe 13 rfl (by kernel_rfl) ?_
     refine hop_e rfl (eop_append (i := y61 + 2) (v := x.2) (es := x.1.Stats.map eStat) ty61 ty121 rfl rfl rfl rfl (show ((out.set y61 (⟨y71, y78, x.1.Stats⟩, x.2)).map sLn)[y61]? = some _ from by rw [List.getElem?_map, hx2]; rfl) (by simp [flat, hcells]) (by have := (g2 x (List.mem_of_getElem? hx)).2; simp; omega) fun v96 => ?_)
     refine ⟨fun _ => .inr (by simp [Before, Region.binds]), ?_⟩
     refine ahp 14 rfl rfl (by kernel_rfl) (by kernel_rfl) ((by first | exact pop_nilCheck rfl | exact pop_nilCheck_raw rfl)) ?_
     refine ahp 15 rfl rfl (by kernel_rfl) (by kernel_rfl) ((by first | exact pop_fieldAddr ty63 rfl ty61 (by decide) rfl | exact pop_fieldAddr_raw ty63 rfl ty61 (by decide) rfl)) ?_
     refine ahe 16 rfl (by kernel_rfl) ?_
     refine hop_e0 (eop_store_arr (i := 1) (j := y61) (f := 2) (y := rLn (⟨y71, y78, x.1.Stats⟩, x.2)) (y' := rLn (⟨y71, y78, x.1.Stats ++ [⟨y90, y93⟩]⟩, v96)) ty61 rfl (by omega) rfl rfl (map_get hx2) rfl rfl (by simp [hcells]) rfl ?_)
     refine ⟨fun _ => .inr (by simp [Before, Region.binds]), ?_⟩
     refine ahz (by kernel_rfl) ?_
     have hgx := g2 x (List.mem_of_getElem? hx)
     have hp71 : Sh y71 := by
      simp at hy71
      rcases hy71 with rfl | rfl | rfl
      ·exact hgx.1.1
      ·exact nil_sh
      ·unfold Sh; simp
     have hp90 : Sh y90 := by simp at hy90; rcases hy90 with rfl | rfl | rfl <;> (unfold Sh; simp)
     exact ⟨((out.set y61 (⟨y71, y78, x.1.Stats⟩, x.2)).set y61 (⟨y71, y78, x.1.Stats ++ [⟨y90, y93⟩]⟩, v96), a3 + 1 + 1 + 1 + 1 + 1), ⟨by simp; omega, all_set (P := fun p : LnV => GoodLn p.1 ∧ p.1.Stats.length ≤ 4) (all_set (P := fun p : LnV => GoodLn p.1 ∧ p.1.Stats.length ≤ 4) (fun p hp => ⟨(g2 p hp).1, Nat.le_succ_of_le (g2 p hp).2⟩) ⟨⟨hp71, hgx.1.2⟩, Nat.le_succ_of_le hgx.2⟩) ⟨⟨hp71, fun s hs => by
      rcases List.mem_append.1 hs with hs | hs
      ·exact hgx.1.2 s hs
      ·rw [List.mem_singleton.1 hs]; exact hp90⟩, by simp; exact hgx.2⟩, by dsimp only; omega⟩, trivial, (by repeat (first | exact keeps_refl | refine keeps_upd rfl ?_ | refine keeps_loop rfl rfl ?_)), perm_eq (by dsimp only; simp only [List.map_set, sLn, rLn, List.map_append, List.map_cons, List.map_nil]; rfl)⟩
    ·try simp at h12
     refine hw_skip ?_
     exact ⟨(out, a3), ⟨by dsimp only; omega, fun p hp => ⟨(g2 p hp).1, Nat.le_succ_of_le (g2 p hp).2⟩, by dsimp only; omega⟩, trivial, (by repeat (first | exact keeps_refl | refine keeps_upd rfl ?_ | refine keeps_loop rfl rfl ?_)), perm_eq rfl⟩
   ·intro q5 hq5
    obtain ⟨k1, a4⟩ := q5
    dsimp only at hq5
    obtain ⟨q1, q2, q3⟩ := hq5
    refine hw_ghost (Ghost.of_eq (M' := [St b l a4] ++ .arr u 3 (([] : List LineS).map eLine ++ k1.map fun p : LnV => HVal.agg [.str p.1.Player, .int .i64 p.1.Week, .raw p.2]) :: k1.map fun p : LnV => MObj.arr p.2 2 ((LineS.Stats p.1).map eStat)) rfl) ?_
    refine hw_ghost (Ghost.fz_each (A := [St b l a4]) (enc := eLine) (raw := fun y v => HVal.agg [.str y.Player, .int .i64 y.Week, .raw v]) (cs := fun y v => [HVal.str y.Player, .int .i64 y.Week, .raw v]) (st := LineS.Stats) (eb := eStat) (j := 2) (fun _ _ => rfl) (fun _ _ => rfl) (fun _ _ => rfl) k1 []) ?_
    refine hw_reg ?_
    refine dp rfl (pop_move rfl) ?_
    refine dp rfl (pop_assign rfl) ?_
    refine dn ?_
    refine hw_ret ?_
    exact ret_g (Ghost.fa 2 (i := 1) rfl rfl) rfl ⟨k1.map (·.1), a4, by simp, ⟨by simpa using q1, fun x hx => by
     obtain ⟨p, hp, rfl⟩ := List.mem_map.1 hx; exact (q2 p hp).2, fun x hx => by
     obtain ⟨p, hp, rfl⟩ := List.mem_map.1 hx; exact (q2 p hp).1⟩, by omega, rfl⟩
end Go.Proofs.YtkamelfigfbfiaaGreatDoor
end
section
namespace Go.Proofs.YtkamelfigfbfiaaGreatDoor
open Go.HL
set_option maxRecDepth 100000
set_option linter.unusedVariables false
set_option linter.unusedSimpArgs false
end Go.Proofs.YtkamelfigfbfiaaGreatDoor
end
section
namespace Go.Proofs.YtkamelfigfbfiaaGreatDoor
open Go.HL
set_option maxRecDepth 100000
set_option linter.unusedVariables false
set_option linter.unusedSimpArgs false
end Go.Proofs.YtkamelfigfbfiaaGreatDoor
end
section
namespace Go.Proofs.YtkamelfigfbfiaaGreatDoor
open Go.HL
set_option maxRecDepth 100000
set_option linter.unusedVariables false
set_option linter.unusedSimpArgs false

end Go.Proofs.YtkamelfigfbfiaaGreatDoor
end
section
namespace Go.Proofs.YtkamelfigfbfiaaGreatDoor
open Go.HL
set_option maxRecDepth 100000
set_option linter.unusedVariables false
set_option linter.unusedSimpArgs false

end Go.Proofs.YtkamelfigfbfiaaGreatDoor
end
section
namespace Go.Proofs.YtkamelfigfbfiaaGreatDoor
open Go.HL
set_option maxRecDepth 100000
set_option linter.unusedVariables false
set_option linter.unusedSimpArgs false

end Go.Proofs.YtkamelfigfbfiaaGreatDoor
end
section
namespace Go.Proofs.YtkamelfigfbfiaaGreatDoor
open Go.HL
set_option maxRecDepth 100000
set_option linter.unusedVariables false
set_option linter.unusedSimpArgs false

end Go.Proofs.YtkamelfigfbfiaaGreatDoor
end
section
namespace Go.Proofs.YtkamelfigfbfiaaGreatDoor
open Go.HL
set_option maxRecDepth 100000
set_option linter.unusedVariables false
set_option linter.unusedSimpArgs false

end Go.Proofs.YtkamelfigfbfiaaGreatDoor
end
