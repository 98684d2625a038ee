/- The statement is proved: the card of the law, out of its function's contract; no conditions. -/
import Derived.Test.YtjfapmloepemiaaGreatDoorPart4
import Derived.LaidMore
import Derived.Lay
import Derived.OpenShut
import Derived.ProofKit
import Derived.SevenTiedAt
import Derived.Stop.Joined
import Derived.Test.YtjfapmloepemiaaGreatDoorCards
import Derived.Test.YtjfapmloepemiaaGreatDoorTie
section
namespace Go.Proofs.YtjfapmloepemiaaGreatDoor
open Go.HL
set_option maxRecDepth 100000
set_option linter.unusedVariables false
set_option linter.unusedSimpArgs false
set_option maxHeartbeats 2000000 in
/-- (*benchwarmer/benchmake.Stream).Order -/
theorem c_benchmake_Stream_Order {b : Nat} {l : List Int} {a : Nat} {n : Nat} (ha : a ≤ 800000) (hn1 : 1 ≤ n) (hn2 : n ≤ 1000) : Con Tryz.prog 30 [pAt b, .int .i64 (n : Int)] [St b l a] (fun x M' => ∃ (L : List Int) (a' : Nat), x = .slice 1 (L.map (.int .i64)) ∧ (L.length = n ∧ ∀ i ∈ L, (0 : Int) ≤ i ∧ i < n) ∧ a' ≤ a + n ∧ M' = [St b l a']) := by
  refine Con.of_body Tryz.func30 rfl Tryz.ntmps30 rfl rfl ?_
  refine hw_reg ?_
  refine dp rfl (pop_assign rfl) ?_
  refine dn ?_
  refine hw_reg ?_
  refine dp rfl (pop_assign rfl) ?_
  refine dn ?_
  refine hw_ghost (Ghost.arr_nil 1) ?_
  refine hw_seq ?_
  refine hw_reg ?_
  refine dp rfl (pop_move rfl) ?_
  refine dp rfl (pop_move rfl) ?_
  refine dn ?_
  refine hw_block ?_
  refine hw_loopw3 [5, 6, 10, 11, 12, 13, 14, 15, 16, 17] (fun (k : Nat) (u : Value) (L : List Int) => [(10, .int .i64 (k : Int)), (5, .raw u)]) (fun (k : Nat) (u : Value) (L : List Int) => [.arr u 1 (L.map (HVal.int .i64)), St b l a]) (fun (k : Nat) (u : Value) (L : List Int) => k ≤ n ∧ L.length = k ∧ ∀ i ∈ L, (0 : Int) ≤ i ∧ i < n) (fun (k : Nat) (u : Value) (L : List Int) => n - k) (0) (.slice none 0 0) ([]) ?_ ?_ ?_ ?_
  · exact ⟨by omega, rfl, by simp⟩
  · exact ⟨rfl, rfl, trivial⟩
  · exact perm_eq rfl
  · intro k u L hinv
    obtain ⟨hk, hL, hLb⟩ := hinv
    refine hw_reg ?_
    refine dp rfl (pop_lss rfl rfl) ?_
    refine dn ?_
    refine hw_seq ?_
    refine hw_cond rfl (fun h1 => ?_) (fun h2 => ?_)
    · try simp at h1
      have hkn : k < n := by omega
      refine hw_skip ?_
      refine seqQ_n ?_
      refine hw_seq ?_
      refine hw_block ?_
      refine hw_reg ?_
      refine dp rfl (pop_move rfl) ?_
      refine dp rfl (pop_assign rfl) ?_
      refine dn ?_
      refine hw_reg1 ?_
      refine dp rfl (pop_move rfl) ?_
      refine dp rfl (pop_move rfl) ?_
      refine dp rfl (pop_buildSlice (hs := [_]) ty22 ty3 rfl rfl (by decide) (by decide) rfl) ?_
      refine de rfl (eop_append (i := 0) ty22 ty3 rfl rfl rfl rfl rfl (by simp [flat, hcells]) (by simp; omega) fun v16 => ?_)
      refine dp rfl (pop_assign rfl) ?_
      refine dn ?_
      refine blockQ_n ?_
      refine seqQ_n ?_
      refine hw_reg1 ?_
      refine dp rfl (pop_add64 rfl rfl (by omega) (by omega)) ?_
      refine dp rfl (pop_move rfl) ?_
      refine dn ?_
      exact ⟨k + 1, v16, L ++ [(k : Int)], ⟨by omega, by simp [hL], fun i hi => by rcases List.mem_append.1 hi with h | h; exact hLb i h; (simp at h; omega)⟩, by dsimp only; omega, ⟨rfl, rfl, trivial⟩, (by repeat (first | exact keeps_refl | refine keeps_upd rfl ?_ | refine keeps_loop rfl rfl ?_)), perm_eq (by simp)⟩
    · try simp at h2
      obtain rfl : n = k := by omega
      refine hw_exit ?_
      refine seqQ_x ?_
      refine loopQ3_x ?_
      refine blockQ_eq ?_
      refine seqQ_n ?_
      refine hw_seq ?_
      refine hw_ghost (Ghost.perm (M' := [St b l a, .arr u 1 (L.map (.int .i64))]) (by repeat (first | exact List.Perm.nil | refine permTo 0 rfl ?_ | refine permTo 1 rfl ?_ | refine permTo 2 rfl ?_ | refine permTo 3 rfl ?_ | (refine permToE 0 rfl ?hq ?_; (case hq => simp [setL, hcells]; done)) | (refine permToE 1 rfl ?hq ?_; (case hq => simp [setL, hcells]; done)) | (refine permToE 2 rfl ?hq ?_; (case hq => simp [setL, hcells]; done)) | (refine permToE 3 rfl ?hq ?_; (case hq => simp [setL, hcells]; done)) | fail))) ?_
      refine hw_arrc (i := 1) rfl (fun h0 he => ?_) (fun ob off cap hv hcap => ?_)
      · exfalso; have := congrArg List.length he; simp at this; subst this; simp at hL; omega
      rw [List.length_map, hL] at hv hcap
      subst hv
      refine hw_reg ?_
      refine dp rfl (pop_move rfl) ?_
      refine dp rfl (pop_sub64 rfl rfl (by omega) (by omega)) ?_
      refine dp rfl (pop_assign rfl) ?_
      refine dn ?_
      refine hw_block ?_
      refine hw_loopw3 [7, 8, 20, 21, 22, 23, 24, 25, 26, 27, 28, 29, 30, 31, 32, 33, 34, 35, 36, 37, 38, 39, 40, 41] (fun (m : Nat) (L : List Int) (a2 : Nat) => [(7, .int .i64 (m : Int))]) (fun (m : Nat) (L : List Int) (a2 : Nat) => [St b l a2, .arr (.slice (some ⟨ob, off, none⟩) n cap) 1 (L.map (HVal.int .i64))]) (fun (m : Nat) (L : List Int) (a2 : Nat) => m < n ∧ (L.length = n ∧ ∀ i ∈ L, (0 : Int) ≤ i ∧ i < n) ∧ a2 + m ≤ a + n) (fun (m : Nat) (L : List Int) (a2 : Nat) => m) (n - 1) (L) (a) ?_ ?_ ?_ ?_
      · exact ⟨by omega, ⟨hL, hLb⟩, by omega⟩
      · exact ⟨some_int (by omega), trivial⟩
      · exact List.Perm.refl _
      · intro m L a2 hinv
        obtain ⟨hm, ⟨hL, hLb⟩, ha2⟩ := hinv
        refine hw_seq ?_
        refine hw_reg ?_
        refine dp rfl (pop_move rfl) ?_
        refine dp rfl (pop_gtr rfl rfl) ?_
        refine dn ?_
        refine hw_cond rfl (fun h3 => ?_) (fun h4 => ?_)
        · try simp at h3
          have hm0 : 0 < m := by omega
          refine hw_skip ?_
          refine seqQ_n ?_
          refine hw_seq ?_
          refine hw_block ?_
          refine hw_reg ?_
          refine dp rfl (pop_move rfl) ?_
          refine dp rfl (pop_move rfl) ?_
          refine dp rfl (pop_add64 rfl rfl (by omega) (by omega)) ?_
          first
          | refine de rfl (eop_callx (i := 0) ca26 rfl (WeakL.refl _) rfl (c_benchmake_Stream_Next (by first | assumption | omega | (simp; omega) | simp_all) (by first | assumption | omega | (simp; omega) | simp_all)) ?_)
          | refine de rfl (eop_callx (i := 1) ca26 rfl (WeakL.refl _) rfl (c_benchmake_Stream_Next (by first | assumption | omega | (simp; omega) | simp_all) (by first | assumption | omega | (simp; omega) | simp_all)) ?_)
          | refine de rfl (eop_callx (i := 2) ca26 rfl (WeakL.refl _) rfl (c_benchmake_Stream_Next (by first | assumption | omega | (simp; omega) | simp_all) (by first | assumption | omega | (simp; omega) | simp_all)) ?_)
          | refine de rfl (eop_callx (i := 3) ca26 rfl (WeakL.refl _) rfl (c_benchmake_Stream_Next (by first | assumption | omega | (simp; omega) | simp_all) (by first | assumption | omega | (simp; omega) | simp_all)) ?_)
          rintro _ _ ⟨y27, rfl, hy27, rfl⟩
          refine dp rfl (pop_assign rfl) ?_
          refine dn ?_
          obtain ⟨z1, hz1⟩ : ∃ z, L[y27]? = some z := ⟨_, List.getElem?_eq_getElem (by omega)⟩
          obtain ⟨z2, hz2⟩ : ∃ z, L[m]? = some z := ⟨_, List.getElem?_eq_getElem (by omega)⟩
          obtain ⟨z3, hz3⟩ : ∃ z, (L.set m z1)[y27]? = some z := ⟨_, List.getElem?_eq_getElem (by simp; omega)⟩
          refine hw_draw1 (fun M => ∃ i : Nat, M[i]? = some (.arr (.slice (some ⟨ob, off, none⟩) n cap) 1 (L.map (HVal.int .i64)))) [7, 11] mixed ?_
          refine ahp 0 rfl rfl (by kernel_rfl) (by kernel_rfl) (pop_move rfl) ?_
          refine ahp 1 rfl rfl (by kernel_rfl) (by kernel_rfl) (pop_move rfl) ?_
          refine ahp 2 rfl rfl (by kernel_rfl) (by kernel_rfl) (pop_move rfl) ?_
          refine ahp 3 rfl rfl (by kernel_rfl) (by kernel_rfl) (pop_move rfl) ?_
          refine ahp 4 rfl rfl (by kernel_rfl) (by kernel_rfl) (pop_move rfl) ?_
          refine ahp 5 rfl rfl (by kernel_rfl) (by kernel_rfl) (pop_move rfl) ?_
          refine ahp 6 rfl rfl (by kernel_rfl) (by kernel_rfl) (pop_idxraw (j := y27) ty22 ty3 rfl rfl rfl (by omega)) ?_
          refine ahl 7 rfl rfl (by kernel_rfl) (by kernel_rfl) (by simp) (by first | exact ⟨0, rfl⟩ | exact ⟨1, rfl⟩) (fun M hM => by obtain ⟨i, hi⟩ := hM; exact eop_load_el (i := i) (j := y27) 0 ty3 rfl (by omega) hi hz1 rfl rfl ⟨rfl, rfl⟩) ?_
          refine ahp 8 rfl rfl (by kernel_rfl) (by kernel_rfl) (pop_move rfl) ?_
          refine ahp 9 rfl rfl (by kernel_rfl) (by kernel_rfl) (pop_move rfl) ?_
          refine ahp 10 rfl rfl (by kernel_rfl) (by kernel_rfl) (pop_idxraw (j := m) ty22 ty3 rfl rfl rfl (by omega)) ?_
          refine ahl 11 rfl rfl (by kernel_rfl) (by kernel_rfl) (by simp) (by first | exact ⟨0, rfl⟩ | exact ⟨1, rfl⟩) (fun M hM => by obtain ⟨i, hi⟩ := hM; exact eop_load_el (i := i) (j := m) 0 ty3 rfl (by omega) hi hz2 rfl rfl ⟨rfl, rfl⟩) ?_
          refine ahp 12 rfl rfl (by kernel_rfl) (by kernel_rfl) (pop_idxraw (j := m) ty22 ty3 rfl rfl rfl (by omega)) ?_
          refine ahe 13 rfl (by kernel_rfl) ?_
          refine hop_e0 (eop_store_elw (i := 1) (f := HVal.int .i64) (es := L) (j := m) (y := z2) (y' := z1) ty3 rfl rfl rfl rfl hz2 rfl rfl rfl ?_)
          refine ⟨fun _ => .inr (by simp [Before, Region.binds]), ?_⟩
          refine ahp 14 rfl rfl (by kernel_rfl) (by kernel_rfl) (pop_idxraw (j := y27) ty22 ty3 rfl rfl rfl (by omega)) ?_
          refine ahe 15 rfl (by kernel_rfl) ?_
          refine hop_e0 (eop_store_elw (i := 1) (f := HVal.int .i64) (es := L.set m z1) (j := y27) (y := z3) (y' := z2) ty3 rfl rfl rfl rfl hz3 rfl rfl rfl ?_)
          refine ⟨fun _ => .inr (by simp [Before, Region.binds]), ?_⟩
          refine ahz (by kernel_rfl) ?_
          refine blockQ_n ?_
          refine seqQ_n ?_
          refine hw_reg1 ?_
          refine dp rfl (pop_move rfl) ?_
          refine dp rfl (pop_sub64 rfl rfl (by omega) (by omega)) ?_
          refine dp rfl (pop_assign rfl) ?_
          refine dn ?_
          exact ⟨m - 1, (L.set m z1).set y27 z2, a2 + 1, ⟨by omega, ⟨by simp [hL], all_set (P := fun i : Int => 0 ≤ i ∧ i < n) (all_set (P := fun i : Int => 0 ≤ i ∧ i < n) hLb (hLb z1 (List.mem_of_getElem? hz1))) (hLb z2 (List.mem_of_getElem? hz2))⟩, by omega⟩, by dsimp only; omega, ⟨some_int (by omega), trivial⟩, (by repeat (first | exact keeps_refl | refine keeps_upd rfl ?_ | refine keeps_loop rfl rfl ?_)), perm_eq (by simp [List.map_set])⟩
        · try simp at h4
          refine hw_exit ?_
          refine seqQ_x ?_
          refine loopQ3_x ?_
          refine blockQ_eq ?_
          refine seqQ_n ?_
          refine hw_reg ?_
          refine dp rfl (pop_move rfl) ?_
          refine dp rfl (pop_assign rfl) ?_
          refine dn ?_
          refine hw_ret ?_
          refine ret_g (Ghost.fa 4 (i := 1) rfl rfl) rfl ⟨L, a2, rfl, ⟨hL, hLb⟩, by omega, rfl⟩

set_option maxHeartbeats 2000000 in
/-- (*benchwarmer/benchmake.Stream).Limits -/
theorem c_benchmake_Stream_Limits {b : Nat} {l : List Int} {a : Nat} {h : Hall} (ha : a ≤ 800000) (hh : GoodHall h) : Con Tryz.prog 7 [pAt b, eHall h] [St b l a] (fun x M' => ∃ k a', x = ePairs k ∧ GoodLims k ∧ a' ≤ a + 40 ∧ M' = [St b l a']) := by
  have ht4 := hh.t4
  refine Con.of_body Tryz.func7 rfl Tryz.ntmps7 rfl rfl ?_
  refine hw_reg ?_
  refine dp rfl (pop_box rfl rfl) ?_
  refine dp rfl (pop_assign rfl) ?_
  refine dn ?_
  refine hw_reg ?_
  refine dp rfl (pop_assign rfl) ?_
  refine dn ?_
  refine hw_ghost (Ghost.arr_nil 2) ?_
  refine hw_seq ?_
  refine hw_reg ?_
  refine dp rfl ((by first | exact pop_fieldAddr ty28 rfl ty26 (by decide) rfl | exact pop_fieldAddr_raw ty28 rfl ty26 (by decide) rfl)) ?_
  refine dp rfl (pop_load ty26 rfl rfl rfl) ?_
  refine dp rfl (pop_lenm ty26 rfl) ?_
  refine dp rfl (pop_move rfl) ?_
  refine dn ?_
  refine hw_block ?_
  refine hw_loopw2 [5, 7, 12, 13, 14, 15, 16, 17, 18, 19, 20, 21, 22, 23, 24, 25, 26, 27, 28] (fun (k : Nat) (q : GL PairS) => [(12, .int .i64 k), (5, .raw q.u)]) (fun (k : Nat) (q : GL PairS) => [St b l q.a, .arr q.u 2 (q.out.map ePair)]) (fun (k : Nat) (q : GL PairS) => k ≤ h.Teams.length ∧ (GLok GoodL k (a + 2 * k) q)) (fun (k : Nat) (q : GL PairS) => h.Teams.length - k) (0) (⟨.slice none 0 0, [], a⟩) ?_ ?_ ?_ ?_
  · exact ⟨Nat.zero_le _, ⟨by simp, by simp, by dsimp only; omega⟩⟩
  · exact ⟨rfl, rfl, trivial⟩
  · repeat (first | exact List.Perm.nil | refine permTo 0 rfl ?_ | refine permTo 1 rfl ?_ | refine permTo 2 rfl ?_ | refine permTo 3 rfl ?_ | (refine permToE 0 rfl ?hq ?_; (case hq => simp [setL, hcells]; done)) | (refine permToE 1 rfl ?hq ?_; (case hq => simp [setL, hcells]; done)) | (refine permToE 2 rfl ?hq ?_; (case hq => simp [setL, hcells]; done)) | (refine permToE 3 rfl ?hq ?_; (case hq => simp [setL, hcells]; done)) | fail)
  · intro k q hinv
    obtain ⟨hk, hq⟩ := hinv
    obtain ⟨u, out, a2⟩ := q
    obtain ⟨g1, g2, g3⟩ := id hq
    dsimp only at g1 g2 g3
    refine hw_reg ?_
    refine dp rfl (pop_lss rfl rfl) ?_
    refine dn ?_
    refine hw_seq ?_
    refine hw_cond rfl (fun h1 => ?_) (fun h2 => ?_)
    · try simp at h1
      obtain ⟨x, hx⟩ : ∃ x, h.Teams[k]? = some x := ⟨_, List.getElem?_eq_getElem h1⟩
      have hdx := drop_cons hx
      refine hw_skip ?_
      refine seqQ_n ?_
      refine hw_seq ?_
      refine hw_block ?_
      refine hw_reg ?_
      refine dp rfl (pop_idx ty26 ty9 rfl rfl rfl (by first | assumption | simp_all)) ?_
      refine dp rfl (pop_load ty9 rfl rfl rfl) ?_
      refine dp rfl (pop_assign rfl) ?_
      refine dn ?_
      refine hw_reg ?_
      refine dp rfl (pop_move rfl) ?_
      first
      | refine de rfl (eop_callx (i := 0) ca28 rfl (WeakL.refl _) rfl (c_benchmake_Stream_Flip (by first | assumption | omega | (simp; omega) | simp_all) (by first | assumption | omega | (simp; omega) | simp_all)) ?_)
      | refine de rfl (eop_callx (i := 1) ca28 rfl (WeakL.refl _) rfl (c_benchmake_Stream_Flip (by first | assumption | omega | (simp; omega) | simp_all) (by first | assumption | omega | (simp; omega) | simp_all)) ?_)
      | refine de rfl (eop_callx (i := 2) ca28 rfl (WeakL.refl _) rfl (c_benchmake_Stream_Flip (by first | assumption | omega | (simp; omega) | simp_all) (by first | assumption | omega | (simp; omega) | simp_all)) ?_)
      | refine de rfl (eop_callx (i := 3) ca28 rfl (WeakL.refl _) rfl (c_benchmake_Stream_Flip (by first | assumption | omega | (simp; omega) | simp_all) (by first | assumption | omega | (simp; omega) | simp_all)) ?_)
      rintro _ _ ⟨y17, rfl, rfl⟩
      refine dp rfl (pop_not rfl) ?_
      refine dn ?_
      refine hw_cond rfl (fun h3 => ?_) (fun h4 => ?_)
      · try simp at h3
        refine hw_reg1 ?_
        refine dp rfl (pop_move rfl) ?_
        refine dp rfl (pop_move rfl) ?_
        refine dp rfl (pop_move rfl) ?_
        refine dp rfl (pop_buildSlice (hs := [_, _, _, _, _, _, _]) ty22 ty3 rfl rfl (by decide) (by decide) rfl) ?_
        first
        | refine de rfl (eop_callx (i := 0) ca25 rfl (WeakL.refl _) rfl (c_benchmake_Stream_Pick (L := [_, _, _, _, _, _, _]) (by first | assumption | omega | (simp; omega) | simp_all) (by first | assumption | omega | (simp; omega) | simp_all) (by first | assumption | omega | (simp; omega) | simp_all)) ?_)
        | refine de rfl (eop_callx (i := 1) ca25 rfl (WeakL.refl _) rfl (c_benchmake_Stream_Pick (L := [_, _, _, _, _, _, _]) (by first | assumption | omega | (simp; omega) | simp_all) (by first | assumption | omega | (simp; omega) | simp_all) (by first | assumption | omega | (simp; omega) | simp_all)) ?_)
        | refine de rfl (eop_callx (i := 2) ca25 rfl (WeakL.refl _) rfl (c_benchmake_Stream_Pick (L := [_, _, _, _, _, _, _]) (by first | assumption | omega | (simp; omega) | simp_all) (by first | assumption | omega | (simp; omega) | simp_all) (by first | assumption | omega | (simp; omega) | simp_all)) ?_)
        | refine de rfl (eop_callx (i := 3) ca25 rfl (WeakL.refl _) rfl (c_benchmake_Stream_Pick (L := [_, _, _, _, _, _, _]) (by first | assumption | omega | (simp; omega) | simp_all) (by first | assumption | omega | (simp; omega) | simp_all) (by first | assumption | omega | (simp; omega) | simp_all)) ?_)
        rintro _ _ ⟨y23, rfl, hy23, rfl⟩
        refine dp rfl (pop_call ca27 rfl (WeakL.refl _) (c_Itoa (n := y23) (by simp at hy23; omega) (by simp at hy23; omega))) ?_
        refine dp rfl (pop_build (cs := [_, _]) ty56 pl56 rfl) ?_
        refine dp rfl (pop_buildSlice (hs := [_]) ty33 ty56 rfl rfl (by decide) (by decide) rfl) ?_
        first
        | refine de rfl (eop_append (i := 0) ty33 ty56 rfl rfl rfl rfl rfl (by simp [flat, hcells]) (by first | omega | (simp; omega)) fun v27 => ?_)
        | refine de rfl (eop_append (i := 1) ty33 ty56 rfl rfl rfl rfl rfl (by simp [flat, hcells]) (by first | omega | (simp; omega)) fun v27 => ?_)
        | refine de rfl (eop_append (i := 2) ty33 ty56 rfl rfl rfl rfl rfl (by simp [flat, hcells]) (by first | omega | (simp; omega)) fun v27 => ?_)
        | refine de rfl (eop_append (i := 3) ty33 ty56 rfl rfl rfl rfl rfl (by simp [flat, hcells]) (by first | omega | (simp; omega)) fun v27 => ?_)
        refine dp rfl (pop_assign rfl) ?_
        refine dn ?_
        refine blockQ_n ?_
        refine seqQ_n ?_
        refine hw_reg1 ?_
        refine dp rfl (pop_add64 rfl rfl (by omega) (by omega)) ?_
        refine dp rfl (pop_move rfl) ?_
        refine dn ?_
        exact ⟨k + 1, ⟨v27, out ++ [⟨x, Lib.itoa y23⟩], a2 + 2⟩, ⟨by omega, hq.add (x := (⟨x, Lib.itoa y23⟩ : PairS)) (itoa_vals hy23) (by omega)⟩, by dsimp only; omega, ⟨rfl, rfl, trivial⟩, (by repeat (first | exact keeps_refl | refine keeps_upd rfl ?_ | refine keeps_loop rfl rfl ?_)), by repeat (first | exact List.Perm.nil | refine permTo 0 rfl ?_ | refine permTo 1 rfl ?_ | refine permTo 2 rfl ?_ | refine permTo 3 rfl ?_ | (refine permToE 0 rfl ?hq ?_; (case hq => simp [setL, hcells]; done)) | (refine permToE 1 rfl ?hq ?_; (case hq => simp [setL, hcells]; done)) | (refine permToE 2 rfl ?hq ?_; (case hq => simp [setL, hcells]; done)) | (refine permToE 3 rfl ?hq ?_; (case hq => simp [setL, hcells]; done)) | fail)⟩
      · try simp at h4
        refine hw_skip ?_
        refine blockQ_n ?_
        refine seqQ_n ?_
        refine hw_reg1 ?_
        refine dp rfl (pop_add64 rfl rfl (by omega) (by omega)) ?_
        refine dp rfl (pop_move rfl) ?_
        refine dn ?_
        exact ⟨k + 1, ⟨u, out, a2 + 1⟩, ⟨by omega, hq.same (by omega)⟩, by dsimp only; omega, ⟨rfl, rfl, trivial⟩, (by repeat (first | exact keeps_refl | refine keeps_upd rfl ?_ | refine keeps_loop rfl rfl ?_)), by repeat (first | exact List.Perm.nil | refine permTo 0 rfl ?_ | refine permTo 1 rfl ?_ | refine permTo 2 rfl ?_ | refine permTo 3 rfl ?_ | (refine permToE 0 rfl ?hq ?_; (case hq => simp [setL, hcells]; done)) | (refine permToE 1 rfl ?hq ?_; (case hq => simp [setL, hcells]; done)) | (refine permToE 2 rfl ?hq ?_; (case hq => simp [setL, hcells]; done)) | (refine permToE 3 rfl ?hq ?_; (case hq => simp [setL, hcells]; done)) | fail)⟩
    · try simp at h2
      have hnk : h.Teams.length ≤ k := by omega
      obtain rfl : k = h.Teams.length := by omega
      refine hw_exit ?_
      refine seqQ_x ?_
      refine loopQ2_x ?_
      refine blockQ_eq ?_
      refine seqQ_n ?_
      refine hw_join [8, 29, 30, 31, 32, 33, 34, 35, 36, 37, 38, 39, 40, 41, 42, 43, 44, 45, 46, 47, 48, 49, 50, 51, 52, 53, 54, 55, 56, 57, 58, 59, 60, 61, 62, 63, 64, 65] (fun (q : List PairS × Nat) => []) (fun (q : List PairS × Nat) => [St b l q.2, .arr u 2 (q.1.map ePair)]) (fun (q : List PairS × Nat) => q.1.length ≤ 4 ∧ (∀ x ∈ q.1, x.Val ∈ vals) ∧ q.2 ≤ a + 40) ?_ ?_
      · skip
        refine hw_reg ?_
        refine dp rfl (pop_move rfl) ?_
        first
        | refine de rfl (eop_lenm (i := 0) ty33 rfl rfl ?_)
        | refine de rfl (eop_lenm (i := 1) ty33 rfl rfl ?_)
        | refine de rfl (eop_lenm (i := 2) ty33 rfl rfl ?_)
        | refine de rfl (eop_lenm (i := 3) ty33 rfl rfl ?_)
        refine dp rfl (pop_gtr rfl rfl) ?_
        refine dp rfl (pop_move rfl) ?_
        refine dg rfl rfl (fun hc => ⟨_, OpenTo.refl _, pop_move rfl⟩) ?_
        refine dgx (fun x M' => ∃ (y : Bool) (a3 : Nat), x = .bool y ∧ a3 ≤ a2 + 1 ∧ M' = [St b l a3, .arr u 2 (out.map ePair)]) rfl rfl (fun hc => ⟨_, false, a2, rfl, by omega, rfl⟩) (fun hc => ⟨_, OpenTo.upd (t := 33) rfl (by first | exact hc | simp_all) (OpenTo.refl _), eop_callx (i := 0) ca28 rfl (WeakL.refl _) rfl (c_benchmake_Stream_Flip (a := a2) (by omega) (by omega)) (fun h M' hh => by
          obtain ⟨y, h1, h2⟩ := hh
          exact ⟨y, a2 + 1, h1, by omega, by rw [h2]; rfl⟩)⟩) ?_
        rintro _ _ ⟨y, a3, rfl, ha3, rfl⟩
        refine dp rfl (pop_picko rfl (.inr ⟨_, rfl, fun h => by simp_all⟩) (.inl rfl)) ?_
        refine dn ?_
        refine hw_cond rfl (fun h5 => ?_) (fun h6 => ?_)
        · try simp at h5
          have ho0 : 0 < out.length := by simp_all
          refine hw_arrc (i := 1) rfl (fun h0 he => ?_) (fun ob off cap hv hcap => ?_)
          · exfalso; have := congrArg List.length he; simp at this; subst this; simp at ho0
          subst hv
          refine hw_reg ?_
          refine dp rfl (pop_move rfl) ?_
          refine dp rfl (pop_move rfl) ?_
          refine dp rfl (pop_move rfl) ?_
          first
          | refine de rfl (eop_lenm (i := 0) ty33 rfl rfl ?_)
          | refine de rfl (eop_lenm (i := 1) ty33 rfl rfl ?_)
          | refine de rfl (eop_lenm (i := 2) ty33 rfl rfl ?_)
          | refine de rfl (eop_lenm (i := 3) ty33 rfl rfl ?_)
          first
          | refine de rfl (eop_callx (i := 0) ca26 rfl (WeakL.refl _) rfl (c_benchmake_Stream_Next (by first | assumption | omega | (simp; omega) | simp_all) (by first | assumption | omega | (simp; omega) | simp_all)) ?_)
          | refine de rfl (eop_callx (i := 1) ca26 rfl (WeakL.refl _) rfl (c_benchmake_Stream_Next (by first | assumption | omega | (simp; omega) | simp_all) (by first | assumption | omega | (simp; omega) | simp_all)) ?_)
          | refine de rfl (eop_callx (i := 2) ca26 rfl (WeakL.refl _) rfl (c_benchmake_Stream_Next (by first | assumption | omega | (simp; omega) | simp_all) (by first | assumption | omega | (simp; omega) | simp_all)) ?_)
          | refine de rfl (eop_callx (i := 3) ca26 rfl (WeakL.refl _) rfl (c_benchmake_Stream_Next (by first | assumption | omega | (simp; omega) | simp_all) (by first | assumption | omega | (simp; omega) | simp_all)) ?_)
          rintro _ _ ⟨y40, rfl, hy40, rfl⟩
          refine dp rfl (pop_idxraw (j := y40) ty33 ty56 rfl rfl rfl (by simp; omega)) ?_
          refine dp rfl (pop_assign rfl) ?_
          refine dn ?_
          obtain ⟨x, hx⟩ : ∃ x, out[y40]? = some x := ⟨_, List.getElem?_eq_getElem (by omega)⟩
          obtain ⟨x0, hx0⟩ : ∃ x, out[0]? = some x := ⟨_, List.getElem?_eq_getElem (by omega)⟩
          refine hw_draw1 (fun M => ∃ i : Nat, M[i]? = some (.arr (.slice (some ⟨ob, off, none⟩) (out.map ePair).length cap) 2 (out.map ePair))) [6, 10, 17] mixed ?_
          refine ahp 0 rfl rfl (by kernel_rfl) (by kernel_rfl) (pop_move rfl) ?_
          refine ahp 1 rfl rfl (by kernel_rfl) (by kernel_rfl) (pop_move rfl) ?_
          refine ahp 2 rfl rfl (by kernel_rfl) (by kernel_rfl) (pop_move rfl) ?_
          refine ahp 3 rfl rfl (by kernel_rfl) (by kernel_rfl) (pop_move rfl) ?_
          refine ahp 4 rfl rfl (by kernel_rfl) (by kernel_rfl) ((by first | exact pop_nilCheck rfl | exact pop_nilCheck_raw rfl)) ?_
          refine ahp 5 rfl rfl (by kernel_rfl) (by kernel_rfl) ((by first | exact pop_fieldAddr ty56 rfl ty9 (by decide) rfl | exact pop_fieldAddr_raw ty56 rfl ty9 (by decide) rfl)) ?_
          refine ahl 6 rfl rfl (by kernel_rfl) (by kernel_rfl) (by simp) ⟨1, rfl⟩ (fun M hM => by obtain ⟨i, hi⟩ := hM; exact eop_load_el (i := i) (j := y40) 0 ty9 rfl (by omega) hi hx rfl rfl ⟨rfl, rfl⟩) ?_
          refine ahp 7 rfl rfl (by kernel_rfl) (by kernel_rfl) (pop_move rfl) ?_
          refine ahp 8 rfl rfl (by kernel_rfl) (by kernel_rfl) (pop_idxraw (j := 0) ty33 ty56 rfl rfl rfl (by simp; omega)) ?_
          refine ahp 9 rfl rfl (by kernel_rfl) (by kernel_rfl) ((by first | exact pop_fieldAddr ty56 rfl ty9 (by decide) rfl | exact pop_fieldAddr_raw ty56 rfl ty9 (by decide) rfl)) ?_
          refine ahl 10 rfl rfl (by kernel_rfl) (by kernel_rfl) (by simp) ⟨1, rfl⟩ (fun M hM => by obtain ⟨i, hi⟩ := hM; exact eop_load_el (i := i) (j := 0) 0 ty9 rfl (by omega) hi hx0 rfl rfl ⟨rfl, rfl⟩) ?_
          refine ahp 11 rfl rfl (by kernel_rfl) (by kernel_rfl) (pop_buildSlice (hs := [_, _, _]) ty26 ty9 rfl rfl (by decide) (by decide) rfl) ?_
          refine ahp 13 rfl rfl (by kernel_rfl) (by kernel_rfl) (pop_move rfl) ?_
          refine ahp 14 rfl rfl (by kernel_rfl) (by kernel_rfl) (pop_move rfl) ?_
          refine ahp 15 rfl rfl (by kernel_rfl) (by kernel_rfl) ((by first | exact pop_nilCheck rfl | exact pop_nilCheck_raw rfl)) ?_
          refine ahp 16 rfl rfl (by kernel_rfl) (by kernel_rfl) ((by first | exact pop_fieldAddr ty56 rfl ty9 (by decide) rfl | exact pop_fieldAddr_raw ty56 rfl ty9 (by decide) rfl)) ?_
          refine ahl 17 rfl rfl (by kernel_rfl) (by kernel_rfl) (by simp) ⟨1, rfl⟩ (fun M hM => by obtain ⟨i, hi⟩ := hM; exact eop_load_el (i := i) (j := y40) 1 ty9 rfl (by omega) hi hx rfl rfl ⟨rfl, rfl⟩) ?_
          refine ahp 18 rfl rfl (by kernel_rfl) (by kernel_rfl) (pop_buildSlice (hs := [_, _, _, _]) ty26 ty9 rfl rfl (by decide) (by decide) rfl) ?_
          refine ahe 12 rfl (by kernel_rfl) ?_
          first
          | refine hop_e rfl (eop_callx (i := 0) ca6 rfl (WeakL.refl _) rfl (c_benchmake_Stream_Some (L := [_, _, _]) (by first | assumption | omega | (simp; omega) | simp_all) (by first | assumption | omega | (simp; omega) | simp_all) (by first | assumption | omega | (simp; omega) | simp_all)) ?_)
          | refine hop_e rfl (eop_callx (i := 1) ca6 rfl (WeakL.refl _) rfl (c_benchmake_Stream_Some (L := [_, _, _]) (by first | assumption | omega | (simp; omega) | simp_all) (by first | assumption | omega | (simp; omega) | simp_all) (by first | assumption | omega | (simp; omega) | simp_all)) ?_)
          | refine hop_e rfl (eop_callx (i := 2) ca6 rfl (WeakL.refl _) rfl (c_benchmake_Stream_Some (L := [_, _, _]) (by first | assumption | omega | (simp; omega) | simp_all) (by first | assumption | omega | (simp; omega) | simp_all) (by first | assumption | omega | (simp; omega) | simp_all)) ?_)
          | refine hop_e rfl (eop_callx (i := 3) ca6 rfl (WeakL.refl _) rfl (c_benchmake_Stream_Some (L := [_, _, _]) (by first | assumption | omega | (simp; omega) | simp_all) (by first | assumption | omega | (simp; omega) | simp_all) (by first | assumption | omega | (simp; omega) | simp_all)) ?_)
          rintro _ _ ⟨y54, rfl, hy54, rfl⟩
          refine ⟨fun _ => by first | exact .inl ⟨0, rfl⟩ | exact .inl ⟨1, rfl⟩ | exact .inl ⟨2, rfl⟩ | exact .inr (by simp [Before, Region.binds]), ?_⟩
          refine ahe 19 rfl (by kernel_rfl) ?_
          first
          | refine hop_e rfl (eop_callx (i := 0) ca6 rfl (WeakL.refl _) rfl (c_benchmake_Stream_Some (L := [_, _, _, _]) (by first | assumption | omega | (simp; omega) | simp_all) (by first | assumption | omega | (simp; omega) | simp_all) (by first | assumption | omega | (simp; omega) | simp_all)) ?_)
          | refine hop_e rfl (eop_callx (i := 1) ca6 rfl (WeakL.refl _) rfl (c_benchmake_Stream_Some (L := [_, _, _, _]) (by first | assumption | omega | (simp; omega) | simp_all) (by first | assumption | omega | (simp; omega) | simp_all) (by first | assumption | omega | (simp; omega) | simp_all)) ?_)
          | refine hop_e rfl (eop_callx (i := 2) ca6 rfl (WeakL.refl _) rfl (c_benchmake_Stream_Some (L := [_, _, _, _]) (by first | assumption | omega | (simp; omega) | simp_all) (by first | assumption | omega | (simp; omega) | simp_all) (by first | assumption | omega | (simp; omega) | simp_all)) ?_)
          | refine hop_e rfl (eop_callx (i := 3) ca6 rfl (WeakL.refl _) rfl (c_benchmake_Stream_Some (L := [_, _, _, _]) (by first | assumption | omega | (simp; omega) | simp_all) (by first | assumption | omega | (simp; omega) | simp_all) (by first | assumption | omega | (simp; omega) | simp_all)) ?_)
          rintro _ _ ⟨y61, rfl, hy61, rfl⟩
          refine ⟨fun _ => by first | exact .inl ⟨0, rfl⟩ | exact .inl ⟨1, rfl⟩ | exact .inl ⟨2, rfl⟩ | exact .inr (by simp [Before, Region.binds]), ?_⟩
          refine ahp 20 rfl rfl (by kernel_rfl) (by kernel_rfl) ((by first | exact pop_nilCheck rfl | exact pop_nilCheck_raw rfl)) ?_
          refine ahp 21 rfl rfl (by kernel_rfl) (by kernel_rfl) ((by first | exact pop_fieldAddr ty56 rfl ty9 (by decide) rfl | exact pop_fieldAddr_raw ty56 rfl ty9 (by decide) rfl)) ?_
          refine ahe 22 rfl (by kernel_rfl) ?_
          refine hop_e0 (eop_store_arr (i := 1) (j := y40) (f := 0) (y := ePair x) (y' := ePair ⟨y54, x.Val⟩) ty9 rfl (by omega) rfl rfl (map_get hx) rfl rfl (by simp [hcells]) rfl ?_)
          refine ⟨fun _ => .inr (by simp [Before, Region.binds]), ?_⟩
          refine ahp 23 rfl rfl (by kernel_rfl) (by kernel_rfl) ((by first | exact pop_nilCheck rfl | exact pop_nilCheck_raw rfl)) ?_
          refine ahp 24 rfl rfl (by kernel_rfl) (by kernel_rfl) ((by first | exact pop_fieldAddr ty56 rfl ty9 (by decide) rfl | exact pop_fieldAddr_raw ty56 rfl ty9 (by decide) rfl)) ?_
          refine ahe 25 rfl (by kernel_rfl) ?_
          refine hop_e0 (eop_store_arr (i := 1) (j := y40) (f := 1) (y := ePair ⟨y54, x.Val⟩) (y' := ePair ⟨y54, y61⟩) ty9 rfl (by omega) rfl rfl (set_self (map_get hx)) rfl rfl (by simp [hcells]) rfl ?_)
          refine ⟨fun _ => .inr (by simp [Before, Region.binds]), ?_⟩
          refine ahz (by kernel_rfl) ?_
          exact ⟨(out.set y40 ⟨y54, y61⟩, a3 + 3), ⟨by simp; omega, all_set (P := GoodL) g2 (by simp at hy61; rcases hy61 with rfl | rfl | rfl | rfl; exact g2 x (List.mem_of_getElem? hx); all_goals (dsimp only [GoodL]; simp [vals])), by dsimp only; omega⟩, trivial, (by repeat (first | exact keeps_refl | refine keeps_upd rfl ?_ | refine keeps_loop rfl rfl ?_)), by repeat (first | exact List.Perm.nil | refine permTo 0 rfl ?_ | refine permTo 1 rfl ?_ | refine permTo 2 rfl ?_ | refine permTo 3 rfl ?_ | (refine permToE 0 rfl ?hq ?_; (case hq => simp [setL, hcells]; done)) | (refine permToE 1 rfl ?hq ?_; (case hq => simp [setL, hcells]; done)) | (refine permToE 2 rfl ?hq ?_; (case hq => simp [setL, hcells]; done)) | (refine permToE 3 rfl ?hq ?_; (case hq => simp [setL, hcells]; done)) | fail)⟩
        · try simp at h6
          refine hw_skip ?_
          exact ⟨(out, a3), ⟨by dsimp only; omega, g2, by dsimp only; omega⟩, trivial, (by repeat (first | exact keeps_refl | refine keeps_upd rfl ?_ | refine keeps_loop rfl rfl ?_)), by repeat (first | exact List.Perm.nil | refine permTo 0 rfl ?_ | refine permTo 1 rfl ?_ | refine permTo 2 rfl ?_ | refine permTo 3 rfl ?_ | (refine permToE 0 rfl ?hq ?_; (case hq => simp [setL, hcells]; done)) | (refine permToE 1 rfl ?hq ?_; (case hq => simp [setL, hcells]; done)) | (refine permToE 2 rfl ?hq ?_; (case hq => simp [setL, hcells]; done)) | (refine permToE 3 rfl ?hq ?_; (case hq => simp [setL, hcells]; done)) | fail)⟩
      · intro q hq3
        obtain ⟨k1, a4⟩ := q
        dsimp only at hq3
        obtain ⟨q1, q2, q3⟩ := hq3
        refine hw_reg ?_
        refine dp rfl (pop_move rfl) ?_
        refine dp rfl (pop_assign rfl) ?_
        refine dn ?_
        refine hw_ret ?_
        refine ret_g (Ghost.fa 4 (i := 1) rfl rfl) rfl ⟨k1, a4, rfl, ⟨by omega, q2⟩, by omega, rfl⟩

set_option maxHeartbeats 2000000 in
/-- (*benchwarmer/benchmake.Stream).SaleList -/
theorem c_benchmake_Stream_SaleList {b : Nat} {l : List Int} {a : Nat} {h : Hall} (ha : a ≤ 700000) (hh : GoodHall h) : Con Tryz.prog 5 [pAt b, eHall h] [St b l a] (fun x M' => ∃ k a', x = eSales k ∧ GoodSales k ∧ a' ≤ a + 200 ∧ M' = [St b l a']) := by
  have ht4 := hh.t4
  have hp20 := hh.p20
  have ht0 := hh.t0
  have hts := hh.ts
  have hps := hh.ps
  refine Con.of_body Tryz.func5 rfl Tryz.ntmps5 rfl rfl ?_
  refine hw_reg ?_
  refine dp rfl (pop_box rfl rfl) ?_
  refine dp rfl (pop_assign rfl) ?_
  refine dn ?_
  refine hw_seq ?_
  refine hw_reg ?_
  refine dp rfl (pop_loadw ty28 rfl rfl rfl rfl) ?_
  refine dp rfl (pop_call ca8 rfl (WeakL.refl _) (c_benchref1_HallFault (by first | assumption | omega | (simp; omega) | simp_all) (by first | assumption | omega | (simp; omega) | simp_all) (by first | assumption | omega | (simp; omega) | simp_all) (by first | assumption | omega | (simp; omega) | simp_all))) ?_
  refine dp rfl (pop_neq rfl rfl) ?_
  refine dn ?_
  refine hw_cond rfl (fun h1 => ?_) (fun h2 => ?_)
  · try simp at h1
    refine hw_reg ?_
    refine dp rfl (pop_assign rfl) ?_
    refine dn ?_
    refine hw_ret ?_
    first
    | exact ⟨_, _, Ghost.sub (Sub.refl _), _, .slice 3 [], rfl, weak_nil 3, [], a, rfl, ⟨by simp, by simp⟩, by omega, rfl⟩
    | refine ret_g (Ghost.fa 4 (i := 1) rfl rfl) rfl ⟨k1, a4, rfl, ⟨by omega, q2⟩, by omega, rfl⟩
  · try simp at h2
    refine hw_skip ?_
    refine seqQ_n ?_
    refine hw_reg ?_
    refine dp rfl (pop_assign rfl) ?_
    refine dn ?_
    obtain ⟨f1, f2, f3, f4⟩ := hallFault_ok (h := h) (by simpa using h2)
    have hpn := hall_players (h := h) (by simpa using h2)
    refine hw_ghost (Ghost.arr_nil 3) ?_
    refine hw_seq ?_
    refine hw_reg ?_
    refine dp rfl (pop_move rfl) ?_
    refine dp rfl ((by first | exact pop_fieldAddr ty28 rfl ty26 (by decide) rfl | exact pop_fieldAddr_raw ty28 rfl ty26 (by decide) rfl)) ?_
    refine dp rfl (pop_load ty26 rfl rfl rfl) ?_
    refine dp rfl (pop_lenm ty26 rfl) ?_
    refine de rfl (eop_callx (i := 1) ca30 rfl (WeakL.refl _) rfl (c_benchmake_Stream_Order (n := h.Players.length) (by omega) (by omega) (by omega)) ?_)
    rintro _ _ ⟨L18, a18, rfl, hL18, ha18, rfl⟩
    refine dp rfl (pop_lenm ty22 rfl) ?_
    refine dp rfl (pop_move rfl) ?_
    refine dn ?_
    obtain ⟨hLn, hLb⟩ := hL18
    refine hw_block ?_
    refine hw_loopw2 [5, 7, 8, 9, 20, 21, 22, 23, 24, 25, 26, 27, 28, 29, 30, 31, 32, 33, 34, 35, 36, 37, 38, 39, 40, 41, 42, 43, 44, 45, 46, 47, 48, 49, 50, 51, 52, 53, 54] (fun (k : Nat) (q : GL Sale) => [(20, .int .i64 k), (5, .raw q.u)]) (fun (k : Nat) (q : GL Sale) => [St b l q.a, .arr q.u 3 (q.out.map eSale)]) (fun (k : Nat) (q : GL Sale) => k ≤ L18.length ∧ (GLok GoodS k (a18 + 3 * k) q)) (fun (k : Nat) (q : GL Sale) => L18.length - k) (0) (⟨.slice none 0 0, [], a18⟩) ?_ ?_ ?_ ?_
    · exact ⟨Nat.zero_le _, ⟨by simp, by simp, by dsimp only; omega⟩⟩
    · exact ⟨rfl, rfl, trivial⟩
    · repeat (first | exact List.Perm.nil | refine permTo 0 rfl ?_ | refine permTo 1 rfl ?_ | refine permTo 2 rfl ?_ | refine permTo 3 rfl ?_ | (refine permToE 0 rfl ?hq ?_; (case hq => simp [setL, hcells]; done)) | (refine permToE 1 rfl ?hq ?_; (case hq => simp [setL, hcells]; done)) | (refine permToE 2 rfl ?hq ?_; (case hq => simp [setL, hcells]; done)) | (refine permToE 3 rfl ?hq ?_; (case hq => simp [setL, hcells]; done)) | fail)
    · intro k q hinv
      obtain ⟨hk, hq⟩ := hinv
      obtain ⟨u, out, a2⟩ := q
      obtain ⟨g1, g2, g3⟩ := id hq
      dsimp only at g1 g2 g3
      refine hw_reg ?_
      refine dp rfl (pop_lss rfl rfl) ?_
      refine dn ?_
      refine hw_seq ?_
      refine hw_cond rfl (fun h3 => ?_) (fun h4 => ?_)
      · try simp at h3
        obtain ⟨x, hx⟩ : ∃ x, L18[k]? = some x := ⟨_, List.getElem?_eq_getElem h3⟩
        have hdx := drop_cons hx
        refine hw_skip ?_
        refine seqQ_n ?_
        refine hw_seq ?_
        refine hw_block ?_
        refine hw_reg ?_
        refine dp rfl (pop_idx ty22 ty3 rfl rfl rfl (by first | assumption | simp_all)) ?_
        refine dp rfl (pop_load ty3 rfl rfl rfl) ?_
        refine dp rfl (pop_assign rfl) ?_
        refine dn ?_
        refine hw_reg ?_
        refine dp rfl (pop_move rfl) ?_
        refine dp rfl ((by first | exact pop_fieldAddr ty28 rfl ty26 (by decide) rfl | exact pop_fieldAddr_raw ty28 rfl ty26 (by decide) rfl)) ?_
        refine dp rfl (pop_load ty26 rfl rfl rfl) ?_
        first
        | refine de rfl (eop_callx (i := 0) ca6 rfl (WeakL.refl _) rfl (c_benchmake_Stream_Some (by first | assumption | omega | (simp; omega) | simp_all) (by first | assumption | omega | (simp; omega) | simp_all) (by first | assumption | omega | (simp; omega) | simp_all)) ?_)
        | refine de rfl (eop_callx (i := 1) ca6 rfl (WeakL.refl _) rfl (c_benchmake_Stream_Some (by first | assumption | omega | (simp; omega) | simp_all) (by first | assumption | omega | (simp; omega) | simp_all) (by first | assumption | omega | (simp; omega) | simp_all)) ?_)
        | refine de rfl (eop_callx (i := 2) ca6 rfl (WeakL.refl _) rfl (c_benchmake_Stream_Some (by first | assumption | omega | (simp; omega) | simp_all) (by first | assumption | omega | (simp; omega) | simp_all) (by first | assumption | omega | (simp; omega) | simp_all)) ?_)
        | refine de rfl (eop_callx (i := 3) ca6 rfl (WeakL.refl _) rfl (c_benchmake_Stream_Some (by first | assumption | omega | (simp; omega) | simp_all) (by first | assumption | omega | (simp; omega) | simp_all) (by first | assumption | omega | (simp; omega) | simp_all)) ?_)
        rintro _ _ ⟨y27, rfl, hy27, rfl⟩
        refine dp rfl (pop_assign rfl) ?_
        refine dn ?_
        refine hw_reg ?_
        refine dp rfl (pop_loadw ty28 rfl rfl rfl rfl) ?_
        refine dp rfl (pop_move rfl) ?_
        refine dp rfl (pop_move rfl) ?_
        refine de rfl (eop_callb (hs' := [eHall h, eSales out, .str y27]) ca19 rfl ⟨.weak (Weak.refl _), .arr (i := 1) rfl, .weak (Weak.refl _), trivial⟩ (c_benchref1_MostOf (h := h) (l := out) (t := y27) (by omega) (fun x hx => by have := g2 x hx; dsimp only [GoodS] at this; omega) (by omega) (by omega)) rfl ?_)
        refine dp rfl (pop_assign rfl) ?_
        refine dn ?_
        have hmo := mostOf_le (h := h) (l := out) g2 (by omega) (by omega) (by omega) y27
        refine hw_seq ?_
        refine hw_reg ?_
        refine dp rfl (pop_move rfl) ?_
        first
        | refine de rfl (eop_callx (i := 0) ca28 rfl (WeakL.refl _) rfl (c_benchmake_Stream_Flip (by first | assumption | omega | (simp; omega) | simp_all) (by first | assumption | omega | (simp; omega) | simp_all)) ?_)
        | refine de rfl (eop_callx (i := 1) ca28 rfl (WeakL.refl _) rfl (c_benchmake_Stream_Flip (by first | assumption | omega | (simp; omega) | simp_all) (by first | assumption | omega | (simp; omega) | simp_all)) ?_)
        | refine de rfl (eop_callx (i := 2) ca28 rfl (WeakL.refl _) rfl (c_benchmake_Stream_Flip (by first | assumption | omega | (simp; omega) | simp_all) (by first | assumption | omega | (simp; omega) | simp_all)) ?_)
        | refine de rfl (eop_callx (i := 3) ca28 rfl (WeakL.refl _) rfl (c_benchmake_Stream_Flip (by first | assumption | omega | (simp; omega) | simp_all) (by first | assumption | omega | (simp; omega) | simp_all)) ?_)
        rintro _ _ ⟨y33, rfl, rfl⟩
        refine dp rfl (pop_move rfl) ?_
        refine dg rfl rfl (fun hc => ⟨_, OpenTo.refl _, pop_move rfl⟩) ?_
        refine dg rfl rfl (fun hc => ⟨_, OpenTo.upd (t := 35) rfl (by first | exact hc | simp_all) (OpenTo.refl _), pop_lss rfl rfl⟩) ?_
        refine dp rfl (pop_picko rfl (.inl rfl) (.inr ⟨_, rfl, fun h => by simp_all⟩)) ?_
        refine dn ?_
        refine hw_cond rfl (fun h5 => ?_) (fun h6 => ?_)
        · try simp at h5
          refine hw_exit ?_
          refine seqQ_x ?_
          refine blockQ_eq ?_
          refine seqQ_n ?_
          refine hw_reg1 ?_
          refine dp rfl (pop_add64 rfl rfl (by omega) (by omega)) ?_
          refine dp rfl (pop_move rfl) ?_
          refine dn ?_
          exact ⟨k + 1, ⟨u, out, a2 + 2⟩, ⟨by omega, hq.same (by omega)⟩, by dsimp only; omega, ⟨rfl, rfl, trivial⟩, (by repeat (first | exact keeps_refl | refine keeps_upd rfl ?_ | refine keeps_loop rfl rfl ?_)), by repeat (first | exact List.Perm.nil | refine permTo 0 rfl ?_ | refine permTo 1 rfl ?_ | refine permTo 2 rfl ?_ | refine permTo 3 rfl ?_ | (refine permToE 0 rfl ?hq ?_; (case hq => simp [setL, hcells]; done)) | (refine permToE 1 rfl ?hq ?_; (case hq => simp [setL, hcells]; done)) | (refine permToE 2 rfl ?hq ?_; (case hq => simp [setL, hcells]; done)) | (refine permToE 3 rfl ?hq ?_; (case hq => simp [setL, hcells]; done)) | fail)⟩
        · try simp at h6
          refine hw_skip ?_
          refine seqQ_n ?_
          refine hw_draw1 (fun _ => True) [] mixed ?_
          refine ahp 0 rfl rfl (by kernel_rfl) (by kernel_rfl) (pop_move rfl) ?_
          refine ahp 1 rfl rfl (by kernel_rfl) (by kernel_rfl) ((by first | exact pop_fieldAddr ty28 rfl ty26 (by decide) rfl | exact pop_fieldAddr_raw ty28 rfl ty26 (by decide) rfl)) ?_
          refine ahp 2 rfl rfl (by kernel_rfl) (by kernel_rfl) (pop_load ty26 rfl rfl rfl) ?_
          refine ahp 3 rfl rfl (by kernel_rfl) (by kernel_rfl) (pop_move rfl) ?_
          refine ahp 4 rfl rfl (by kernel_rfl) (by kernel_rfl) (pop_idx (j := x.toNat) (a := h.Players.getD x.toNat []) ty26 ty9 rfl rfl (by have := hLb x (List.mem_of_getElem? hx); omega) (getD_some (by have := hLb x (List.mem_of_getElem? hx); omega))) ?_
          refine ahp 5 rfl rfl (by kernel_rfl) (by kernel_rfl) (pop_load ty9 rfl rfl rfl) ?_
          refine ahp 6 rfl rfl (by kernel_rfl) (by kernel_rfl) (pop_move rfl) ?_
          refine ahp 7 rfl rfl (by kernel_rfl) (by kernel_rfl) (pop_move rfl) ?_
          refine ahp 8 rfl rfl (by kernel_rfl) (by kernel_rfl) (pop_move rfl) ?_
          refine ahp 9 rfl rfl (by kernel_rfl) (by kernel_rfl) (pop_eq (pop_min rfl rfl) (congrArg (HVal.int .i64) (mn_eq _ _))) ?_
          refine ahp 10 rfl rfl (by kernel_rfl) (by kernel_rfl) (pop_move rfl) ?_
          refine ahp 11 rfl rfl (by kernel_rfl) (by kernel_rfl) (pop_buildSlice (hs := [_, _, _]) ty22 ty3 rfl rfl (by decide) (by decide) rfl) ?_
          refine ahe 12 rfl (by kernel_rfl) ?_
          first
          | refine hop_e rfl (eop_callx (i := 0) ca25 rfl (WeakL.refl _) rfl (c_benchmake_Stream_Pick (L := [_, _, _]) (by first | assumption | omega | (simp; omega) | simp_all) (by first | assumption | omega | (simp; omega) | simp_all) (by first | assumption | omega | (simp; omega) | simp_all)) ?_)
          | refine hop_e rfl (eop_callx (i := 1) ca25 rfl (WeakL.refl _) rfl (c_benchmake_Stream_Pick (L := [_, _, _]) (by first | assumption | omega | (simp; omega) | simp_all) (by first | assumption | omega | (simp; omega) | simp_all) (by first | assumption | omega | (simp; omega) | simp_all)) ?_)
          | refine hop_e rfl (eop_callx (i := 2) ca25 rfl (WeakL.refl _) rfl (c_benchmake_Stream_Pick (L := [_, _, _]) (by first | assumption | omega | (simp; omega) | simp_all) (by first | assumption | omega | (simp; omega) | simp_all) (by first | assumption | omega | (simp; omega) | simp_all)) ?_)
          | refine hop_e rfl (eop_callx (i := 3) ca25 rfl (WeakL.refl _) rfl (c_benchmake_Stream_Pick (L := [_, _, _]) (by first | assumption | omega | (simp; omega) | simp_all) (by first | assumption | omega | (simp; omega) | simp_all) (by first | assumption | omega | (simp; omega) | simp_all)) ?_)
          rintro _ _ ⟨y50, rfl, hy50, rfl⟩
          refine ⟨fun _ => .inl trivial, ?_⟩
          refine ahp 13 rfl rfl (by kernel_rfl) (by kernel_rfl) (pop_build (cs := [_, _, _]) ty43 pl43 rfl) ?_
          refine ahp 14 rfl rfl (by kernel_rfl) (by kernel_rfl) (pop_buildSlice (hs := [_]) ty30 ty43 rfl rfl (by decide) (by decide) rfl) ?_
          refine ahe 15 rfl (by kernel_rfl) ?_
          first
          | refine hop_e rfl (eop_append (i := 0) ty30 ty43 rfl rfl rfl rfl rfl (by simp [flat, hcells]) (by first | omega | (simp; omega)) fun v53 => ?_)
          | refine hop_e rfl (eop_append (i := 1) ty30 ty43 rfl rfl rfl rfl rfl (by simp [flat, hcells]) (by first | omega | (simp; omega)) fun v53 => ?_)
          | refine hop_e rfl (eop_append (i := 2) ty30 ty43 rfl rfl rfl rfl rfl (by simp [flat, hcells]) (by first | omega | (simp; omega)) fun v53 => ?_)
          | refine hop_e rfl (eop_append (i := 3) ty30 ty43 rfl rfl rfl rfl rfl (by simp [flat, hcells]) (by first | omega | (simp; omega)) fun v53 => ?_)
          refine ⟨fun _ => .inl trivial, ?_⟩
          refine ahp 16 rfl rfl (by kernel_rfl) (by kernel_rfl) (pop_assign rfl) ?_
          refine ahz (by kernel_rfl) ?_
          refine blockQ_n ?_
          refine seqQ_n ?_
          refine hw_reg1 ?_
          refine dp rfl (pop_add64 rfl rfl (by omega) (by omega)) ?_
          refine dp rfl (pop_move rfl) ?_
          refine dn ?_
          exact ⟨k + 1, ⟨v53, out ++ [⟨h.Players.getD x.toNat [], y27, y50⟩], a2 + 3⟩, ⟨by omega, hq.add (x := (⟨h.Players.getD x.toNat [], y27, y50⟩ : Sale)) (by dsimp only [GoodS]; have hh6 := h6.2; simp at hy50; rcases hy50 with rfl | rfl | rfl <;> omega) (by omega)⟩, by dsimp only; omega, ⟨rfl, rfl, trivial⟩, (by repeat (first | exact keeps_refl | refine keeps_upd rfl ?_ | refine keeps_loop rfl rfl ?_)), by repeat (first | exact List.Perm.nil | refine permTo 0 rfl ?_ | refine permTo 1 rfl ?_ | refine permTo 2 rfl ?_ | refine permTo 3 rfl ?_ | (refine permToE 0 rfl ?hq ?_; (case hq => simp [setL, hcells]; done)) | (refine permToE 1 rfl ?hq ?_; (case hq => simp [setL, hcells]; done)) | (refine permToE 2 rfl ?hq ?_; (case hq => simp [setL, hcells]; done)) | (refine permToE 3 rfl ?hq ?_; (case hq => simp [setL, hcells]; done)) | fail)⟩
      · try simp at h4
        have hnk : L18.length ≤ k := by omega
        obtain rfl : k = L18.length := by omega
        refine hw_exit ?_
        refine seqQ_x ?_
        refine loopQ2_x ?_
        refine blockQ_eq ?_
        refine seqQ_n ?_
        refine hw_join [10, 55, 56, 57, 58, 59, 60, 61, 62, 63, 64, 65, 66, 67, 68, 69, 70, 71, 72, 73, 74, 75, 76, 77, 78, 79, 80, 81, 82, 83, 84, 85, 86, 87, 88, 89, 90, 91, 92, 93, 94, 95, 96, 97, 98, 99, 100, 101, 102, 103, 104, 105, 106] (fun (q : List Sale × Nat) => []) (fun (q : List Sale × Nat) => [St b l q.2, .arr u 3 (q.1.map eSale)]) (fun (q : List Sale × Nat) => q.1.length ≤ 20 ∧ (∀ x ∈ q.1, 0 ≤ x.Price ∧ x.Price ≤ 1000101) ∧ q.2 ≤ a + 200) ?_ ?_
        · skip
          refine hw_reg ?_
          refine dp rfl (pop_move rfl) ?_
          first
          | refine de rfl (eop_lenm (i := 0) ty30 rfl rfl ?_)
          | refine de rfl (eop_lenm (i := 1) ty30 rfl rfl ?_)
          | refine de rfl (eop_lenm (i := 2) ty30 rfl rfl ?_)
          | refine de rfl (eop_lenm (i := 3) ty30 rfl rfl ?_)
          refine dp rfl (pop_gtr rfl rfl) ?_
          refine dp rfl (pop_move rfl) ?_
          refine dg rfl rfl (fun hc => ⟨_, OpenTo.refl _, pop_move rfl⟩) ?_
          refine dgx (fun x M' => ∃ (y : Bool) (a3 : Nat), x = .bool y ∧ a3 ≤ a2 + 1 ∧ M' = [St b l a3, .arr u 3 (out.map eSale)]) rfl rfl (fun hc => ⟨_, false, a2, rfl, by omega, rfl⟩) (fun hc => ⟨_, OpenTo.upd (t := 59) rfl (by first | exact hc | simp_all) (OpenTo.refl _), eop_callx (i := 0) ca28 rfl (WeakL.refl _) rfl (c_benchmake_Stream_Flip (a := a2) (by omega) (by omega)) (fun h M' hh => by
            obtain ⟨y, h1, h2⟩ := hh
            exact ⟨y, a2 + 1, h1, by omega, by rw [h2]; rfl⟩)⟩) ?_
          rintro _ _ ⟨y, a3, rfl, ha3, rfl⟩
          refine dp rfl (pop_picko rfl (.inr ⟨_, rfl, fun h => by simp_all⟩) (.inl rfl)) ?_
          refine dn ?_
          refine hw_cond rfl (fun h7 => ?_) (fun h8 => ?_)
          · try simp at h7
            have ho0 : 0 < out.length := by simp_all
            refine hw_arrc (i := 1) rfl (fun h0 he => ?_) (fun ob off cap hv hcap => ?_)
            · exfalso; have := congrArg List.length he; simp at this; subst this; simp at ho0
            subst hv
            refine hw_reg ?_
            refine dp rfl (pop_move rfl) ?_
            refine dp rfl (pop_move rfl) ?_
            refine dp rfl (pop_move rfl) ?_
            first
            | refine de rfl (eop_lenm (i := 0) ty30 rfl rfl ?_)
            | refine de rfl (eop_lenm (i := 1) ty30 rfl rfl ?_)
            | refine de rfl (eop_lenm (i := 2) ty30 rfl rfl ?_)
            | refine de rfl (eop_lenm (i := 3) ty30 rfl rfl ?_)
            first
            | refine de rfl (eop_callx (i := 0) ca26 rfl (WeakL.refl _) rfl (c_benchmake_Stream_Next (by first | assumption | omega | (simp; omega) | simp_all) (by first | assumption | omega | (simp; omega) | simp_all)) ?_)
            | refine de rfl (eop_callx (i := 1) ca26 rfl (WeakL.refl _) rfl (c_benchmake_Stream_Next (by first | assumption | omega | (simp; omega) | simp_all) (by first | assumption | omega | (simp; omega) | simp_all)) ?_)
            | refine de rfl (eop_callx (i := 2) ca26 rfl (WeakL.refl _) rfl (c_benchmake_Stream_Next (by first | assumption | omega | (simp; omega) | simp_all) (by first | assumption | omega | (simp; omega) | simp_all)) ?_)
            | refine de rfl (eop_callx (i := 3) ca26 rfl (WeakL.refl _) rfl (c_benchmake_Stream_Next (by first | assumption | omega | (simp; omega) | simp_all) (by first | assumption | omega | (simp; omega) | simp_all)) ?_)
            rintro _ _ ⟨y66, rfl, hy66, rfl⟩
            refine dp rfl (pop_idxraw (j := y66) ty30 ty43 rfl rfl rfl (by simp; omega)) ?_
            refine dp rfl (pop_assign rfl) ?_
            refine dn ?_
            obtain ⟨x, hx⟩ : ∃ x, out[y66]? = some x := ⟨_, List.getElem?_eq_getElem (by omega)⟩
            obtain ⟨x0, hx0⟩ : ∃ x, out[0]? = some x := ⟨_, List.getElem?_eq_getElem (by omega)⟩
            have hgx := g2 x (List.mem_of_getElem? hx)
            dsimp only [GoodS] at hgx
            refine hw_draw1 (fun M => ∃ i : Nat, M[i]? = some (.arr (.slice (some ⟨ob, off, none⟩) (out.map eSale).length cap) 3 (out.map eSale))) [7, 11, 18, 25, 29] mixed ?_
            refine ahp 0 rfl rfl (by kernel_rfl) (by kernel_rfl) (pop_move rfl) ?_
            refine ahp 1 rfl rfl (by kernel_rfl) (by kernel_rfl) (pop_move rfl) ?_
            refine ahp 2 rfl rfl (by kernel_rfl) (by kernel_rfl) (pop_move rfl) ?_
            refine ahp 3 rfl rfl (by kernel_rfl) (by kernel_rfl) (pop_move rfl) ?_
            refine ahp 4 rfl rfl (by kernel_rfl) (by kernel_rfl) (pop_move rfl) ?_
            refine ahp 5 rfl rfl (by kernel_rfl) (by kernel_rfl) ((by first | exact pop_nilCheck rfl | exact pop_nilCheck_raw rfl)) ?_
            refine ahp 6 rfl rfl (by kernel_rfl) (by kernel_rfl) ((by first | exact pop_fieldAddr ty43 rfl ty9 (by decide) rfl | exact pop_fieldAddr_raw ty43 rfl ty9 (by decide) rfl)) ?_
            refine ahl 7 rfl rfl (by kernel_rfl) (by kernel_rfl) (by simp) ⟨1, rfl⟩ (fun M hM => by obtain ⟨i, hi⟩ := hM; exact eop_load_el (i := i) (j := y66) 0 ty9 rfl (by omega) hi hx rfl rfl ⟨rfl, rfl⟩) ?_
            refine ahp 8 rfl rfl (by kernel_rfl) (by kernel_rfl) (pop_move rfl) ?_
            refine ahp 9 rfl rfl (by kernel_rfl) (by kernel_rfl) (pop_idxraw (j := 0) ty30 ty43 rfl rfl rfl (by simp; omega)) ?_
            refine ahp 10 rfl rfl (by kernel_rfl) (by kernel_rfl) ((by first | exact pop_fieldAddr ty43 rfl ty9 (by decide) rfl | exact pop_fieldAddr_raw ty43 rfl ty9 (by decide) rfl)) ?_
            refine ahl 11 rfl rfl (by kernel_rfl) (by kernel_rfl) (by simp) ⟨1, rfl⟩ (fun M hM => by obtain ⟨i, hi⟩ := hM; exact eop_load_el (i := i) (j := 0) 0 ty9 rfl (by omega) hi hx0 rfl rfl ⟨rfl, rfl⟩) ?_
            refine ahp 12 rfl rfl (by kernel_rfl) (by kernel_rfl) (pop_buildSlice (hs := [_, _, _]) ty26 ty9 rfl rfl (by decide) (by decide) rfl) ?_
            refine ahp 14 rfl rfl (by kernel_rfl) (by kernel_rfl) (pop_move rfl) ?_
            refine ahp 15 rfl rfl (by kernel_rfl) (by kernel_rfl) (pop_move rfl) ?_
            refine ahp 16 rfl rfl (by kernel_rfl) (by kernel_rfl) ((by first | exact pop_nilCheck rfl | exact pop_nilCheck_raw rfl)) ?_
            refine ahp 17 rfl rfl (by kernel_rfl) (by kernel_rfl) ((by first | exact pop_fieldAddr ty43 rfl ty9 (by decide) rfl | exact pop_fieldAddr_raw ty43 rfl ty9 (by decide) rfl)) ?_
            refine ahl 18 rfl rfl (by kernel_rfl) (by kernel_rfl) (by simp) ⟨1, rfl⟩ (fun M hM => by obtain ⟨i, hi⟩ := hM; exact eop_load_el (i := i) (j := y66) 1 ty9 rfl (by omega) hi hx rfl rfl ⟨rfl, rfl⟩) ?_
            refine ahp 19 rfl rfl (by kernel_rfl) (by kernel_rfl) (pop_buildSlice (hs := [_, _, _]) ty26 ty9 rfl rfl (by decide) (by decide) rfl) ?_
            refine ahp 21 rfl rfl (by kernel_rfl) (by kernel_rfl) (pop_move rfl) ?_
            refine ahp 22 rfl rfl (by kernel_rfl) (by kernel_rfl) (pop_move rfl) ?_
            refine ahp 23 rfl rfl (by kernel_rfl) (by kernel_rfl) ((by first | exact pop_nilCheck rfl | exact pop_nilCheck_raw rfl)) ?_
            refine ahp 24 rfl rfl (by kernel_rfl) (by kernel_rfl) ((by first | exact pop_fieldAddr ty43 rfl ty3 (by decide) rfl | exact pop_fieldAddr_raw ty43 rfl ty3 (by decide) rfl)) ?_
            refine ahl 25 rfl rfl (by kernel_rfl) (by kernel_rfl) (by simp) ⟨1, rfl⟩ (fun M hM => by obtain ⟨i, hi⟩ := hM; exact eop_load_el (i := i) (j := y66) 2 ty3 rfl (by omega) hi hx rfl rfl ⟨rfl, rfl⟩) ?_
            refine ahp 26 rfl rfl (by kernel_rfl) (by kernel_rfl) (pop_move rfl) ?_
            refine ahp 27 rfl rfl (by kernel_rfl) (by kernel_rfl) ((by first | exact pop_nilCheck rfl | exact pop_nilCheck_raw rfl)) ?_
            refine ahp 28 rfl rfl (by kernel_rfl) (by kernel_rfl) ((by first | exact pop_fieldAddr ty43 rfl ty3 (by decide) rfl | exact pop_fieldAddr_raw ty43 rfl ty3 (by decide) rfl)) ?_
            refine ahl 29 rfl rfl (by kernel_rfl) (by kernel_rfl) (by simp) ⟨1, rfl⟩ (fun M hM => by obtain ⟨i, hi⟩ := hM; exact eop_load_el (i := i) (j := y66) 2 ty3 rfl (by omega) hi hx rfl rfl ⟨rfl, rfl⟩) ?_
            refine ahp 30 rfl rfl (by kernel_rfl) (by kernel_rfl) (pop_add64 rfl rfl (by omega) (by omega)) ?_
            refine ahp 31 rfl rfl (by kernel_rfl) (by kernel_rfl) (pop_buildSlice (hs := [_, _, _, _]) ty22 ty3 rfl rfl (by decide) (by decide) rfl) ?_
            refine ahe 13 rfl (by kernel_rfl) ?_
            first
            | refine hop_e rfl (eop_callx (i := 0) ca6 rfl (WeakL.refl _) rfl (c_benchmake_Stream_Some (L := [_, _, _]) (by first | assumption | omega | (simp; omega) | simp_all) (by first | assumption | omega | (simp; omega) | simp_all) (by first | assumption | omega | (simp; omega) | simp_all)) ?_)
            | refine hop_e rfl (eop_callx (i := 1) ca6 rfl (WeakL.refl _) rfl (c_benchmake_Stream_Some (L := [_, _, _]) (by first | assumption | omega | (simp; omega) | simp_all) (by first | assumption | omega | (simp; omega) | simp_all) (by first | assumption | omega | (simp; omega) | simp_all)) ?_)
            | refine hop_e rfl (eop_callx (i := 2) ca6 rfl (WeakL.refl _) rfl (c_benchmake_Stream_Some (L := [_, _, _]) (by first | assumption | omega | (simp; omega) | simp_all) (by first | assumption | omega | (simp; omega) | simp_all) (by first | assumption | omega | (simp; omega) | simp_all)) ?_)
            | refine hop_e rfl (eop_callx (i := 3) ca6 rfl (WeakL.refl _) rfl (c_benchmake_Stream_Some (L := [_, _, _]) (by first | assumption | omega | (simp; omega) | simp_all) (by first | assumption | omega | (simp; omega) | simp_all) (by first | assumption | omega | (simp; omega) | simp_all)) ?_)
            rintro _ _ ⟨y81, rfl, hy81, rfl⟩
            refine ⟨fun _ => by first | exact .inl ⟨0, rfl⟩ | exact .inl ⟨1, rfl⟩ | exact .inl ⟨2, rfl⟩ | exact .inr (by simp [Before, Region.binds]), ?_⟩
            refine ahe 20 rfl (by kernel_rfl) ?_
            first
            | refine hop_e rfl (eop_callx (i := 0) ca6 rfl (WeakL.refl _) rfl (c_benchmake_Stream_Some (L := [_, _, _]) (by first | assumption | omega | (simp; omega) | simp_all) (by first | assumption | omega | (simp; omega) | simp_all) (by first | assumption | omega | (simp; omega) | simp_all)) ?_)
            | refine hop_e rfl (eop_callx (i := 1) ca6 rfl (WeakL.refl _) rfl (c_benchmake_Stream_Some (L := [_, _, _]) (by first | assumption | omega | (simp; omega) | simp_all) (by first | assumption | omega | (simp; omega) | simp_all) (by first | assumption | omega | (simp; omega) | simp_all)) ?_)
            | refine hop_e rfl (eop_callx (i := 2) ca6 rfl (WeakL.refl _) rfl (c_benchmake_Stream_Some (L := [_, _, _]) (by first | assumption | omega | (simp; omega) | simp_all) (by first | assumption | omega | (simp; omega) | simp_all) (by first | assumption | omega | (simp; omega) | simp_all)) ?_)
            | refine hop_e rfl (eop_callx (i := 3) ca6 rfl (WeakL.refl _) rfl (c_benchmake_Stream_Some (L := [_, _, _]) (by first | assumption | omega | (simp; omega) | simp_all) (by first | assumption | omega | (simp; omega) | simp_all) (by first | assumption | omega | (simp; omega) | simp_all)) ?_)
            rintro _ _ ⟨y88, rfl, hy88, rfl⟩
            refine ⟨fun _ => by first | exact .inl ⟨0, rfl⟩ | exact .inl ⟨1, rfl⟩ | exact .inl ⟨2, rfl⟩ | exact .inr (by simp [Before, Region.binds]), ?_⟩
            refine ahe 32 rfl (by kernel_rfl) ?_
            first
            | refine hop_e rfl (eop_callx (i := 0) ca25 rfl (WeakL.refl _) rfl (c_benchmake_Stream_Pick (L := [_, _, _, _]) (by first | assumption | omega | (simp; omega) | simp_all) (by first | assumption | omega | (simp; omega) | simp_all) (by first | assumption | omega | (simp; omega) | simp_all)) ?_)
            | refine hop_e rfl (eop_callx (i := 1) ca25 rfl (WeakL.refl _) rfl (c_benchmake_Stream_Pick (L := [_, _, _, _]) (by first | assumption | omega | (simp; omega) | simp_all) (by first | assumption | omega | (simp; omega) | simp_all) (by first | assumption | omega | (simp; omega) | simp_all)) ?_)
            | refine hop_e rfl (eop_callx (i := 2) ca25 rfl (WeakL.refl _) rfl (c_benchmake_Stream_Pick (L := [_, _, _, _]) (by first | assumption | omega | (simp; omega) | simp_all) (by first | assumption | omega | (simp; omega) | simp_all) (by first | assumption | omega | (simp; omega) | simp_all)) ?_)
            | refine hop_e rfl (eop_callx (i := 3) ca25 rfl (WeakL.refl _) rfl (c_benchmake_Stream_Pick (L := [_, _, _, _]) (by first | assumption | omega | (simp; omega) | simp_all) (by first | assumption | omega | (simp; omega) | simp_all) (by first | assumption | omega | (simp; omega) | simp_all)) ?_)
            rintro _ _ ⟨y100, rfl, hy100, rfl⟩
            refine ⟨fun _ => by first | exact .inl ⟨0, rfl⟩ | exact .inl ⟨1, rfl⟩ | exact .inl ⟨2, rfl⟩ | exact .inr (by simp [Before, Region.binds]), ?_⟩
            refine ahp 33 rfl rfl (by kernel_rfl) (by kernel_rfl) ((by first | exact pop_nilCheck rfl | exact pop_nilCheck_raw rfl)) ?_
            refine ahp 34 rfl rfl (by kernel_rfl) (by kernel_rfl) ((by first | exact pop_fieldAddr ty43 rfl ty9 (by decide) rfl | exact pop_fieldAddr_raw ty43 rfl ty9 (by decide) rfl)) ?_
            refine ahe 35 rfl (by kernel_rfl) ?_
            refine hop_e0 (eop_store_arr (i := 1) (j := y66) (f := 0) (y := eSale x) (y' := eSale ⟨y81, x.Team, x.Price⟩) ty9 rfl (by omega) rfl rfl (map_get hx) rfl rfl (by simp [hcells]) rfl ?_)
            refine ⟨fun _ => .inr (by simp [Before, Region.binds]), ?_⟩
            refine ahp 36 rfl rfl (by kernel_rfl) (by kernel_rfl) ((by first | exact pop_nilCheck rfl | exact pop_nilCheck_raw rfl)) ?_
            refine ahp 37 rfl rfl (by kernel_rfl) (by kernel_rfl) ((by first | exact pop_fieldAddr ty43 rfl ty9 (by decide) rfl | exact pop_fieldAddr_raw ty43 rfl ty9 (by decide) rfl)) ?_
            refine ahe 38 rfl (by kernel_rfl) ?_
            refine hop_e0 (eop_store_arr (i := 1) (j := y66) (f := 1) (y := eSale ⟨y81, x.Team, x.Price⟩) (y' := eSale ⟨y81, y88, x.Price⟩) ty9 rfl (by omega) rfl rfl (set_self (map_get hx)) rfl rfl (by simp [hcells]) rfl ?_)
            refine ⟨fun _ => .inr (by simp [Before, Region.binds]), ?_⟩
            refine ahp 39 rfl rfl (by kernel_rfl) (by kernel_rfl) ((by first | exact pop_nilCheck rfl | exact pop_nilCheck_raw rfl)) ?_
            refine ahp 40 rfl rfl (by kernel_rfl) (by kernel_rfl) ((by first | exact pop_fieldAddr ty43 rfl ty3 (by decide) rfl | exact pop_fieldAddr_raw ty43 rfl ty3 (by decide) rfl)) ?_
            refine ahe 41 rfl (by kernel_rfl) ?_
            refine hop_e0 (eop_store_arr (i := 1) (j := y66) (f := 2) (y := eSale ⟨y81, y88, x.Price⟩) (y' := eSale ⟨y81, y88, y100⟩) ty3 rfl (by omega) rfl rfl (set_self (set_self (map_get hx))) rfl rfl (by simp [hcells]) rfl ?_)
            refine ⟨fun _ => .inr (by simp [Before, Region.binds]), ?_⟩
            refine ahz (by kernel_rfl) ?_
            exact ⟨(out.set y66 ⟨y81, y88, y100⟩, a3 + 4), ⟨by simp; omega, all_set (P := fun x : Sale => 0 ≤ x.Price ∧ x.Price ≤ 1000101) (fun x hx => by have := g2 x hx; dsimp only [GoodS] at this; omega) (by dsimp only; simp at hy100; rcases hy100 with rfl | rfl | rfl | rfl <;> omega), by dsimp only; omega⟩, trivial, (by repeat (first | exact keeps_refl | refine keeps_upd rfl ?_ | refine keeps_loop rfl rfl ?_)), by repeat (first | exact List.Perm.nil | refine permTo 0 rfl ?_ | refine permTo 1 rfl ?_ | refine permTo 2 rfl ?_ | refine permTo 3 rfl ?_ | (refine permToE 0 rfl ?hq ?_; (case hq => simp [setL, hcells]; done)) | (refine permToE 1 rfl ?hq ?_; (case hq => simp [setL, hcells]; done)) | (refine permToE 2 rfl ?hq ?_; (case hq => simp [setL, hcells]; done)) | (refine permToE 3 rfl ?hq ?_; (case hq => simp [setL, hcells]; done)) | fail)⟩
          · try simp at h8
            refine hw_skip ?_
            exact ⟨(out, a3), ⟨by dsimp only; omega, fun x hx => by have := g2 x hx; dsimp only [GoodS] at this; omega, by dsimp only; omega⟩, trivial, (by repeat (first | exact keeps_refl | refine keeps_upd rfl ?_ | refine keeps_loop rfl rfl ?_)), by repeat (first | exact List.Perm.nil | refine permTo 0 rfl ?_ | refine permTo 1 rfl ?_ | refine permTo 2 rfl ?_ | refine permTo 3 rfl ?_ | (refine permToE 0 rfl ?hq ?_; (case hq => simp [setL, hcells]; done)) | (refine permToE 1 rfl ?hq ?_; (case hq => simp [setL, hcells]; done)) | (refine permToE 2 rfl ?hq ?_; (case hq => simp [setL, hcells]; done)) | (refine permToE 3 rfl ?hq ?_; (case hq => simp [setL, hcells]; done)) | fail)⟩
        · intro q hq3
          obtain ⟨k1, a4⟩ := q
          dsimp only at hq3
          obtain ⟨q1, q2, q3⟩ := hq3
          refine hw_reg ?_
          refine dp rfl (pop_move rfl) ?_
          refine dp rfl (pop_assign rfl) ?_
          refine dn ?_
          refine hw_ret ?_
          first
          | exact ⟨_, _, Ghost.sub (Sub.refl _), _, .slice 3 [], rfl, weak_nil 3, [], a, rfl, ⟨by simp, by simp⟩, by omega, rfl⟩
          | refine ret_g (Ghost.fa 4 (i := 1) rfl rfl) rfl ⟨k1, a4, rfl, ⟨by omega, q2⟩, by omega, rfl⟩

set_option maxHeartbeats 2000000 in
/-- (*benchwarmer/benchmake.Stream).HallOf -/
theorem c_benchmake_Stream_HallOf {b : Nat} {l : List Int} {a : Nat}  (ha : a ≤ 800000) : Con Tryz.prog 4 [pAt b] [St b l a] (fun x M' => ∃ h a', x = eHall h ∧ GoodHall h ∧ a' ≤ a + 20 ∧ M' = [St b l a']) := by
  refine Con.of_bodyc Tryz.func4 rfl Tryz.ntmps4 rfl rfl ?_
  refine hw_reg ?_
  refine de rfl (eop_alloc ty28 rfl fun b2 => ?_)
  refine dn ?_
  refine hw_join [3, 5, 6, 7, 8, 9, 10, 11, 12, 13, 14] (fun (q : Nat × List Str × Int × Int) => [(3, pAt q.1)]) (fun (q : Nat × List Str × Int × Int) => [HallC q.1 (eSs q.2.1) nilS q.2.2.1 q.2.2.2, HallC b2 nilS nilS 0 0, St b l (a + 3)]) (fun (q : Nat × List Str × Int × Int) => (1 ≤ q.2.1.length ∧ q.2.1.length ≤ 3) ∧ (1 ≤ q.2.2.2 ∧ q.2.2.2 ≤ 3) ∧ ∀ s ∈ q.2.1, s.length ≤ 100) ?_ ?_
  · skip
    refine hw_draw1 (fun _ => True) [] mixed ?_
    refine ahp 0 rfl rfl (by kernel_rfl) (by kernel_rfl) (pop_buildSlice (hs := [_, _, _]) ty26 ty9 rfl rfl (by decide) (by decide) rfl) ?_
    refine ahp 1 rfl rfl (by kernel_rfl) (by kernel_rfl) (pop_move rfl) ?_
    refine ahp 4 rfl rfl (by kernel_rfl) (by kernel_rfl) (pop_move rfl) ?_
    refine ahp 5 rfl rfl (by kernel_rfl) (by kernel_rfl) (pop_buildSlice (hs := [_, _, _]) ty22 ty3 rfl rfl (by decide) (by decide) rfl) ?_
    refine ahp 7 rfl rfl (by kernel_rfl) (by kernel_rfl) (pop_move rfl) ?_
    refine ahe2 2 10 rfl rfl (by kernel_rfl) ?_ ?_
    · skip
      first
      | refine hop_e rfl (eop_callx (i := 0) ca24 rfl (WeakL.refl _) rfl (c_benchmake_Stream_Range (by first | assumption | omega | (simp; omega) | simp_all) (by first | assumption | omega | (simp; omega) | simp_all) (by first | assumption | omega | (simp; omega) | simp_all) (by first | assumption | omega | (simp; omega) | simp_all)) ?_)
      | refine hop_e rfl (eop_callx (i := 1) ca24 rfl (WeakL.refl _) rfl (c_benchmake_Stream_Range (by first | assumption | omega | (simp; omega) | simp_all) (by first | assumption | omega | (simp; omega) | simp_all) (by first | assumption | omega | (simp; omega) | simp_all) (by first | assumption | omega | (simp; omega) | simp_all)) ?_)
      | refine hop_e rfl (eop_callx (i := 2) ca24 rfl (WeakL.refl _) rfl (c_benchmake_Stream_Range (by first | assumption | omega | (simp; omega) | simp_all) (by first | assumption | omega | (simp; omega) | simp_all) (by first | assumption | omega | (simp; omega) | simp_all) (by first | assumption | omega | (simp; omega) | simp_all)) ?_)
      | refine hop_e rfl (eop_callx (i := 3) ca24 rfl (WeakL.refl _) rfl (c_benchmake_Stream_Range (by first | assumption | omega | (simp; omega) | simp_all) (by first | assumption | omega | (simp; omega) | simp_all) (by first | assumption | omega | (simp; omega) | simp_all) (by first | assumption | omega | (simp; omega) | simp_all)) ?_)
      rintro _ _ ⟨y7, rfl, hy7, rfl⟩
      refine ⟨fun _ => .inl trivial, ?_⟩
      refine ahp 3 rfl rfl (by kernel_rfl) (by kernel_rfl) (pop_slicem (es := team3) (f := HVal.str) (h := y7.toNat) ty26 ty9 rfl rfl ⟨_, _, rfl, by omega⟩ (by omega) (by simp [team3]; omega)) ?_
      refine ahe2 6 10 rfl rfl (by kernel_rfl) ?_ ?_
      · skip
        first
        | refine hop_e rfl (eop_callx (i := 0) ca25 rfl (WeakL.refl _) rfl (c_benchmake_Stream_Pick (L := [_, _, _]) (by first | assumption | omega | (simp; omega) | simp_all) (by first | assumption | omega | (simp; omega) | simp_all) (by first | assumption | omega | (simp; omega) | simp_all)) ?_)
        | refine hop_e rfl (eop_callx (i := 1) ca25 rfl (WeakL.refl _) rfl (c_benchmake_Stream_Pick (L := [_, _, _]) (by first | assumption | omega | (simp; omega) | simp_all) (by first | assumption | omega | (simp; omega) | simp_all) (by first | assumption | omega | (simp; omega) | simp_all)) ?_)
        | refine hop_e rfl (eop_callx (i := 2) ca25 rfl (WeakL.refl _) rfl (c_benchmake_Stream_Pick (L := [_, _, _]) (by first | assumption | omega | (simp; omega) | simp_all) (by first | assumption | omega | (simp; omega) | simp_all) (by first | assumption | omega | (simp; omega) | simp_all)) ?_)
        | refine hop_e rfl (eop_callx (i := 3) ca25 rfl (WeakL.refl _) rfl (c_benchmake_Stream_Pick (L := [_, _, _]) (by first | assumption | omega | (simp; omega) | simp_all) (by first | assumption | omega | (simp; omega) | simp_all) (by first | assumption | omega | (simp; omega) | simp_all)) ?_)
        rintro _ _ ⟨y11, rfl, hy11, rfl⟩
        refine ⟨fun _ => .inl trivial, ?_⟩
        refine ahe2 8 10 rfl rfl (by kernel_rfl) ?_ ?_
        · skip
          first
          | refine hop_e rfl (eop_callx (i := 0) ca24 rfl (WeakL.refl _) rfl (c_benchmake_Stream_Range (by first | assumption | omega | (simp; omega) | simp_all) (by first | assumption | omega | (simp; omega) | simp_all) (by first | assumption | omega | (simp; omega) | simp_all) (by first | assumption | omega | (simp; omega) | simp_all)) ?_)
          | refine hop_e rfl (eop_callx (i := 1) ca24 rfl (WeakL.refl _) rfl (c_benchmake_Stream_Range (by first | assumption | omega | (simp; omega) | simp_all) (by first | assumption | omega | (simp; omega) | simp_all) (by first | assumption | omega | (simp; omega) | simp_all) (by first | assumption | omega | (simp; omega) | simp_all)) ?_)
          | refine hop_e rfl (eop_callx (i := 2) ca24 rfl (WeakL.refl _) rfl (c_benchmake_Stream_Range (by first | assumption | omega | (simp; omega) | simp_all) (by first | assumption | omega | (simp; omega) | simp_all) (by first | assumption | omega | (simp; omega) | simp_all) (by first | assumption | omega | (simp; omega) | simp_all)) ?_)
          | refine hop_e rfl (eop_callx (i := 3) ca24 rfl (WeakL.refl _) rfl (c_benchmake_Stream_Range (by first | assumption | omega | (simp; omega) | simp_all) (by first | assumption | omega | (simp; omega) | simp_all) (by first | assumption | omega | (simp; omega) | simp_all) (by first | assumption | omega | (simp; omega) | simp_all)) ?_)
          rintro _ _ ⟨y13, rfl, hy13, rfl⟩
          refine ⟨fun _ => .inl trivial, ?_⟩
          refine ahp 9 rfl rfl (by kernel_rfl) (by kernel_rfl) (pop_build (cs := [_, _, _, _]) ty28 pl28 rfl) ?_
          refine ahe 10 rfl (by kernel_rfl) ?_
          refine hop_e rfl (eop_alloc ty28 rfl fun b3 => ?_)
          refine ⟨fun _ => .inl trivial, ?_⟩
          refine ahe 11 rfl (by kernel_rfl) ?_
          first
          | refine hop_e0 (eop_store (i := 0) ty28 rfl rfl rfl rfl rfl (Nat.le_of_ble_eq_true rfl) ?_)
          | refine hop_e0 (eop_store (i := 1) ty28 rfl rfl rfl rfl rfl (Nat.le_of_ble_eq_true rfl) ?_)
          | refine hop_e0 (eop_store (i := 2) ty28 rfl rfl rfl rfl rfl (Nat.le_of_ble_eq_true rfl) ?_)
          | refine hop_e0 (eop_store (i := 3) ty28 rfl rfl rfl rfl rfl (Nat.le_of_ble_eq_true rfl) ?_)
          refine ⟨fun _ => .inl trivial, ?_⟩
          refine ahz (by kernel_rfl) ?_
          refine ⟨(b3, (team3.take y7.toNat).drop 0, y11, y13), ?_, ⟨rfl, trivial⟩, (by repeat (first | exact keeps_refl | refine keeps_upd rfl ?_ | refine keeps_loop rfl rfl ?_)), ?_⟩
          · refine ⟨by simp [team3]; omega, by dsimp only; omega, fun s hs => ?_⟩
            exact team3_len s (List.mem_of_mem_take hs)
          · repeat (first | exact List.Perm.nil | refine permTo 0 rfl ?_ | refine permTo 1 rfl ?_ | refine permTo 2 rfl ?_ | refine permTo 3 rfl ?_ | (refine permToE 0 rfl ?hq ?_; (case hq => simp [setL, hcells]; done)) | (refine permToE 1 rfl ?hq ?_; (case hq => simp [setL, hcells]; done)) | (refine permToE 2 rfl ?hq ?_; (case hq => simp [setL, hcells]; done)) | (refine permToE 3 rfl ?hq ?_; (case hq => simp [setL, hcells]; done)) | fail)
        · skip
          refine hop_e rfl (eop_alloc ty28 rfl fun b3 => ?_)
          refine ⟨fun _ => .inl trivial, ?_⟩
          refine ahe 8 rfl (by kernel_rfl) ?_
          first
          | refine hop_e rfl (eop_callx (i := 0) ca24 rfl (WeakL.refl _) rfl (c_benchmake_Stream_Range (by first | assumption | omega | (simp; omega) | simp_all) (by first | assumption | omega | (simp; omega) | simp_all) (by first | assumption | omega | (simp; omega) | simp_all) (by first | assumption | omega | (simp; omega) | simp_all)) ?_)
          | refine hop_e rfl (eop_callx (i := 1) ca24 rfl (WeakL.refl _) rfl (c_benchmake_Stream_Range (by first | assumption | omega | (simp; omega) | simp_all) (by first | assumption | omega | (simp; omega) | simp_all) (by first | assumption | omega | (simp; omega) | simp_all) (by first | assumption | omega | (simp; omega) | simp_all)) ?_)
          | refine hop_e rfl (eop_callx (i := 2) ca24 rfl (WeakL.refl _) rfl (c_benchmake_Stream_Range (by first | assumption | omega | (simp; omega) | simp_all) (by first | assumption | omega | (simp; omega) | simp_all) (by first | assumption | omega | (simp; omega) | simp_all) (by first | assumption | omega | (simp; omega) | simp_all)) ?_)
          | refine hop_e rfl (eop_callx (i := 3) ca24 rfl (WeakL.refl _) rfl (c_benchmake_Stream_Range (by first | assumption | omega | (simp; omega) | simp_all) (by first | assumption | omega | (simp; omega) | simp_all) (by first | assumption | omega | (simp; omega) | simp_all) (by first | assumption | omega | (simp; omega) | simp_all)) ?_)
          rintro _ _ ⟨y13, rfl, hy13, rfl⟩
          refine ⟨fun _ => .inl trivial, ?_⟩
          refine ahp 9 rfl rfl (by kernel_rfl) (by kernel_rfl) (pop_build (cs := [_, _, _, _]) ty28 pl28 rfl) ?_
          refine ahe 11 rfl (by kernel_rfl) ?_
          first
          | refine hop_e0 (eop_store (i := 0) ty28 rfl rfl rfl rfl rfl (Nat.le_of_ble_eq_true rfl) ?_)
          | refine hop_e0 (eop_store (i := 1) ty28 rfl rfl rfl rfl rfl (Nat.le_of_ble_eq_true rfl) ?_)
          | refine hop_e0 (eop_store (i := 2) ty28 rfl rfl rfl rfl rfl (Nat.le_of_ble_eq_true rfl) ?_)
          | refine hop_e0 (eop_store (i := 3) ty28 rfl rfl rfl rfl rfl (Nat.le_of_ble_eq_true rfl) ?_)
          refine ⟨fun _ => .inl trivial, ?_⟩
          refine ahz (by kernel_rfl) ?_
          refine ⟨(b3, (team3.take y7.toNat).drop 0, y11, y13), ?_, ⟨rfl, trivial⟩, (by repeat (first | exact keeps_refl | refine keeps_upd rfl ?_ | refine keeps_loop rfl rfl ?_)), ?_⟩
          · refine ⟨by simp [team3]; omega, by dsimp only; omega, fun s hs => ?_⟩
            exact team3_len s (List.mem_of_mem_take hs)
          · repeat (first | exact List.Perm.nil | refine permTo 0 rfl ?_ | refine permTo 1 rfl ?_ | refine permTo 2 rfl ?_ | refine permTo 3 rfl ?_ | (refine permToE 0 rfl ?hq ?_; (case hq => simp [setL, hcells]; done)) | (refine permToE 1 rfl ?hq ?_; (case hq => simp [setL, hcells]; done)) | (refine permToE 2 rfl ?hq ?_; (case hq => simp [setL, hcells]; done)) | (refine permToE 3 rfl ?hq ?_; (case hq => simp [setL, hcells]; done)) | fail)
      · skip
        refine hop_e rfl (eop_alloc ty28 rfl fun b3 => ?_)
        refine ⟨fun _ => .inl trivial, ?_⟩
        refine ahe 6 rfl (by kernel_rfl) ?_
        first
        | refine hop_e rfl (eop_callx (i := 0) ca25 rfl (WeakL.refl _) rfl (c_benchmake_Stream_Pick (L := [_, _, _]) (by first | assumption | omega | (simp; omega) | simp_all) (by first | assumption | omega | (simp; omega) | simp_all) (by first | assumption | omega | (simp; omega) | simp_all)) ?_)
        | refine hop_e rfl (eop_callx (i := 1) ca25 rfl (WeakL.refl _) rfl (c_benchmake_Stream_Pick (L := [_, _, _]) (by first | assumption | omega | (simp; omega) | simp_all) (by first | assumption | omega | (simp; omega) | simp_all) (by first | assumption | omega | (simp; omega) | simp_all)) ?_)
        | refine hop_e rfl (eop_callx (i := 2) ca25 rfl (WeakL.refl _) rfl (c_benchmake_Stream_Pick (L := [_, _, _]) (by first | assumption | omega | (simp; omega) | simp_all) (by first | assumption | omega | (simp; omega) | simp_all) (by first | assumption | omega | (simp; omega) | simp_all)) ?_)
        | refine hop_e rfl (eop_callx (i := 3) ca25 rfl (WeakL.refl _) rfl (c_benchmake_Stream_Pick (L := [_, _, _]) (by first | assumption | omega | (simp; omega) | simp_all) (by first | assumption | omega | (simp; omega) | simp_all) (by first | assumption | omega | (simp; omega) | simp_all)) ?_)
        rintro _ _ ⟨y11, rfl, hy11, rfl⟩
        refine ⟨fun _ => .inl trivial, ?_⟩
        refine ahe 8 rfl (by kernel_rfl) ?_
        first
        | refine hop_e rfl (eop_callx (i := 0) ca24 rfl (WeakL.refl _) rfl (c_benchmake_Stream_Range (by first | assumption | omega | (simp; omega) | simp_all) (by first | assumption | omega | (simp; omega) | simp_all) (by first | assumption | omega | (simp; omega) | simp_all) (by first | assumption | omega | (simp; omega) | simp_all)) ?_)
        | refine hop_e rfl (eop_callx (i := 1) ca24 rfl (WeakL.refl _) rfl (c_benchmake_Stream_Range (by first | assumption | omega | (simp; omega) | simp_all) (by first | assumption | omega | (simp; omega) | simp_all) (by first | assumption | omega | (simp; omega) | simp_all) (by first | assumption | omega | (simp; omega) | simp_all)) ?_)
        | refine hop_e rfl (eop_callx (i := 2) ca24 rfl (WeakL.refl _) rfl (c_benchmake_Stream_Range (by first | assumption | omega | (simp; omega) | simp_all) (by first | assumption | omega | (simp; omega) | simp_all) (by first | assumption | omega | (simp; omega) | simp_all) (by first | assumption | omega | (simp; omega) | simp_all)) ?_)
        | refine hop_e rfl (eop_callx (i := 3) ca24 rfl (WeakL.refl _) rfl (c_benchmake_Stream_Range (by first | assumption | omega | (simp; omega) | simp_all) (by first | assumption | omega | (simp; omega) | simp_all) (by first | assumption | omega | (simp; omega) | simp_all) (by first | assumption | omega | (simp; omega) | simp_all)) ?_)
        rintro _ _ ⟨y13, rfl, hy13, rfl⟩
        refine ⟨fun _ => .inl trivial, ?_⟩
        refine ahp 9 rfl rfl (by kernel_rfl) (by kernel_rfl) (pop_build (cs := [_, _, _, _]) ty28 pl28 rfl) ?_
        refine ahe 11 rfl (by kernel_rfl) ?_
        first
        | refine hop_e0 (eop_store (i := 0) ty28 rfl rfl rfl rfl rfl (Nat.le_of_ble_eq_true rfl) ?_)
        | refine hop_e0 (eop_store (i := 1) ty28 rfl rfl rfl rfl rfl (Nat.le_of_ble_eq_true rfl) ?_)
        | refine hop_e0 (eop_store (i := 2) ty28 rfl rfl rfl rfl rfl (Nat.le_of_ble_eq_true rfl) ?_)
        | refine hop_e0 (eop_store (i := 3) ty28 rfl rfl rfl rfl rfl (Nat.le_of_ble_eq_true rfl) ?_)
        refine ⟨fun _ => .inl trivial, ?_⟩
        refine ahz (by kernel_rfl) ?_
        refine ⟨(b3, (team3.take y7.toNat).drop 0, y11, y13), ?_, ⟨rfl, trivial⟩, (by repeat (first | exact keeps_refl | refine keeps_upd rfl ?_ | refine keeps_loop rfl rfl ?_)), ?_⟩
        · refine ⟨by simp [team3]; omega, by dsimp only; omega, fun s hs => ?_⟩
          exact team3_len s (List.mem_of_mem_take hs)
        · repeat (first | exact List.Perm.nil | refine permTo 0 rfl ?_ | refine permTo 1 rfl ?_ | refine permTo 2 rfl ?_ | refine permTo 3 rfl ?_ | (refine permToE 0 rfl ?hq ?_; (case hq => simp [setL, hcells]; done)) | (refine permToE 1 rfl ?hq ?_; (case hq => simp [setL, hcells]; done)) | (refine permToE 2 rfl ?hq ?_; (case hq => simp [setL, hcells]; done)) | (refine permToE 3 rfl ?hq ?_; (case hq => simp [setL, hcells]; done)) | fail)
    · skip
      refine hop_e rfl (eop_alloc ty28 rfl fun b3 => ?_)
      refine ⟨fun _ => .inl trivial, ?_⟩
      refine ahe 2 rfl (by kernel_rfl) ?_
      first
      | refine hop_e rfl (eop_callx (i := 0) ca24 rfl (WeakL.refl _) rfl (c_benchmake_Stream_Range (by first | assumption | omega | (simp; omega) | simp_all) (by first | assumption | omega | (simp; omega) | simp_all) (by first | assumption | omega | (simp; omega) | simp_all) (by first | assumption | omega | (simp; omega) | simp_all)) ?_)
      | refine hop_e rfl (eop_callx (i := 1) ca24 rfl (WeakL.refl _) rfl (c_benchmake_Stream_Range (by first | assumption | omega | (simp; omega) | simp_all) (by first | assumption | omega | (simp; omega) | simp_all) (by first | assumption | omega | (simp; omega) | simp_all) (by first | assumption | omega | (simp; omega) | simp_all)) ?_)
      | refine hop_e rfl (eop_callx (i := 2) ca24 rfl (WeakL.refl _) rfl (c_benchmake_Stream_Range (by first | assumption | omega | (simp; omega) | simp_all) (by first | assumption | omega | (simp; omega) | simp_all) (by first | assumption | omega | (simp; omega) | simp_all) (by first | assumption | omega | (simp; omega) | simp_all)) ?_)
      | refine hop_e rfl (eop_callx (i := 3) ca24 rfl (WeakL.refl _) rfl (c_benchmake_Stream_Range (by first | assumption | omega | (simp; omega) | simp_all) (by first | assumption | omega | (simp; omega) | simp_all) (by first | assumption | omega | (simp; omega) | simp_all) (by first | assumption | omega | (simp; omega) | simp_all)) ?_)
      rintro _ _ ⟨y7, rfl, hy7, rfl⟩
      refine ⟨fun _ => .inl trivial, ?_⟩
      refine ahp 3 rfl rfl (by kernel_rfl) (by kernel_rfl) (pop_slicem (es := team3) (f := HVal.str) (h := y7.toNat) ty26 ty9 rfl rfl ⟨_, _, rfl, by omega⟩ (by omega) (by simp [team3]; omega)) ?_
      refine ahe 6 rfl (by kernel_rfl) ?_
      first
      | refine hop_e rfl (eop_callx (i := 0) ca25 rfl (WeakL.refl _) rfl (c_benchmake_Stream_Pick (L := [_, _, _]) (by first | assumption | omega | (simp; omega) | simp_all) (by first | assumption | omega | (simp; omega) | simp_all) (by first | assumption | omega | (simp; omega) | simp_all)) ?_)
      | refine hop_e rfl (eop_callx (i := 1) ca25 rfl (WeakL.refl _) rfl (c_benchmake_Stream_Pick (L := [_, _, _]) (by first | assumption | omega | (simp; omega) | simp_all) (by first | assumption | omega | (simp; omega) | simp_all) (by first | assumption | omega | (simp; omega) | simp_all)) ?_)
      | refine hop_e rfl (eop_callx (i := 2) ca25 rfl (WeakL.refl _) rfl (c_benchmake_Stream_Pick (L := [_, _, _]) (by first | assumption | omega | (simp; omega) | simp_all) (by first | assumption | omega | (simp; omega) | simp_all) (by first | assumption | omega | (simp; omega) | simp_all)) ?_)
      | refine hop_e rfl (eop_callx (i := 3) ca25 rfl (WeakL.refl _) rfl (c_benchmake_Stream_Pick (L := [_, _, _]) (by first | assumption | omega | (simp; omega) | simp_all) (by first | assumption | omega | (simp; omega) | simp_all) (by first | assumption | omega | (simp; omega) | simp_all)) ?_)
      rintro _ _ ⟨y11, rfl, hy11, rfl⟩
      refine ⟨fun _ => .inl trivial, ?_⟩
      refine ahe 8 rfl (by kernel_rfl) ?_
      first
      | refine hop_e rfl (eop_callx (i := 0) ca24 rfl (WeakL.refl _) rfl (c_benchmake_Stream_Range (by first | assumption | omega | (simp; omega) | simp_all) (by first | assumption | omega | (simp; omega) | simp_all) (by first | assumption | omega | (simp; omega) | simp_all) (by first | assumption | omega | (simp; omega) | simp_all)) ?_)
      | refine hop_e rfl (eop_callx (i := 1) ca24 rfl (WeakL.refl _) rfl (c_benchmake_Stream_Range (by first | assumption | omega | (simp; omega) | simp_all) (by first | assumption | omega | (simp; omega) | simp_all) (by first | assumption | omega | (simp; omega) | simp_all) (by first | assumption | omega | (simp; omega) | simp_all)) ?_)
      | refine hop_e rfl (eop_callx (i := 2) ca24 rfl (WeakL.refl _) rfl (c_benchmake_Stream_Range (by first | assumption | omega | (simp; omega) | simp_all) (by first | assumption | omega | (simp; omega) | simp_all) (by first | assumption | omega | (simp; omega) | simp_all) (by first | assumption | omega | (simp; omega) | simp_all)) ?_)
      | refine hop_e rfl (eop_callx (i := 3) ca24 rfl (WeakL.refl _) rfl (c_benchmake_Stream_Range (by first | assumption | omega | (simp; omega) | simp_all) (by first | assumption | omega | (simp; omega) | simp_all) (by first | assumption | omega | (simp; omega) | simp_all) (by first | assumption | omega | (simp; omega) | simp_all)) ?_)
      rintro _ _ ⟨y13, rfl, hy13, rfl⟩
      refine ⟨fun _ => .inl trivial, ?_⟩
      refine ahp 9 rfl rfl (by kernel_rfl) (by kernel_rfl) (pop_build (cs := [_, _, _, _]) ty28 pl28 rfl) ?_
      refine ahe 11 rfl (by kernel_rfl) ?_
      first
      | refine hop_e0 (eop_store (i := 0) ty28 rfl rfl rfl rfl rfl (Nat.le_of_ble_eq_true rfl) ?_)
      | refine hop_e0 (eop_store (i := 1) ty28 rfl rfl rfl rfl rfl (Nat.le_of_ble_eq_true rfl) ?_)
      | refine hop_e0 (eop_store (i := 2) ty28 rfl rfl rfl rfl rfl (Nat.le_of_ble_eq_true rfl) ?_)
      | refine hop_e0 (eop_store (i := 3) ty28 rfl rfl rfl rfl rfl (Nat.le_of_ble_eq_true rfl) ?_)
      refine ⟨fun _ => .inl trivial, ?_⟩
      refine ahz (by kernel_rfl) ?_
      refine ⟨(b3, (team3.take y7.toNat).drop 0, y11, y13), ?_, ⟨rfl, trivial⟩, (by repeat (first | exact keeps_refl | refine keeps_upd rfl ?_ | refine keeps_loop rfl rfl ?_)), ?_⟩
      · refine ⟨by simp [team3]; omega, by dsimp only; omega, fun s hs => ?_⟩
        exact team3_len s (List.mem_of_mem_take hs)
      · repeat (first | exact List.Perm.nil | refine permTo 0 rfl ?_ | refine permTo 1 rfl ?_ | refine permTo 2 rfl ?_ | refine permTo 3 rfl ?_ | (refine permToE 0 rfl ?hq ?_; (case hq => simp [setL, hcells]; done)) | (refine permToE 1 rfl ?hq ?_; (case hq => simp [setL, hcells]; done)) | (refine permToE 2 rfl ?hq ?_; (case hq => simp [setL, hcells]; done)) | (refine permToE 3 rfl ?hq ?_; (case hq => simp [setL, hcells]; done)) | fail)
  · intro q hq
    obtain ⟨b3, T, Bu, P⟩ := q
    dsimp only at hq
    obtain ⟨hT, hR, hTs⟩ := hq
    refine hw_seq ?_
    refine hw_draw (fun M => ∃ i : Nat, M[i]? = some (HallC b3 (eSs (T)) nilS Bu P)) [1, 4] mixed ?_
    refine ahp 0 rfl rfl (by kernel_rfl) (by kernel_rfl) (pop_fieldAddr_raw ty28 rfl ty26 (by decide) rfl) ?_
    refine ahl 1 rfl rfl (by kernel_rfl) (by kernel_rfl) (by simp) (by first | exact ⟨0, rfl⟩ | exact ⟨1, rfl⟩ | exact ⟨2, rfl⟩) (fun M hM => by obtain ⟨i, hi⟩ := hM; exact eop_load (i := i) ty26 rfl hi (.inl ⟨rfl, rfl⟩) ⟨rfl, rfl⟩) ?_
    refine ahp 2 rfl rfl (by kernel_rfl) (by kernel_rfl) (pop_lenm ty26 rfl) ?_
    refine ahp 3 rfl rfl (by kernel_rfl) (by kernel_rfl) (pop_fieldAddr_raw ty28 rfl ty3 (by decide) rfl) ?_
    refine ahl 4 rfl rfl (by kernel_rfl) (by kernel_rfl) (by simp) (by first | exact ⟨0, rfl⟩ | exact ⟨1, rfl⟩ | exact ⟨2, rfl⟩) (fun M hM => by obtain ⟨i, hi⟩ := hM; exact eop_load (i := i) ty3 rfl hi (.inl ⟨rfl, rfl⟩) ⟨rfl, rfl⟩) ?_
    have hm1 : 0 < (T.length : Int) * P := Int.mul_pos (by omega) (by omega)
    have hm := mul_bd (a := (T.length : Int)) (b := P) (A := 3) (B := 3) (by omega) (by omega) (by omega) (by omega)
    refine ahp 5 rfl rfl (by kernel_rfl) (by kernel_rfl) (pop_mul64 rfl rfl (by omega) (by omega)) ?_
    refine ahp 6 rfl rfl (by kernel_rfl) (by kernel_rfl) (pop_move rfl) ?_
    refine ahp 9 rfl rfl (by kernel_rfl) (by kernel_rfl) (pop_move rfl) ?_
    refine ahe 7 rfl (by kernel_rfl) ?_
    first
    | refine hop_e rfl (eop_callx (i := 0) ca26 rfl (WeakL.refl _) rfl (c_benchmake_Stream_Next (by first | assumption | omega | (simp; omega) | simp_all) (by first | assumption | omega | (simp; omega) | simp_all)) ?_)
    | refine hop_e rfl (eop_callx (i := 1) ca26 rfl (WeakL.refl _) rfl (c_benchmake_Stream_Next (by first | assumption | omega | (simp; omega) | simp_all) (by first | assumption | omega | (simp; omega) | simp_all)) ?_)
    | refine hop_e rfl (eop_callx (i := 2) ca26 rfl (WeakL.refl _) rfl (c_benchmake_Stream_Next (by first | assumption | omega | (simp; omega) | simp_all) (by first | assumption | omega | (simp; omega) | simp_all)) ?_)
    | refine hop_e rfl (eop_callx (i := 3) ca26 rfl (WeakL.refl _) rfl (c_benchmake_Stream_Next (by first | assumption | omega | (simp; omega) | simp_all) (by first | assumption | omega | (simp; omega) | simp_all)) ?_)
    rintro _ _ ⟨y22, rfl, hy22, rfl⟩
    refine ⟨fun _ => by first | exact .inl ⟨0, rfl⟩ | exact .inl ⟨1, rfl⟩ | exact .inl ⟨2, rfl⟩ | exact .inr (by simp [Before, Region.binds]), ?_⟩
    have hy3 : 0 ≤ y22 ∧ y22 ≤ 3 := by omega
    refine ahp 8 rfl rfl (by kernel_rfl) (by kernel_rfl) (pop_add64 rfl rfl (by omega) (by omega)) ?_
    refine ahz (by kernel_rfl) ?_
    refine hw_ghost (Ghost.arr_nil 1) ?_
    refine hw_block ?_
    refine hw_loopw3 [4, 24, 25, 26, 27, 28, 29, 30, 31, 32, 33, 34, 35, 36] (fun (k : Nat) (v : Value) (Pl : List Str) => [(24, .int .i64 k)]) (fun (k : Nat) (v : Value) (Pl : List Str) => [.arr v 1 (Pl.map .str), HallC b3 (eSs (T)) (.raw v) Bu P, HallC b2 nilS nilS 0 0, St b l (a + 4)]) (fun (k : Nat) (v : Value) (Pl : List Str) => k ≤ 15 ∧ Pl.length = k ∧ ∀ s ∈ Pl, s.length ≤ 100) (fun (k : Nat) (v : Value) (Pl : List Str) => 15 - k) (0) (.slice none 0 0) ([]) ?_ ?_ ?_ ?_
    · exact ⟨by omega, rfl, by simp⟩
    · exact ⟨rfl, trivial⟩
    · repeat (first | exact List.Perm.nil | refine permTo 0 rfl ?_ | refine permTo 1 rfl ?_ | refine permTo 2 rfl ?_ | refine permTo 3 rfl ?_ | (refine permToE 0 rfl ?hq ?_; (case hq => simp [setL, hcells]; done)) | (refine permToE 1 rfl ?hq ?_; (case hq => simp [setL, hcells]; done)) | (refine permToE 2 rfl ?hq ?_; (case hq => simp [setL, hcells]; done)) | (refine permToE 3 rfl ?hq ?_; (case hq => simp [setL, hcells]; done)) | fail)
    · intro k v Pl hinv
      obtain ⟨hk, hPl, hPs⟩ := hinv
      refine hw_reg ?_
      refine dp rfl (pop_lss rfl rfl) ?_
      refine dn ?_
      refine hw_seq ?_
      refine hw_cond rfl (fun h1 => ?_) (fun h2 => ?_)
      · try simp at h1
        refine hw_skip ?_
        refine seqQ_n ?_
        refine hw_seq ?_
        refine hw_block ?_
        refine hw_reg ?_
        refine dp rfl (pop_move rfl) ?_
        refine dp rfl (pop_assign rfl) ?_
        refine dn ?_
        refine hw_draw1 (fun _ => True) [] mixed ?_
        refine ahp 0 rfl rfl (by kernel_rfl) (by kernel_rfl) (pop_fieldAddr_raw ty28 rfl ty26 (by decide) rfl) ?_
        refine ahp 2 rfl rfl (by kernel_rfl) (by kernel_rfl) (pop_move rfl) ?_
        refine ahp 3 rfl rfl (by kernel_rfl) (by kernel_rfl) (pop_add64 rfl rfl (by omega) (by omega)) ?_
        refine ahp 4 rfl rfl (by kernel_rfl) (by kernel_rfl) (pop_call ca27 rfl (WeakL.refl _) (c_strconv_Itoa (i := 10 + k) (by omega))) ?_
        have hdl := dec_len (i := 10 + k) (by omega)
        refine ahp 5 rfl rfl (by kernel_rfl) (by kernel_rfl) (pop_adds rfl rfl (by simp; omega)) ?_
        refine ahp 6 rfl rfl (by kernel_rfl) (by kernel_rfl) (pop_buildSlice (hs := [_]) ty26 ty9 rfl rfl (by decide) (by decide) rfl) ?_
        refine ahe 1 rfl (by kernel_rfl) ?_
        first
        | refine hop_e rfl (eop_load (i := 0) ty26 rfl rfl (.inl ⟨rfl, rfl⟩) ?_)
        | refine hop_e rfl (eop_load (i := 1) ty26 rfl rfl (.inl ⟨rfl, rfl⟩) ?_)
        | refine hop_e rfl (eop_load (i := 2) ty26 rfl rfl (.inl ⟨rfl, rfl⟩) ?_)
        | refine hop_e rfl (eop_load (i := 3) ty26 rfl rfl (.inl ⟨rfl, rfl⟩) ?_)
        refine ⟨fun _ => .inl trivial, ?_⟩
        refine ahe 7 rfl (by kernel_rfl) ?_
        first
        | refine hop_e rfl (eop_append (i := 0) ty26 ty9 rfl rfl rfl rfl rfl (by simp [flat, hcells]) (by first | omega | (simp; omega)) fun v34 => ?_)
        | refine hop_e rfl (eop_append (i := 1) ty26 ty9 rfl rfl rfl rfl rfl (by simp [flat, hcells]) (by first | omega | (simp; omega)) fun v34 => ?_)
        | refine hop_e rfl (eop_append (i := 2) ty26 ty9 rfl rfl rfl rfl rfl (by simp [flat, hcells]) (by first | omega | (simp; omega)) fun v34 => ?_)
        | refine hop_e rfl (eop_append (i := 3) ty26 ty9 rfl rfl rfl rfl rfl (by simp [flat, hcells]) (by first | omega | (simp; omega)) fun v34 => ?_)
        refine ⟨fun _ => .inl trivial, ?_⟩
        refine ahp 8 rfl rfl (by kernel_rfl) (by kernel_rfl) (pop_fieldAddr_raw ty28 rfl ty26 (by decide) rfl) ?_
        refine ahe 9 rfl (by kernel_rfl) ?_
        first
        | refine hop_e0 (eop_store (i := 0) ty26 rfl rfl rfl rfl rfl (Nat.le_of_ble_eq_true rfl) ?_)
        | refine hop_e0 (eop_store (i := 1) ty26 rfl rfl rfl rfl rfl (Nat.le_of_ble_eq_true rfl) ?_)
        | refine hop_e0 (eop_store (i := 2) ty26 rfl rfl rfl rfl rfl (Nat.le_of_ble_eq_true rfl) ?_)
        | refine hop_e0 (eop_store (i := 3) ty26 rfl rfl rfl rfl rfl (Nat.le_of_ble_eq_true rfl) ?_)
        refine ⟨fun _ => .inl trivial, ?_⟩
        refine ahz (by kernel_rfl) ?_
        refine blockQ_n ?_
        refine seqQ_n ?_
        refine hw_reg1 ?_
        refine dp rfl (pop_add64 rfl rfl (by omega) (by omega)) ?_
        refine dp rfl (pop_move rfl) ?_
        refine dn ?_
        refine ⟨k + 1, v34, Pl ++ [112 :: Lib.decDigits (10 + k)], ?_, ?_, ⟨rfl, trivial⟩, (by repeat (first | exact keeps_refl | refine keeps_upd rfl ?_ | refine keeps_loop rfl rfl ?_)), ?_⟩
        · refine ⟨by omega, by simp [hPl], fun s hs => ?_⟩
          rcases List.mem_append.1 hs with h | h
          · exact hPs s h
          · have := dec_len (i := 10 + k) (by omega)
            simp at h; subst h; simp; omega
        · dsimp only; omega
        · repeat (first | exact List.Perm.nil | refine permTo 0 rfl ?_ | refine permTo 1 rfl ?_ | refine permTo 2 rfl ?_ | refine permTo 3 rfl ?_ | (refine permToE 0 rfl ?hq ?_; (case hq => simp [setL, hcells]; done)) | (refine permToE 1 rfl ?hq ?_; (case hq => simp [setL, hcells]; done)) | (refine permToE 2 rfl ?hq ?_; (case hq => simp [setL, hcells]; done)) | (refine permToE 3 rfl ?hq ?_; (case hq => simp [setL, hcells]; done)) | fail)
      · try simp at h2
        refine hw_exit ?_
        refine seqQ_x ?_
        refine loopQ3_x ?_
        refine blockQ_eq ?_
        refine seqQ_n ?_
        refine hw_joing [37, 38, 39, 40, 41, 42, 43, 44, 45, 46, 47, 48, 49, 50, 51, 52] (fun (q : Hall × Nat) => []) (fun (q : Hall × Nat) => [.cells b3 (hcells (eHall q.1)), HallC b2 nilS nilS 0 0, St b l q.2]) (fun (q : Hall × Nat) => GoodHall q.1 ∧ q.2 ≤ a + 20) ?_ ?_
        · skip
          refine hw_reg ?_
          refine dp rfl (pop_move rfl) ?_
          first
          | refine de rfl (eop_callx (i := 0) ca28 rfl (WeakL.refl _) rfl (c_benchmake_Stream_Flip (by first | assumption | omega | (simp; omega) | simp_all) (by first | assumption | omega | (simp; omega) | simp_all)) ?_)
          | refine de rfl (eop_callx (i := 1) ca28 rfl (WeakL.refl _) rfl (c_benchmake_Stream_Flip (by first | assumption | omega | (simp; omega) | simp_all) (by first | assumption | omega | (simp; omega) | simp_all)) ?_)
          | refine de rfl (eop_callx (i := 2) ca28 rfl (WeakL.refl _) rfl (c_benchmake_Stream_Flip (by first | assumption | omega | (simp; omega) | simp_all) (by first | assumption | omega | (simp; omega) | simp_all)) ?_)
          | refine de rfl (eop_callx (i := 3) ca28 rfl (WeakL.refl _) rfl (c_benchmake_Stream_Flip (by first | assumption | omega | (simp; omega) | simp_all) (by first | assumption | omega | (simp; omega) | simp_all)) ?_)
          rintro _ _ ⟨y38, rfl, rfl⟩
          refine dn ?_
          refine hw_cond rfl (fun h3 => ?_) (fun h4 => ?_)
          · try simp at h3
            refine hw_draw1 (fun M => ∃ i : Nat, M[i]? = some (HallC b3 (eSs (T)) (.raw v) Bu P)) [5] mixed ?_
            refine ahp 0 rfl rfl (by kernel_rfl) (by kernel_rfl) (pop_move rfl) ?_
            refine ahp 2 rfl rfl (by kernel_rfl) (by kernel_rfl) (pop_move rfl) ?_
            refine ahp 4 rfl rfl (by kernel_rfl) (by kernel_rfl) (pop_fieldAddr_raw ty28 rfl ty26 (by decide) rfl) ?_
            refine ahl 5 rfl rfl (by kernel_rfl) (by kernel_rfl) (by simp) (by first | exact ⟨0, rfl⟩ | exact ⟨1, rfl⟩ | exact ⟨2, rfl⟩) (fun M hM => by obtain ⟨i, hi⟩ := hM; exact eop_load (i := i) ty26 rfl hi (.inl ⟨rfl, rfl⟩) ⟨rfl, rfl⟩) ?_
            refine ahp 6 rfl rfl (by kernel_rfl) (by kernel_rfl) (pop_move rfl) ?_
            refine ahp 7 rfl rfl (by kernel_rfl) (by kernel_rfl) (pop_buildSlice (hs := [_, _, _]) ty26 ty9 rfl rfl (by decide) (by decide) rfl) ?_
            refine ahe 1 rfl (by kernel_rfl) ?_
            first
            | refine hop_e rfl (eop_callx (i := 0) ca29 rfl (WeakL.refl _) rfl (c_benchmake_Stream_Odd (by first | assumption | omega | (simp; omega) | simp_all) (by first | assumption | omega | (simp; omega) | simp_all) (by first | assumption | omega | (simp; omega) | simp_all) (by first | assumption | omega | (simp; omega) | simp_all)) ?_)
            | refine hop_e rfl (eop_callx (i := 1) ca29 rfl (WeakL.refl _) rfl (c_benchmake_Stream_Odd (by first | assumption | omega | (simp; omega) | simp_all) (by first | assumption | omega | (simp; omega) | simp_all) (by first | assumption | omega | (simp; omega) | simp_all) (by first | assumption | omega | (simp; omega) | simp_all)) ?_)
            | refine hop_e rfl (eop_callx (i := 2) ca29 rfl (WeakL.refl _) rfl (c_benchmake_Stream_Odd (by first | assumption | omega | (simp; omega) | simp_all) (by first | assumption | omega | (simp; omega) | simp_all) (by first | assumption | omega | (simp; omega) | simp_all) (by first | assumption | omega | (simp; omega) | simp_all)) ?_)
            | refine hop_e rfl (eop_callx (i := 3) ca29 rfl (WeakL.refl _) rfl (c_benchmake_Stream_Odd (by first | assumption | omega | (simp; omega) | simp_all) (by first | assumption | omega | (simp; omega) | simp_all) (by first | assumption | omega | (simp; omega) | simp_all) (by first | assumption | omega | (simp; omega) | simp_all)) ?_)
            rintro _ _ ⟨y40, rfl, rfl⟩
            refine ⟨fun _ => by first | exact .inl ⟨0, rfl⟩ | exact .inl ⟨1, rfl⟩ | exact .inl ⟨2, rfl⟩ | exact .inr (by simp [Before, Region.binds]), ?_⟩
            refine ahp 11 rfl rfl (by kernel_rfl) (by kernel_rfl) (pop_fieldAddr_raw ty28 rfl ty3 (by decide) rfl) ?_
            refine ahe 3 rfl (by kernel_rfl) ?_
            first
            | refine hop_e rfl (eop_callx (i := 0) ca29 rfl (WeakL.refl _) rfl (c_benchmake_Stream_Odd (by first | assumption | omega | (simp; omega) | simp_all) (by first | assumption | omega | (simp; omega) | simp_all) (by first | assumption | omega | (simp; omega) | simp_all) (by first | assumption | omega | (simp; omega) | simp_all)) ?_)
            | refine hop_e rfl (eop_callx (i := 1) ca29 rfl (WeakL.refl _) rfl (c_benchmake_Stream_Odd (by first | assumption | omega | (simp; omega) | simp_all) (by first | assumption | omega | (simp; omega) | simp_all) (by first | assumption | omega | (simp; omega) | simp_all) (by first | assumption | omega | (simp; omega) | simp_all)) ?_)
            | refine hop_e rfl (eop_callx (i := 2) ca29 rfl (WeakL.refl _) rfl (c_benchmake_Stream_Odd (by first | assumption | omega | (simp; omega) | simp_all) (by first | assumption | omega | (simp; omega) | simp_all) (by first | assumption | omega | (simp; omega) | simp_all) (by first | assumption | omega | (simp; omega) | simp_all)) ?_)
            | refine hop_e rfl (eop_callx (i := 3) ca29 rfl (WeakL.refl _) rfl (c_benchmake_Stream_Odd (by first | assumption | omega | (simp; omega) | simp_all) (by first | assumption | omega | (simp; omega) | simp_all) (by first | assumption | omega | (simp; omega) | simp_all) (by first | assumption | omega | (simp; omega) | simp_all)) ?_)
            rintro _ _ ⟨y42, rfl, rfl⟩
            refine ⟨fun _ => by first | exact .inl ⟨0, rfl⟩ | exact .inl ⟨1, rfl⟩ | exact .inl ⟨2, rfl⟩ | exact .inr (by simp [Before, Region.binds]), ?_⟩
            refine ahe 8 rfl (by kernel_rfl) ?_
            first
            | refine hop_e rfl (eop_callx (i := 0) ca6 rfl (WeakL.refl _) rfl (c_benchmake_Stream_Some (L := [_, _, _]) (by first | assumption | omega | (simp; omega) | simp_all) (by first | assumption | omega | (simp; omega) | simp_all) (by first | assumption | omega | (simp; omega) | simp_all)) ?_)
            | refine hop_e rfl (eop_callx (i := 1) ca6 rfl (WeakL.refl _) rfl (c_benchmake_Stream_Some (L := [_, _, _]) (by first | assumption | omega | (simp; omega) | simp_all) (by first | assumption | omega | (simp; omega) | simp_all) (by first | assumption | omega | (simp; omega) | simp_all)) ?_)
            | refine hop_e rfl (eop_callx (i := 2) ca6 rfl (WeakL.refl _) rfl (c_benchmake_Stream_Some (L := [_, _, _]) (by first | assumption | omega | (simp; omega) | simp_all) (by first | assumption | omega | (simp; omega) | simp_all) (by first | assumption | omega | (simp; omega) | simp_all)) ?_)
            | refine hop_e rfl (eop_callx (i := 3) ca6 rfl (WeakL.refl _) rfl (c_benchmake_Stream_Some (L := [_, _, _]) (by first | assumption | omega | (simp; omega) | simp_all) (by first | assumption | omega | (simp; omega) | simp_all) (by first | assumption | omega | (simp; omega) | simp_all)) ?_)
            rintro _ _ ⟨y47, rfl, hy47, rfl⟩
            refine ⟨fun _ => by first | exact .inl ⟨0, rfl⟩ | exact .inl ⟨1, rfl⟩ | exact .inl ⟨2, rfl⟩ | exact .inr (by simp [Before, Region.binds]), ?_⟩
            refine ahp 9 rfl rfl (by kernel_rfl) (by kernel_rfl) (pop_buildSlice (hs := [_]) ty26 ty9 rfl rfl (by decide) (by decide) rfl) ?_
            refine ahe 10 rfl (by kernel_rfl) ?_
            first
            | refine hop_e rfl (eop_append (i := 0) ty26 ty9 rfl rfl rfl rfl rfl (by simp [flat, hcells]) (by first | omega | (simp; omega)) fun v49 => ?_)
            | refine hop_e rfl (eop_append (i := 1) ty26 ty9 rfl rfl rfl rfl rfl (by simp [flat, hcells]) (by first | omega | (simp; omega)) fun v49 => ?_)
            | refine hop_e rfl (eop_append (i := 2) ty26 ty9 rfl rfl rfl rfl rfl (by simp [flat, hcells]) (by first | omega | (simp; omega)) fun v49 => ?_)
            | refine hop_e rfl (eop_append (i := 3) ty26 ty9 rfl rfl rfl rfl rfl (by simp [flat, hcells]) (by first | omega | (simp; omega)) fun v49 => ?_)
            refine ⟨fun _ => by first | exact .inl ⟨0, rfl⟩ | exact .inl ⟨1, rfl⟩ | exact .inl ⟨2, rfl⟩ | exact .inr (by simp [Before, Region.binds]), ?_⟩
            refine ahe 12 rfl (by kernel_rfl) ?_
            first
            | refine hop_e0 (eop_store (i := 0) ty3 rfl rfl rfl rfl rfl (Nat.le_of_ble_eq_true rfl) ?_)
            | refine hop_e0 (eop_store (i := 1) ty3 rfl rfl rfl rfl rfl (Nat.le_of_ble_eq_true rfl) ?_)
            | refine hop_e0 (eop_store (i := 2) ty3 rfl rfl rfl rfl rfl (Nat.le_of_ble_eq_true rfl) ?_)
            | refine hop_e0 (eop_store (i := 3) ty3 rfl rfl rfl rfl rfl (Nat.le_of_ble_eq_true rfl) ?_)
            refine ⟨fun _ => by first | exact .inl ⟨0, rfl⟩ | exact .inl ⟨1, rfl⟩ | exact .inl ⟨2, rfl⟩ | exact .inr (by simp [Before, Region.binds]), ?_⟩
            refine ahp 13 rfl rfl (by kernel_rfl) (by kernel_rfl) (pop_fieldAddr_raw ty28 rfl ty3 (by decide) rfl) ?_
            refine ahe 14 rfl (by kernel_rfl) ?_
            first
            | refine hop_e0 (eop_store (i := 0) ty3 rfl rfl rfl rfl rfl (Nat.le_of_ble_eq_true rfl) ?_)
            | refine hop_e0 (eop_store (i := 1) ty3 rfl rfl rfl rfl rfl (Nat.le_of_ble_eq_true rfl) ?_)
            | refine hop_e0 (eop_store (i := 2) ty3 rfl rfl rfl rfl rfl (Nat.le_of_ble_eq_true rfl) ?_)
            | refine hop_e0 (eop_store (i := 3) ty3 rfl rfl rfl rfl rfl (Nat.le_of_ble_eq_true rfl) ?_)
            refine ⟨fun _ => by first | exact .inl ⟨0, rfl⟩ | exact .inl ⟨1, rfl⟩ | exact .inl ⟨2, rfl⟩ | exact .inr (by simp [Before, Region.binds]), ?_⟩
            refine ahp 15 rfl rfl (by kernel_rfl) (by kernel_rfl) (pop_fieldAddr_raw ty28 rfl ty26 (by decide) rfl) ?_
            refine ahe 16 rfl (by kernel_rfl) ?_
            first
            | refine hop_e0 (eop_store (i := 0) ty26 rfl rfl rfl rfl rfl (Nat.le_of_ble_eq_true rfl) ?_)
            | refine hop_e0 (eop_store (i := 1) ty26 rfl rfl rfl rfl rfl (Nat.le_of_ble_eq_true rfl) ?_)
            | refine hop_e0 (eop_store (i := 2) ty26 rfl rfl rfl rfl rfl (Nat.le_of_ble_eq_true rfl) ?_)
            | refine hop_e0 (eop_store (i := 3) ty26 rfl rfl rfl rfl rfl (Nat.le_of_ble_eq_true rfl) ?_)
            refine ⟨fun _ => by first | exact .inl ⟨0, rfl⟩ | exact .inl ⟨1, rfl⟩ | exact .inl ⟨2, rfl⟩ | exact .inr (by simp [Before, Region.binds]), ?_⟩
            refine ahz (by kernel_rfl) ?_
            (first | refine joinG_n (Ghost.fcell (i := 0) (k := 0) (j := 1) rfl rfl rfl) ?_ | refine joinG_n (Ghost.fcell (i := 0) (k := 1) (j := 1) rfl rfl rfl) ?_ | refine joinG_n (Ghost.fcell (i := 0) (k := 2) (j := 1) rfl rfl rfl) ?_ | refine joinG_n (Ghost.fcell (i := 0) (k := 3) (j := 1) rfl rfl rfl) ?_ | refine joinG_n (Ghost.fcell (i := 1) (k := 0) (j := 1) rfl rfl rfl) ?_ | refine joinG_n (Ghost.fcell (i := 1) (k := 1) (j := 1) rfl rfl rfl) ?_ | refine joinG_n (Ghost.fcell (i := 1) (k := 2) (j := 1) rfl rfl rfl) ?_ | refine joinG_n (Ghost.fcell (i := 1) (k := 3) (j := 1) rfl rfl rfl) ?_ | refine joinG_n (Ghost.fcell (i := 2) (k := 0) (j := 1) rfl rfl rfl) ?_ | refine joinG_n (Ghost.fcell (i := 2) (k := 1) (j := 1) rfl rfl rfl) ?_ | refine joinG_n (Ghost.fcell (i := 2) (k := 2) (j := 1) rfl rfl rfl) ?_ | refine joinG_n (Ghost.fcell (i := 2) (k := 3) (j := 1) rfl rfl rfl) ?_ | refine joinG_n (Ghost.fcell (i := 3) (k := 0) (j := 1) rfl rfl rfl) ?_ | refine joinG_n (Ghost.fcell (i := 3) (k := 1) (j := 1) rfl rfl rfl) ?_ | refine joinG_n (Ghost.fcell (i := 3) (k := 2) (j := 1) rfl rfl rfl) ?_ | refine joinG_n (Ghost.fcell (i := 3) (k := 3) (j := 1) rfl rfl rfl) ?_)
            refine joinG_z (⟨T, Pl ++ [y47], y40, y42⟩, a + 10) ⟨?_, by dsimp only; omega⟩ trivial (by repeat (first | exact keeps_refl | refine keeps_upd rfl ?_ | refine keeps_loop rfl rfl ?_)) ?_
            · exact good_hallP hT hPl (by omega) hTs hPs (by simp at hy47; rcases hy47 with rfl | rfl | rfl <;> simp)
            · repeat (first | exact List.Perm.nil | refine permTo 0 rfl ?_ | refine permTo 1 rfl ?_ | refine permTo 2 rfl ?_ | refine permTo 3 rfl ?_ | (refine permToE 0 rfl ?hq ?_; (case hq => simp [setL, hcells]; done)) | (refine permToE 1 rfl ?hq ?_; (case hq => simp [setL, hcells]; done)) | (refine permToE 2 rfl ?hq ?_; (case hq => simp [setL, hcells]; done)) | (refine permToE 3 rfl ?hq ?_; (case hq => simp [setL, hcells]; done)) | fail)
          · try simp at h4
            refine hw_skip ?_
            (first | refine joinG_n (Ghost.fcell (i := 0) (k := 0) (j := 1) rfl rfl rfl) ?_ | refine joinG_n (Ghost.fcell (i := 0) (k := 1) (j := 1) rfl rfl rfl) ?_ | refine joinG_n (Ghost.fcell (i := 0) (k := 2) (j := 1) rfl rfl rfl) ?_ | refine joinG_n (Ghost.fcell (i := 0) (k := 3) (j := 1) rfl rfl rfl) ?_ | refine joinG_n (Ghost.fcell (i := 1) (k := 0) (j := 1) rfl rfl rfl) ?_ | refine joinG_n (Ghost.fcell (i := 1) (k := 1) (j := 1) rfl rfl rfl) ?_ | refine joinG_n (Ghost.fcell (i := 1) (k := 2) (j := 1) rfl rfl rfl) ?_ | refine joinG_n (Ghost.fcell (i := 1) (k := 3) (j := 1) rfl rfl rfl) ?_ | refine joinG_n (Ghost.fcell (i := 2) (k := 0) (j := 1) rfl rfl rfl) ?_ | refine joinG_n (Ghost.fcell (i := 2) (k := 1) (j := 1) rfl rfl rfl) ?_ | refine joinG_n (Ghost.fcell (i := 2) (k := 2) (j := 1) rfl rfl rfl) ?_ | refine joinG_n (Ghost.fcell (i := 2) (k := 3) (j := 1) rfl rfl rfl) ?_ | refine joinG_n (Ghost.fcell (i := 3) (k := 0) (j := 1) rfl rfl rfl) ?_ | refine joinG_n (Ghost.fcell (i := 3) (k := 1) (j := 1) rfl rfl rfl) ?_ | refine joinG_n (Ghost.fcell (i := 3) (k := 2) (j := 1) rfl rfl rfl) ?_ | refine joinG_n (Ghost.fcell (i := 3) (k := 3) (j := 1) rfl rfl rfl) ?_)
            refine joinG_z (⟨T, Pl, Bu, P⟩, a + 5) ⟨?_, by dsimp only; omega⟩ trivial (by repeat (first | exact keeps_refl | refine keeps_upd rfl ?_ | refine keeps_loop rfl rfl ?_)) ?_
            · exact good_hall hT hPl (by omega) hTs hPs
            · repeat (first | exact List.Perm.nil | refine permTo 0 rfl ?_ | refine permTo 1 rfl ?_ | refine permTo 2 rfl ?_ | refine permTo 3 rfl ?_ | (refine permToE 0 rfl ?hq ?_; (case hq => simp [setL, hcells]; done)) | (refine permToE 1 rfl ?hq ?_; (case hq => simp [setL, hcells]; done)) | (refine permToE 2 rfl ?hq ?_; (case hq => simp [setL, hcells]; done)) | (refine permToE 3 rfl ?hq ?_; (case hq => simp [setL, hcells]; done)) | fail)
        · intro q hq2
          obtain ⟨h, a2⟩ := q
          dsimp only at hq2
          refine hw_reg ?_
          first
          | refine de rfl (eop_loadw (i := 0) ty28 rfl rfl rfl rfl rfl ?_)
          | refine de rfl (eop_loadw (i := 1) ty28 rfl rfl rfl rfl rfl ?_)
          | refine de rfl (eop_loadw (i := 2) ty28 rfl rfl rfl rfl rfl ?_)
          | refine de rfl (eop_loadw (i := 3) ty28 rfl rfl rfl rfl rfl ?_)
          first
          | refine de0 (eop_store (i := 0) ty28 rfl rfl rfl rfl rfl (Nat.le_of_ble_eq_true rfl) ?_)
          | refine de0 (eop_store (i := 1) ty28 rfl rfl rfl rfl rfl (Nat.le_of_ble_eq_true rfl) ?_)
          | refine de0 (eop_store (i := 2) ty28 rfl rfl rfl rfl rfl (Nat.le_of_ble_eq_true rfl) ?_)
          | refine de0 (eop_store (i := 3) ty28 rfl rfl rfl rfl rfl (Nat.le_of_ble_eq_true rfl) ?_)
          refine dn ?_
          refine hw_ret ?_
          exact ⟨_, _, (Ghost.drop).trans (Ghost.fc0 2 rfl), [_], _, ⟨⟨_, _, _, _, _, rfl, ty28, .inr ⟨rfl, rfl, rfl⟩⟩, trivial⟩, Weak.refl _, h, a2, rfl, hq2.1, hq2.2, rfl⟩
end Go.Proofs.YtjfapmloepemiaaGreatDoor
end
section
namespace Go.HL
def room1 : Room := ⟨[[97], [98]], 2, 2, [[112], [113], [114], [115]], 1000, 0⟩
theorem room1_ok : checkSwaps room1 [] = 0 := by kernel_rfl
theorem room1_turns : turnTeams room1 [] = [[97], [98], [98], [97]] := by kernel_rfl
theorem eqPicks_refl : ∀ l : List Pick, eqPicks l l = true
  | [] => rfl
  | a :: r => by simp [eqPicks, eqPick, eqPicks_refl r, hcells, eqHL, eqH]
theorem opened_len (r : Room) (k : List Keep) (s : List Swap) (h : openFault r k s = 0) : (opened r k s).length ≤ 1000000 := by
  have := turns_len (s := s) (openFault_ok h).1
  unfold opened open1
  split
  · simp
  · rw [openFrom_len]; omega
end Go.HL
end
section
namespace Go.HL
def mA (h : Hall) (l : List Sale) (t : Str) : Int := if mostE h l t != 0 then 0 else mostOf h l t
def mL (h : Hall) (l : List Sale) : List PairS := if salesE h l != 0 then [] else moneyL h l
def sS (h : Hall) (l : List Sale) (p : Str) (lim : List PairS) : Sale := if sellE h l p lim != 0 then sale0 else sellS p (sellT h l lim)
def sB (h : Hall) (l : List Sale) (p : Str) (lim : List PairS) : Bool := if sellE h l p lim != 0 then false else decide ((sellT h l lim).team ≠ [])
theorem salesE_z {h : Hall} {l : List Sale} (e : hallFault h = 0) : salesFault h l = salesE h l := by simp [salesE, e]
theorem salesE_n {h : Hall} {l : List Sale} (e : ¬ hallFault h = 0) : hallFault h = salesE h l := by simp [salesE, e]
theorem mostE_or (h : Hall) (l : List Sale) (t : Str) : orI [salesE h l, if (!(h.Teams.contains t)) = true then 8 else 0] = mostE h l t := by
  unfold mostE
  by_cases e : salesE h l = 0
  · simp [orI, e]
  · simp [orI, e]
theorem mostE_sales {h : Hall} {l : List Sale} {t : Str} (e : mostE h l t = 0) : salesE h l = 0 := by
  unfold mostE at e; split at e
  · rename_i hc; simp [e] at hc
  · rename_i hc; simpa using hc
theorem sellE_z {h : Hall} {l : List Sale} {p : Str} {lim : List PairS} (hv : ∀ x ∈ lim, x.Val ∈ vals) (e : salesE h l = 0) : sellR h l p lim = sellE h l p lim := by
  rw [← sell_ref hv, if_neg (by simp [e])]
theorem sellE_n {h : Hall} {l : List Sale} {p : Str} {lim : List PairS} (e : ¬ salesE h l = 0) : salesE h l = sellE h l p lim := by simp [sellE, e]
theorem sellE_ok {h : Hall} {l : List Sale} {p : Str} {lim : List PairS} (e : sellE h l p lim = 0) : salesE h l = 0 ∧ limGo h lim 0 lim = 0 := by
  unfold sellE at e
  split at e
  · rename_i hc; simp [e] at hc
  · rename_i hc
    refine ⟨by simpa using hc, ?_⟩
    split at e
    · omega
    · split at e
      · omega
      · unfold limE at e; split at e
        · omega
        · exact e
theorem mA_z {h : Hall} {l : List Sale} {t : Str} (e : mostE h l t = 0) : mostOf h l t = mA h l t := by simp [mA, e]
theorem mA_n {h : Hall} {l : List Sale} {t : Str} (e : ¬ mostE h l t = 0) : 0 = mA h l t := by simp [mA, e]
theorem mL_z {h : Hall} {l : List Sale} (e : salesE h l = 0) : moneyL h l = mL h l := by simp [mL, e]
theorem mL_n {h : Hall} {l : List Sale} (e : ¬ salesE h l = 0) : [] = mL h l := by simp [mL, e]
theorem sS_n {h : Hall} {l : List Sale} {p : Str} {lim : List PairS} (e : ¬ sellE h l p lim = 0) : sale0 = sS h l p lim ∧ false = sB h l p lim := by simp [sS, sB, e]
theorem sS_z {h : Hall} {l : List Sale} {p : Str} {lim : List PairS} (hv : ∀ x ∈ lim, x.Val ∈ vals) (e : sellE h l p lim = 0) :
    soldS (isort byPrice (bidsR h l p lim h.Teams)) = sS h l p lim ∧ soldB (isort byPrice (bidsR h l p lim h.Teams)) = sB h l p lim := by
  obtain ⟨e1, e2⟩ := sellE_ok e
  obtain ⟨q1, q2⟩ := sell_sold (l := l) (player := p) (salesE_hall e1) e2 hv
  rw [q1, q2]; simp [sS, sB, e]
theorem mL_len {h : Hall} {l : List Sale} (ht : h.Teams.length ≤ 1000000) : (mL h l).length ≤ 1000000 := by
  unfold mL; split
  · simp
  · simp [moneyL]; exact ht
theorem eqSale_refl (a : Sale) : eqHL [.str a.Player, .str a.Team, .int .i64 a.Price] [.str a.Player, .str a.Team, .int .i64 a.Price] = true := by simp [eqHL, eqH]
end Go.HL
end
section
namespace Go.Proofs.YtjfapmloepemiaaGreatDoor
open Go.HL
set_option maxRecDepth 100000
set_option linter.unusedVariables false
set_option linter.unusedSimpArgs false
/-- benchwarmer/benchlaw1.drafted -/
theorem c_benchlaw1_drafted   : ConP Tryz.prog 23 [] (.bool true) := by
  refine Con.of_body Tryz.func23 rfl Tryz.ntmps23 rfl rfl ?_
  refine hw_reg ?_
  refine dp rfl (pop_assign rfl) ?_
  refine dn ?_
  refine hw_reg ?_
  refine dp rfl (pop_buildSlice (hs := [_, _]) ty26 ty9 rfl rfl (by decide) (by decide) rfl) ?_
  refine dp rfl (pop_buildSlice (hs := [_, _, _, _]) ty26 ty9 rfl rfl (by decide) (by decide) rfl) ?_
  refine dp rfl (pop_build (cs := [_, _, _, _, _, _]) ty95 pl95 rfl) ?_
  refine de rfl (eop_alloc ty95 rfl fun b1 => ?_)
  refine de0 (eop_storew ty95 rfl rfl rfl rfl rfl ?_)
  refine dn ?_
  refine hw_ghost (Ghost.fc0 1 rfl) ?_
  refine hw_reg ?_
  refine dp rfl (pop_loadw ty95 rfl rfl rfl rfl) ?_
  refine dp rfl (pop_call (hs' := [eRoom room1, eSwaps []]) ca53 rfl ⟨Weak.refl _, weak_nil 3, trivial⟩ (c_draft_Turns (r := room1) (s := []) (by decide) (by decide) (by decide))) ?_
  refine dp rfl (pop_move rfl) ?_
  refine dp rfl (pop_extract rfl rfl) ?_
  refine dp rfl (pop_extract rfl rfl) ?_
  refine dp rfl (pop_assign rfl) ?_
  refine dp rfl (pop_assign rfl) ?_
  refine dn ?_
  refine hw_reg ?_
  refine dp rfl (pop_move rfl) ?_
  refine dp rfl (pop_eql rfl rfl) ?_
  refine dp rfl (pop_move rfl) ?_
  refine dg rfl rfl (fun hc => ⟨_, OpenTo.refl _, pop_move rfl⟩) ?_
  refine dg rfl rfl (fun hc => ⟨_, OpenTo.refl _, pop_buildSlice (hs := [_, _, _, _]) ty26 ty9 rfl rfl (by decide) (by decide) rfl⟩) ?_
  refine dg rfl rfl (fun hc => ⟨_, OpenTo.upd (t := 16) rfl (by first | exact hc | simp_all) (OpenTo.upd (t := 15) rfl (by first | exact hc | simp_all) (OpenTo.refl _)), pop_call ca54 rfl (WeakL.refl _) (c_slices_Equal_string_string (l := turnTeams room1 []) (m := [[97], [98], [98], [97]]) (by rw [room1_turns]; decide))⟩) ?_
  refine dp rfl (pop_picko rfl (.inr ⟨_, rfl, fun h => by simp_all⟩) (.inl rfl)) ?_
  refine dp rfl (pop_assign rfl) ?_
  refine dn ?_
  refine hw_ret ?_
  refine ret_p rfl ?_
  rw [room1_turns, room1_ok]
  rfl

theorem w_MostBid {h : Hall} {l : List Sale} {team : Str} (hl : l.length ≤ 1000) (hB : ∀ x ∈ l, -2000000 ≤ x.Price ∧ x.Price ≤ 2000000) (ht : h.Teams.length ≤ 1000000) (hp : h.Players.length ≤ 1000000) : ConP Tryz.prog 12 [eHall h, eSales l, .str team] (.tup [.int .i64 (mA h l team), .int .i64 (mostE h l team)]) := c_draft_MostBid hl hB ht hp
theorem w_Money {h : Hall} {l : List Sale} (hl : l.length ≤ 1000) (hB : ∀ x ∈ l, -2000000 ≤ x.Price ∧ x.Price ≤ 2000000) (ht : h.Teams.length ≤ 1000000) (hp : h.Players.length ≤ 1000000) : ConP Tryz.prog 13 [eHall h, eSales l] (.tup [ePairs (mL h l), .int .i64 (salesE h l)]) := c_draft_Money hl hB ht hp
theorem w_Sell {h : Hall} {l : List Sale} {player : Str} {lim : List PairS} (hl : l.length ≤ 1000) (hB : ∀ x ∈ l, -2000000 ≤ x.Price ∧ x.Price ≤ 2000000) (ht : h.Teams.length ≤ 1000000) (hp : h.Players.length ≤ 1000000) (hlim : lim.length ≤ 1000) (hv : ∀ x ∈ lim, x.Val ∈ vals) : ConP Tryz.prog 14 [eHall h, eSales l, .str player, ePairs lim] (.tup [eSale (sS h l player lim), .bool (sB h l player lim), .int .i64 (sellE h l player lim)]) := c_draft_Sell hl hB ht hp hlim hv
theorem w_SalesFault {h : Hall} {l : List Sale} (hl : l.length ≤ 1000) (hB : ∀ x ∈ l, -2000000 ≤ x.Price ∧ x.Price ≤ 2000000) (ht : h.Teams.length ≤ 1000000) (hp : h.Players.length ≤ 1000000) (e : hallFault h = 0) : ConP Tryz.prog 9 [eHall h, eSales l] (.int .i64 (salesE h l)) := by
  obtain ⟨f1, f2, f3, f4⟩ := hallFault_ok e
  rw [← salesE_z e]
  exact c_benchref1_SalesFault hl hB (by omega) (by omega) ht hp
theorem w_SellFault {h : Hall} {l : List Sale} {player : Str} {lim : List PairS} (hl : l.length ≤ 1000) (hlim : lim.length ≤ 1000) (hv : ∀ x ∈ lim, x.Val ∈ vals) (ht : h.Teams.length ≤ 1000000) (hp : h.Players.length ≤ 1000000) (e : salesE h l = 0) : ConP Tryz.prog 18 [eHall h, eSales l, .str player, ePairs lim] (.int .i64 (sellE h l player lim)) := by
  rw [← sellE_z hv e]
  exact c_benchref1_SellFault hl hlim hv ht hp
theorem w_MostOf {h : Hall} {l : List Sale} {t : Str} (hl : l.length ≤ 1000) (hB : ∀ x ∈ l, -2000000 ≤ x.Price ∧ x.Price ≤ 2000000) (e : mostE h l t = 0) : ConP Tryz.prog 19 [eHall h, eSales l, .str t] (.int .i64 (mA h l t)) := by
  obtain ⟨f1, f2, f3, f4⟩ := hallFault_ok (salesE_hall (mostE_sales e))
  rw [← mA_z e]
  exact c_benchref1_MostOf hl hB (by omega) (by omega)
theorem w_MoneyOf {h : Hall} {l : List Sale} (hl : l.length ≤ 1000) (hB : ∀ x ∈ l, -2000000 ≤ x.Price ∧ x.Price ≤ 2000000) (ht : h.Teams.length ≤ 1000000) (hp : h.Players.length ≤ 1000000) (e : salesE h l = 0) : ConP Tryz.prog 20 [eHall h, eSales l] (ePairs (mL h l)) := by
  obtain ⟨f1, f2, f3, f4⟩ := hallFault_ok (salesE_hall e)
  rw [← mL_z e]
  exact c_benchref1_MoneyOf hl hB (by omega) ht hp
theorem w_SoldOf {h : Hall} {l : List Sale} {player : Str} {lim : List PairS} (hl : l.length ≤ 1000) (hB : ∀ x ∈ l, -2000000 ≤ x.Price ∧ x.Price ≤ 2000000) (ht : h.Teams.length ≤ 4) (hlim : lim.length ≤ 4) (hv : ∀ x ∈ lim, x.Val ∈ vals) (e : sellE h l player lim = 0) : ConP Tryz.prog 21 [eHall h, eSales l, .str player, ePairs lim] (.tup [eSale (sS h l player lim), .bool (sB h l player lim)]) := by
  obtain ⟨f1, f2, f3, f4⟩ := hallFault_ok (salesE_hall (sellE_ok e).1)
  rw [← (sS_z hv e).1, ← (sS_z hv e).2]
  exact c_benchref1_SoldOf hl hB (by omega) (by omega) ht hlim hv


set_option maxHeartbeats 2000000 in
/-- benchwarmer/benchlaw1.PlayersSold -/
theorem c_benchlaw1_PlayersSold {l : List Int}  : ConP Tryz.prog 3 [.slice 1 (l.map (.int .i64))] (.bool true) := by
  refine Con.of_body Tryz.func3 rfl Tryz.ntmps3 rfl rfl ?_
  refine hw_reg ?_
  refine dp rfl (pop_assign rfl) ?_
  refine dn ?_
  refine hw_reg ?_
  refine dp rfl (pop_move rfl) ?_
  refine dp rfl (pop_build (cs := [_, _]) ty25 pl25 rfl) ?_
  refine de rfl (eop_box rfl rfl fun b => ?_)
  refine dghost (M' := [St b l 0]) rfl ?_
  refine dp rfl (pop_assign rfl) ?_
  refine dn ?_
  refine hw_reg ?_
  refine dp rfl (pop_move rfl) ?_
  first
  | refine de rfl (eop_callx (i := 0) ca4 rfl (WeakL.refl _) rfl (c_benchmake_Stream_HallOf (by first | assumption | omega | (simp; omega) | simp_all)) ?_)
  | refine de rfl (eop_callx (i := 1) ca4 rfl (WeakL.refl _) rfl (c_benchmake_Stream_HallOf (by first | assumption | omega | (simp; omega) | simp_all)) ?_)
  | refine de rfl (eop_callx (i := 2) ca4 rfl (WeakL.refl _) rfl (c_benchmake_Stream_HallOf (by first | assumption | omega | (simp; omega) | simp_all)) ?_)
  | refine de rfl (eop_callx (i := 3) ca4 rfl (WeakL.refl _) rfl (c_benchmake_Stream_HallOf (by first | assumption | omega | (simp; omega) | simp_all)) ?_)
  rintro _ _ ⟨h28, a28, rfl, hh28, ha28, rfl⟩
  refine de rfl (eop_alloc ty28 rfl fun b4 => ?_)
  refine de0 (eop_storew ty28 rfl rfl rfl rfl rfl ?_)
  refine dn ?_
  refine hw_ghost (Ghost.fc0 4 rfl) ?_
  have ht1 : h28.Teams.length ≤ 1000000 := Nat.le_trans hh28.t4 (by omega)
  have hp1 : h28.Players.length ≤ 1000000 := Nat.le_trans hh28.p20 (by omega)
  have hs1 := hh28.ts
  have hs2 := hh28.ps
  refine hw_draw (fun _ => True) [] mixed ?_
  refine ahp 0 rfl rfl (by kernel_rfl) (by kernel_rfl) (pop_move rfl) ?_
  refine ahp 1 rfl rfl (by kernel_rfl) (by kernel_rfl) (pop_loadw ty28 rfl rfl rfl rfl) ?_
  refine ahp 3 rfl rfl (by kernel_rfl) (by kernel_rfl) (pop_move rfl) ?_
  refine ahp 4 rfl rfl (by kernel_rfl) (by kernel_rfl) (pop_buildSlice (hs := [_, _, _, _]) ty26 ty9 rfl rfl (by decide) (by decide) rfl) ?_
  refine ahp 6 rfl rfl (by kernel_rfl) (by kernel_rfl) (pop_move rfl) ?_
  refine ahp 7 rfl rfl (by kernel_rfl) (by kernel_rfl) (pop_loadw ty28 rfl rfl rfl rfl) ?_
  refine ahe 2 rfl (by kernel_rfl) ?_
  first
  | refine hop_e rfl (eop_callx (i := 0) ca5 rfl (WeakL.refl _) rfl (c_benchmake_Stream_SaleList (by first | assumption | omega | (simp; omega) | simp_all) (by first | assumption | omega | (simp; omega) | simp_all)) ?_)
  | refine hop_e rfl (eop_callx (i := 1) ca5 rfl (WeakL.refl _) rfl (c_benchmake_Stream_SaleList (by first | assumption | omega | (simp; omega) | simp_all) (by first | assumption | omega | (simp; omega) | simp_all)) ?_)
  | refine hop_e rfl (eop_callx (i := 2) ca5 rfl (WeakL.refl _) rfl (c_benchmake_Stream_SaleList (by first | assumption | omega | (simp; omega) | simp_all) (by first | assumption | omega | (simp; omega) | simp_all)) ?_)
  | refine hop_e rfl (eop_callx (i := 3) ca5 rfl (WeakL.refl _) rfl (c_benchmake_Stream_SaleList (by first | assumption | omega | (simp; omega) | simp_all) (by first | assumption | omega | (simp; omega) | simp_all)) ?_)
  rintro _ _ ⟨l31, a31, rfl, hl31, ha31, rfl⟩
  refine ⟨fun _ => .inl trivial, ?_⟩
  refine ahe 5 rfl (by kernel_rfl) ?_
  first
  | refine hop_e rfl (eop_callx (i := 0) ca6 rfl (WeakL.refl _) rfl (c_benchmake_Stream_Some (L := [_, _, _, _]) (by first | assumption | omega | (simp; omega) | simp_all) (by first | assumption | omega | (simp; omega) | simp_all) (by first | assumption | omega | (simp; omega) | simp_all)) ?_)
  | refine hop_e rfl (eop_callx (i := 1) ca6 rfl (WeakL.refl _) rfl (c_benchmake_Stream_Some (L := [_, _, _, _]) (by first | assumption | omega | (simp; omega) | simp_all) (by first | assumption | omega | (simp; omega) | simp_all) (by first | assumption | omega | (simp; omega) | simp_all)) ?_)
  | refine hop_e rfl (eop_callx (i := 2) ca6 rfl (WeakL.refl _) rfl (c_benchmake_Stream_Some (L := [_, _, _, _]) (by first | assumption | omega | (simp; omega) | simp_all) (by first | assumption | omega | (simp; omega) | simp_all) (by first | assumption | omega | (simp; omega) | simp_all)) ?_)
  | refine hop_e rfl (eop_callx (i := 3) ca6 rfl (WeakL.refl _) rfl (c_benchmake_Stream_Some (L := [_, _, _, _]) (by first | assumption | omega | (simp; omega) | simp_all) (by first | assumption | omega | (simp; omega) | simp_all) (by first | assumption | omega | (simp; omega) | simp_all)) ?_)
  rintro _ _ ⟨y34, rfl, hy34, rfl⟩
  refine ⟨fun _ => .inl trivial, ?_⟩
  refine ahe 8 rfl (by kernel_rfl) ?_
  first
  | refine hop_e rfl (eop_callx (i := 0) ca7 rfl (WeakL.refl _) rfl (c_benchmake_Stream_Limits (by first | assumption | omega | (simp; omega) | simp_all) (by first | assumption | omega | (simp; omega) | simp_all)) ?_)
  | refine hop_e rfl (eop_callx (i := 1) ca7 rfl (WeakL.refl _) rfl (c_benchmake_Stream_Limits (by first | assumption | omega | (simp; omega) | simp_all) (by first | assumption | omega | (simp; omega) | simp_all)) ?_)
  | refine hop_e rfl (eop_callx (i := 2) ca7 rfl (WeakL.refl _) rfl (c_benchmake_Stream_Limits (by first | assumption | omega | (simp; omega) | simp_all) (by first | assumption | omega | (simp; omega) | simp_all)) ?_)
  | refine hop_e rfl (eop_callx (i := 3) ca7 rfl (WeakL.refl _) rfl (c_benchmake_Stream_Limits (by first | assumption | omega | (simp; omega) | simp_all) (by first | assumption | omega | (simp; omega) | simp_all)) ?_)
  rintro _ _ ⟨p37, a37, rfl, hp37, ha37, rfl⟩
  refine ⟨fun _ => .inl trivial, ?_⟩
  refine ahp 9 rfl rfl (by kernel_rfl) (by kernel_rfl) (pop_assign rfl) ?_
  refine ahp 10 rfl rfl (by kernel_rfl) (by kernel_rfl) (pop_assign rfl) ?_
  refine ahp 11 rfl rfl (by kernel_rfl) (by kernel_rfl) (pop_assign rfl) ?_
  refine ahz (by kernel_rfl) ?_
  have hl1 : l31.length ≤ 1000 := Nat.le_trans hl31.len (by omega)
  have hB1 : ∀ x ∈ l31, -2000000 ≤ x.Price ∧ x.Price ≤ 2000000 := fun x hx => by have := hl31.all x hx; omega
  have hv1 := hp37.all
  have hv2 := hp37.len
  refine hw_reg ?_
  refine dp rfl (pop_move rfl) ?_
  refine dp rfl (pop_buildSlice (hs := [_, _, _, _]) ty26 ty9 rfl rfl (by decide) (by decide) rfl) ?_
  first
  | refine de rfl (eop_callx (i := 0) ca6 rfl (WeakL.refl _) rfl (c_benchmake_Stream_Some (L := [_, _, _, _]) (by first | assumption | omega | (simp; omega) | simp_all) (by first | assumption | omega | (simp; omega) | simp_all) (by first | assumption | omega | (simp; omega) | simp_all)) ?_)
  | refine de rfl (eop_callx (i := 1) ca6 rfl (WeakL.refl _) rfl (c_benchmake_Stream_Some (L := [_, _, _, _]) (by first | assumption | omega | (simp; omega) | simp_all) (by first | assumption | omega | (simp; omega) | simp_all) (by first | assumption | omega | (simp; omega) | simp_all)) ?_)
  | refine de rfl (eop_callx (i := 2) ca6 rfl (WeakL.refl _) rfl (c_benchmake_Stream_Some (L := [_, _, _, _]) (by first | assumption | omega | (simp; omega) | simp_all) (by first | assumption | omega | (simp; omega) | simp_all) (by first | assumption | omega | (simp; omega) | simp_all)) ?_)
  | refine de rfl (eop_callx (i := 3) ca6 rfl (WeakL.refl _) rfl (c_benchmake_Stream_Some (L := [_, _, _, _]) (by first | assumption | omega | (simp; omega) | simp_all) (by first | assumption | omega | (simp; omega) | simp_all) (by first | assumption | omega | (simp; omega) | simp_all)) ?_)
  rintro _ _ ⟨y40, rfl, hy40, rfl⟩
  refine dp rfl (pop_assign rfl) ?_
  refine dn ?_
  refine hw_reg ?_
  refine dp rfl (pop_loadw ty28 rfl rfl rfl rfl) ?_
  refine dp rfl (pop_call ca8 rfl (WeakL.refl _) (c_benchref1_HallFault ht1 hp1 hs1 hs2)) ?_
  refine dp rfl (pop_assign rfl) ?_
  refine dn ?_
  refine hw_reg ?_
  refine dp rfl (pop_move rfl) ?_
  refine dp rfl (pop_assign rfl) ?_
  refine dn ?_
  refine hw_join [10, 44, 45, 46, 47, 48] (fun (q : Unit) => [(10, .int .i64 (salesE h28 l31))]) (fun (q : Unit) => [St b l (a37 + 1)]) (fun (q : Unit) => True) ?_ ?_
  · skip
    refine hw_reg ?_
    refine dp rfl (pop_move rfl) ?_
    refine dp rfl (pop_eql rfl rfl) ?_
    refine dn ?_
    refine hw_cond rfl (fun h1 => ?_) (fun h2 => ?_)
    · try simp at h1
      refine hw_reg1 ?_
      refine dp rfl (pop_loadw ty28 rfl rfl rfl rfl) ?_
      refine dp rfl (pop_move rfl) ?_
      refine dp rfl (pop_call ca9 rfl (WeakL.refl _) (w_SalesFault hl1 hB1 ht1 hp1 h1)) ?_
      refine dp rfl (pop_assign rfl) ?_
      refine dn ?_
      exact ⟨(), trivial, ⟨rfl, trivial⟩, (by repeat (first | exact keeps_refl | refine keeps_upd rfl ?_ | refine keeps_loop rfl rfl ?_)), List.Perm.refl _⟩
    · try simp at h2
      refine hw_skip ?_
      exact ⟨(), trivial, ⟨some_int (salesE_n h2), trivial⟩, (by repeat (first | exact keeps_refl | refine keeps_upd rfl ?_ | refine keeps_loop rfl rfl ?_)), List.Perm.refl _⟩
  · intro q hq
    refine hw_seq ?_
    refine hw_reg ?_
    refine dp rfl (pop_loadw ty28 rfl rfl rfl rfl) ?_
    refine dp rfl (pop_call ca10 rfl (WeakL.refl _) (c_draft_CheckHall ht1 hp1)) ?_
    refine dp rfl (pop_move rfl) ?_
    refine dp rfl (pop_neq rfl rfl) ?_
    refine dp rfl (pop_move rfl) ?_
    refine dg rfl rfl (fun hc => ⟨_, OpenTo.refl _, pop_loadw ty28 rfl rfl rfl rfl⟩) ?_
    refine dg rfl rfl (fun hc => ⟨_, OpenTo.refl _, pop_move rfl⟩) ?_
    refine dg rfl rfl (fun hc => ⟨_, OpenTo.upd (t := 55) rfl (by first | exact hc | simp_all) (OpenTo.upd (t := 54) rfl (by first | exact hc | simp_all) (OpenTo.refl _)), pop_call ca11 rfl (WeakL.refl _) (c_draft_CheckSales hl1 hB1 ht1 hp1)⟩) ?_
    refine dg rfl rfl (fun hc => ⟨_, OpenTo.refl _, pop_move rfl⟩) ?_
    refine dg rfl rfl (fun hc => ⟨_, OpenTo.upd (t := 57) rfl (by first | exact hc | simp_all) (OpenTo.upd (t := 56) rfl (by first | exact hc | simp_all) (OpenTo.refl _)), pop_neq rfl rfl⟩) ?_
    refine dp rfl (pop_picko rfl (.inl rfl) (.inr ⟨_, rfl, fun h => by simp_all⟩)) ?_
    refine dn ?_
    refine hw_cond rfl (fun h3 => ?_) (fun h3 => ?_)
    · exfalso
      try simp at h3
      done
    · try simp at h3
      refine hw_skip ?_
      refine seqQ_n ?_
      refine hw_reg ?_
      refine dp rfl (pop_loadw ty28 rfl rfl rfl rfl) ?_
      refine dp rfl (pop_move rfl) ?_
      refine dp rfl (pop_move rfl) ?_
      refine dp rfl (pop_call ca12 rfl (WeakL.refl _) (w_MostBid hl1 hB1 ht1 hp1)) ?_
      refine dp rfl (pop_move rfl) ?_
      refine dp rfl (pop_extract rfl rfl) ?_
      refine dp rfl (pop_extract rfl rfl) ?_
      refine dp rfl (pop_assign rfl) ?_
      refine dp rfl (pop_assign rfl) ?_
      refine dn ?_
      refine hw_reg ?_
      refine dp rfl (pop_loadw ty28 rfl rfl rfl rfl) ?_
      refine dp rfl (pop_move rfl) ?_
      refine dp rfl (pop_call ca13 rfl (WeakL.refl _) (w_Money hl1 hB1 ht1 hp1)) ?_
      refine dp rfl (pop_move rfl) ?_
      refine dp rfl (pop_extract rfl rfl) ?_
      refine dp rfl (pop_extract rfl rfl) ?_
      refine dp rfl (pop_assign rfl) ?_
      refine dp rfl (pop_assign rfl) ?_
      refine dn ?_
      refine hw_reg ?_
      refine dp rfl (pop_loadw ty28 rfl rfl rfl rfl) ?_
      refine dp rfl (pop_move rfl) ?_
      refine dp rfl (pop_move rfl) ?_
      refine dp rfl (pop_move rfl) ?_
      refine dp rfl (pop_call ca14 rfl (WeakL.refl _) (w_Sell hl1 hB1 ht1 hp1 (by omega) hv1)) ?_
      refine dp rfl (pop_move rfl) ?_
      refine dp rfl (pop_extract rfl rfl) ?_
      refine dp rfl (pop_extract rfl rfl) ?_
      refine dp rfl (pop_extract rfl rfl) ?_
      refine de rfl (eop_alloc ty43 rfl fun b15 => ?_)
      refine de0 (eop_storew ty43 rfl rfl rfl rfl rfl ?_)
      refine dp rfl (pop_assign rfl) ?_
      refine dp rfl (pop_assign rfl) ?_
      refine dn ?_
      refine hw_ghost (Ghost.fc0 15 rfl) ?_
      refine hw_reg ?_
      refine dp rfl (pop_move rfl) ?_
      refine dp rfl (pop_fieldAddr ty28 rfl ty26 (by decide) rfl) ?_
      refine dp rfl (pop_load ty26 rfl rfl rfl) ?_
      refine dp rfl (pop_move rfl) ?_
      refine dp rfl (pop_call ca17 rfl (WeakL.refl _) (c_slices_Contains_string_string (by first | assumption | omega | (simp; omega) | simp_all))) ?_
      refine dp rfl (pop_not rfl) ?_
      refine dp rfl (pop_call ca16 rfl (WeakL.refl _) c_benchref1_NoneFault) ?_
      refine dp rfl (pop_buildSlice (hs := [_, _]) ty87 ty35 rfl rfl (by decide) (by decide) rfl) ?_
      refine dp rfl (pop_eq (h' := .int .i64 (mostE h28 l31 y34)) (pop_call ca15 rfl (WeakL.refl _) (c_cmp_Or_api_Errno (l := [_, _]) (by simp))) (congrArg _ (mostE_or _ _ _))) ?_
      refine dp rfl (pop_move rfl) ?_
      refine dp rfl (pop_assign rfl) ?_
      refine dp rfl (pop_assign rfl) ?_
      refine dn ?_
      refine hw_join [19, 92, 93, 94, 95, 96, 97, 98] (fun (q : Unit) => [(19, .int .i64 (sellE h28 l31 y40 p37))]) (fun (q : Unit) => [St b l (a37 + 1)]) (fun (q : Unit) => True) ?_ ?_
      · skip
        refine hw_reg ?_
        refine dp rfl (pop_move rfl) ?_
        refine dp rfl (pop_eql rfl rfl) ?_
        refine dn ?_
        refine hw_cond rfl (fun h4 => ?_) (fun h5 => ?_)
        · try simp at h4
          refine hw_reg1 ?_
          refine dp rfl (pop_loadw ty28 rfl rfl rfl rfl) ?_
          refine dp rfl (pop_move rfl) ?_
          refine dp rfl (pop_move rfl) ?_
          refine dp rfl (pop_move rfl) ?_
          refine dp rfl (pop_call ca18 rfl (WeakL.refl _) (w_SellFault hl1 (by omega) hv1 ht1 hp1 (by assumption))) ?_
          refine dp rfl (pop_assign rfl) ?_
          refine dn ?_
          exact ⟨(), trivial, ⟨rfl, trivial⟩, (by repeat (first | exact keeps_refl | refine keeps_upd rfl ?_ | refine keeps_loop rfl rfl ?_)), List.Perm.refl _⟩
        · try simp at h5
          refine hw_skip ?_
          exact ⟨(), trivial, ⟨some_int (sellE_n h5), trivial⟩, (by repeat (first | exact keeps_refl | refine keeps_upd rfl ?_ | refine keeps_loop rfl rfl ?_)), List.Perm.refl _⟩
      · intro q hq
        refine hw_reg ?_
        refine dp rfl (pop_assign rfl) ?_
        refine dn ?_
        refine hw_reg ?_
        refine dp rfl (pop_assign rfl) ?_
        refine dn ?_
        refine hw_ghost (Ghost.arr_nil 2) ?_
        refine hw_ghost (Ghost.fa0 21 rfl) ?_
        refine hw_reg ?_
        refine de rfl (eop_alloc ty43 rfl fun b22 => ?_)
        refine dn ?_
        refine hw_reg ?_
        refine dp rfl (pop_assign rfl) ?_
        refine dn ?_
        refine hw_join [20, 99, 100, 101, 102, 103, 104] (fun (q : Unit) => [(20, .int .i64 (mA h28 l31 y34))]) (fun (q : Unit) => [.cells b22 (hcells (eSale sale0)), St b l (a37 + 1)]) (fun (q : Unit) => True) ?_ ?_
        · skip
          refine hw_reg ?_
          refine dp rfl (pop_move rfl) ?_
          refine dp rfl (pop_eql rfl rfl) ?_
          refine dn ?_
          refine hw_cond rfl (fun h6 => ?_) (fun h7 => ?_)
          · try simp at h6
            refine hw_reg1 ?_
            refine dp rfl (pop_loadw ty28 rfl rfl rfl rfl) ?_
            refine dp rfl (pop_move rfl) ?_
            refine dp rfl (pop_move rfl) ?_
            refine dp rfl (pop_call ca19 rfl (WeakL.refl _) (w_MostOf hl1 hB1 (by assumption))) ?_
            refine dp rfl (pop_assign rfl) ?_
            refine dn ?_
            exact ⟨(), trivial, ⟨rfl, trivial⟩, (by repeat (first | exact keeps_refl | refine keeps_upd rfl ?_ | refine keeps_loop rfl rfl ?_)), List.Perm.refl _⟩
          · try simp at h7
            refine hw_skip ?_
            exact ⟨(), trivial, ⟨some_int (mA_n h7), trivial⟩, (by repeat (first | exact keeps_refl | refine keeps_upd rfl ?_ | refine keeps_loop rfl rfl ?_)), List.Perm.refl _⟩
        · intro q hq
          refine hw_join [21, 105, 106, 107, 108, 109] (fun (q : Unit) => [(21, ePairs (mL h28 l31))]) (fun (q : Unit) => [.cells b22 (hcells (eSale sale0)), St b l (a37 + 1)]) (fun (q : Unit) => True) ?_ ?_
          · skip
            refine hw_reg ?_
            refine dp rfl (pop_move rfl) ?_
            refine dp rfl (pop_eql rfl rfl) ?_
            refine dn ?_
            refine hw_cond rfl (fun h8 => ?_) (fun h9 => ?_)
            · try simp at h8
              refine hw_reg1 ?_
              refine dp rfl (pop_loadw ty28 rfl rfl rfl rfl) ?_
              refine dp rfl (pop_move rfl) ?_
              refine dp rfl (pop_call ca20 rfl (WeakL.refl _) (w_MoneyOf hl1 hB1 ht1 hp1 (by assumption))) ?_
              refine dp rfl (pop_assign rfl) ?_
              refine dn ?_
              exact ⟨(), trivial, ⟨rfl, trivial⟩, (by repeat (first | exact keeps_refl | refine keeps_upd rfl ?_ | refine keeps_loop rfl rfl ?_)), List.Perm.refl _⟩
            · try simp at h9
              refine hw_skip ?_
              exact ⟨(), trivial, ⟨(by rw [← mL_n h9]; rfl), trivial⟩, (by repeat (first | exact keeps_refl | refine keeps_upd rfl ?_ | refine keeps_loop rfl rfl ?_)), List.Perm.refl _⟩
          · intro q hq
            refine hw_join [23, 110, 111, 112, 113, 114, 115, 116, 117, 118, 119] (fun (q : Unit) => [(23, .bool (sB h28 l31 y40 p37))]) (fun (q : Unit) => [.cells b22 (hcells (eSale (sS h28 l31 y40 p37))), St b l (a37 + 1)]) (fun (q : Unit) => True) ?_ ?_
            · skip
              refine hw_reg ?_
              refine dp rfl (pop_move rfl) ?_
              refine dp rfl (pop_eql rfl rfl) ?_
              refine dn ?_
              refine hw_cond rfl (fun h10 => ?_) (fun h11 => ?_)
              · try simp at h10
                refine hw_reg1 ?_
                refine dp rfl (pop_loadw ty28 rfl rfl rfl rfl) ?_
                refine dp rfl (pop_move rfl) ?_
                refine dp rfl (pop_move rfl) ?_
                refine dp rfl (pop_move rfl) ?_
                refine dp rfl (pop_call ca21 rfl (WeakL.refl _) (w_SoldOf hl1 hB1 hh28.t4 hp37.len hv1 (by assumption))) ?_
                refine dp rfl (pop_move rfl) ?_
                refine dp rfl (pop_extract rfl rfl) ?_
                refine dp rfl (pop_extract rfl rfl) ?_
                first
                | refine de0 (eop_store (i := 0) ty43 rfl rfl rfl rfl rfl (Nat.le_of_ble_eq_true rfl) ?_)
                | refine de0 (eop_store (i := 1) ty43 rfl rfl rfl rfl rfl (Nat.le_of_ble_eq_true rfl) ?_)
                | refine de0 (eop_store (i := 2) ty43 rfl rfl rfl rfl rfl (Nat.le_of_ble_eq_true rfl) ?_)
                | refine de0 (eop_store (i := 3) ty43 rfl rfl rfl rfl rfl (Nat.le_of_ble_eq_true rfl) ?_)
                refine dp rfl (pop_assign rfl) ?_
                refine dn ?_
                exact ⟨(), trivial, ⟨rfl, trivial⟩, (by repeat (first | exact keeps_refl | refine keeps_upd rfl ?_ | refine keeps_loop rfl rfl ?_)), List.Perm.refl _⟩
              · try simp at h11
                refine hw_skip ?_
                exact ⟨(), trivial, ⟨(by rw [← (sS_n h11).2]; rfl), trivial⟩, (by repeat (first | exact keeps_refl | refine keeps_upd rfl ?_ | refine keeps_loop rfl rfl ?_)), perm_eq (by rw [← (sS_n h11).1])⟩
            · intro q hq
              refine hw_ghost (Ghost.fc 22 (i := 0) rfl rfl) ?_
              refine hw_reg ?_
              refine dp rfl (pop_move rfl) ?_
              refine dp rfl (pop_move rfl) ?_
              refine dp rfl (pop_eql rfl rfl) ?_
              refine dp rfl (pop_move rfl) ?_
              refine dg rfl rfl (fun hc => ⟨_, OpenTo.refl _, pop_move rfl⟩) ?_
              refine dg rfl rfl (fun hc => ⟨_, OpenTo.refl _, pop_move rfl⟩) ?_
              refine dg rfl rfl (fun hc => ⟨_, OpenTo.upd (t := 125) rfl (by first | exact hc | simp_all) (OpenTo.upd (t := 124) rfl (by first | exact hc | simp_all) (OpenTo.refl _)), pop_eql rfl rfl⟩) ?_
              refine dp rfl (pop_picko rfl (.inr ⟨_, rfl, fun h => by simp_all⟩) (.inl rfl)) ?_
              refine dp rfl (pop_move rfl) ?_
              refine dg rfl rfl (fun hc => ⟨_, OpenTo.refl _, pop_move rfl⟩) ?_
              refine dg rfl rfl (fun hc => ⟨_, OpenTo.refl _, pop_move rfl⟩) ?_
              refine dg rfl rfl (fun hc => ⟨_, OpenTo.upd (t := 130) rfl (by first | exact hc | simp_all) (OpenTo.upd (t := 129) rfl (by first | exact hc | simp_all) (OpenTo.refl _)), pop_eql rfl rfl⟩) ?_
              refine dp rfl (pop_picko rfl (.inr ⟨_, rfl, fun h => by simp_all⟩) (.inl rfl)) ?_
              refine dp rfl (pop_move rfl) ?_
              refine dg rfl rfl (fun hc => ⟨_, OpenTo.refl _, pop_move rfl⟩) ?_
              refine dg rfl rfl (fun hc => ⟨_, OpenTo.refl _, pop_move rfl⟩) ?_
              refine dg rfl rfl (fun hc => ⟨_, OpenTo.upd (t := 135) rfl (by first | exact hc | simp_all) (OpenTo.upd (t := 134) rfl (by first | exact hc | simp_all) (OpenTo.refl _)), pop_call ca22 rfl (WeakL.refl _) (c_slices_Equal_api_Pair_api_Pair (mL_len ht1))⟩) ?_
              refine dp rfl (pop_picko rfl (.inr ⟨_, rfl, fun h => by simp_all⟩) (.inl rfl)) ?_
              refine dp rfl (pop_move rfl) ?_
              refine dg rfl rfl (fun hc => ⟨_, OpenTo.refl _, pop_move rfl⟩) ?_
              refine dg rfl rfl (fun hc => ⟨_, OpenTo.refl _, pop_move rfl⟩) ?_
              refine dg rfl rfl (fun hc => ⟨_, OpenTo.upd (t := 140) rfl (by first | exact hc | simp_all) (OpenTo.upd (t := 139) rfl (by first | exact hc | simp_all) (OpenTo.refl _)), pop_eql rfl rfl⟩) ?_
              refine dp rfl (pop_picko rfl (.inr ⟨_, rfl, fun h => by simp_all⟩) (.inl rfl)) ?_
              refine dp rfl (pop_move rfl) ?_
              refine dg rfl rfl (fun hc => ⟨_, OpenTo.refl _, pop_loadw ty43 rfl rfl rfl rfl⟩) ?_
              refine dg rfl rfl (fun hc => ⟨_, OpenTo.refl _, pop_loadw ty43 rfl rfl rfl rfl⟩) ?_
              refine dg rfl rfl (fun hc => ⟨_, OpenTo.upd (t := 145) rfl (by first | exact hc | simp_all) (OpenTo.upd (t := 144) rfl (by first | exact hc | simp_all) (OpenTo.refl _)), pop_eqst ty43 eq43 rfl rfl ⟨rfl, ⟨_, _, _, _, ty9, rfl⟩, ⟨rfl, ⟨_, _, _, _, ty9, rfl⟩, ⟨rfl, ⟨_, _, _, _, ty3, rfl⟩, trivial⟩⟩⟩⟩) ?_
              refine dp rfl (pop_picko rfl (.inr ⟨_, rfl, fun h => by simp_all⟩) (.inl rfl)) ?_
              refine dp rfl (pop_move rfl) ?_
              refine dg rfl rfl (fun hc => ⟨_, OpenTo.refl _, pop_move rfl⟩) ?_
              refine dg rfl rfl (fun hc => ⟨_, OpenTo.refl _, pop_move rfl⟩) ?_
              refine dg rfl rfl (fun hc => ⟨_, OpenTo.upd (t := 150) rfl (by first | exact hc | simp_all) (OpenTo.upd (t := 149) rfl (by first | exact hc | simp_all) (OpenTo.refl _)), pop_eqlb ty4 rfl rfl⟩) ?_
              refine dp rfl (pop_picko rfl (.inr ⟨_, rfl, fun h => by simp_all⟩) (.inl rfl)) ?_
              refine dp rfl (pop_move rfl) ?_
              refine dg rfl rfl (fun hc => ⟨_, OpenTo.refl _, pop_call ca23 rfl (WeakL.refl _) c_benchlaw1_drafted⟩) ?_
              refine dp rfl (pop_picko rfl (.inr ⟨_, rfl, fun h => by simp_all⟩) (.inl rfl)) ?_
              refine dp rfl (pop_assign rfl) ?_
              refine dn ?_
              refine hw_ret ?_
              refine ret_g Ghost.drop rfl ⟨?_, rfl⟩
              show HVal.bool _ = _
              simp [eqPairs_refl, eqSale_refl, hcells]
end Go.Proofs.YtjfapmloepemiaaGreatDoor
end
section
namespace Go.Proofs.YtjfapmloepemiaaGreatDoor
open Go.ChangeShapes Go.WideShapes Go.ChangeAt Go.RowKit Go.HL
theorem ownPlayersSold : ownKnob Tryz.prog.godebug = none := by kernel_rfl
theorem laidOutPlayersSold : laidOutB Tryz.prog = true := by kernel_rfl
theorem cellsPlayersSold : Tryz.prog.cellsOf 3 = 1 := by kernel_rfl
theorem tabPlayersSold {W : World} (h : laidMetH Tryz.prog Rows.playersSoldRow.laid W) : TabI Tryz.prog (allI W) := by
  rw [MakeChecks.laidMetH_plain _ _ _ (by kernel_rfl)] at h
  exact tabI_of_laid (i := 2) (g := 0) (t := 157) h (by kernel_rfl) (by kernel_rfl) (by kernel_rfl) Tryz.underlying157 Tryz.underlying140 (by kernel_rfl) (by kernel_rfl)
theorem callsPlayersSold {W : World} (ht : TabI Tryz.prog (allI W)) {a : Option Addr} {len cap : Nat} {H : Type} {enc : TypeId × Value → H} {d0 : DataW H} {p : List MemPlace} (h : DataW.Trod enc Tryz.prog W 0 (fun _ => true) true 22 (.slice a len cap) d0 p) :
    Calls Tryz.prog 3 #[.slice a len cap] W fun e W' => e = .returned (.bool true) ∧ Below W.heap.size W W' := by
  obtain ⟨fuel, hf⟩ := h
  rcases open_ints Tryz.underlying22 Tryz.underlying3 cellsPlayersSold hf with ⟨hcs, hx⟩ | ⟨a', len', cap', zs, hcs, _, hl, hm, hz, hx, hcell, hwz⟩
  · simp [Value.cells] at hcs
    obtain ⟨rfl, rfl, rfl⟩ := hcs
    exact conp_law (l := []) c_benchlaw1_PlayersSold ht (.slice0 _ _ _)
  · simp [Value.cells] at hcs
    obtain ⟨rfl, rfl, rfl⟩ := hcs
    simp only [if_true] at hz
    exact conp_law (l := zs.take len) c_benchlaw1_PlayersSold ht (v_ints hcell (by omega) hl)
set_option maxRecDepth 100000 in
theorem liftedPlayersSold (os : Os) (started : os.Started) (H : Type) (enc : TypeId × Value → H) :
    ReturnsInHanded {} Tryz.checked os 3 .any (fun w args => (Rows.playersSoldSpec.pre enc Tryz.prog Tryz.f3 Rows.playersSoldRow.domain false w args ∧ laidMetH Tryz.prog Rows.playersSoldRow.laid w) ∧ sizedMet enc Tryz.prog Tryz.f3 (OpenSpec.ofChange Rows.playersSoldSpec) false w args)
      (Rows.playersSoldSpec.post enc Tryz.prog Tryz.f3 false true false false) := by
  refine returnsInHanded_of_change_and (C := Tryz.checked) (X := fun w _ => laidMetH Tryz.prog Rows.playersSoldRow.laid w) (fun _ _ _ hh h => h.of_heap hh) ownPlayersSold started (by kernel_rfl) Tryz.func3
    (ChangeSpec.witness_shaped (enc := enc) (C := Tryz.checked) (os := os) (X := fun w _ => laidMetH Tryz.prog Rows.playersSoldRow.laid w) false (World.laidAll Tryz.prog os Rows.playersSoldRow.laid) #[.slice none 0 0] 8 (World.laidAll_os _ _ _)
      (World.shaped_of_ZipB (by kernel_rfl) (by kernel_rfl)) (by kernel_rfl) (by kernel_rfl) (by kernel_rfl)
      (by rw [MakeChecks.laidMetH_plain _ _ _ (by kernel_rfl)]; exact laidMet_laidAll _ (by kernel_rfl) (by kernel_rfl))) ?_
  intro W base args ds gs before hval0 hW _ _ hL _
  have hval : ∀ (j : Nat) t v, Tryz.f3.params[j]? = some t → args[j]? = some v → Value.okWide Tryz.prog W .any base t v := hval0
  have hW' := hW
  obtain ⟨p, q, hA0, hV, rfl, _, _⟩ := hW
  have hA : DataW.TrodAll enc Tryz.prog W 0 (fun _ => true) true Tryz.f3.params.toList args.toList ds p := hA0
  rw [Tryz.params3] at hA hval
  obtain ⟨v0, d0, rfl, rfl, h0⟩ := trodAll_one hA
  obtain ⟨rfl, rfl⟩ := trodVars_none hV
  obtain ⟨a0, len, cap, rfl⟩ := okWide_slice Tryz.underlying22 (hval 0 22 v0 rfl rfl)
  simp only [List.append_nil] at hW'
  have hlt : ∀ x ∈ p, x.block < W.heap.size := fun x hx => by simpa using hW'.lt x hx
  refine (callsPlayersSold (tabPlayersSold hL) h0).mono fun e W' ⟨he, hb⟩ => ?_
  subst he
  have hargs : DataW.Trod enc Tryz.prog W' 0 (fun b => decide (b < W.heap.size)) true 22 (.slice a0 len cap) d0 p :=
    Below.trod laidOutPlayersSold (by kernel_rfl) (of_decide_eq_true (by kernel_rfl)) h0 hb hlt
  exact ⟨_, rfl, _, _, _, [], p, [], hW', trodAll_mk1 (shut_bool Tryz.underlying4 _), trodAll_mk1 hargs, rfl, hb.frame _, fun h => by cases h⟩
theorem holdsPlayersSold : Rows.PlayersSoldSaid :=
  OpenClaim.holds_of_wide 3 Tryz.f3 rfl rfl rfl rfl rfl rfl rfl ⟨rfl, rfl, rfl, rfl, rfl⟩ rfl rfl rfl rfl rfl (by kernel_rfl) Tryz.func3 (by kernel_rfl)
    (of_decide_eq_true (by kernel_rfl)) (by unfold Func.isWrapper; first | (rw [if_pos (by decide +kernel)]; kernel_rfl) | (rw [if_neg (by decide +kernel)]; exact ⟨rfl, rfl⟩))
    (fun os started H enc _ => liftedPlayersSold os started H enc)
theorem cardPlayersSold : Rows.PlayersSoldCardSaid :=
  Claim7.holds_tied_plain_at .later [] [.data, .data, .data, .data, .sentinel, .sentinel, .pinned] true (true, "387c440407335eb7c9e726fcea176b3ec33702aa8581dbee1f0a58dbca97517d") true holdsPlayersSold (fun _ h => by cases h) (by kernel_rfl) (fun _ h => by cases h) playersSold_row_tie rfl ⟨rfl, rfl⟩ (by kernel_rfl) rfl
    (fun f fn hf hfn => by
      obtain rfl : f = 3 := Option.some.inj ((show Tryz.prog.funcNamed Rows.playersSoldRow.func = some 3 by kernel_rfl).symm.trans hf) |>.symm
      obtain rfl : fn = Tryz.f3 := (Option.some.inj (Tryz.func3.symm.trans hfn)).symm
      exact ⟨by kernel_rfl, fun j t ht => by
        rw [Tryz.params3] at ht
        have hm : t ∈ [22] := by simpa using Array.mem_of_getElem? ht
        have hall : ([22].all fun u => !Tryz.prog.wantsStandIn u) = true := by kernel_rfl
        exact (show Tryz.prog.wantsStandIn t = false by simpa using List.all_eq_true.1 hall t hm)⟩)
    (by kernel_rfl)
end Go.Proofs.YtjfapmloepemiaaGreatDoor
end
