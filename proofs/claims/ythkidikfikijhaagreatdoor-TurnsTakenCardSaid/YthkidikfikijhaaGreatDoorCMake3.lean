/- Contracts of functions of the program, by the rules of the logic; printed by gen.py. -/
import Derived.Test.YthkidikfikijhaaGreatDoorCMake2
import Derived.Test.YthkidikfikijhaaGreatDoorPure12
namespace Go.Proofs.YthkidikfikijhaaGreatDoor
open Go.HL
set_option maxRecDepth 100000
set_option linter.unusedVariables false
set_option linter.unusedSimpArgs false
/-- slices.Delete of one place -/
theorem c_slices_Delete {l : List Str} {v : Value} {k : Nat} (hk : k < l.length) (hl : l.length ≤ 1000000) : Con Tryz.prog 31 [.raw v, .int .i64 (k : Int), .int .i64 ((k : Int) + 1)] [.arr v 1 (l.map .str)] fun x M' => ∃ u, x = .raw u ∧ M' = [.arr u 1 ((l.eraseIdx k).map .str)] := by
  have hlen : (l.eraseIdx k).length = l.length - 1 := by rw [List.length_eraseIdx]; simp [hk]
  refine con_rowd (zs := l.eraseIdx k) (by omega) (by omega) fun b off cap w h1 h2 h3 => ?_
  refine (Any.slices_Delete_string Tryz.lays224 b off cap k (k + 1) l w h1 h2 h3 (by omega) (by omega)).mono ?_
  rintro _ _ ⟨rfl, q, rfl⟩
  have e1 : l.length - (k + 1 - k) = (l.eraseIdx k).length := by omega
  have e2 : l.length - (l.eraseIdx k).length = k + 1 - k := by omega
  refine ⟨by rw [e1], q, ?_⟩
  rw [e2, List.eraseIdx_eq_take_drop_succ]
/-- slices.Compact where the long slice is used again -/
theorem c_slices_Compact_k {l : List Str} {b off cap n : Nat} (hl : l.length ≤ 1000000) (hn : l.length = n) : Con Tryz.prog 30 [.raw (.slice (some ⟨b, off, none⟩) n cap)] [.arr (.slice (some ⟨b, off, none⟩) n cap) 1 (l.map .str)] fun x M' => x = .raw (.slice (some ⟨b, off, none⟩) (Lib.compact l).length cap) ∧ M' = [.arr (.slice (some ⟨b, off, none⟩) n cap) 1 ((fillUp n (Lib.compact l)).map .str)] := by
  subst hn
  exact con_rowk (compact_le l) (fun w h1 h2 h3 => Any.slices_Compact_string Tryz.lays194 b off cap l w h1 (by omega) h3)

set_option maxHeartbeats 2000000 in
/-- (*benchwarmer/benchmake.Stream).KeepList -/
theorem c_benchmake_Stream_KeepList {b : Nat} {l : List Int} {a : Nat} {r : Room}  (ha : a ≤ 800000) (hr : GoodRoom r) : Con Tryz.prog 5 [pAt b, eRoom r] [St b l a] (fun x M' => ∃ k a', x = eKeeps k ∧ GoodKeeps k ∧ a' ≤ a + 60 ∧ M' = [St b l a']) := by
  have hrp := hr.p20
  have hrt := hr.t4
  refine Con.of_body Tryz.func5 rfl Tryz.ntmps5 rfl rfl ?_
  refine hw_reg ?_
  refine dp rfl (pop_box rfl rfl) ?_
  refine dp rfl (pop_assign rfl) ?_
  refine dn ?_
  refine hw_reg ?_
  refine dp rfl (pop_assign rfl) ?_
  refine dn ?_
  refine hw_reg ?_
  refine dp rfl ((by first | exact pop_fieldAddr ty28 rfl ty26 (by decide) rfl | exact pop_fieldAddr_raw ty28 rfl ty26 (by decide) rfl)) ?_
  refine dp rfl (pop_load ty26 rfl rfl rfl) ?_
  refine de rfl (eop_calla ca26 rfl (WeakL.refl _) (c_slices_Clone_string_string (by first | assumption | omega | (simp; omega) | simp_all)) fun v15 => ?_)
  refine dp rfl (pop_assign rfl) ?_
  refine dn ?_
  refine hw_reg ?_
  refine dp rfl ((by first | exact pop_fieldAddr ty28 rfl ty26 (by decide) rfl | exact pop_fieldAddr_raw ty28 rfl ty26 (by decide) rfl)) ?_
  refine dp rfl (pop_load ty26 rfl rfl rfl) ?_
  refine de rfl (eop_calla ca26 rfl (WeakL.refl _) (c_slices_Clone_string_string (by first | assumption | omega | (simp; omega) | simp_all)) fun v18 => ?_)
  refine dp rfl (pop_assign rfl) ?_
  refine dn ?_
  refine hw_reg ?_
  refine dp rfl (pop_move rfl) ?_
  refine de rfl (eop_callx (i := 0) ca29 rfl (WeakL.refl _) rfl (c_slices_Sort (l := r.Teams) (by omega)) ?_)
  rintro _ _ ⟨rfl, rfl⟩
  refine dn ?_
  refine hw_seq ?_
  refine hw_reg ?_
  refine dp rfl (pop_move rfl) ?_
  refine de rfl (eop_callx (i := 0) ca30 rfl (WeakL.refl _) rfl (c_slices_Compact (l := sortS r.Teams) (by rw [sortS_len]; omega)) ?_)
  rintro _ _ ⟨u22, rfl, rfl⟩
  refine de rfl (eop_lenm (i := 0) ty26 rfl rfl ?_)
  refine dp rfl (pop_move rfl) ?_
  refine dn ?_
  refine hw_ghost (Ghost.fa 22 (i := 0) rfl rfl) ?_
  have hts4 : (Lib.compact (sortS r.Teams)).length ≤ 4 := Nat.le_trans (cs_len _) hrt
  have hss : ∀ s ∈ Lib.compact (sortS r.Teams), Sh s := fun s hs => hr.ts s (mem_cs hs)
  generalize Lib.compact (sortS r.Teams) = ts at *
  refine hw_ghost (Ghost.arr_nil 3) ?_
  refine hw_block ?_
  refine hw_loopw2 [5, 6, 9, 10, 11, 24, 25, 26, 27, 28, 29, 30, 31, 32, 33, 34, 35, 36, 37, 38, 39, 40, 41, 42, 43, 44, 45, 46, 47, 48, 49, 50, 51, 52, 53, 54, 55, 56, 57, 58, 59, 60, 61] (fun (k : Nat) (q : KLs) => [(24, .int .i64 k), (5, .raw q.u), (6, .raw q.lv)]) (fun (k : Nat) (q : KLs) => [St b l q.a, .arr q.u 3 (q.out.map eKeep), .arr q.lv 1 (q.left.map .str)]) (fun (k : Nat) (q : KLs) => k ≤ ts.length ∧ (KLok (4 * k) a q)) (fun (k : Nat) (q : KLs) => ts.length - k) (0) (⟨.slice none 0 0, [], v15, r.Players, a⟩) ?_ ?_ ?_ ?_
  · exact ⟨Nat.zero_le _, ⟨by simp, hrp, hr.ps, by simp, by dsimp only; omega⟩⟩
  · exact ⟨rfl, rfl, rfl, trivial⟩
  · repeat (first | exact List.Perm.nil | refine permTo 0 rfl ?_ | refine permTo 1 rfl ?_ | refine permTo 2 rfl ?_ | refine permTo 3 rfl ?_ | (refine permToE 0 rfl ?hq ?_; (case hq => simp [setL, hcells]; done)) | (refine permToE 1 rfl ?hq ?_; (case hq => simp [setL, hcells]; done)) | (refine permToE 2 rfl ?hq ?_; (case hq => simp [setL, hcells]; done)) | (refine permToE 3 rfl ?hq ?_; (case hq => simp [setL, hcells]; done)) | fail)
  · intro k q hinv
    obtain ⟨hk, hg⟩ := hinv
    obtain ⟨u, out, lv, left, a2⟩ := q
    obtain ⟨g1, g2, g3, g4, g5⟩ := id hg
    dsimp only at g1 g2 g3 g4 g5
    refine hw_reg ?_
    refine dp rfl (pop_lss rfl rfl) ?_
    refine dn ?_
    refine hw_seq ?_
    refine hw_cond rfl (fun h1 => ?_) (fun h2 => ?_)
    · try simp at h1
      obtain ⟨x, hx⟩ : ∃ x, ts[k]? = some x := ⟨_, List.getElem?_eq_getElem h1⟩
      have hdx := drop_cons hx
      refine hw_skip ?_
      refine seqQ_n ?_
      refine hw_seq ?_
      refine hw_block ?_
      refine hw_reg ?_
      refine dp rfl (pop_idx ty26 ty9 rfl rfl rfl (by first | assumption | simp_all)) ?_
      refine dp rfl (pop_load ty9 rfl rfl rfl) ?_
      refine dp rfl (pop_assign rfl) ?_
      refine dn ?_
      refine hw_reg ?_
      refine dp rfl (pop_assign rfl) ?_
      refine dn ?_
      refine hw_block ?_
      refine hw_loopw2 [5, 6, 10, 11, 28, 29, 30, 31, 32, 33, 34, 35, 36, 37, 38, 39, 40, 41, 42, 43, 44, 45, 46, 47, 48, 49, 50, 51, 52, 53, 54, 55, 56, 57, 58, 59, 60] (fun (m : Nat) (q : KLs) => [(10, .int .i64 ((m : Int) + 1)), (5, .raw q.u), (6, .raw q.lv)]) (fun (m : Nat) (q : KLs) => [St b l q.a, .arr q.u 3 (q.out.map eKeep), .arr q.lv 1 (q.left.map .str)]) (fun (m : Nat) (q : KLs) => m ≤ 4 ∧ KLok (4 * k + m) a q) (fun (m : Nat) (q : KLs) => 4 - m) (0) (⟨u, out, lv, left, a2⟩) ?_ ?_ ?_ ?_
      · exact ⟨by omega, hg⟩
      · exact ⟨rfl, rfl, rfl, trivial⟩
      · exact List.Perm.refl _
      · intro m q hinv
        obtain ⟨hm, hm2⟩ := hinv
        obtain ⟨u, out, lv, left, a2⟩ := q
        obtain ⟨g1, g2, g3, g4, g5⟩ := id hm2
        dsimp only at g1 g2 g3 g4 g5
        refine hw_seq ?_
        refine hw_reg ?_
        refine dp rfl (pop_move rfl) ?_
        refine dp rfl ((by first | exact pop_fieldAddr ty28 rfl ty3 (by decide) rfl | exact pop_fieldAddr_raw ty28 rfl ty3 (by decide) rfl)) ?_
        refine dp rfl (pop_load ty3 rfl rfl rfl) ?_
        refine dp rfl (pop_min rfl rfl) ?_
        refine dp rfl (pop_leq rfl rfl) ?_
        refine dn ?_
        refine hw_cond rfl (fun h3 => ?_) (fun h4 => ?_)
        · try simp at h3
          have hm4 : m < 4 := by omega
          refine hw_skip ?_
          refine seqQ_n ?_
          refine hw_seq ?_
          refine hw_block ?_
          refine hw_reg ?_
          refine dp rfl (pop_move rfl) ?_
          first
          | refine de rfl (eop_lenm (i := 0) ty26 rfl rfl ?_)
          | refine de rfl (eop_lenm (i := 1) ty26 rfl rfl ?_)
          | refine de rfl (eop_lenm (i := 2) ty26 rfl rfl ?_)
          | refine de rfl (eop_lenm (i := 3) ty26 rfl rfl ?_)
          refine dp rfl (pop_gtr rfl rfl) ?_
          refine dp rfl (pop_move rfl) ?_
          refine dg rfl rfl (fun hc => ⟨_, OpenTo.refl _, pop_move rfl⟩) ?_
          refine dgx (fun x M' => ∃ (y : Bool) (a3 : Nat), x = .bool y ∧ a3 ≤ a2 + 1 ∧ M' = [St b l a3, .arr u 3 (out.map eKeep), .arr lv 1 (left.map .str)]) rfl rfl (fun hc => ⟨_, false, a2, rfl, by omega, rfl⟩) (fun hc => ⟨_, OpenTo.upd (t := 39) rfl (by first | exact hc | simp_all) (OpenTo.refl _), eop_callx (i := 0) ca24 rfl (WeakL.refl _) rfl (c_benchmake_Stream_Flip (a := a2) (by omega) (by omega)) (fun h M' hh => by
            obtain ⟨y, h1, h2⟩ := hh
            exact ⟨y, a2 + 1, h1, by omega, by rw [h2]; rfl⟩)⟩) ?_
          rintro _ _ ⟨y, a3, rfl, ha3, rfl⟩
          refine dp rfl (pop_picko rfl (.inr ⟨_, rfl, fun h => by simp_all⟩) (.inl rfl)) ?_
          refine dn ?_
          refine hw_cond rfl (fun h5 => ?_) (fun h6 => ?_)
          · try simp at h5
            refine hw_reg ?_
            refine dp rfl (pop_move rfl) ?_
            refine dp rfl (pop_move rfl) ?_
            first
            | refine de rfl (eop_lenm (i := 0) ty26 rfl rfl ?_)
            | refine de rfl (eop_lenm (i := 1) ty26 rfl rfl ?_)
            | refine de rfl (eop_lenm (i := 2) ty26 rfl rfl ?_)
            | refine de rfl (eop_lenm (i := 3) ty26 rfl rfl ?_)
            first
            | refine de rfl (eop_callx (i := 0) ca25 rfl (WeakL.refl _) rfl (c_benchmake_Stream_Next (by first | assumption | omega | (simp; omega) | simp_all) (by first | assumption | omega | (simp; omega) | simp_all)) ?_)
            | refine de rfl (eop_callx (i := 1) ca25 rfl (WeakL.refl _) rfl (c_benchmake_Stream_Next (by first | assumption | omega | (simp; omega) | simp_all) (by first | assumption | omega | (simp; omega) | simp_all)) ?_)
            | refine de rfl (eop_callx (i := 2) ca25 rfl (WeakL.refl _) rfl (c_benchmake_Stream_Next (by first | assumption | omega | (simp; omega) | simp_all) (by first | assumption | omega | (simp; omega) | simp_all)) ?_)
            | refine de rfl (eop_callx (i := 3) ca25 rfl (WeakL.refl _) rfl (c_benchmake_Stream_Next (by first | assumption | omega | (simp; omega) | simp_all) (by first | assumption | omega | (simp; omega) | simp_all)) ?_)
            rintro _ _ ⟨y45, rfl, hy45, rfl⟩
            refine dp rfl (pop_assign rfl) ?_
            refine dn ?_
            obtain ⟨z, hz⟩ : ∃ z, left[y45]? = some z := ⟨_, List.getElem?_eq_getElem (by omega)⟩
            refine hw_arrc (i := 2) rfl (fun h0 he => ?_) (fun lb loff lcap hv hcap => ?_)
            · exfalso; have := congrArg List.length he; simp at this; subst this; simp at hz
            subst hv
            refine hw_reg ?_
            refine dp rfl (pop_move rfl) ?_
            refine dp rfl (pop_move rfl) ?_
            refine dp rfl (pop_move rfl) ?_
            refine dp rfl (pop_move rfl) ?_
            refine dp rfl (pop_idxraw (j := y45) ty26 ty9 rfl rfl rfl (by simp; omega)) ?_
            refine de rfl (eop_load_el (i := 2) (j := y45) 0 ty9 rfl (by omega) rfl hz rfl rfl ?_)
            refine dp rfl (pop_move rfl) ?_
            refine dp rfl (pop_build (cs := [_, _, _]) ty61 pl61 rfl) ?_
            refine dp rfl (pop_buildSlice (hs := [_]) ty30 ty61 rfl rfl (by decide) (by decide) rfl) ?_
            first
            | refine de rfl (eop_append (i := 0) ty30 ty61 rfl rfl rfl rfl rfl (by simp [flat, hcells]) (by first | omega | (simp; omega)) fun v55 => ?_)
            | refine de rfl (eop_append (i := 1) ty30 ty61 rfl rfl rfl rfl rfl (by simp [flat, hcells]) (by first | omega | (simp; omega)) fun v55 => ?_)
            | refine de rfl (eop_append (i := 2) ty30 ty61 rfl rfl rfl rfl rfl (by simp [flat, hcells]) (by first | omega | (simp; omega)) fun v55 => ?_)
            | refine de rfl (eop_append (i := 3) ty30 ty61 rfl rfl rfl rfl rfl (by simp [flat, hcells]) (by first | omega | (simp; omega)) fun v55 => ?_)
            refine dp rfl (pop_assign rfl) ?_
            refine dn ?_
            refine hw_reg1 ?_
            refine dp rfl (pop_move rfl) ?_
            refine dp rfl (pop_move rfl) ?_
            refine dp rfl (pop_move rfl) ?_
            refine dp rfl (pop_add64 rfl rfl (by omega) (by omega)) ?_
            refine de rfl (eop_callx (i := 2) ca31 rfl (WeakL.refl _) rfl (c_slices_Delete (l := left) (k := y45) (by omega) (by omega)) ?_)
            rintro _ _ ⟨u60, rfl, rfl⟩
            refine dp rfl (pop_assign rfl) ?_
            refine dn ?_
            refine blockQ_n ?_
            refine seqQ_n ?_
            refine hw_reg1 ?_
            refine dp rfl (pop_move rfl) ?_
            refine dp rfl (pop_add64 rfl rfl (by omega) (by omega)) ?_
            refine dp rfl (pop_assign rfl) ?_
            refine dn ?_
            first
            | exact ⟨m + 1, ⟨v55, out ++ [⟨x, z, (m : Int) + 1⟩], u60, left.eraseIdx y45, a3 + 1⟩, ⟨by omega, hm2.add (by omega) (hss x (List.mem_of_getElem? hx)) hz⟩, by dsimp only; omega, ⟨rfl, rfl, rfl, trivial⟩, (by repeat (first | exact keeps_refl | refine keeps_upd rfl ?_ | refine keeps_loop rfl rfl ?_)), by repeat (first | exact List.Perm.nil | refine permTo 0 rfl ?_ | refine permTo 1 rfl ?_ | refine permTo 2 rfl ?_ | refine permTo 3 rfl ?_ | (refine permToE 0 rfl ?hq ?_; (case hq => simp [setL, hcells]; done)) | (refine permToE 1 rfl ?hq ?_; (case hq => simp [setL, hcells]; done)) | (refine permToE 2 rfl ?hq ?_; (case hq => simp [setL, hcells]; done)) | (refine permToE 3 rfl ?hq ?_; (case hq => simp [setL, hcells]; done)) | fail)⟩
            | exact ⟨m + 1, ⟨u, out, lv, left, a3⟩, ⟨by omega, hm2.more (by omega)⟩, by dsimp only; omega, ⟨rfl, rfl, rfl, trivial⟩, (by repeat (first | exact keeps_refl | refine keeps_upd rfl ?_ | refine keeps_loop rfl rfl ?_)), by repeat (first | exact List.Perm.nil | refine permTo 0 rfl ?_ | refine permTo 1 rfl ?_ | refine permTo 2 rfl ?_ | refine permTo 3 rfl ?_ | (refine permToE 0 rfl ?hq ?_; (case hq => simp [setL, hcells]; done)) | (refine permToE 1 rfl ?hq ?_; (case hq => simp [setL, hcells]; done)) | (refine permToE 2 rfl ?hq ?_; (case hq => simp [setL, hcells]; done)) | (refine permToE 3 rfl ?hq ?_; (case hq => simp [setL, hcells]; done)) | fail)⟩
          · try simp at h6
            refine hw_skip ?_
            refine blockQ_n ?_
            refine seqQ_n ?_
            refine hw_reg1 ?_
            refine dp rfl (pop_move rfl) ?_
            refine dp rfl (pop_add64 rfl rfl (by omega) (by omega)) ?_
            refine dp rfl (pop_assign rfl) ?_
            refine dn ?_
            first
            | exact ⟨m + 1, ⟨v55, out ++ [⟨x, z, (m : Int) + 1⟩], u60, left.eraseIdx y45, a3 + 1⟩, ⟨by omega, hm2.add (by omega) (hss x (List.mem_of_getElem? hx)) hz⟩, by dsimp only; omega, ⟨rfl, rfl, rfl, trivial⟩, (by repeat (first | exact keeps_refl | refine keeps_upd rfl ?_ | refine keeps_loop rfl rfl ?_)), by repeat (first | exact List.Perm.nil | refine permTo 0 rfl ?_ | refine permTo 1 rfl ?_ | refine permTo 2 rfl ?_ | refine permTo 3 rfl ?_ | (refine permToE 0 rfl ?hq ?_; (case hq => simp [setL, hcells]; done)) | (refine permToE 1 rfl ?hq ?_; (case hq => simp [setL, hcells]; done)) | (refine permToE 2 rfl ?hq ?_; (case hq => simp [setL, hcells]; done)) | (refine permToE 3 rfl ?hq ?_; (case hq => simp [setL, hcells]; done)) | fail)⟩
            | exact ⟨m + 1, ⟨u, out, lv, left, a3⟩, ⟨by omega, hm2.more (by omega)⟩, by dsimp only; omega, ⟨rfl, rfl, rfl, trivial⟩, (by repeat (first | exact keeps_refl | refine keeps_upd rfl ?_ | refine keeps_loop rfl rfl ?_)), by repeat (first | exact List.Perm.nil | refine permTo 0 rfl ?_ | refine permTo 1 rfl ?_ | refine permTo 2 rfl ?_ | refine permTo 3 rfl ?_ | (refine permToE 0 rfl ?hq ?_; (case hq => simp [setL, hcells]; done)) | (refine permToE 1 rfl ?hq ?_; (case hq => simp [setL, hcells]; done)) | (refine permToE 2 rfl ?hq ?_; (case hq => simp [setL, hcells]; done)) | (refine permToE 3 rfl ?hq ?_; (case hq => simp [setL, hcells]; done)) | fail)⟩
        · try simp at h4
          refine hw_exit ?_
          refine seqQ_x ?_
          refine loopQ2_x ?_
          refine blockQ_eq ?_
          refine blockQ_n ?_
          refine seqQ_n ?_
          refine hw_reg1 ?_
          refine dp rfl (pop_add64 rfl rfl (by omega) (by omega)) ?_
          refine dp rfl (pop_move rfl) ?_
          refine dn ?_
          exact ⟨k + 1, _, ⟨by omega, hm2.mono (by omega)⟩, by dsimp only; omega, ⟨rfl, rfl, rfl, trivial⟩, (by repeat (first | exact keeps_refl | refine keeps_upd rfl ?_ | refine keeps_loop rfl rfl ?_)), List.Perm.refl _⟩
    · try simp at h2
      have hnk : ts.length ≤ k := by omega
      obtain rfl : k = ts.length := by omega
      refine hw_exit ?_
      refine seqQ_x ?_
      refine loopQ2_x ?_
      refine blockQ_eq ?_
      refine seqQ_n ?_
      refine hw_join [12, 62, 63, 64, 65, 66, 67, 68, 69, 70, 71, 72, 73, 74, 75, 76, 77, 78, 79, 80, 81, 82, 83, 84, 85, 86, 87, 88, 89, 90, 91, 92, 93, 94, 95, 96, 97, 98, 99, 100, 101, 102, 103, 104, 105, 106, 107, 108] (fun (q : List Keep × Nat) => []) (fun (q : List Keep × Nat) => [St b l q.2, .arr u 3 (q.1.map eKeep)]) (fun (q : List Keep × Nat) => q.1.length ≤ 16 ∧ (∀ x ∈ q.1, Sh x.Team ∧ Sh x.Player) ∧ q.2 ≤ a + 60) ?_ ?_
      · skip
        refine hw_ghost (Ghost.perm (M' := [.arr lv 1 (left.map .str), St b l a2, .arr u 3 (out.map eKeep)]) (by repeat (first | exact List.Perm.nil | refine permTo 0 rfl ?_ | refine permTo 1 rfl ?_ | refine permTo 2 rfl ?_ | refine permTo 3 rfl ?_ | (refine permToE 0 rfl ?hq ?_; (case hq => simp [setL, hcells]; done)) | (refine permToE 1 rfl ?hq ?_; (case hq => simp [setL, hcells]; done)) | (refine permToE 2 rfl ?hq ?_; (case hq => simp [setL, hcells]; done)) | (refine permToE 3 rfl ?hq ?_; (case hq => simp [setL, hcells]; done)) | fail))) ?_
        refine hw_ghost Ghost.drop ?_
        refine hw_reg ?_
        refine dp rfl (pop_move rfl) ?_
        first
        | refine de rfl (eop_lenm (i := 0) ty30 rfl rfl ?_)
        | refine de rfl (eop_lenm (i := 1) ty30 rfl rfl ?_)
        | refine de rfl (eop_lenm (i := 2) ty30 rfl rfl ?_)
        | refine de rfl (eop_lenm (i := 3) ty30 rfl rfl ?_)
        refine dp rfl (pop_gtr rfl rfl) ?_
        refine dp rfl (pop_move rfl) ?_
        refine dg rfl rfl (fun hc => ⟨_, OpenTo.refl _, pop_move rfl⟩) ?_
        refine dgx (fun x M' => ∃ (y : Bool) (a3 : Nat), x = .bool y ∧ a3 ≤ a2 + 1 ∧ M' = [St b l a3, .arr u 3 (out.map eKeep)]) rfl rfl (fun hc => ⟨_, false, a2, rfl, by omega, rfl⟩) (fun hc => ⟨_, OpenTo.upd (t := 66) rfl (by first | exact hc | simp_all) (OpenTo.refl _), eop_callx (i := 0) ca24 rfl (WeakL.refl _) rfl (c_benchmake_Stream_Flip (a := a2) (by omega) (by omega)) (fun h M' hh => by
          obtain ⟨y, h1, h2⟩ := hh
          exact ⟨y, a2 + 1, h1, by omega, by rw [h2]; rfl⟩)⟩) ?_
        rintro _ _ ⟨y, a3, rfl, ha3, rfl⟩
        refine dp rfl (pop_picko rfl (.inr ⟨_, rfl, fun h => by simp_all⟩) (.inl rfl)) ?_
        refine dn ?_
        refine hw_cond rfl (fun h7 => ?_) (fun h8 => ?_)
        · try simp at h7
          have ho0 : 0 < out.length := by simp_all
          have hol : out.length ≤ 16 := by omega
          refine hw_arrc (i := 1) rfl (fun h0 he => ?_) (fun ob off cap hv hcap => ?_)
          · exfalso; have := congrArg List.length he; simp at this; subst this; simp at ho0
          subst hv
          refine hw_reg ?_
          refine dp rfl (pop_move rfl) ?_
          refine dp rfl (pop_move rfl) ?_
          refine dp rfl (pop_move rfl) ?_
          first
          | refine de rfl (eop_lenm (i := 0) ty30 rfl rfl ?_)
          | refine de rfl (eop_lenm (i := 1) ty30 rfl rfl ?_)
          | refine de rfl (eop_lenm (i := 2) ty30 rfl rfl ?_)
          | refine de rfl (eop_lenm (i := 3) ty30 rfl rfl ?_)
          first
          | refine de rfl (eop_callx (i := 0) ca25 rfl (WeakL.refl _) rfl (c_benchmake_Stream_Next (by first | assumption | omega | (simp; omega) | simp_all) (by first | assumption | omega | (simp; omega) | simp_all)) ?_)
          | refine de rfl (eop_callx (i := 1) ca25 rfl (WeakL.refl _) rfl (c_benchmake_Stream_Next (by first | assumption | omega | (simp; omega) | simp_all) (by first | assumption | omega | (simp; omega) | simp_all)) ?_)
          | refine de rfl (eop_callx (i := 2) ca25 rfl (WeakL.refl _) rfl (c_benchmake_Stream_Next (by first | assumption | omega | (simp; omega) | simp_all) (by first | assumption | omega | (simp; omega) | simp_all)) ?_)
          | refine de rfl (eop_callx (i := 3) ca25 rfl (WeakL.refl _) rfl (c_benchmake_Stream_Next (by first | assumption | omega | (simp; omega) | simp_all) (by first | assumption | omega | (simp; omega) | simp_all)) ?_)
          rintro _ _ ⟨y73, rfl, hy73, rfl⟩
          refine dp rfl (pop_idxraw (j := y73) ty30 ty61 rfl rfl rfl (by simp; omega)) ?_
          refine dp rfl (pop_assign rfl) ?_
          refine dn ?_
          obtain ⟨x, hx⟩ : ∃ x, out[y73]? = some x := ⟨_, List.getElem?_eq_getElem (by omega)⟩
          obtain ⟨x0, hx0⟩ : ∃ x, out[0]? = some x := ⟨_, List.getElem?_eq_getElem (by omega)⟩
          refine hw_draw1 (fun M => ∃ i : Nat, M[i]? = some (.arr (.slice (some ⟨ob, off, none⟩) (out.map eKeep).length cap) 3 (out.map eKeep))) [7, 14, 18, 25] mixed ?_
          refine ahp 0 rfl rfl (by kernel_rfl) (by kernel_rfl) (pop_move rfl) ?_
          refine ahp 1 rfl rfl (by kernel_rfl) (by kernel_rfl) (pop_move rfl) ?_
          refine ahp 2 rfl rfl (by kernel_rfl) (by kernel_rfl) (pop_move rfl) ?_
          refine ahp 3 rfl rfl (by kernel_rfl) (by kernel_rfl) (pop_move rfl) ?_
          refine ahp 4 rfl rfl (by kernel_rfl) (by kernel_rfl) (pop_move rfl) ?_
          refine ahp 5 rfl rfl (by kernel_rfl) (by kernel_rfl) ((by first | exact pop_nilCheck rfl | exact pop_nilCheck_raw rfl)) ?_
          refine ahp 6 rfl rfl (by kernel_rfl) (by kernel_rfl) ((by first | exact pop_fieldAddr ty61 rfl ty9 (by decide) rfl | exact pop_fieldAddr_raw ty61 rfl ty9 (by decide) rfl)) ?_
          refine ahl 7 rfl rfl (by kernel_rfl) (by kernel_rfl) (by simp) ⟨1, rfl⟩ (fun M hM => by obtain ⟨i, hi⟩ := hM; exact eop_load_el (i := i) (j := y73) 0 ty9 rfl (by omega) hi hx rfl rfl ⟨rfl, rfl⟩) ?_
          refine ahp 8 rfl rfl (by kernel_rfl) (by kernel_rfl) (pop_buildSlice (hs := [_, _]) ty26 ty9 rfl rfl (by decide) (by decide) rfl) ?_
          refine ahp 10 rfl rfl (by kernel_rfl) (by kernel_rfl) (pop_move rfl) ?_
          refine ahp 11 rfl rfl (by kernel_rfl) (by kernel_rfl) (pop_move rfl) ?_
          refine ahp 12 rfl rfl (by kernel_rfl) (by kernel_rfl) ((by first | exact pop_nilCheck rfl | exact pop_nilCheck_raw rfl)) ?_
          refine ahp 13 rfl rfl (by kernel_rfl) (by kernel_rfl) ((by first | exact pop_fieldAddr ty61 rfl ty9 (by decide) rfl | exact pop_fieldAddr_raw ty61 rfl ty9 (by decide) rfl)) ?_
          refine ahl 14 rfl rfl (by kernel_rfl) (by kernel_rfl) (by simp) ⟨1, rfl⟩ (fun M hM => by obtain ⟨i, hi⟩ := hM; exact eop_load_el (i := i) (j := y73) 1 ty9 rfl (by omega) hi hx rfl rfl ⟨rfl, rfl⟩) ?_
          refine ahp 15 rfl rfl (by kernel_rfl) (by kernel_rfl) (pop_move rfl) ?_
          refine ahp 16 rfl rfl (by kernel_rfl) (by kernel_rfl) (pop_idxraw (j := 0) ty30 ty61 rfl rfl rfl (by simp; omega)) ?_
          refine ahp 17 rfl rfl (by kernel_rfl) (by kernel_rfl) ((by first | exact pop_fieldAddr ty61 rfl ty9 (by decide) rfl | exact pop_fieldAddr_raw ty61 rfl ty9 (by decide) rfl)) ?_
          refine ahl 18 rfl rfl (by kernel_rfl) (by kernel_rfl) (by simp) ⟨1, rfl⟩ (fun M hM => by obtain ⟨i, hi⟩ := hM; exact eop_load_el (i := i) (j := 0) 1 ty9 rfl (by omega) hi hx0 rfl rfl ⟨rfl, rfl⟩) ?_
          refine ahp 19 rfl rfl (by kernel_rfl) (by kernel_rfl) (pop_buildSlice (hs := [_, _, _]) ty26 ty9 rfl rfl (by decide) (by decide) rfl) ?_
          refine ahp 21 rfl rfl (by kernel_rfl) (by kernel_rfl) (pop_move rfl) ?_
          refine ahp 22 rfl rfl (by kernel_rfl) (by kernel_rfl) (pop_move rfl) ?_
          refine ahp 23 rfl rfl (by kernel_rfl) (by kernel_rfl) ((by first | exact pop_nilCheck rfl | exact pop_nilCheck_raw rfl)) ?_
          refine ahp 24 rfl rfl (by kernel_rfl) (by kernel_rfl) ((by first | exact pop_fieldAddr ty61 rfl ty3 (by decide) rfl | exact pop_fieldAddr_raw ty61 rfl ty3 (by decide) rfl)) ?_
          refine ahl 25 rfl rfl (by kernel_rfl) (by kernel_rfl) (by simp) ⟨1, rfl⟩ (fun M hM => by obtain ⟨i, hi⟩ := hM; exact eop_load_el (i := i) (j := y73) 2 ty3 rfl (by omega) hi hx rfl rfl ⟨rfl, rfl⟩) ?_
          refine ahp 26 rfl rfl (by kernel_rfl) (by kernel_rfl) (pop_buildSlice (hs := [_, _, _]) ty22 ty3 rfl rfl (by decide) (by decide) rfl) ?_
          refine ahe 9 rfl (by kernel_rfl) ?_
          first
          | refine hop_e rfl (eop_callx (i := 0) ca27 rfl (WeakL.refl _) rfl (c_benchmake_Stream_Some (L := [_, _]) (by first | assumption | omega | (simp; omega) | simp_all) (by first | assumption | omega | (simp; omega) | simp_all) (by first | assumption | omega | (simp; omega) | simp_all)) ?_)
          | refine hop_e rfl (eop_callx (i := 1) ca27 rfl (WeakL.refl _) rfl (c_benchmake_Stream_Some (L := [_, _]) (by first | assumption | omega | (simp; omega) | simp_all) (by first | assumption | omega | (simp; omega) | simp_all) (by first | assumption | omega | (simp; omega) | simp_all)) ?_)
          | refine hop_e rfl (eop_callx (i := 2) ca27 rfl (WeakL.refl _) rfl (c_benchmake_Stream_Some (L := [_, _]) (by first | assumption | omega | (simp; omega) | simp_all) (by first | assumption | omega | (simp; omega) | simp_all) (by first | assumption | omega | (simp; omega) | simp_all)) ?_)
          | refine hop_e rfl (eop_callx (i := 3) ca27 rfl (WeakL.refl _) rfl (c_benchmake_Stream_Some (L := [_, _]) (by first | assumption | omega | (simp; omega) | simp_all) (by first | assumption | omega | (simp; omega) | simp_all) (by first | assumption | omega | (simp; omega) | simp_all)) ?_)
          rintro _ _ ⟨y84, rfl, hy84, rfl⟩
          refine ⟨fun _ => by first | exact .inl ⟨0, rfl⟩ | exact .inl ⟨1, rfl⟩ | exact .inl ⟨2, rfl⟩ | exact .inr (by simp [Before, Region.binds]), ?_⟩
          refine ahe 20 rfl (by kernel_rfl) ?_
          first
          | refine hop_e rfl (eop_callx (i := 0) ca27 rfl (WeakL.refl _) rfl (c_benchmake_Stream_Some (L := [_, _, _]) (by first | assumption | omega | (simp; omega) | simp_all) (by first | assumption | omega | (simp; omega) | simp_all) (by first | assumption | omega | (simp; omega) | simp_all)) ?_)
          | refine hop_e rfl (eop_callx (i := 1) ca27 rfl (WeakL.refl _) rfl (c_benchmake_Stream_Some (L := [_, _, _]) (by first | assumption | omega | (simp; omega) | simp_all) (by first | assumption | omega | (simp; omega) | simp_all) (by first | assumption | omega | (simp; omega) | simp_all)) ?_)
          | refine hop_e rfl (eop_callx (i := 2) ca27 rfl (WeakL.refl _) rfl (c_benchmake_Stream_Some (L := [_, _, _]) (by first | assumption | omega | (simp; omega) | simp_all) (by first | assumption | omega | (simp; omega) | simp_all) (by first | assumption | omega | (simp; omega) | simp_all)) ?_)
          | refine hop_e rfl (eop_callx (i := 3) ca27 rfl (WeakL.refl _) rfl (c_benchmake_Stream_Some (L := [_, _, _]) (by first | assumption | omega | (simp; omega) | simp_all) (by first | assumption | omega | (simp; omega) | simp_all) (by first | assumption | omega | (simp; omega) | simp_all)) ?_)
          rintro _ _ ⟨y95, rfl, hy95, rfl⟩
          refine ⟨fun _ => by first | exact .inl ⟨0, rfl⟩ | exact .inl ⟨1, rfl⟩ | exact .inl ⟨2, rfl⟩ | exact .inr (by simp [Before, Region.binds]), ?_⟩
          refine ahe 27 rfl (by kernel_rfl) ?_
          first
          | refine hop_e rfl (eop_callx (i := 0) ca22 rfl (WeakL.refl _) rfl (c_benchmake_Stream_Pick (L := [_, _, _]) (by first | assumption | omega | (simp; omega) | simp_all) (by first | assumption | omega | (simp; omega) | simp_all) (by first | assumption | omega | (simp; omega) | simp_all)) ?_)
          | refine hop_e rfl (eop_callx (i := 1) ca22 rfl (WeakL.refl _) rfl (c_benchmake_Stream_Pick (L := [_, _, _]) (by first | assumption | omega | (simp; omega) | simp_all) (by first | assumption | omega | (simp; omega) | simp_all) (by first | assumption | omega | (simp; omega) | simp_all)) ?_)
          | refine hop_e rfl (eop_callx (i := 2) ca22 rfl (WeakL.refl _) rfl (c_benchmake_Stream_Pick (L := [_, _, _]) (by first | assumption | omega | (simp; omega) | simp_all) (by first | assumption | omega | (simp; omega) | simp_all) (by first | assumption | omega | (simp; omega) | simp_all)) ?_)
          | refine hop_e rfl (eop_callx (i := 3) ca22 rfl (WeakL.refl _) rfl (c_benchmake_Stream_Pick (L := [_, _, _]) (by first | assumption | omega | (simp; omega) | simp_all) (by first | assumption | omega | (simp; omega) | simp_all) (by first | assumption | omega | (simp; omega) | simp_all)) ?_)
          rintro _ _ ⟨y102, rfl, hy102, rfl⟩
          refine ⟨fun _ => by first | exact .inl ⟨0, rfl⟩ | exact .inl ⟨1, rfl⟩ | exact .inl ⟨2, rfl⟩ | exact .inr (by simp [Before, Region.binds]), ?_⟩
          refine ahp 28 rfl rfl (by kernel_rfl) (by kernel_rfl) ((by first | exact pop_nilCheck rfl | exact pop_nilCheck_raw rfl)) ?_
          refine ahp 29 rfl rfl (by kernel_rfl) (by kernel_rfl) ((by first | exact pop_fieldAddr ty61 rfl ty9 (by decide) rfl | exact pop_fieldAddr_raw ty61 rfl ty9 (by decide) rfl)) ?_
          refine ahe 30 rfl (by kernel_rfl) ?_
          refine hop_e0 (eop_store_arr (i := 1) (j := y73) (f := 0) (y := eKeep x) (y' := eKeep ⟨y84, x.Player, x.Round⟩) ty9 rfl (by omega) rfl rfl (by simp [hx]) rfl rfl (by simp [hcells]) rfl ?_)
          refine ⟨fun _ => .inr (by simp [Before, Region.binds]), ?_⟩
          refine ahp 31 rfl rfl (by kernel_rfl) (by kernel_rfl) ((by first | exact pop_nilCheck rfl | exact pop_nilCheck_raw rfl)) ?_
          refine ahp 32 rfl rfl (by kernel_rfl) (by kernel_rfl) ((by first | exact pop_fieldAddr ty61 rfl ty9 (by decide) rfl | exact pop_fieldAddr_raw ty61 rfl ty9 (by decide) rfl)) ?_
          refine ahe 33 rfl (by kernel_rfl) ?_
          refine hop_e0 (eop_store_arr (i := 1) (j := y73) (f := 1) (y := eKeep ⟨y84, x.Player, x.Round⟩) (y' := eKeep ⟨y84, y95, x.Round⟩) ty9 rfl (by omega) rfl rfl (set_self (map_get hx)) rfl rfl (by simp [hcells]) rfl ?_)
          refine ⟨fun _ => .inr (by simp [Before, Region.binds]), ?_⟩
          refine ahp 34 rfl rfl (by kernel_rfl) (by kernel_rfl) ((by first | exact pop_nilCheck rfl | exact pop_nilCheck_raw rfl)) ?_
          refine ahp 35 rfl rfl (by kernel_rfl) (by kernel_rfl) ((by first | exact pop_fieldAddr ty61 rfl ty3 (by decide) rfl | exact pop_fieldAddr_raw ty61 rfl ty3 (by decide) rfl)) ?_
          refine ahe 36 rfl (by kernel_rfl) ?_
          refine hop_e0 (eop_store_arr (i := 1) (j := y73) (f := 2) (y := eKeep ⟨y84, y95, x.Round⟩) (y' := eKeep ⟨y84, y95, y102⟩) ty3 rfl (by omega) rfl rfl (set_self (set_self (map_get hx))) rfl rfl (by simp [hcells]) rfl ?_)
          refine ⟨fun _ => .inr (by simp [Before, Region.binds]), ?_⟩
          refine ahz (by kernel_rfl) ?_
          exact ⟨(out.set y73 ⟨y84, y95, y102⟩, a3 + 4), ⟨by simp; omega, keeps_set g4 (by simp at hy84; rcases hy84 with rfl | rfl <;> first | exact zz_sh | exact (g4 x (List.mem_of_getElem? hx)).1) (by simp at hy95; rcases hy95 with rfl | rfl | rfl <;> first | exact zz_sh | exact (g4 x (List.mem_of_getElem? hx)).2 | exact (g4 x0 (List.mem_of_getElem? hx0)).2), by dsimp only; omega⟩, trivial, (by repeat (first | exact keeps_refl | refine keeps_upd rfl ?_ | refine keeps_loop rfl rfl ?_)), by repeat (first | exact List.Perm.nil | refine permTo 0 rfl ?_ | refine permTo 1 rfl ?_ | refine permTo 2 rfl ?_ | refine permTo 3 rfl ?_ | (refine permToE 0 rfl ?hq ?_; (case hq => simp [setL, hcells]; done)) | (refine permToE 1 rfl ?hq ?_; (case hq => simp [setL, hcells]; done)) | (refine permToE 2 rfl ?hq ?_; (case hq => simp [setL, hcells]; done)) | (refine permToE 3 rfl ?hq ?_; (case hq => simp [setL, hcells]; done)) | fail)⟩
        · try simp at h8
          refine hw_skip ?_
          exact ⟨(out, a3), ⟨by dsimp only; omega, g4, by dsimp only; omega⟩, trivial, (by repeat (first | exact keeps_refl | refine keeps_upd rfl ?_ | refine keeps_loop rfl rfl ?_)), by repeat (first | exact List.Perm.nil | refine permTo 0 rfl ?_ | refine permTo 1 rfl ?_ | refine permTo 2 rfl ?_ | refine permTo 3 rfl ?_ | (refine permToE 0 rfl ?hq ?_; (case hq => simp [setL, hcells]; done)) | (refine permToE 1 rfl ?hq ?_; (case hq => simp [setL, hcells]; done)) | (refine permToE 2 rfl ?hq ?_; (case hq => simp [setL, hcells]; done)) | (refine permToE 3 rfl ?hq ?_; (case hq => simp [setL, hcells]; done)) | fail)⟩
      · intro q hq
        obtain ⟨k, a4⟩ := q
        dsimp only at hq
        obtain ⟨q1, q2, q3⟩ := hq
        refine hw_reg ?_
        refine dp rfl (pop_move rfl) ?_
        refine dp rfl (pop_assign rfl) ?_
        refine dn ?_
        refine hw_ret ?_
        refine ret_g (Ghost.fa 4 (i := 1) rfl rfl) rfl ⟨k, a4, rfl, ⟨by omega, q2⟩, by omega, rfl⟩
end Go.Proofs.YthkidikfikijhaaGreatDoor
