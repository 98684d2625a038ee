/- Contracts of functions of the program, by the rules of the logic; printed by gen.py. -/
import Derived.Test.YthkidikfikijhaaGreatDoorCMake1
import Derived.Test.YthkidikfikijhaaGreatDoorPure10
namespace Go.Proofs.YthkidikfikijhaaGreatDoor
open Go.HL
set_option maxRecDepth 100000
set_option linter.unusedVariables false
set_option linter.unusedSimpArgs false
/-- strconv.Itoa of a small number -/
theorem c_strconv_Itoa {i : Nat} (hi : i < 100) : ConP Tryz.prog 23 [.int .i64 (i : Int)] (.str (Lib.decDigits i)) :=
  conp_of_calls fun I w args ha => by
    obtain ⟨u, rfl, hu⟩ := ha.one
    obtain rfl := hu.int_inv
    exact ⟨_, .str _, Any.strconv_Itoa_small Tryz.lays171 i hi w⟩

set_option maxHeartbeats 2000000 in
/-- (*benchwarmer/benchmake.Stream).RoomOf -/
theorem c_benchmake_Stream_RoomOf {b : Nat} {l : List Int} {a : Nat}  (ha : a ≤ 800000) : Con Tryz.prog 4 [pAt b] [St b l a] (fun x M' => ∃ r a', x = eRoom r ∧ GoodRoom r ∧ a' ≤ a + 20 ∧ M' = [St b l a']) := by
  refine Con.of_bodyc Tryz.func4 rfl Tryz.ntmps4 rfl rfl ?_
  refine hw_reg ?_
  refine de rfl (eop_alloc ty28 rfl fun b2 => ?_)
  refine dn ?_
  refine hw_join [3, 5, 6, 7, 8, 9, 10, 11, 12, 13, 14, 15, 16, 17, 18, 19] (fun (q : Nat × List Str × Int × Int × Int × Int) => [(3, pAt q.1)]) (fun (q : Nat × List Str × Int × Int × Int × Int) => [RoomC q.1 (eSs q.2.1) q.2.2.1 q.2.2.2.1 nilS q.2.2.2.2.1 q.2.2.2.2.2, RoomC b2 nilS 0 0 nilS 0 0, St b l (a + 5)]) (fun (q : Nat × List Str × Int × Int × Int × Int) => (1 ≤ q.2.1.length ∧ q.2.1.length ≤ 3) ∧ (1 ≤ q.2.2.1 ∧ q.2.2.1 ≤ 4) ∧ ∀ s ∈ q.2.1, s.length ≤ 100) ?_ ?_
  · skip
    refine hw_draw1 (fun _ => True) [] mixed ?_
    refine ahp 0 rfl rfl (by kernel_rfl) (by kernel_rfl) (pop_buildSlice (hs := [_, _, _]) ty26 ty9 rfl rfl (by decide) (by decide) rfl) ?_
    refine ahp 1 rfl rfl (by kernel_rfl) (by kernel_rfl) (pop_move rfl) ?_
    refine ahp 4 rfl rfl (by kernel_rfl) (by kernel_rfl) (pop_move rfl) ?_
    refine ahp 6 rfl rfl (by kernel_rfl) (by kernel_rfl) (pop_move rfl) ?_
    refine ahp 8 rfl rfl (by kernel_rfl) (by kernel_rfl) (pop_move rfl) ?_
    refine ahp 9 rfl rfl (by kernel_rfl) (by kernel_rfl) (pop_buildSlice (hs := [_, _]) ty22 ty3 rfl rfl (by decide) (by decide) rfl) ?_
    refine ahp 11 rfl rfl (by kernel_rfl) (by kernel_rfl) (pop_move rfl) ?_
    refine ahp 12 rfl rfl (by kernel_rfl) (by kernel_rfl) (pop_buildSlice (hs := [_, _, _]) ty22 ty3 rfl rfl (by decide) (by decide) rfl) ?_
    refine ahe2 2 15 rfl rfl (by kernel_rfl) ?_ ?_
    · skip
      first
      | refine hop_e rfl (eop_callx (i := 0) ca21 rfl (WeakL.refl _) rfl (c_benchmake_Stream_Range (by first | assumption | omega | (simp; omega) | simp_all) (by first | assumption | omega | (simp; omega) | simp_all) (by first | assumption | omega | (simp; omega) | simp_all) (by first | assumption | omega | (simp; omega) | simp_all)) ?_)
      | refine hop_e rfl (eop_callx (i := 1) ca21 rfl (WeakL.refl _) rfl (c_benchmake_Stream_Range (by first | assumption | omega | (simp; omega) | simp_all) (by first | assumption | omega | (simp; omega) | simp_all) (by first | assumption | omega | (simp; omega) | simp_all) (by first | assumption | omega | (simp; omega) | simp_all)) ?_)
      | refine hop_e rfl (eop_callx (i := 2) ca21 rfl (WeakL.refl _) rfl (c_benchmake_Stream_Range (by first | assumption | omega | (simp; omega) | simp_all) (by first | assumption | omega | (simp; omega) | simp_all) (by first | assumption | omega | (simp; omega) | simp_all) (by first | assumption | omega | (simp; omega) | simp_all)) ?_)
      | refine hop_e rfl (eop_callx (i := 3) ca21 rfl (WeakL.refl _) rfl (c_benchmake_Stream_Range (by first | assumption | omega | (simp; omega) | simp_all) (by first | assumption | omega | (simp; omega) | simp_all) (by first | assumption | omega | (simp; omega) | simp_all) (by first | assumption | omega | (simp; omega) | simp_all)) ?_)
      rintro _ _ ⟨y7, rfl, hy7, rfl⟩
      refine ⟨fun _ => .inl trivial, ?_⟩
      refine ahp 3 rfl rfl (by kernel_rfl) (by kernel_rfl) (pop_slicem (es := team3) (f := HVal.str) (h := y7.toNat) ty26 ty9 rfl rfl ⟨_, _, rfl, by omega⟩ (by omega) (by simp [team3]; omega)) ?_
      refine ahe2 5 15 rfl rfl (by kernel_rfl) ?_ ?_
      · skip
        first
        | refine hop_e rfl (eop_callx (i := 0) ca21 rfl (WeakL.refl _) rfl (c_benchmake_Stream_Range (by first | assumption | omega | (simp; omega) | simp_all) (by first | assumption | omega | (simp; omega) | simp_all) (by first | assumption | omega | (simp; omega) | simp_all) (by first | assumption | omega | (simp; omega) | simp_all)) ?_)
        | refine hop_e rfl (eop_callx (i := 1) ca21 rfl (WeakL.refl _) rfl (c_benchmake_Stream_Range (by first | assumption | omega | (simp; omega) | simp_all) (by first | assumption | omega | (simp; omega) | simp_all) (by first | assumption | omega | (simp; omega) | simp_all) (by first | assumption | omega | (simp; omega) | simp_all)) ?_)
        | refine hop_e rfl (eop_callx (i := 2) ca21 rfl (WeakL.refl _) rfl (c_benchmake_Stream_Range (by first | assumption | omega | (simp; omega) | simp_all) (by first | assumption | omega | (simp; omega) | simp_all) (by first | assumption | omega | (simp; omega) | simp_all) (by first | assumption | omega | (simp; omega) | simp_all)) ?_)
        | refine hop_e rfl (eop_callx (i := 3) ca21 rfl (WeakL.refl _) rfl (c_benchmake_Stream_Range (by first | assumption | omega | (simp; omega) | simp_all) (by first | assumption | omega | (simp; omega) | simp_all) (by first | assumption | omega | (simp; omega) | simp_all) (by first | assumption | omega | (simp; omega) | simp_all)) ?_)
        rintro _ _ ⟨y10, rfl, hy10, rfl⟩
        refine ⟨fun _ => .inl trivial, ?_⟩
        refine ahe2 7 15 rfl rfl (by kernel_rfl) ?_ ?_
        · skip
          first
          | refine hop_e rfl (eop_callx (i := 0) ca21 rfl (WeakL.refl _) rfl (c_benchmake_Stream_Range (by first | assumption | omega | (simp; omega) | simp_all) (by first | assumption | omega | (simp; omega) | simp_all) (by first | assumption | omega | (simp; omega) | simp_all) (by first | assumption | omega | (simp; omega) | simp_all)) ?_)
          | refine hop_e rfl (eop_callx (i := 1) ca21 rfl (WeakL.refl _) rfl (c_benchmake_Stream_Range (by first | assumption | omega | (simp; omega) | simp_all) (by first | assumption | omega | (simp; omega) | simp_all) (by first | assumption | omega | (simp; omega) | simp_all) (by first | assumption | omega | (simp; omega) | simp_all)) ?_)
          | refine hop_e rfl (eop_callx (i := 2) ca21 rfl (WeakL.refl _) rfl (c_benchmake_Stream_Range (by first | assumption | omega | (simp; omega) | simp_all) (by first | assumption | omega | (simp; omega) | simp_all) (by first | assumption | omega | (simp; omega) | simp_all) (by first | assumption | omega | (simp; omega) | simp_all)) ?_)
          | refine hop_e rfl (eop_callx (i := 3) ca21 rfl (WeakL.refl _) rfl (c_benchmake_Stream_Range (by first | assumption | omega | (simp; omega) | simp_all) (by first | assumption | omega | (simp; omega) | simp_all) (by first | assumption | omega | (simp; omega) | simp_all) (by first | assumption | omega | (simp; omega) | simp_all)) ?_)
          rintro _ _ ⟨y12, rfl, hy12, rfl⟩
          refine ⟨fun _ => .inl trivial, ?_⟩
          refine ahe2 10 15 rfl rfl (by kernel_rfl) ?_ ?_
          · skip
            first
            | refine hop_e rfl (eop_callx (i := 0) ca22 rfl (WeakL.refl _) rfl (c_benchmake_Stream_Pick (L := [_, _]) (by first | assumption | omega | (simp; omega) | simp_all) (by first | assumption | omega | (simp; omega) | simp_all) (by first | assumption | omega | (simp; omega) | simp_all)) ?_)
            | refine hop_e rfl (eop_callx (i := 1) ca22 rfl (WeakL.refl _) rfl (c_benchmake_Stream_Pick (L := [_, _]) (by first | assumption | omega | (simp; omega) | simp_all) (by first | assumption | omega | (simp; omega) | simp_all) (by first | assumption | omega | (simp; omega) | simp_all)) ?_)
            | refine hop_e rfl (eop_callx (i := 2) ca22 rfl (WeakL.refl _) rfl (c_benchmake_Stream_Pick (L := [_, _]) (by first | assumption | omega | (simp; omega) | simp_all) (by first | assumption | omega | (simp; omega) | simp_all) (by first | assumption | omega | (simp; omega) | simp_all)) ?_)
            | refine hop_e rfl (eop_callx (i := 3) ca22 rfl (WeakL.refl _) rfl (c_benchmake_Stream_Pick (L := [_, _]) (by first | assumption | omega | (simp; omega) | simp_all) (by first | assumption | omega | (simp; omega) | simp_all) (by first | assumption | omega | (simp; omega) | simp_all)) ?_)
            rintro _ _ ⟨y15, rfl, hy15, rfl⟩
            refine ⟨fun _ => .inl trivial, ?_⟩
            refine ahe2 13 15 rfl rfl (by kernel_rfl) ?_ ?_
            · skip
              first
              | refine hop_e rfl (eop_callx (i := 0) ca22 rfl (WeakL.refl _) rfl (c_benchmake_Stream_Pick (L := [_, _, _]) (by first | assumption | omega | (simp; omega) | simp_all) (by first | assumption | omega | (simp; omega) | simp_all) (by first | assumption | omega | (simp; omega) | simp_all)) ?_)
              | refine hop_e rfl (eop_callx (i := 1) ca22 rfl (WeakL.refl _) rfl (c_benchmake_Stream_Pick (L := [_, _, _]) (by first | assumption | omega | (simp; omega) | simp_all) (by first | assumption | omega | (simp; omega) | simp_all) (by first | assumption | omega | (simp; omega) | simp_all)) ?_)
              | refine hop_e rfl (eop_callx (i := 2) ca22 rfl (WeakL.refl _) rfl (c_benchmake_Stream_Pick (L := [_, _, _]) (by first | assumption | omega | (simp; omega) | simp_all) (by first | assumption | omega | (simp; omega) | simp_all) (by first | assumption | omega | (simp; omega) | simp_all)) ?_)
              | refine hop_e rfl (eop_callx (i := 3) ca22 rfl (WeakL.refl _) rfl (c_benchmake_Stream_Pick (L := [_, _, _]) (by first | assumption | omega | (simp; omega) | simp_all) (by first | assumption | omega | (simp; omega) | simp_all) (by first | assumption | omega | (simp; omega) | simp_all)) ?_)
              rintro _ _ ⟨y18, rfl, hy18, rfl⟩
              refine ⟨fun _ => .inl trivial, ?_⟩
              refine ahp 14 rfl rfl (by kernel_rfl) (by kernel_rfl) (pop_build (cs := [_, _, _, _, _, _]) ty28 pl28 rfl) ?_
              refine ahe 15 rfl (by kernel_rfl) ?_
              refine hop_e rfl (eop_alloc ty28 rfl fun b3 => ?_)
              refine ⟨fun _ => .inl trivial, ?_⟩
              refine ahe 16 rfl (by kernel_rfl) ?_
              first
              | refine hop_e0 (eop_store (i := 0) ty28 rfl rfl rfl rfl rfl (Nat.le_of_ble_eq_true rfl) ?_)
              | refine hop_e0 (eop_store (i := 1) ty28 rfl rfl rfl rfl rfl (Nat.le_of_ble_eq_true rfl) ?_)
              | refine hop_e0 (eop_store (i := 2) ty28 rfl rfl rfl rfl rfl (Nat.le_of_ble_eq_true rfl) ?_)
              | refine hop_e0 (eop_store (i := 3) ty28 rfl rfl rfl rfl rfl (Nat.le_of_ble_eq_true rfl) ?_)
              refine ⟨fun _ => .inl trivial, ?_⟩
              refine ahz (by kernel_rfl) ?_
              refine ⟨(b3, (team3.take y7.toNat).drop 0, y10, y12, y15, y18), ?_, ⟨rfl, trivial⟩, (by repeat (first | exact keeps_refl | refine keeps_upd rfl ?_ | refine keeps_loop rfl rfl ?_)), ?_⟩
              · refine ⟨by simp [team3]; omega, by dsimp only; omega, fun s hs => ?_⟩
                exact team3_len s (List.mem_of_mem_take hs)
              · repeat (first | exact List.Perm.nil | refine permTo 0 rfl ?_ | refine permTo 1 rfl ?_ | refine permTo 2 rfl ?_ | refine permTo 3 rfl ?_ | (refine permToE 0 rfl ?hq ?_; (case hq => simp [setL, hcells]; done)) | (refine permToE 1 rfl ?hq ?_; (case hq => simp [setL, hcells]; done)) | (refine permToE 2 rfl ?hq ?_; (case hq => simp [setL, hcells]; done)) | (refine permToE 3 rfl ?hq ?_; (case hq => simp [setL, hcells]; done)) | fail)
            · skip
              refine hop_e rfl (eop_alloc ty28 rfl fun b3 => ?_)
              refine ⟨fun _ => .inl trivial, ?_⟩
              refine ahe 13 rfl (by kernel_rfl) ?_
              first
              | refine hop_e rfl (eop_callx (i := 0) ca22 rfl (WeakL.refl _) rfl (c_benchmake_Stream_Pick (L := [_, _, _]) (by first | assumption | omega | (simp; omega) | simp_all) (by first | assumption | omega | (simp; omega) | simp_all) (by first | assumption | omega | (simp; omega) | simp_all)) ?_)
              | refine hop_e rfl (eop_callx (i := 1) ca22 rfl (WeakL.refl _) rfl (c_benchmake_Stream_Pick (L := [_, _, _]) (by first | assumption | omega | (simp; omega) | simp_all) (by first | assumption | omega | (simp; omega) | simp_all) (by first | assumption | omega | (simp; omega) | simp_all)) ?_)
              | refine hop_e rfl (eop_callx (i := 2) ca22 rfl (WeakL.refl _) rfl (c_benchmake_Stream_Pick (L := [_, _, _]) (by first | assumption | omega | (simp; omega) | simp_all) (by first | assumption | omega | (simp; omega) | simp_all) (by first | assumption | omega | (simp; omega) | simp_all)) ?_)
              | refine hop_e rfl (eop_callx (i := 3) ca22 rfl (WeakL.refl _) rfl (c_benchmake_Stream_Pick (L := [_, _, _]) (by first | assumption | omega | (simp; omega) | simp_all) (by first | assumption | omega | (simp; omega) | simp_all) (by first | assumption | omega | (simp; omega) | simp_all)) ?_)
              rintro _ _ ⟨y18, rfl, hy18, rfl⟩
              refine ⟨fun _ => .inl trivial, ?_⟩
              refine ahp 14 rfl rfl (by kernel_rfl) (by kernel_rfl) (pop_build (cs := [_, _, _, _, _, _]) ty28 pl28 rfl) ?_
              refine ahe 16 rfl (by kernel_rfl) ?_
              first
              | refine hop_e0 (eop_store (i := 0) ty28 rfl rfl rfl rfl rfl (Nat.le_of_ble_eq_true rfl) ?_)
              | refine hop_e0 (eop_store (i := 1) ty28 rfl rfl rfl rfl rfl (Nat.le_of_ble_eq_true rfl) ?_)
              | refine hop_e0 (eop_store (i := 2) ty28 rfl rfl rfl rfl rfl (Nat.le_of_ble_eq_true rfl) ?_)
              | refine hop_e0 (eop_store (i := 3) ty28 rfl rfl rfl rfl rfl (Nat.le_of_ble_eq_true rfl) ?_)
              refine ⟨fun _ => .inl trivial, ?_⟩
              refine ahz (by kernel_rfl) ?_
              refine ⟨(b3, (team3.take y7.toNat).drop 0, y10, y12, y15, y18), ?_, ⟨rfl, trivial⟩, (by repeat (first | exact keeps_refl | refine keeps_upd rfl ?_ | refine keeps_loop rfl rfl ?_)), ?_⟩
              · refine ⟨by simp [team3]; omega, by dsimp only; omega, fun s hs => ?_⟩
                exact team3_len s (List.mem_of_mem_take hs)
              · repeat (first | exact List.Perm.nil | refine permTo 0 rfl ?_ | refine permTo 1 rfl ?_ | refine permTo 2 rfl ?_ | refine permTo 3 rfl ?_ | (refine permToE 0 rfl ?hq ?_; (case hq => simp [setL, hcells]; done)) | (refine permToE 1 rfl ?hq ?_; (case hq => simp [setL, hcells]; done)) | (refine permToE 2 rfl ?hq ?_; (case hq => simp [setL, hcells]; done)) | (refine permToE 3 rfl ?hq ?_; (case hq => simp [setL, hcells]; done)) | fail)
          · skip
            refine hop_e rfl (eop_alloc ty28 rfl fun b3 => ?_)
            refine ⟨fun _ => .inl trivial, ?_⟩
            refine ahe 10 rfl (by kernel_rfl) ?_
            first
            | refine hop_e rfl (eop_callx (i := 0) ca22 rfl (WeakL.refl _) rfl (c_benchmake_Stream_Pick (L := [_, _]) (by first | assumption | omega | (simp; omega) | simp_all) (by first | assumption | omega | (simp; omega) | simp_all) (by first | assumption | omega | (simp; omega) | simp_all)) ?_)
            | refine hop_e rfl (eop_callx (i := 1) ca22 rfl (WeakL.refl _) rfl (c_benchmake_Stream_Pick (L := [_, _]) (by first | assumption | omega | (simp; omega) | simp_all) (by first | assumption | omega | (simp; omega) | simp_all) (by first | assumption | omega | (simp; omega) | simp_all)) ?_)
            | refine hop_e rfl (eop_callx (i := 2) ca22 rfl (WeakL.refl _) rfl (c_benchmake_Stream_Pick (L := [_, _]) (by first | assumption | omega | (simp; omega) | simp_all) (by first | assumption | omega | (simp; omega) | simp_all) (by first | assumption | omega | (simp; omega) | simp_all)) ?_)
            | refine hop_e rfl (eop_callx (i := 3) ca22 rfl (WeakL.refl _) rfl (c_benchmake_Stream_Pick (L := [_, _]) (by first | assumption | omega | (simp; omega) | simp_all) (by first | assumption | omega | (simp; omega) | simp_all) (by first | assumption | omega | (simp; omega) | simp_all)) ?_)
            rintro _ _ ⟨y15, rfl, hy15, rfl⟩
            refine ⟨fun _ => .inl trivial, ?_⟩
            refine ahe 13 rfl (by kernel_rfl) ?_
            first
            | refine hop_e rfl (eop_callx (i := 0) ca22 rfl (WeakL.refl _) rfl (c_benchmake_Stream_Pick (L := [_, _, _]) (by first | assumption | omega | (simp; omega) | simp_all) (by first | assumption | omega | (simp; omega) | simp_all) (by first | assumption | omega | (simp; omega) | simp_all)) ?_)
            | refine hop_e rfl (eop_callx (i := 1) ca22 rfl (WeakL.refl _) rfl (c_benchmake_Stream_Pick (L := [_, _, _]) (by first | assumption | omega | (simp; omega) | simp_all) (by first | assumption | omega | (simp; omega) | simp_all) (by first | assumption | omega | (simp; omega) | simp_all)) ?_)
            | refine hop_e rfl (eop_callx (i := 2) ca22 rfl (WeakL.refl _) rfl (c_benchmake_Stream_Pick (L := [_, _, _]) (by first | assumption | omega | (simp; omega) | simp_all) (by first | assumption | omega | (simp; omega) | simp_all) (by first | assumption | omega | (simp; omega) | simp_all)) ?_)
            | refine hop_e rfl (eop_callx (i := 3) ca22 rfl (WeakL.refl _) rfl (c_benchmake_Stream_Pick (L := [_, _, _]) (by first | assumption | omega | (simp; omega) | simp_all) (by first | assumption | omega | (simp; omega) | simp_all) (by first | assumption | omega | (simp; omega) | simp_all)) ?_)
            rintro _ _ ⟨y18, rfl, hy18, rfl⟩
            refine ⟨fun _ => .inl trivial, ?_⟩
            refine ahp 14 rfl rfl (by kernel_rfl) (by kernel_rfl) (pop_build (cs := [_, _, _, _, _, _]) ty28 pl28 rfl) ?_
            refine ahe 16 rfl (by kernel_rfl) ?_
            first
            | refine hop_e0 (eop_store (i := 0) ty28 rfl rfl rfl rfl rfl (Nat.le_of_ble_eq_true rfl) ?_)
            | refine hop_e0 (eop_store (i := 1) ty28 rfl rfl rfl rfl rfl (Nat.le_of_ble_eq_true rfl) ?_)
            | refine hop_e0 (eop_store (i := 2) ty28 rfl rfl rfl rfl rfl (Nat.le_of_ble_eq_true rfl) ?_)
            | refine hop_e0 (eop_store (i := 3) ty28 rfl rfl rfl rfl rfl (Nat.le_of_ble_eq_true rfl) ?_)
            refine ⟨fun _ => .inl trivial, ?_⟩
            refine ahz (by kernel_rfl) ?_
            refine ⟨(b3, (team3.take y7.toNat).drop 0, y10, y12, y15, y18), ?_, ⟨rfl, trivial⟩, (by repeat (first | exact keeps_refl | refine keeps_upd rfl ?_ | refine keeps_loop rfl rfl ?_)), ?_⟩
            · refine ⟨by simp [team3]; omega, by dsimp only; omega, fun s hs => ?_⟩
              exact team3_len s (List.mem_of_mem_take hs)
            · repeat (first | exact List.Perm.nil | refine permTo 0 rfl ?_ | refine permTo 1 rfl ?_ | refine permTo 2 rfl ?_ | refine permTo 3 rfl ?_ | (refine permToE 0 rfl ?hq ?_; (case hq => simp [setL, hcells]; done)) | (refine permToE 1 rfl ?hq ?_; (case hq => simp [setL, hcells]; done)) | (refine permToE 2 rfl ?hq ?_; (case hq => simp [setL, hcells]; done)) | (refine permToE 3 rfl ?hq ?_; (case hq => simp [setL, hcells]; done)) | fail)
        · skip
          refine hop_e rfl (eop_alloc ty28 rfl fun b3 => ?_)
          refine ⟨fun _ => .inl trivial, ?_⟩
          refine ahe 7 rfl (by kernel_rfl) ?_
          first
          | refine hop_e rfl (eop_callx (i := 0) ca21 rfl (WeakL.refl _) rfl (c_benchmake_Stream_Range (by first | assumption | omega | (simp; omega) | simp_all) (by first | assumption | omega | (simp; omega) | simp_all) (by first | assumption | omega | (simp; omega) | simp_all) (by first | assumption | omega | (simp; omega) | simp_all)) ?_)
          | refine hop_e rfl (eop_callx (i := 1) ca21 rfl (WeakL.refl _) rfl (c_benchmake_Stream_Range (by first | assumption | omega | (simp; omega) | simp_all) (by first | assumption | omega | (simp; omega) | simp_all) (by first | assumption | omega | (simp; omega) | simp_all) (by first | assumption | omega | (simp; omega) | simp_all)) ?_)
          | refine hop_e rfl (eop_callx (i := 2) ca21 rfl (WeakL.refl _) rfl (c_benchmake_Stream_Range (by first | assumption | omega | (simp; omega) | simp_all) (by first | assumption | omega | (simp; omega) | simp_all) (by first | assumption | omega | (simp; omega) | simp_all) (by first | assumption | omega | (simp; omega) | simp_all)) ?_)
          | refine hop_e rfl (eop_callx (i := 3) ca21 rfl (WeakL.refl _) rfl (c_benchmake_Stream_Range (by first | assumption | omega | (simp; omega) | simp_all) (by first | assumption | omega | (simp; omega) | simp_all) (by first | assumption | omega | (simp; omega) | simp_all) (by first | assumption | omega | (simp; omega) | simp_all)) ?_)
          rintro _ _ ⟨y12, rfl, hy12, rfl⟩
          refine ⟨fun _ => .inl trivial, ?_⟩
          refine ahe 10 rfl (by kernel_rfl) ?_
          first
          | refine hop_e rfl (eop_callx (i := 0) ca22 rfl (WeakL.refl _) rfl (c_benchmake_Stream_Pick (L := [_, _]) (by first | assumption | omega | (simp; omega) | simp_all) (by first | assumption | omega | (simp; omega) | simp_all) (by first | assumption | omega | (simp; omega) | simp_all)) ?_)
          | refine hop_e rfl (eop_callx (i := 1) ca22 rfl (WeakL.refl _) rfl (c_benchmake_Stream_Pick (L := [_, _]) (by first | assumption | omega | (simp; omega) | simp_all) (by first | assumption | omega | (simp; omega) | simp_all) (by first | assumption | omega | (simp; omega) | simp_all)) ?_)
          | refine hop_e rfl (eop_callx (i := 2) ca22 rfl (WeakL.refl _) rfl (c_benchmake_Stream_Pick (L := [_, _]) (by first | assumption | omega | (simp; omega) | simp_all) (by first | assumption | omega | (simp; omega) | simp_all) (by first | assumption | omega | (simp; omega) | simp_all)) ?_)
          | refine hop_e rfl (eop_callx (i := 3) ca22 rfl (WeakL.refl _) rfl (c_benchmake_Stream_Pick (L := [_, _]) (by first | assumption | omega | (simp; omega) | simp_all) (by first | assumption | omega | (simp; omega) | simp_all) (by first | assumption | omega | (simp; omega) | simp_all)) ?_)
          rintro _ _ ⟨y15, rfl, hy15, rfl⟩
          refine ⟨fun _ => .inl trivial, ?_⟩
          refine ahe 13 rfl (by kernel_rfl) ?_
          first
          | refine hop_e rfl (eop_callx (i := 0) ca22 rfl (WeakL.refl _) rfl (c_benchmake_Stream_Pick (L := [_, _, _]) (by first | assumption | omega | (simp; omega) | simp_all) (by first | assumption | omega | (simp; omega) | simp_all) (by first | assumption | omega | (simp; omega) | simp_all)) ?_)
          | refine hop_e rfl (eop_callx (i := 1) ca22 rfl (WeakL.refl _) rfl (c_benchmake_Stream_Pick (L := [_, _, _]) (by first | assumption | omega | (simp; omega) | simp_all) (by first | assumption | omega | (simp; omega) | simp_all) (by first | assumption | omega | (simp; omega) | simp_all)) ?_)
          | refine hop_e rfl (eop_callx (i := 2) ca22 rfl (WeakL.refl _) rfl (c_benchmake_Stream_Pick (L := [_, _, _]) (by first | assumption | omega | (simp; omega) | simp_all) (by first | assumption | omega | (simp; omega) | simp_all) (by first | assumption | omega | (simp; omega) | simp_all)) ?_)
          | refine hop_e rfl (eop_callx (i := 3) ca22 rfl (WeakL.refl _) rfl (c_benchmake_Stream_Pick (L := [_, _, _]) (by first | assumption | omega | (simp; omega) | simp_all) (by first | assumption | omega | (simp; omega) | simp_all) (by first | assumption | omega | (simp; omega) | simp_all)) ?_)
          rintro _ _ ⟨y18, rfl, hy18, rfl⟩
          refine ⟨fun _ => .inl trivial, ?_⟩
          refine ahp 14 rfl rfl (by kernel_rfl) (by kernel_rfl) (pop_build (cs := [_, _, _, _, _, _]) ty28 pl28 rfl) ?_
          refine ahe 16 rfl (by kernel_rfl) ?_
          first
          | refine hop_e0 (eop_store (i := 0) ty28 rfl rfl rfl rfl rfl (Nat.le_of_ble_eq_true rfl) ?_)
          | refine hop_e0 (eop_store (i := 1) ty28 rfl rfl rfl rfl rfl (Nat.le_of_ble_eq_true rfl) ?_)
          | refine hop_e0 (eop_store (i := 2) ty28 rfl rfl rfl rfl rfl (Nat.le_of_ble_eq_true rfl) ?_)
          | refine hop_e0 (eop_store (i := 3) ty28 rfl rfl rfl rfl rfl (Nat.le_of_ble_eq_true rfl) ?_)
          refine ⟨fun _ => .inl trivial, ?_⟩
          refine ahz (by kernel_rfl) ?_
          refine ⟨(b3, (team3.take y7.toNat).drop 0, y10, y12, y15, y18), ?_, ⟨rfl, trivial⟩, (by repeat (first | exact keeps_refl | refine keeps_upd rfl ?_ | refine keeps_loop rfl rfl ?_)), ?_⟩
          · refine ⟨by simp [team3]; omega, by dsimp only; omega, fun s hs => ?_⟩
            exact team3_len s (List.mem_of_mem_take hs)
          · repeat (first | exact List.Perm.nil | refine permTo 0 rfl ?_ | refine permTo 1 rfl ?_ | refine permTo 2 rfl ?_ | refine permTo 3 rfl ?_ | (refine permToE 0 rfl ?hq ?_; (case hq => simp [setL, hcells]; done)) | (refine permToE 1 rfl ?hq ?_; (case hq => simp [setL, hcells]; done)) | (refine permToE 2 rfl ?hq ?_; (case hq => simp [setL, hcells]; done)) | (refine permToE 3 rfl ?hq ?_; (case hq => simp [setL, hcells]; done)) | fail)
      · skip
        refine hop_e rfl (eop_alloc ty28 rfl fun b3 => ?_)
        refine ⟨fun _ => .inl trivial, ?_⟩
        refine ahe 5 rfl (by kernel_rfl) ?_
        first
        | refine hop_e rfl (eop_callx (i := 0) ca21 rfl (WeakL.refl _) rfl (c_benchmake_Stream_Range (by first | assumption | omega | (simp; omega) | simp_all) (by first | assumption | omega | (simp; omega) | simp_all) (by first | assumption | omega | (simp; omega) | simp_all) (by first | assumption | omega | (simp; omega) | simp_all)) ?_)
        | refine hop_e rfl (eop_callx (i := 1) ca21 rfl (WeakL.refl _) rfl (c_benchmake_Stream_Range (by first | assumption | omega | (simp; omega) | simp_all) (by first | assumption | omega | (simp; omega) | simp_all) (by first | assumption | omega | (simp; omega) | simp_all) (by first | assumption | omega | (simp; omega) | simp_all)) ?_)
        | refine hop_e rfl (eop_callx (i := 2) ca21 rfl (WeakL.refl _) rfl (c_benchmake_Stream_Range (by first | assumption | omega | (simp; omega) | simp_all) (by first | assumption | omega | (simp; omega) | simp_all) (by first | assumption | omega | (simp; omega) | simp_all) (by first | assumption | omega | (simp; omega) | simp_all)) ?_)
        | refine hop_e rfl (eop_callx (i := 3) ca21 rfl (WeakL.refl _) rfl (c_benchmake_Stream_Range (by first | assumption | omega | (simp; omega) | simp_all) (by first | assumption | omega | (simp; omega) | simp_all) (by first | assumption | omega | (simp; omega) | simp_all) (by first | assumption | omega | (simp; omega) | simp_all)) ?_)
        rintro _ _ ⟨y10, rfl, hy10, rfl⟩
        refine ⟨fun _ => .inl trivial, ?_⟩
        refine ahe 7 rfl (by kernel_rfl) ?_
        first
        | refine hop_e rfl (eop_callx (i := 0) ca21 rfl (WeakL.refl _) rfl (c_benchmake_Stream_Range (by first | assumption | omega | (simp; omega) | simp_all) (by first | assumption | omega | (simp; omega) | simp_all) (by first | assumption | omega | (simp; omega) | simp_all) (by first | assumption | omega | (simp; omega) | simp_all)) ?_)
        | refine hop_e rfl (eop_callx (i := 1) ca21 rfl (WeakL.refl _) rfl (c_benchmake_Stream_Range (by first | assumption | omega | (simp; omega) | simp_all) (by first | assumption | omega | (simp; omega) | simp_all) (by first | assumption | omega | (simp; omega) | simp_all) (by first | assumption | omega | (simp; omega) | simp_all)) ?_)
        | refine hop_e rfl (eop_callx (i := 2) ca21 rfl (WeakL.refl _) rfl (c_benchmake_Stream_Range (by first | assumption | omega | (simp; omega) | simp_all) (by first | assumption | omega | (simp; omega) | simp_all) (by first | assumption | omega | (simp; omega) | simp_all) (by first | assumption | omega | (simp; omega) | simp_all)) ?_)
        | refine hop_e rfl (eop_callx (i := 3) ca21 rfl (WeakL.refl _) rfl (c_benchmake_Stream_Range (by first | assumption | omega | (simp; omega) | simp_all) (by first | assumption | omega | (simp; omega) | simp_all) (by first | assumption | omega | (simp; omega) | simp_all) (by first | assumption | omega | (simp; omega) | simp_all)) ?_)
        rintro _ _ ⟨y12, rfl, hy12, rfl⟩
        refine ⟨fun _ => .inl trivial, ?_⟩
        refine ahe 10 rfl (by kernel_rfl) ?_
        first
        | refine hop_e rfl (eop_callx (i := 0) ca22 rfl (WeakL.refl _) rfl (c_benchmake_Stream_Pick (L := [_, _]) (by first | assumption | omega | (simp; omega) | simp_all) (by first | assumption | omega | (simp; omega) | simp_all) (by first | assumption | omega | (simp; omega) | simp_all)) ?_)
        | refine hop_e rfl (eop_callx (i := 1) ca22 rfl (WeakL.refl _) rfl (c_benchmake_Stream_Pick (L := [_, _]) (by first | assumption | omega | (simp; omega) | simp_all) (by first | assumption | omega | (simp; omega) | simp_all) (by first | assumption | omega | (simp; omega) | simp_all)) ?_)
        | refine hop_e rfl (eop_callx (i := 2) ca22 rfl (WeakL.refl _) rfl (c_benchmake_Stream_Pick (L := [_, _]) (by first | assumption | omega | (simp; omega) | simp_all) (by first | assumption | omega | (simp; omega) | simp_all) (by first | assumption | omega | (simp; omega) | simp_all)) ?_)
        | refine hop_e rfl (eop_callx (i := 3) ca22 rfl (WeakL.refl _) rfl (c_benchmake_Stream_Pick (L := [_, _]) (by first | assumption | omega | (simp; omega) | simp_all) (by first | assumption | omega | (simp; omega) | simp_all) (by first | assumption | omega | (simp; omega) | simp_all)) ?_)
        rintro _ _ ⟨y15, rfl, hy15, rfl⟩
        refine ⟨fun _ => .inl trivial, ?_⟩
        refine ahe 13 rfl (by kernel_rfl) ?_
        first
        | refine hop_e rfl (eop_callx (i := 0) ca22 rfl (WeakL.refl _) rfl (c_benchmake_Stream_Pick (L := [_, _, _]) (by first | assumption | omega | (simp; omega) | simp_all) (by first | assumption | omega | (simp; omega) | simp_all) (by first | assumption | omega | (simp; omega) | simp_all)) ?_)
        | refine hop_e rfl (eop_callx (i := 1) ca22 rfl (WeakL.refl _) rfl (c_benchmake_Stream_Pick (L := [_, _, _]) (by first | assumption | omega | (simp; omega) | simp_all) (by first | assumption | omega | (simp; omega) | simp_all) (by first | assumption | omega | (simp; omega) | simp_all)) ?_)
        | refine hop_e rfl (eop_callx (i := 2) ca22 rfl (WeakL.refl _) rfl (c_benchmake_Stream_Pick (L := [_, _, _]) (by first | assumption | omega | (simp; omega) | simp_all) (by first | assumption | omega | (simp; omega) | simp_all) (by first | assumption | omega | (simp; omega) | simp_all)) ?_)
        | refine hop_e rfl (eop_callx (i := 3) ca22 rfl (WeakL.refl _) rfl (c_benchmake_Stream_Pick (L := [_, _, _]) (by first | assumption | omega | (simp; omega) | simp_all) (by first | assumption | omega | (simp; omega) | simp_all) (by first | assumption | omega | (simp; omega) | simp_all)) ?_)
        rintro _ _ ⟨y18, rfl, hy18, rfl⟩
        refine ⟨fun _ => .inl trivial, ?_⟩
        refine ahp 14 rfl rfl (by kernel_rfl) (by kernel_rfl) (pop_build (cs := [_, _, _, _, _, _]) ty28 pl28 rfl) ?_
        refine ahe 16 rfl (by kernel_rfl) ?_
        first
        | refine hop_e0 (eop_store (i := 0) ty28 rfl rfl rfl rfl rfl (Nat.le_of_ble_eq_true rfl) ?_)
        | refine hop_e0 (eop_store (i := 1) ty28 rfl rfl rfl rfl rfl (Nat.le_of_ble_eq_true rfl) ?_)
        | refine hop_e0 (eop_store (i := 2) ty28 rfl rfl rfl rfl rfl (Nat.le_of_ble_eq_true rfl) ?_)
        | refine hop_e0 (eop_store (i := 3) ty28 rfl rfl rfl rfl rfl (Nat.le_of_ble_eq_true rfl) ?_)
        refine ⟨fun _ => .inl trivial, ?_⟩
        refine ahz (by kernel_rfl) ?_
        refine ⟨(b3, (team3.take y7.toNat).drop 0, y10, y12, y15, y18), ?_, ⟨rfl, trivial⟩, (by repeat (first | exact keeps_refl | refine keeps_upd rfl ?_ | refine keeps_loop rfl rfl ?_)), ?_⟩
        · refine ⟨by simp [team3]; omega, by dsimp only; omega, fun s hs => ?_⟩
          exact team3_len s (List.mem_of_mem_take hs)
        · repeat (first | exact List.Perm.nil | refine permTo 0 rfl ?_ | refine permTo 1 rfl ?_ | refine permTo 2 rfl ?_ | refine permTo 3 rfl ?_ | (refine permToE 0 rfl ?hq ?_; (case hq => simp [setL, hcells]; done)) | (refine permToE 1 rfl ?hq ?_; (case hq => simp [setL, hcells]; done)) | (refine permToE 2 rfl ?hq ?_; (case hq => simp [setL, hcells]; done)) | (refine permToE 3 rfl ?hq ?_; (case hq => simp [setL, hcells]; done)) | fail)
    · skip
      refine hop_e rfl (eop_alloc ty28 rfl fun b3 => ?_)
      refine ⟨fun _ => .inl trivial, ?_⟩
      refine ahe 2 rfl (by kernel_rfl) ?_
      first
      | refine hop_e rfl (eop_callx (i := 0) ca21 rfl (WeakL.refl _) rfl (c_benchmake_Stream_Range (by first | assumption | omega | (simp; omega) | simp_all) (by first | assumption | omega | (simp; omega) | simp_all) (by first | assumption | omega | (simp; omega) | simp_all) (by first | assumption | omega | (simp; omega) | simp_all)) ?_)
      | refine hop_e rfl (eop_callx (i := 1) ca21 rfl (WeakL.refl _) rfl (c_benchmake_Stream_Range (by first | assumption | omega | (simp; omega) | simp_all) (by first | assumption | omega | (simp; omega) | simp_all) (by first | assumption | omega | (simp; omega) | simp_all) (by first | assumption | omega | (simp; omega) | simp_all)) ?_)
      | refine hop_e rfl (eop_callx (i := 2) ca21 rfl (WeakL.refl _) rfl (c_benchmake_Stream_Range (by first | assumption | omega | (simp; omega) | simp_all) (by first | assumption | omega | (simp; omega) | simp_all) (by first | assumption | omega | (simp; omega) | simp_all) (by first | assumption | omega | (simp; omega) | simp_all)) ?_)
      | refine hop_e rfl (eop_callx (i := 3) ca21 rfl (WeakL.refl _) rfl (c_benchmake_Stream_Range (by first | assumption | omega | (simp; omega) | simp_all) (by first | assumption | omega | (simp; omega) | simp_all) (by first | assumption | omega | (simp; omega) | simp_all) (by first | assumption | omega | (simp; omega) | simp_all)) ?_)
      rintro _ _ ⟨y7, rfl, hy7, rfl⟩
      refine ⟨fun _ => .inl trivial, ?_⟩
      refine ahp 3 rfl rfl (by kernel_rfl) (by kernel_rfl) (pop_slicem (es := team3) (f := HVal.str) (h := y7.toNat) ty26 ty9 rfl rfl ⟨_, _, rfl, by omega⟩ (by omega) (by simp [team3]; omega)) ?_
      refine ahe 5 rfl (by kernel_rfl) ?_
      first
      | refine hop_e rfl (eop_callx (i := 0) ca21 rfl (WeakL.refl _) rfl (c_benchmake_Stream_Range (by first | assumption | omega | (simp; omega) | simp_all) (by first | assumption | omega | (simp; omega) | simp_all) (by first | assumption | omega | (simp; omega) | simp_all) (by first | assumption | omega | (simp; omega) | simp_all)) ?_)
      | refine hop_e rfl (eop_callx (i := 1) ca21 rfl (WeakL.refl _) rfl (c_benchmake_Stream_Range (by first | assumption | omega | (simp; omega) | simp_all) (by first | assumption | omega | (simp; omega) | simp_all) (by first | assumption | omega | (simp; omega) | simp_all) (by first | assumption | omega | (simp; omega) | simp_all)) ?_)
      | refine hop_e rfl (eop_callx (i := 2) ca21 rfl (WeakL.refl _) rfl (c_benchmake_Stream_Range (by first | assumption | omega | (simp; omega) | simp_all) (by first | assumption | omega | (simp; omega) | simp_all) (by first | assumption | omega | (simp; omega) | simp_all) (by first | assumption | omega | (simp; omega) | simp_all)) ?_)
      | refine hop_e rfl (eop_callx (i := 3) ca21 rfl (WeakL.refl _) rfl (c_benchmake_Stream_Range (by first | assumption | omega | (simp; omega) | simp_all) (by first | assumption | omega | (simp; omega) | simp_all) (by first | assumption | omega | (simp; omega) | simp_all) (by first | assumption | omega | (simp; omega) | simp_all)) ?_)
      rintro _ _ ⟨y10, rfl, hy10, rfl⟩
      refine ⟨fun _ => .inl trivial, ?_⟩
      refine ahe 7 rfl (by kernel_rfl) ?_
      first
      | refine hop_e rfl (eop_callx (i := 0) ca21 rfl (WeakL.refl _) rfl (c_benchmake_Stream_Range (by first | assumption | omega | (simp; omega) | simp_all) (by first | assumption | omega | (simp; omega) | simp_all) (by first | assumption | omega | (simp; omega) | simp_all) (by first | assumption | omega | (simp; omega) | simp_all)) ?_)
      | refine hop_e rfl (eop_callx (i := 1) ca21 rfl (WeakL.refl _) rfl (c_benchmake_Stream_Range (by first | assumption | omega | (simp; omega) | simp_all) (by first | assumption | omega | (simp; omega) | simp_all) (by first | assumption | omega | (simp; omega) | simp_all) (by first | assumption | omega | (simp; omega) | simp_all)) ?_)
      | refine hop_e rfl (eop_callx (i := 2) ca21 rfl (WeakL.refl _) rfl (c_benchmake_Stream_Range (by first | assumption | omega | (simp; omega) | simp_all) (by first | assumption | omega | (simp; omega) | simp_all) (by first | assumption | omega | (simp; omega) | simp_all) (by first | assumption | omega | (simp; omega) | simp_all)) ?_)
      | refine hop_e rfl (eop_callx (i := 3) ca21 rfl (WeakL.refl _) rfl (c_benchmake_Stream_Range (by first | assumption | omega | (simp; omega) | simp_all) (by first | assumption | omega | (simp; omega) | simp_all) (by first | assumption | omega | (simp; omega) | simp_all) (by first | assumption | omega | (simp; omega) | simp_all)) ?_)
      rintro _ _ ⟨y12, rfl, hy12, rfl⟩
      refine ⟨fun _ => .inl trivial, ?_⟩
      refine ahe 10 rfl (by kernel_rfl) ?_
      first
      | refine hop_e rfl (eop_callx (i := 0) ca22 rfl (WeakL.refl _) rfl (c_benchmake_Stream_Pick (L := [_, _]) (by first | assumption | omega | (simp; omega) | simp_all) (by first | assumption | omega | (simp; omega) | simp_all) (by first | assumption | omega | (simp; omega) | simp_all)) ?_)
      | refine hop_e rfl (eop_callx (i := 1) ca22 rfl (WeakL.refl _) rfl (c_benchmake_Stream_Pick (L := [_, _]) (by first | assumption | omega | (simp; omega) | simp_all) (by first | assumption | omega | (simp; omega) | simp_all) (by first | assumption | omega | (simp; omega) | simp_all)) ?_)
      | refine hop_e rfl (eop_callx (i := 2) ca22 rfl (WeakL.refl _) rfl (c_benchmake_Stream_Pick (L := [_, _]) (by first | assumption | omega | (simp; omega) | simp_all) (by first | assumption | omega | (simp; omega) | simp_all) (by first | assumption | omega | (simp; omega) | simp_all)) ?_)
      | refine hop_e rfl (eop_callx (i := 3) ca22 rfl (WeakL.refl _) rfl (c_benchmake_Stream_Pick (L := [_, _]) (by first | assumption | omega | (simp; omega) | simp_all) (by first | assumption | omega | (simp; omega) | simp_all) (by first | assumption | omega | (simp; omega) | simp_all)) ?_)
      rintro _ _ ⟨y15, rfl, hy15, rfl⟩
      refine ⟨fun _ => .inl trivial, ?_⟩
      refine ahe 13 rfl (by kernel_rfl) ?_
      first
      | refine hop_e rfl (eop_callx (i := 0) ca22 rfl (WeakL.refl _) rfl (c_benchmake_Stream_Pick (L := [_, _, _]) (by first | assumption | omega | (simp; omega) | simp_all) (by first | assumption | omega | (simp; omega) | simp_all) (by first | assumption | omega | (simp; omega) | simp_all)) ?_)
      | refine hop_e rfl (eop_callx (i := 1) ca22 rfl (WeakL.refl _) rfl (c_benchmake_Stream_Pick (L := [_, _, _]) (by first | assumption | omega | (simp; omega) | simp_all) (by first | assumption | omega | (simp; omega) | simp_all) (by first | assumption | omega | (simp; omega) | simp_all)) ?_)
      | refine hop_e rfl (eop_callx (i := 2) ca22 rfl (WeakL.refl _) rfl (c_benchmake_Stream_Pick (L := [_, _, _]) (by first | assumption | omega | (simp; omega) | simp_all) (by first | assumption | omega | (simp; omega) | simp_all) (by first | assumption | omega | (simp; omega) | simp_all)) ?_)
      | refine hop_e rfl (eop_callx (i := 3) ca22 rfl (WeakL.refl _) rfl (c_benchmake_Stream_Pick (L := [_, _, _]) (by first | assumption | omega | (simp; omega) | simp_all) (by first | assumption | omega | (simp; omega) | simp_all) (by first | assumption | omega | (simp; omega) | simp_all)) ?_)
      rintro _ _ ⟨y18, rfl, hy18, rfl⟩
      refine ⟨fun _ => .inl trivial, ?_⟩
      refine ahp 14 rfl rfl (by kernel_rfl) (by kernel_rfl) (pop_build (cs := [_, _, _, _, _, _]) ty28 pl28 rfl) ?_
      refine ahe 16 rfl (by kernel_rfl) ?_
      first
      | refine hop_e0 (eop_store (i := 0) ty28 rfl rfl rfl rfl rfl (Nat.le_of_ble_eq_true rfl) ?_)
      | refine hop_e0 (eop_store (i := 1) ty28 rfl rfl rfl rfl rfl (Nat.le_of_ble_eq_true rfl) ?_)
      | refine hop_e0 (eop_store (i := 2) ty28 rfl rfl rfl rfl rfl (Nat.le_of_ble_eq_true rfl) ?_)
      | refine hop_e0 (eop_store (i := 3) ty28 rfl rfl rfl rfl rfl (Nat.le_of_ble_eq_true rfl) ?_)
      refine ⟨fun _ => .inl trivial, ?_⟩
      refine ahz (by kernel_rfl) ?_
      refine ⟨(b3, (team3.take y7.toNat).drop 0, y10, y12, y15, y18), ?_, ⟨rfl, trivial⟩, (by repeat (first | exact keeps_refl | refine keeps_upd rfl ?_ | refine keeps_loop rfl rfl ?_)), ?_⟩
      · refine ⟨by simp [team3]; omega, by dsimp only; omega, fun s hs => ?_⟩
        exact team3_len s (List.mem_of_mem_take hs)
      · repeat (first | exact List.Perm.nil | refine permTo 0 rfl ?_ | refine permTo 1 rfl ?_ | refine permTo 2 rfl ?_ | refine permTo 3 rfl ?_ | (refine permToE 0 rfl ?hq ?_; (case hq => simp [setL, hcells]; done)) | (refine permToE 1 rfl ?hq ?_; (case hq => simp [setL, hcells]; done)) | (refine permToE 2 rfl ?hq ?_; (case hq => simp [setL, hcells]; done)) | (refine permToE 3 rfl ?hq ?_; (case hq => simp [setL, hcells]; done)) | fail)
  · intro q hq
    obtain ⟨b3, T, R, Wy, C, S⟩ := q
    dsimp only at hq
    obtain ⟨hT, hR, hTs⟩ := hq
    refine hw_seq ?_
    refine hw_draw (fun M => ∃ i : Nat, M[i]? = some (RoomC b3 (eSs (T)) R Wy nilS C S)) [1, 4] mixed ?_
    refine ahp 0 rfl rfl (by kernel_rfl) (by kernel_rfl) (pop_fieldAddr_raw ty28 rfl ty26 (by decide) rfl) ?_
    refine ahl 1 rfl rfl (by kernel_rfl) (by kernel_rfl) (by simp) (by first | exact ⟨0, rfl⟩ | exact ⟨1, rfl⟩ | exact ⟨2, rfl⟩) (fun M hM => by obtain ⟨i, hi⟩ := hM; exact eop_load (i := i) ty26 rfl hi (.inl ⟨rfl, rfl⟩) ⟨rfl, rfl⟩) ?_
    refine ahp 2 rfl rfl (by kernel_rfl) (by kernel_rfl) (pop_lenm ty26 rfl) ?_
    refine ahp 3 rfl rfl (by kernel_rfl) (by kernel_rfl) (pop_fieldAddr_raw ty28 rfl ty3 (by decide) rfl) ?_
    refine ahl 4 rfl rfl (by kernel_rfl) (by kernel_rfl) (by simp) (by first | exact ⟨0, rfl⟩ | exact ⟨1, rfl⟩ | exact ⟨2, rfl⟩) (fun M hM => by obtain ⟨i, hi⟩ := hM; exact eop_load (i := i) ty3 rfl hi (.inl ⟨rfl, rfl⟩) ⟨rfl, rfl⟩) ?_
    have hm1 : 0 < (T.length : Int) * R := Int.mul_pos (by omega) (by omega)
    have hm := mul_bd (a := (T.length : Int)) (b := R) (A := 3) (B := 4) (by omega) (by omega) (by omega) (by omega)
    refine ahp 5 rfl rfl (by kernel_rfl) (by kernel_rfl) (pop_mul64 rfl rfl (by omega) (by omega)) ?_
    refine ahp 6 rfl rfl (by kernel_rfl) (by kernel_rfl) (pop_move rfl) ?_
    refine ahp 7 rfl rfl (by kernel_rfl) (by kernel_rfl) (pop_buildSlice (hs := [_, _, _, _]) ty22 ty3 rfl rfl (by decide) (by decide) rfl) ?_
    refine ahp 10 rfl rfl (by kernel_rfl) (by kernel_rfl) (pop_move rfl) ?_
    refine ahe 8 rfl (by kernel_rfl) ?_
    first
    | refine hop_e rfl (eop_callx (i := 0) ca22 rfl (WeakL.refl _) rfl (c_benchmake_Stream_Pick (L := [_, _, _, _]) (by first | assumption | omega | (simp; omega) | simp_all) (by first | assumption | omega | (simp; omega) | simp_all) (by first | assumption | omega | (simp; omega) | simp_all)) ?_)
    | refine hop_e rfl (eop_callx (i := 1) ca22 rfl (WeakL.refl _) rfl (c_benchmake_Stream_Pick (L := [_, _, _, _]) (by first | assumption | omega | (simp; omega) | simp_all) (by first | assumption | omega | (simp; omega) | simp_all) (by first | assumption | omega | (simp; omega) | simp_all)) ?_)
    | refine hop_e rfl (eop_callx (i := 2) ca22 rfl (WeakL.refl _) rfl (c_benchmake_Stream_Pick (L := [_, _, _, _]) (by first | assumption | omega | (simp; omega) | simp_all) (by first | assumption | omega | (simp; omega) | simp_all) (by first | assumption | omega | (simp; omega) | simp_all)) ?_)
    | refine hop_e rfl (eop_callx (i := 3) ca22 rfl (WeakL.refl _) rfl (c_benchmake_Stream_Pick (L := [_, _, _, _]) (by first | assumption | omega | (simp; omega) | simp_all) (by first | assumption | omega | (simp; omega) | simp_all) (by first | assumption | omega | (simp; omega) | simp_all)) ?_)
    rintro _ _ ⟨y28, rfl, hy28, rfl⟩
    refine ⟨fun _ => by first | exact .inl ⟨0, rfl⟩ | exact .inl ⟨1, rfl⟩ | exact .inl ⟨2, rfl⟩ | exact .inr (by simp [Before, Region.binds]), ?_⟩
    have hy3 : 0 ≤ y28 ∧ y28 ≤ 3 := by simp at hy28; omega
    refine ahp 9 rfl rfl (by kernel_rfl) (by kernel_rfl) (pop_add64 rfl rfl (by omega) (by omega)) ?_
    refine ahz (by kernel_rfl) ?_
    refine hw_ghost (Ghost.arr_nil 1) ?_
    refine hw_block ?_
    refine hw_loopw3 [4, 30, 31, 32, 33, 34, 35, 36, 37, 38, 39, 40, 41, 42] (fun (k : Nat) (v : Value) (Pl : List Str) => [(30, .int .i64 k)]) (fun (k : Nat) (v : Value) (Pl : List Str) => [.arr v 1 (Pl.map .str), RoomC b3 (eSs (T)) R Wy (.raw v) C S, RoomC b2 nilS 0 0 nilS 0 0, St b l (a + 6)]) (fun (k : Nat) (v : Value) (Pl : List Str) => k ≤ 15 ∧ Pl.length = k ∧ ∀ s ∈ Pl, s.length ≤ 100) (fun (k : Nat) (v : Value) (Pl : List Str) => 15 - k) (0) (.slice none 0 0) ([]) ?_ ?_ ?_ ?_
    · exact ⟨by omega, rfl, by simp⟩
    · exact ⟨rfl, trivial⟩
    · repeat (first | exact List.Perm.nil | refine permTo 0 rfl ?_ | refine permTo 1 rfl ?_ | refine permTo 2 rfl ?_ | refine permTo 3 rfl ?_ | (refine permToE 0 rfl ?hq ?_; (case hq => simp [setL, hcells]; done)) | (refine permToE 1 rfl ?hq ?_; (case hq => simp [setL, hcells]; done)) | (refine permToE 2 rfl ?hq ?_; (case hq => simp [setL, hcells]; done)) | (refine permToE 3 rfl ?hq ?_; (case hq => simp [setL, hcells]; done)) | fail)
    · intro k v Pl hinv
      obtain ⟨hk, hPl, hPs⟩ := hinv
      refine hw_reg ?_
      refine dp rfl (pop_lss rfl rfl) ?_
      refine dn ?_
      refine hw_seq ?_
      refine hw_cond rfl (fun h1 => ?_) (fun h2 => ?_)
      · try simp at h1
        refine hw_skip ?_
        refine seqQ_n ?_
        refine hw_seq ?_
        refine hw_block ?_
        refine hw_reg ?_
        refine dp rfl (pop_move rfl) ?_
        refine dp rfl (pop_assign rfl) ?_
        refine dn ?_
        refine hw_draw1 (fun _ => True) [] mixed ?_
        refine ahp 0 rfl rfl (by kernel_rfl) (by kernel_rfl) (pop_fieldAddr_raw ty28 rfl ty26 (by decide) rfl) ?_
        refine ahp 2 rfl rfl (by kernel_rfl) (by kernel_rfl) (pop_move rfl) ?_
        refine ahp 3 rfl rfl (by kernel_rfl) (by kernel_rfl) (pop_add64 rfl rfl (by omega) (by omega)) ?_
        refine ahp 4 rfl rfl (by kernel_rfl) (by kernel_rfl) (pop_call ca23 rfl (WeakL.refl _) (c_strconv_Itoa (i := 10 + k) (by omega))) ?_
        have hdl := dec_len (i := 10 + k) (by omega)
        refine ahp 5 rfl rfl (by kernel_rfl) (by kernel_rfl) (pop_adds rfl rfl (by simp; omega)) ?_
        refine ahp 6 rfl rfl (by kernel_rfl) (by kernel_rfl) (pop_buildSlice (hs := [_]) ty26 ty9 rfl rfl (by decide) (by decide) rfl) ?_
        refine ahe 1 rfl (by kernel_rfl) ?_
        first
        | refine hop_e rfl (eop_load (i := 0) ty26 rfl rfl (.inl ⟨rfl, rfl⟩) ?_)
        | refine hop_e rfl (eop_load (i := 1) ty26 rfl rfl (.inl ⟨rfl, rfl⟩) ?_)
        | refine hop_e rfl (eop_load (i := 2) ty26 rfl rfl (.inl ⟨rfl, rfl⟩) ?_)
        | refine hop_e rfl (eop_load (i := 3) ty26 rfl rfl (.inl ⟨rfl, rfl⟩) ?_)
        refine ⟨fun _ => .inl trivial, ?_⟩
        refine ahe 7 rfl (by kernel_rfl) ?_
        first
        | refine hop_e rfl (eop_append (i := 0) ty26 ty9 rfl rfl rfl rfl rfl (by simp [flat, hcells]) (by first | omega | (simp; omega)) fun v40 => ?_)
        | refine hop_e rfl (eop_append (i := 1) ty26 ty9 rfl rfl rfl rfl rfl (by simp [flat, hcells]) (by first | omega | (simp; omega)) fun v40 => ?_)
        | refine hop_e rfl (eop_append (i := 2) ty26 ty9 rfl rfl rfl rfl rfl (by simp [flat, hcells]) (by first | omega | (simp; omega)) fun v40 => ?_)
        | refine hop_e rfl (eop_append (i := 3) ty26 ty9 rfl rfl rfl rfl rfl (by simp [flat, hcells]) (by first | omega | (simp; omega)) fun v40 => ?_)
        refine ⟨fun _ => .inl trivial, ?_⟩
        refine ahp 8 rfl rfl (by kernel_rfl) (by kernel_rfl) (pop_fieldAddr_raw ty28 rfl ty26 (by decide) rfl) ?_
        refine ahe 9 rfl (by kernel_rfl) ?_
        first
        | refine hop_e0 (eop_store (i := 0) ty26 rfl rfl rfl rfl rfl (Nat.le_of_ble_eq_true rfl) ?_)
        | refine hop_e0 (eop_store (i := 1) ty26 rfl rfl rfl rfl rfl (Nat.le_of_ble_eq_true rfl) ?_)
        | refine hop_e0 (eop_store (i := 2) ty26 rfl rfl rfl rfl rfl (Nat.le_of_ble_eq_true rfl) ?_)
        | refine hop_e0 (eop_store (i := 3) ty26 rfl rfl rfl rfl rfl (Nat.le_of_ble_eq_true rfl) ?_)
        refine ⟨fun _ => .inl trivial, ?_⟩
        refine ahz (by kernel_rfl) ?_
        refine blockQ_n ?_
        refine seqQ_n ?_
        refine hw_reg1 ?_
        refine dp rfl (pop_add64 rfl rfl (by omega) (by omega)) ?_
        refine dp rfl (pop_move rfl) ?_
        refine dn ?_
        refine ⟨k + 1, v40, Pl ++ [112 :: Lib.decDigits (10 + k)], ?_, ?_, ⟨rfl, trivial⟩, (by repeat (first | exact keeps_refl | refine keeps_upd rfl ?_ | refine keeps_loop rfl rfl ?_)), ?_⟩
        · refine ⟨by omega, by simp [hPl], fun s hs => ?_⟩
          rcases List.mem_append.1 hs with h | h
          · exact hPs s h
          · have := dec_len (i := 10 + k) (by omega)
            simp at h; subst h; simp; omega
        · dsimp only; omega
        · repeat (first | exact List.Perm.nil | refine permTo 0 rfl ?_ | refine permTo 1 rfl ?_ | refine permTo 2 rfl ?_ | refine permTo 3 rfl ?_ | (refine permToE 0 rfl ?hq ?_; (case hq => simp [setL, hcells]; done)) | (refine permToE 1 rfl ?hq ?_; (case hq => simp [setL, hcells]; done)) | (refine permToE 2 rfl ?hq ?_; (case hq => simp [setL, hcells]; done)) | (refine permToE 3 rfl ?hq ?_; (case hq => simp [setL, hcells]; done)) | fail)
      · try simp at h2
        refine hw_exit ?_
        refine seqQ_x ?_
        refine loopQ3_x ?_
        refine blockQ_eq ?_
        refine seqQ_n ?_
        refine hw_joing [43, 44, 45, 46, 47, 48, 49, 50, 51, 52, 53, 54, 55, 56, 57, 58, 59, 60, 61, 62, 63, 64, 65, 66, 67, 68, 69, 70, 71, 72, 73, 74, 75, 76, 77, 78, 79, 80, 81, 82] (fun (q : Room × Nat) => []) (fun (q : Room × Nat) => [.cells b3 (hcells (eRoom q.1)), RoomC b2 nilS 0 0 nilS 0 0, St b l q.2]) (fun (q : Room × Nat) => GoodRoom q.1 ∧ q.2 ≤ a + 20) ?_ ?_
        · skip
          refine hw_reg ?_
          refine dp rfl (pop_move rfl) ?_
          first
          | refine de rfl (eop_callx (i := 0) ca24 rfl (WeakL.refl _) rfl (c_benchmake_Stream_Flip (by first | assumption | omega | (simp; omega) | simp_all) (by first | assumption | omega | (simp; omega) | simp_all)) ?_)
          | refine de rfl (eop_callx (i := 1) ca24 rfl (WeakL.refl _) rfl (c_benchmake_Stream_Flip (by first | assumption | omega | (simp; omega) | simp_all) (by first | assumption | omega | (simp; omega) | simp_all)) ?_)
          | refine de rfl (eop_callx (i := 2) ca24 rfl (WeakL.refl _) rfl (c_benchmake_Stream_Flip (by first | assumption | omega | (simp; omega) | simp_all) (by first | assumption | omega | (simp; omega) | simp_all)) ?_)
          | refine de rfl (eop_callx (i := 3) ca24 rfl (WeakL.refl _) rfl (c_benchmake_Stream_Flip (by first | assumption | omega | (simp; omega) | simp_all) (by first | assumption | omega | (simp; omega) | simp_all)) ?_)
          rintro _ _ ⟨y44, rfl, rfl⟩
          refine dn ?_
          refine hw_cond rfl (fun h3 => ?_) (fun h4 => ?_)
          · try simp at h3
            refine hw_reg ?_
            refine dp rfl (pop_move rfl) ?_
            first
            | refine de rfl (eop_callx (i := 0) ca25 rfl (WeakL.refl _) rfl (c_benchmake_Stream_Next (by first | assumption | omega | (simp; omega) | simp_all) (by first | assumption | omega | (simp; omega) | simp_all)) ?_)
            | refine de rfl (eop_callx (i := 1) ca25 rfl (WeakL.refl _) rfl (c_benchmake_Stream_Next (by first | assumption | omega | (simp; omega) | simp_all) (by first | assumption | omega | (simp; omega) | simp_all)) ?_)
            | refine de rfl (eop_callx (i := 2) ca25 rfl (WeakL.refl _) rfl (c_benchmake_Stream_Next (by first | assumption | omega | (simp; omega) | simp_all) (by first | assumption | omega | (simp; omega) | simp_all)) ?_)
            | refine de rfl (eop_callx (i := 3) ca25 rfl (WeakL.refl _) rfl (c_benchmake_Stream_Next (by first | assumption | omega | (simp; omega) | simp_all) (by first | assumption | omega | (simp; omega) | simp_all)) ?_)
            rintro _ _ ⟨y46, rfl, hy46, rfl⟩
            refine dn ?_
            refine hw_block ?_
            refine hw_reg ?_
            refine dp rfl (pop_eql rfl rfl) ?_
            refine dp rfl (pop_assign rfl) ?_
            refine dn ?_
            refine hw_cond rfl (fun h5 => ?_) (fun h6 => ?_)
            · try simp at h5
              refine hw_reg1 ?_
              refine dp rfl (pop_fieldAddr_raw ty28 rfl ty26 (by decide) rfl) ?_
              first
              | refine de rfl (eop_load (i := 0) ty26 rfl rfl (.inl ⟨rfl, rfl⟩) ?_)
              | refine de rfl (eop_load (i := 1) ty26 rfl rfl (.inl ⟨rfl, rfl⟩) ?_)
              | refine de rfl (eop_load (i := 2) ty26 rfl rfl (.inl ⟨rfl, rfl⟩) ?_)
              | refine de rfl (eop_load (i := 3) ty26 rfl rfl (.inl ⟨rfl, rfl⟩) ?_)
              refine de rfl (eop_calla ca26 rfl (WeakL.refl _) (c_slices_Clone_string_string (by first | assumption | omega | (simp; omega) | simp_all)) fun v57 => ?_)
              refine dp rfl (pop_move rfl) ?_
              refine dp rfl (pop_buildSlice (hs := [_, _, _]) ty26 ty9 rfl rfl (by decide) (by decide) rfl) ?_
              first
              | refine de rfl (eop_callx (i := 0) ca27 rfl (WeakL.refl _) rfl (c_benchmake_Stream_Some (L := [_, _, _]) (by first | assumption | omega | (simp; omega) | simp_all) (by first | assumption | omega | (simp; omega) | simp_all) (by first | assumption | omega | (simp; omega) | simp_all)) ?_)
              | refine de rfl (eop_callx (i := 1) ca27 rfl (WeakL.refl _) rfl (c_benchmake_Stream_Some (L := [_, _, _]) (by first | assumption | omega | (simp; omega) | simp_all) (by first | assumption | omega | (simp; omega) | simp_all) (by first | assumption | omega | (simp; omega) | simp_all)) ?_)
              | refine de rfl (eop_callx (i := 2) ca27 rfl (WeakL.refl _) rfl (c_benchmake_Stream_Some (L := [_, _, _]) (by first | assumption | omega | (simp; omega) | simp_all) (by first | assumption | omega | (simp; omega) | simp_all) (by first | assumption | omega | (simp; omega) | simp_all)) ?_)
              | refine de rfl (eop_callx (i := 3) ca27 rfl (WeakL.refl _) rfl (c_benchmake_Stream_Some (L := [_, _, _]) (by first | assumption | omega | (simp; omega) | simp_all) (by first | assumption | omega | (simp; omega) | simp_all) (by first | assumption | omega | (simp; omega) | simp_all)) ?_)
              rintro _ _ ⟨y60, rfl, hy60, rfl⟩
              refine dp rfl (pop_buildSlice (hs := [_]) ty26 ty9 rfl rfl (by decide) (by decide) rfl) ?_
              first
              | refine de rfl (eop_append (i := 0) ty26 ty9 rfl rfl rfl rfl rfl (by simp [flat, hcells]) (by first | omega | (simp; omega)) fun v62 => ?_)
              | refine de rfl (eop_append (i := 1) ty26 ty9 rfl rfl rfl rfl rfl (by simp [flat, hcells]) (by first | omega | (simp; omega)) fun v62 => ?_)
              | refine de rfl (eop_append (i := 2) ty26 ty9 rfl rfl rfl rfl rfl (by simp [flat, hcells]) (by first | omega | (simp; omega)) fun v62 => ?_)
              | refine de rfl (eop_append (i := 3) ty26 ty9 rfl rfl rfl rfl rfl (by simp [flat, hcells]) (by first | omega | (simp; omega)) fun v62 => ?_)
              refine dp rfl (pop_fieldAddr_raw ty28 rfl ty26 (by decide) rfl) ?_
              first
              | refine de0 (eop_store (i := 0) ty26 rfl rfl rfl rfl rfl (Nat.le_of_ble_eq_true rfl) ?_)
              | refine de0 (eop_store (i := 1) ty26 rfl rfl rfl rfl rfl (Nat.le_of_ble_eq_true rfl) ?_)
              | refine de0 (eop_store (i := 2) ty26 rfl rfl rfl rfl rfl (Nat.le_of_ble_eq_true rfl) ?_)
              | refine de0 (eop_store (i := 3) ty26 rfl rfl rfl rfl rfl (Nat.le_of_ble_eq_true rfl) ?_)
              refine dn ?_
              refine blockQ_n ?_
              (first | refine joinG_n (Ghost.fcell (i := 0) (k := 0) (j := 3) rfl rfl rfl) ?_ | refine joinG_n (Ghost.fcell (i := 0) (k := 1) (j := 3) rfl rfl rfl) ?_ | refine joinG_n (Ghost.fcell (i := 0) (k := 2) (j := 3) rfl rfl rfl) ?_ | refine joinG_n (Ghost.fcell (i := 0) (k := 3) (j := 3) rfl rfl rfl) ?_ | refine joinG_n (Ghost.fcell (i := 1) (k := 0) (j := 3) rfl rfl rfl) ?_ | refine joinG_n (Ghost.fcell (i := 1) (k := 1) (j := 3) rfl rfl rfl) ?_ | refine joinG_n (Ghost.fcell (i := 1) (k := 2) (j := 3) rfl rfl rfl) ?_ | refine joinG_n (Ghost.fcell (i := 1) (k := 3) (j := 3) rfl rfl rfl) ?_ | refine joinG_n (Ghost.fcell (i := 2) (k := 0) (j := 3) rfl rfl rfl) ?_ | refine joinG_n (Ghost.fcell (i := 2) (k := 1) (j := 3) rfl rfl rfl) ?_ | refine joinG_n (Ghost.fcell (i := 2) (k := 2) (j := 3) rfl rfl rfl) ?_ | refine joinG_n (Ghost.fcell (i := 2) (k := 3) (j := 3) rfl rfl rfl) ?_ | refine joinG_n (Ghost.fcell (i := 3) (k := 0) (j := 3) rfl rfl rfl) ?_ | refine joinG_n (Ghost.fcell (i := 3) (k := 1) (j := 3) rfl rfl rfl) ?_ | refine joinG_n (Ghost.fcell (i := 3) (k := 2) (j := 3) rfl rfl rfl) ?_ | refine joinG_n (Ghost.fcell (i := 3) (k := 3) (j := 3) rfl rfl rfl) ?_)
              (first | refine joinG_n (Ghost.fcell (i := 0) (k := 0) (j := 0) rfl rfl rfl) ?_ | refine joinG_n (Ghost.fcell (i := 0) (k := 1) (j := 0) rfl rfl rfl) ?_ | refine joinG_n (Ghost.fcell (i := 0) (k := 2) (j := 0) rfl rfl rfl) ?_ | refine joinG_n (Ghost.fcell (i := 0) (k := 3) (j := 0) rfl rfl rfl) ?_ | refine joinG_n (Ghost.fcell (i := 1) (k := 0) (j := 0) rfl rfl rfl) ?_ | refine joinG_n (Ghost.fcell (i := 1) (k := 1) (j := 0) rfl rfl rfl) ?_ | refine joinG_n (Ghost.fcell (i := 1) (k := 2) (j := 0) rfl rfl rfl) ?_ | refine joinG_n (Ghost.fcell (i := 1) (k := 3) (j := 0) rfl rfl rfl) ?_ | refine joinG_n (Ghost.fcell (i := 2) (k := 0) (j := 0) rfl rfl rfl) ?_ | refine joinG_n (Ghost.fcell (i := 2) (k := 1) (j := 0) rfl rfl rfl) ?_ | refine joinG_n (Ghost.fcell (i := 2) (k := 2) (j := 0) rfl rfl rfl) ?_ | refine joinG_n (Ghost.fcell (i := 2) (k := 3) (j := 0) rfl rfl rfl) ?_ | refine joinG_n (Ghost.fcell (i := 3) (k := 0) (j := 0) rfl rfl rfl) ?_ | refine joinG_n (Ghost.fcell (i := 3) (k := 1) (j := 0) rfl rfl rfl) ?_ | refine joinG_n (Ghost.fcell (i := 3) (k := 2) (j := 0) rfl rfl rfl) ?_ | refine joinG_n (Ghost.fcell (i := 3) (k := 3) (j := 0) rfl rfl rfl) ?_)
              refine joinG_z (⟨T ++ [y60], R, Wy, Pl, C, S⟩, a + 9) ⟨?_, by dsimp only; omega⟩ trivial (by repeat (first | exact keeps_refl | refine keeps_upd rfl ?_ | refine keeps_loop rfl rfl ?_)) ?_
              · exact good_roomT hT hPl (by omega) hTs hPs (by simp at hy60; rcases hy60 with rfl | rfl | rfl <;> simp)
              · repeat (first | exact List.Perm.nil | refine permTo 0 rfl ?_ | refine permTo 1 rfl ?_ | refine permTo 2 rfl ?_ | refine permTo 3 rfl ?_ | (refine permToE 0 rfl ?hq ?_; (case hq => simp [setL, hcells]; done)) | (refine permToE 1 rfl ?hq ?_; (case hq => simp [setL, hcells]; done)) | (refine permToE 2 rfl ?hq ?_; (case hq => simp [setL, hcells]; done)) | (refine permToE 3 rfl ?hq ?_; (case hq => simp [setL, hcells]; done)) | fail)
            · try simp at h6
              refine hw_reg ?_
              refine dp rfl (pop_eql rfl rfl) ?_
              refine dp rfl (pop_assign rfl) ?_
              refine dn ?_
              refine hw_cond rfl (fun h7 => ?_) (fun h8 => ?_)
              · try simp at h7
                refine hw_reg1 ?_
                refine dp rfl (pop_move rfl) ?_
                first
                | refine de rfl (eop_callx (i := 0) ca28 rfl (WeakL.refl _) rfl (c_benchmake_Stream_Odd (by first | assumption | omega | (simp; omega) | simp_all) (by first | assumption | omega | (simp; omega) | simp_all) (by first | assumption | omega | (simp; omega) | simp_all) (by first | assumption | omega | (simp; omega) | simp_all)) ?_)
                | refine de rfl (eop_callx (i := 1) ca28 rfl (WeakL.refl _) rfl (c_benchmake_Stream_Odd (by first | assumption | omega | (simp; omega) | simp_all) (by first | assumption | omega | (simp; omega) | simp_all) (by first | assumption | omega | (simp; omega) | simp_all) (by first | assumption | omega | (simp; omega) | simp_all)) ?_)
                | refine de rfl (eop_callx (i := 2) ca28 rfl (WeakL.refl _) rfl (c_benchmake_Stream_Odd (by first | assumption | omega | (simp; omega) | simp_all) (by first | assumption | omega | (simp; omega) | simp_all) (by first | assumption | omega | (simp; omega) | simp_all) (by first | assumption | omega | (simp; omega) | simp_all)) ?_)
                | refine de rfl (eop_callx (i := 3) ca28 rfl (WeakL.refl _) rfl (c_benchmake_Stream_Odd (by first | assumption | omega | (simp; omega) | simp_all) (by first | assumption | omega | (simp; omega) | simp_all) (by first | assumption | omega | (simp; omega) | simp_all) (by first | assumption | omega | (simp; omega) | simp_all)) ?_)
                rintro _ _ ⟨y67, rfl, rfl⟩
                refine dp rfl (pop_move rfl) ?_
                first
                | refine de rfl (eop_callx (i := 0) ca28 rfl (WeakL.refl _) rfl (c_benchmake_Stream_Odd (by first | assumption | omega | (simp; omega) | simp_all) (by first | assumption | omega | (simp; omega) | simp_all) (by first | assumption | omega | (simp; omega) | simp_all) (by first | assumption | omega | (simp; omega) | simp_all)) ?_)
                | refine de rfl (eop_callx (i := 1) ca28 rfl (WeakL.refl _) rfl (c_benchmake_Stream_Odd (by first | assumption | omega | (simp; omega) | simp_all) (by first | assumption | omega | (simp; omega) | simp_all) (by first | assumption | omega | (simp; omega) | simp_all) (by first | assumption | omega | (simp; omega) | simp_all)) ?_)
                | refine de rfl (eop_callx (i := 2) ca28 rfl (WeakL.refl _) rfl (c_benchmake_Stream_Odd (by first | assumption | omega | (simp; omega) | simp_all) (by first | assumption | omega | (simp; omega) | simp_all) (by first | assumption | omega | (simp; omega) | simp_all) (by first | assumption | omega | (simp; omega) | simp_all)) ?_)
                | refine de rfl (eop_callx (i := 3) ca28 rfl (WeakL.refl _) rfl (c_benchmake_Stream_Odd (by first | assumption | omega | (simp; omega) | simp_all) (by first | assumption | omega | (simp; omega) | simp_all) (by first | assumption | omega | (simp; omega) | simp_all) (by first | assumption | omega | (simp; omega) | simp_all)) ?_)
                rintro _ _ ⟨y69, rfl, rfl⟩
                refine dp rfl (pop_fieldAddr_raw ty28 rfl ty3 (by decide) rfl) ?_
                first
                | refine de0 (eop_store (i := 0) ty3 rfl rfl rfl rfl rfl (Nat.le_of_ble_eq_true rfl) ?_)
                | refine de0 (eop_store (i := 1) ty3 rfl rfl rfl rfl rfl (Nat.le_of_ble_eq_true rfl) ?_)
                | refine de0 (eop_store (i := 2) ty3 rfl rfl rfl rfl rfl (Nat.le_of_ble_eq_true rfl) ?_)
                | refine de0 (eop_store (i := 3) ty3 rfl rfl rfl rfl rfl (Nat.le_of_ble_eq_true rfl) ?_)
                refine dp rfl (pop_fieldAddr_raw ty28 rfl ty3 (by decide) rfl) ?_
                first
                | refine de0 (eop_store (i := 0) ty3 rfl rfl rfl rfl rfl (Nat.le_of_ble_eq_true rfl) ?_)
                | refine de0 (eop_store (i := 1) ty3 rfl rfl rfl rfl rfl (Nat.le_of_ble_eq_true rfl) ?_)
                | refine de0 (eop_store (i := 2) ty3 rfl rfl rfl rfl rfl (Nat.le_of_ble_eq_true rfl) ?_)
                | refine de0 (eop_store (i := 3) ty3 rfl rfl rfl rfl rfl (Nat.le_of_ble_eq_true rfl) ?_)
                refine dn ?_
                refine blockQ_n ?_
                (first | refine joinG_n (Ghost.fcell (i := 0) (k := 0) (j := 3) rfl rfl rfl) ?_ | refine joinG_n (Ghost.fcell (i := 0) (k := 1) (j := 3) rfl rfl rfl) ?_ | refine joinG_n (Ghost.fcell (i := 0) (k := 2) (j := 3) rfl rfl rfl) ?_ | refine joinG_n (Ghost.fcell (i := 0) (k := 3) (j := 3) rfl rfl rfl) ?_ | refine joinG_n (Ghost.fcell (i := 1) (k := 0) (j := 3) rfl rfl rfl) ?_ | refine joinG_n (Ghost.fcell (i := 1) (k := 1) (j := 3) rfl rfl rfl) ?_ | refine joinG_n (Ghost.fcell (i := 1) (k := 2) (j := 3) rfl rfl rfl) ?_ | refine joinG_n (Ghost.fcell (i := 1) (k := 3) (j := 3) rfl rfl rfl) ?_ | refine joinG_n (Ghost.fcell (i := 2) (k := 0) (j := 3) rfl rfl rfl) ?_ | refine joinG_n (Ghost.fcell (i := 2) (k := 1) (j := 3) rfl rfl rfl) ?_ | refine joinG_n (Ghost.fcell (i := 2) (k := 2) (j := 3) rfl rfl rfl) ?_ | refine joinG_n (Ghost.fcell (i := 2) (k := 3) (j := 3) rfl rfl rfl) ?_ | refine joinG_n (Ghost.fcell (i := 3) (k := 0) (j := 3) rfl rfl rfl) ?_ | refine joinG_n (Ghost.fcell (i := 3) (k := 1) (j := 3) rfl rfl rfl) ?_ | refine joinG_n (Ghost.fcell (i := 3) (k := 2) (j := 3) rfl rfl rfl) ?_ | refine joinG_n (Ghost.fcell (i := 3) (k := 3) (j := 3) rfl rfl rfl) ?_)
                refine joinG_z (⟨T, y67, y69, Pl, C, S⟩, a + 12) ⟨?_, by dsimp only; omega⟩ trivial (by repeat (first | exact keeps_refl | refine keeps_upd rfl ?_ | refine keeps_loop rfl rfl ?_)) ?_
                · exact good_room hT hPl (by omega) hTs hPs
                · repeat (first | exact List.Perm.nil | refine permTo 0 rfl ?_ | refine permTo 1 rfl ?_ | refine permTo 2 rfl ?_ | refine permTo 3 rfl ?_ | (refine permToE 0 rfl ?hq ?_; (case hq => simp [setL, hcells]; done)) | (refine permToE 1 rfl ?hq ?_; (case hq => simp [setL, hcells]; done)) | (refine permToE 2 rfl ?hq ?_; (case hq => simp [setL, hcells]; done)) | (refine permToE 3 rfl ?hq ?_; (case hq => simp [setL, hcells]; done)) | fail)
              · try simp at h8
                refine hw_reg ?_
                refine dp rfl (pop_eql rfl rfl) ?_
                refine dp rfl (pop_assign rfl) ?_
                refine dn ?_
                refine hw_cond rfl (fun h9 => ?_) (fun h10 => ?_)
                · try simp at h9
                  obtain ⟨Px, Pt, rfl⟩ : ∃ x t, Pl = x :: t := by
                    cases Pl with
                    | nil => simp at hPl; omega
                    | cons x t => exact ⟨x, t, rfl⟩
                  have hPt : Pt.length = k - 1 := by simp at hPl; omega
                  have hPts : ∀ s ∈ Pt, s.length ≤ 100 := fun s hs => hPs s (List.mem_cons_of_mem _ hs)
                  refine hw_arrc (i := 1) rfl (fun h0 he => ?_) (fun bb off cap hv hcap => ?_)
                  · exfalso; simp at he
                  subst hv
                  refine hw_ghost (Ghost.perm (List.Perm.swap _ _ _)) ?_
                  refine hw_ghost (Ghost.tail (x := .str Px) (es := Pt.map .str)) ?_
                  simp only [List.map_cons, List.length_cons] at hcap
                  refine hw_draw1 (fun M => ∃ i : Nat, M[i]? = some (RoomC b3 (eSs (T)) R Wy (.raw (.slice (some ⟨bb, off, none⟩) ((Px :: Pt).map HVal.str).length cap)) C S)) [1] mixed ?_
                  refine ahp 0 rfl rfl (by kernel_rfl) (by kernel_rfl) (pop_fieldAddr_raw ty28 rfl ty26 (by decide) rfl) ?_
                  refine ahl 1 rfl rfl (by kernel_rfl) (by kernel_rfl) (by simp) (by first | exact ⟨0, rfl⟩ | exact ⟨1, rfl⟩ | exact ⟨2, rfl⟩) (fun M hM => by obtain ⟨i, hi⟩ := hM; exact eop_load (i := i) ty26 rfl hi (.inl ⟨rfl, rfl⟩) ⟨rfl, rfl⟩) ?_
                  refine ahp 2 rfl rfl (by kernel_rfl) (by kernel_rfl) (pop_tail (n := (Pt.map HVal.str).length) ty26 ty9 rfl hcap) ?_
                  refine ahp 3 rfl rfl (by kernel_rfl) (by kernel_rfl) (pop_move rfl) ?_
                  refine ahp 4 rfl rfl (by kernel_rfl) (by kernel_rfl) (pop_buildSlice (hs := [_, _, _]) ty26 ty9 rfl rfl (by decide) (by decide) rfl) ?_
                  refine ahe 5 rfl (by kernel_rfl) ?_
                  first
                  | refine hop_e rfl (eop_callx (i := 0) ca27 rfl (WeakL.refl _) rfl (c_benchmake_Stream_Some (L := [_, _, _]) (by first | assumption | omega | (simp; omega) | simp_all) (by first | assumption | omega | (simp; omega) | simp_all) (by first | assumption | omega | (simp; omega) | simp_all)) ?_)
                  | refine hop_e rfl (eop_callx (i := 1) ca27 rfl (WeakL.refl _) rfl (c_benchmake_Stream_Some (L := [_, _, _]) (by first | assumption | omega | (simp; omega) | simp_all) (by first | assumption | omega | (simp; omega) | simp_all) (by first | assumption | omega | (simp; omega) | simp_all)) ?_)
                  | refine hop_e rfl (eop_callx (i := 2) ca27 rfl (WeakL.refl _) rfl (c_benchmake_Stream_Some (L := [_, _, _]) (by first | assumption | omega | (simp; omega) | simp_all) (by first | assumption | omega | (simp; omega) | simp_all) (by first | assumption | omega | (simp; omega) | simp_all)) ?_)
                  | refine hop_e rfl (eop_callx (i := 3) ca27 rfl (WeakL.refl _) rfl (c_benchmake_Stream_Some (L := [_, _, _]) (by first | assumption | omega | (simp; omega) | simp_all) (by first | assumption | omega | (simp; omega) | simp_all) (by first | assumption | omega | (simp; omega) | simp_all)) ?_)
                  rintro _ _ ⟨y79, rfl, hy79, rfl⟩
                  refine ⟨fun _ => by first | exact .inl ⟨0, rfl⟩ | exact .inl ⟨1, rfl⟩ | exact .inl ⟨2, rfl⟩ | exact .inr (by simp [Before, Region.binds]), ?_⟩
                  refine ahp 6 rfl rfl (by kernel_rfl) (by kernel_rfl) (pop_buildSlice (hs := [_]) ty26 ty9 rfl rfl (by decide) (by decide) rfl) ?_
                  refine ahe 7 rfl (by kernel_rfl) ?_
                  first
                  | refine hop_e rfl (eop_append (i := 0) ty26 ty9 rfl rfl rfl rfl rfl (by simp [flat, hcells]) (by first | omega | (simp; omega)) fun v81 => ?_)
                  | refine hop_e rfl (eop_append (i := 1) ty26 ty9 rfl rfl rfl rfl rfl (by simp [flat, hcells]) (by first | omega | (simp; omega)) fun v81 => ?_)
                  | refine hop_e rfl (eop_append (i := 2) ty26 ty9 rfl rfl rfl rfl rfl (by simp [flat, hcells]) (by first | omega | (simp; omega)) fun v81 => ?_)
                  | refine hop_e rfl (eop_append (i := 3) ty26 ty9 rfl rfl rfl rfl rfl (by simp [flat, hcells]) (by first | omega | (simp; omega)) fun v81 => ?_)
                  refine ⟨fun _ => by first | exact .inl ⟨0, rfl⟩ | exact .inl ⟨1, rfl⟩ | exact .inl ⟨2, rfl⟩ | exact .inr (by simp [Before, Region.binds]), ?_⟩
                  refine ahp 8 rfl rfl (by kernel_rfl) (by kernel_rfl) (pop_fieldAddr_raw ty28 rfl ty26 (by decide) rfl) ?_
                  refine ahe 9 rfl (by kernel_rfl) ?_
                  first
                  | refine hop_e0 (eop_store (i := 0) ty26 rfl rfl rfl rfl rfl (Nat.le_of_ble_eq_true rfl) ?_)
                  | refine hop_e0 (eop_store (i := 1) ty26 rfl rfl rfl rfl rfl (Nat.le_of_ble_eq_true rfl) ?_)
                  | refine hop_e0 (eop_store (i := 2) ty26 rfl rfl rfl rfl rfl (Nat.le_of_ble_eq_true rfl) ?_)
                  | refine hop_e0 (eop_store (i := 3) ty26 rfl rfl rfl rfl rfl (Nat.le_of_ble_eq_true rfl) ?_)
                  refine ⟨fun _ => by first | exact .inl ⟨0, rfl⟩ | exact .inl ⟨1, rfl⟩ | exact .inl ⟨2, rfl⟩ | exact .inr (by simp [Before, Region.binds]), ?_⟩
                  refine ahz (by kernel_rfl) ?_
                  refine blockQ_n ?_
                  (first | refine joinG_n (Ghost.fcell (i := 0) (k := 0) (j := 3) rfl rfl rfl) ?_ | refine joinG_n (Ghost.fcell (i := 0) (k := 1) (j := 3) rfl rfl rfl) ?_ | refine joinG_n (Ghost.fcell (i := 0) (k := 2) (j := 3) rfl rfl rfl) ?_ | refine joinG_n (Ghost.fcell (i := 0) (k := 3) (j := 3) rfl rfl rfl) ?_ | refine joinG_n (Ghost.fcell (i := 1) (k := 0) (j := 3) rfl rfl rfl) ?_ | refine joinG_n (Ghost.fcell (i := 1) (k := 1) (j := 3) rfl rfl rfl) ?_ | refine joinG_n (Ghost.fcell (i := 1) (k := 2) (j := 3) rfl rfl rfl) ?_ | refine joinG_n (Ghost.fcell (i := 1) (k := 3) (j := 3) rfl rfl rfl) ?_ | refine joinG_n (Ghost.fcell (i := 2) (k := 0) (j := 3) rfl rfl rfl) ?_ | refine joinG_n (Ghost.fcell (i := 2) (k := 1) (j := 3) rfl rfl rfl) ?_ | refine joinG_n (Ghost.fcell (i := 2) (k := 2) (j := 3) rfl rfl rfl) ?_ | refine joinG_n (Ghost.fcell (i := 2) (k := 3) (j := 3) rfl rfl rfl) ?_ | refine joinG_n (Ghost.fcell (i := 3) (k := 0) (j := 3) rfl rfl rfl) ?_ | refine joinG_n (Ghost.fcell (i := 3) (k := 1) (j := 3) rfl rfl rfl) ?_ | refine joinG_n (Ghost.fcell (i := 3) (k := 2) (j := 3) rfl rfl rfl) ?_ | refine joinG_n (Ghost.fcell (i := 3) (k := 3) (j := 3) rfl rfl rfl) ?_)
                  refine joinG_z (⟨T, R, Wy, Pt ++ [y79], C, S⟩, a + 9) ⟨?_, by dsimp only; omega⟩ trivial (by repeat (first | exact keeps_refl | refine keeps_upd rfl ?_ | refine keeps_loop rfl rfl ?_)) ?_
                  · exact good_roomP hT hPt (by omega) hTs hPts (by simp at hy79; rcases hy79 with rfl | rfl | rfl <;> simp)
                  · repeat (first | exact List.Perm.nil | refine permTo 0 rfl ?_ | refine permTo 1 rfl ?_ | refine permTo 2 rfl ?_ | refine permTo 3 rfl ?_ | (refine permToE 0 rfl ?hq ?_; (case hq => simp [setL, hcells]; done)) | (refine permToE 1 rfl ?hq ?_; (case hq => simp [setL, hcells]; done)) | (refine permToE 2 rfl ?hq ?_; (case hq => simp [setL, hcells]; done)) | (refine permToE 3 rfl ?hq ?_; (case hq => simp [setL, hcells]; done)) | fail)
                · try simp at h10
                  refine hw_reg1 ?_
                  refine dp rfl (pop_move rfl) ?_
                  first
                  | refine de rfl (eop_callx (i := 0) ca28 rfl (WeakL.refl _) rfl (c_benchmake_Stream_Odd (by first | assumption | omega | (simp; omega) | simp_all) (by first | assumption | omega | (simp; omega) | simp_all) (by first | assumption | omega | (simp; omega) | simp_all) (by first | assumption | omega | (simp; omega) | simp_all)) ?_)
                  | refine de rfl (eop_callx (i := 1) ca28 rfl (WeakL.refl _) rfl (c_benchmake_Stream_Odd (by first | assumption | omega | (simp; omega) | simp_all) (by first | assumption | omega | (simp; omega) | simp_all) (by first | assumption | omega | (simp; omega) | simp_all) (by first | assumption | omega | (simp; omega) | simp_all)) ?_)
                  | refine de rfl (eop_callx (i := 2) ca28 rfl (WeakL.refl _) rfl (c_benchmake_Stream_Odd (by first | assumption | omega | (simp; omega) | simp_all) (by first | assumption | omega | (simp; omega) | simp_all) (by first | assumption | omega | (simp; omega) | simp_all) (by first | assumption | omega | (simp; omega) | simp_all)) ?_)
                  | refine de rfl (eop_callx (i := 3) ca28 rfl (WeakL.refl _) rfl (c_benchmake_Stream_Odd (by first | assumption | omega | (simp; omega) | simp_all) (by first | assumption | omega | (simp; omega) | simp_all) (by first | assumption | omega | (simp; omega) | simp_all) (by first | assumption | omega | (simp; omega) | simp_all)) ?_)
                  rintro _ _ ⟨y48, rfl, rfl⟩
                  refine dp rfl (pop_move rfl) ?_
                  first
                  | refine de rfl (eop_callx (i := 0) ca28 rfl (WeakL.refl _) rfl (c_benchmake_Stream_Odd (by first | assumption | omega | (simp; omega) | simp_all) (by first | assumption | omega | (simp; omega) | simp_all) (by first | assumption | omega | (simp; omega) | simp_all) (by first | assumption | omega | (simp; omega) | simp_all)) ?_)
                  | refine de rfl (eop_callx (i := 1) ca28 rfl (WeakL.refl _) rfl (c_benchmake_Stream_Odd (by first | assumption | omega | (simp; omega) | simp_all) (by first | assumption | omega | (simp; omega) | simp_all) (by first | assumption | omega | (simp; omega) | simp_all) (by first | assumption | omega | (simp; omega) | simp_all)) ?_)
                  | refine de rfl (eop_callx (i := 2) ca28 rfl (WeakL.refl _) rfl (c_benchmake_Stream_Odd (by first | assumption | omega | (simp; omega) | simp_all) (by first | assumption | omega | (simp; omega) | simp_all) (by first | assumption | omega | (simp; omega) | simp_all) (by first | assumption | omega | (simp; omega) | simp_all)) ?_)
                  | refine de rfl (eop_callx (i := 3) ca28 rfl (WeakL.refl _) rfl (c_benchmake_Stream_Odd (by first | assumption | omega | (simp; omega) | simp_all) (by first | assumption | omega | (simp; omega) | simp_all) (by first | assumption | omega | (simp; omega) | simp_all) (by first | assumption | omega | (simp; omega) | simp_all)) ?_)
                  rintro _ _ ⟨y50, rfl, rfl⟩
                  refine dp rfl (pop_fieldAddr_raw ty28 rfl ty3 (by decide) rfl) ?_
                  first
                  | refine de0 (eop_store (i := 0) ty3 rfl rfl rfl rfl rfl (Nat.le_of_ble_eq_true rfl) ?_)
                  | refine de0 (eop_store (i := 1) ty3 rfl rfl rfl rfl rfl (Nat.le_of_ble_eq_true rfl) ?_)
                  | refine de0 (eop_store (i := 2) ty3 rfl rfl rfl rfl rfl (Nat.le_of_ble_eq_true rfl) ?_)
                  | refine de0 (eop_store (i := 3) ty3 rfl rfl rfl rfl rfl (Nat.le_of_ble_eq_true rfl) ?_)
                  refine dp rfl (pop_fieldAddr_raw ty28 rfl ty3 (by decide) rfl) ?_
                  first
                  | refine de0 (eop_store (i := 0) ty3 rfl rfl rfl rfl rfl (Nat.le_of_ble_eq_true rfl) ?_)
                  | refine de0 (eop_store (i := 1) ty3 rfl rfl rfl rfl rfl (Nat.le_of_ble_eq_true rfl) ?_)
                  | refine de0 (eop_store (i := 2) ty3 rfl rfl rfl rfl rfl (Nat.le_of_ble_eq_true rfl) ?_)
                  | refine de0 (eop_store (i := 3) ty3 rfl rfl rfl rfl rfl (Nat.le_of_ble_eq_true rfl) ?_)
                  refine dn ?_
                  refine blockQ_n ?_
                  (first | refine joinG_n (Ghost.fcell (i := 0) (k := 0) (j := 3) rfl rfl rfl) ?_ | refine joinG_n (Ghost.fcell (i := 0) (k := 1) (j := 3) rfl rfl rfl) ?_ | refine joinG_n (Ghost.fcell (i := 0) (k := 2) (j := 3) rfl rfl rfl) ?_ | refine joinG_n (Ghost.fcell (i := 0) (k := 3) (j := 3) rfl rfl rfl) ?_ | refine joinG_n (Ghost.fcell (i := 1) (k := 0) (j := 3) rfl rfl rfl) ?_ | refine joinG_n (Ghost.fcell (i := 1) (k := 1) (j := 3) rfl rfl rfl) ?_ | refine joinG_n (Ghost.fcell (i := 1) (k := 2) (j := 3) rfl rfl rfl) ?_ | refine joinG_n (Ghost.fcell (i := 1) (k := 3) (j := 3) rfl rfl rfl) ?_ | refine joinG_n (Ghost.fcell (i := 2) (k := 0) (j := 3) rfl rfl rfl) ?_ | refine joinG_n (Ghost.fcell (i := 2) (k := 1) (j := 3) rfl rfl rfl) ?_ | refine joinG_n (Ghost.fcell (i := 2) (k := 2) (j := 3) rfl rfl rfl) ?_ | refine joinG_n (Ghost.fcell (i := 2) (k := 3) (j := 3) rfl rfl rfl) ?_ | refine joinG_n (Ghost.fcell (i := 3) (k := 0) (j := 3) rfl rfl rfl) ?_ | refine joinG_n (Ghost.fcell (i := 3) (k := 1) (j := 3) rfl rfl rfl) ?_ | refine joinG_n (Ghost.fcell (i := 3) (k := 2) (j := 3) rfl rfl rfl) ?_ | refine joinG_n (Ghost.fcell (i := 3) (k := 3) (j := 3) rfl rfl rfl) ?_)
                  refine joinG_z (⟨T, R, Wy, Pl, y48, y50⟩, a + 12) ⟨?_, by dsimp only; omega⟩ trivial (by repeat (first | exact keeps_refl | refine keeps_upd rfl ?_ | refine keeps_loop rfl rfl ?_)) ?_
                  · exact good_room hT hPl (by omega) hTs hPs
                  · repeat (first | exact List.Perm.nil | refine permTo 0 rfl ?_ | refine permTo 1 rfl ?_ | refine permTo 2 rfl ?_ | refine permTo 3 rfl ?_ | (refine permToE 0 rfl ?hq ?_; (case hq => simp [setL, hcells]; done)) | (refine permToE 1 rfl ?hq ?_; (case hq => simp [setL, hcells]; done)) | (refine permToE 2 rfl ?hq ?_; (case hq => simp [setL, hcells]; done)) | (refine permToE 3 rfl ?hq ?_; (case hq => simp [setL, hcells]; done)) | fail)
          · try simp at h4
            refine hw_skip ?_
            (first | refine joinG_n (Ghost.fcell (i := 0) (k := 0) (j := 3) rfl rfl rfl) ?_ | refine joinG_n (Ghost.fcell (i := 0) (k := 1) (j := 3) rfl rfl rfl) ?_ | refine joinG_n (Ghost.fcell (i := 0) (k := 2) (j := 3) rfl rfl rfl) ?_ | refine joinG_n (Ghost.fcell (i := 0) (k := 3) (j := 3) rfl rfl rfl) ?_ | refine joinG_n (Ghost.fcell (i := 1) (k := 0) (j := 3) rfl rfl rfl) ?_ | refine joinG_n (Ghost.fcell (i := 1) (k := 1) (j := 3) rfl rfl rfl) ?_ | refine joinG_n (Ghost.fcell (i := 1) (k := 2) (j := 3) rfl rfl rfl) ?_ | refine joinG_n (Ghost.fcell (i := 1) (k := 3) (j := 3) rfl rfl rfl) ?_ | refine joinG_n (Ghost.fcell (i := 2) (k := 0) (j := 3) rfl rfl rfl) ?_ | refine joinG_n (Ghost.fcell (i := 2) (k := 1) (j := 3) rfl rfl rfl) ?_ | refine joinG_n (Ghost.fcell (i := 2) (k := 2) (j := 3) rfl rfl rfl) ?_ | refine joinG_n (Ghost.fcell (i := 2) (k := 3) (j := 3) rfl rfl rfl) ?_ | refine joinG_n (Ghost.fcell (i := 3) (k := 0) (j := 3) rfl rfl rfl) ?_ | refine joinG_n (Ghost.fcell (i := 3) (k := 1) (j := 3) rfl rfl rfl) ?_ | refine joinG_n (Ghost.fcell (i := 3) (k := 2) (j := 3) rfl rfl rfl) ?_ | refine joinG_n (Ghost.fcell (i := 3) (k := 3) (j := 3) rfl rfl rfl) ?_)
            refine joinG_z (⟨T, R, Wy, Pl, C, S⟩, a + 7) ⟨?_, by dsimp only; omega⟩ trivial (by repeat (first | exact keeps_refl | refine keeps_upd rfl ?_ | refine keeps_loop rfl rfl ?_)) ?_
            · exact good_room hT hPl (by omega) hTs hPs
            · repeat (first | exact List.Perm.nil | refine permTo 0 rfl ?_ | refine permTo 1 rfl ?_ | refine permTo 2 rfl ?_ | refine permTo 3 rfl ?_ | (refine permToE 0 rfl ?hq ?_; (case hq => simp [setL, hcells]; done)) | (refine permToE 1 rfl ?hq ?_; (case hq => simp [setL, hcells]; done)) | (refine permToE 2 rfl ?hq ?_; (case hq => simp [setL, hcells]; done)) | (refine permToE 3 rfl ?hq ?_; (case hq => simp [setL, hcells]; done)) | fail)
        · intro q hq2
          obtain ⟨r, a2⟩ := q
          dsimp only at hq2
          refine hw_reg ?_
          first
          | refine de rfl (eop_loadw (i := 0) ty28 rfl rfl rfl rfl rfl ?_)
          | refine de rfl (eop_loadw (i := 1) ty28 rfl rfl rfl rfl rfl ?_)
          | refine de rfl (eop_loadw (i := 2) ty28 rfl rfl rfl rfl rfl ?_)
          | refine de rfl (eop_loadw (i := 3) ty28 rfl rfl rfl rfl rfl ?_)
          first
          | refine de0 (eop_store (i := 0) ty28 rfl rfl rfl rfl rfl (Nat.le_of_ble_eq_true rfl) ?_)
          | refine de0 (eop_store (i := 1) ty28 rfl rfl rfl rfl rfl (Nat.le_of_ble_eq_true rfl) ?_)
          | refine de0 (eop_store (i := 2) ty28 rfl rfl rfl rfl rfl (Nat.le_of_ble_eq_true rfl) ?_)
          | refine de0 (eop_store (i := 3) ty28 rfl rfl rfl rfl rfl (Nat.le_of_ble_eq_true rfl) ?_)
          refine dn ?_
          refine hw_ret ?_
          exact ⟨_, _, (Ghost.drop).trans (Ghost.fc0 2 rfl), [_], _, ⟨⟨_, _, _, _, _, rfl, ty28, .inr ⟨rfl, rfl, rfl⟩⟩, trivial⟩, Weak.refl _, r, a2, rfl, hq2.1, hq2.2, rfl⟩
end Go.Proofs.YthkidikfikijhaaGreatDoor
