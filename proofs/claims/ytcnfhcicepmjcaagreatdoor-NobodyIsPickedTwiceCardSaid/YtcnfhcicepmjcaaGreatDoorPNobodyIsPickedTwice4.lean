/- Part 4 of the proof: a program logic, contracts of functions and plain facts; no conditions. -/
import Derived.Test.YtcnfhcicepmjcaaGreatDoorPNobodyIsPickedTwice3
set_option linter.unusedVariables false
set_option linter.unusedSimpArgs false
section
namespace Go.Proofs.YtcnfhcicepmjcaaGreatDoor
open Go.HL
set_option maxRecDepth 100000
set_option linter.unusedVariables false
set_option linter.unusedSimpArgs false
/-- strconv.Itoa of a small number -/
theorem c_strconv_Itoa [Tracks] {i : Nat} (hi : i < 100) : ConP Tryz.prog 116 [.int .i64 (i : Int)] (.str (Lib.decDigits i)) :=
 conp_of_calls fun I w args ha => by
  obtain ⟨u, rfl, hu⟩ := ha.one
  obtain rfl := hu.int_inv
  exact ⟨_, .str _, Any.strconv_Itoa_small Tryz.lays171 i hi w⟩

set_option maxHeartbeats 2000000 in
/-- (*benchwarmer/benchmake.Stream).RoomOf -/
theorem c_benchmake_Stream_RoomOf [Tracks] {b : Nat} {l : List Int} {a : Nat}  (ha : a ≤ 800000) : Con Tryz.prog 32 [pAt b] [St b l a] (fun x M' => ∃ r a', x = eRoom r ∧ GoodRoom r ∧ a' ≤ a + 20 ∧ M' = [St b l a']) := by
 refine Con.of_bodyc Tryz.func32 rfl Tryz.ntmps32 rfl rfl ?_
 refine hw_reg ?_
 refine de rfl (eop_alloc ty64 rfl fun b2 => ?_)
 refine dn ?_
 refine hw_join [3, 5, 6, 7, 8, 9, 10, 11, 12, 13, 14, 15, 16, 17, 18, 19] (fun (q : Nat × List Str × Int × Int × Int × Int) => [(3, pAt q.1)]) (fun (q : Nat × List Str × Int × Int × Int × Int) => [RoomC q.1 (eSs q.2.1) q.2.2.1 q.2.2.2.1 nilS q.2.2.2.2.1 q.2.2.2.2.2, RoomC b2 nilS 0 0 nilS 0 0, St b l (a + 5)]) (fun (q : Nat × List Str × Int × Int × Int × Int) => (1 ≤ q.2.1.length ∧ q.2.1.length ≤ 3) ∧ (1 ≤ q.2.2.1 ∧ q.2.2.1 ≤ 4) ∧ ∀ s ∈ q.2.1, s.length ≤ 100) ?_ ?_
 ·skip
  refine hw_draw1 (fun _ => True) [] mixed ?_
  refine ahp 0 rfl rfl (by kernel_rfl) (by kernel_rfl) (pop_buildSlice (hs := [_, _, _]) ty28 ty9 rfl rfl (by decide) (by decide) rfl) ?_
  refine ahp 1 rfl rfl (by kernel_rfl) (by kernel_rfl) (pop_move rfl) ?_
  refine ahp 4 rfl rfl (by kernel_rfl) (by kernel_rfl) (pop_move rfl) ?_
  refine ahp 6 rfl rfl (by kernel_rfl) (by kernel_rfl) (pop_move rfl) ?_
  refine ahp 8 rfl rfl (by kernel_rfl) (by kernel_rfl) (pop_move rfl) ?_
  refine ahp 9 rfl rfl (by kernel_rfl) (by kernel_rfl) (pop_buildSlice (hs := [_, _]) ty22 ty3 rfl rfl (by decide) (by decide) rfl) ?_
  refine ahp 11 rfl rfl (by kernel_rfl) (by kernel_rfl) (pop_move rfl) ?_
  refine ahp 12 rfl rfl (by kernel_rfl) (by kernel_rfl) (pop_buildSlice (hs := [_, _, _]) ty22 ty3 rfl rfl (by decide) (by decide) rfl) ?_
  refine ahe2 2 15 rfl rfl (by kernel_rfl) ?_ ?_
  ·skip
   refine hop_e rfl (eop_callx (i := 1) ca49 rfl (WeakL.refl _) rfl (c_benchmake_Stream_Range (by omega) (by omega) (by omega) (by omega)) ?_)
   rintro _ _ ⟨y7, rfl, hy7, rfl⟩
   refine ⟨fun _ => .inl trivial, ?_⟩
   refine ahp 3 rfl rfl (by kernel_rfl) (by kernel_rfl) (pop_slicem (es := team3) (f := HVal.str) (h := y7.toNat) ty28 ty9 rfl rfl ⟨_, _, rfl, by omega⟩ (by omega) (by simp [team3]; omega)) ?_
   refine ahe2 5 15 rfl rfl (by kernel_rfl) ?_ ?_
   ·skip
    refine hop_e rfl (eop_callx (i := 0) ca49 rfl (WeakL.refl _) rfl (c_benchmake_Stream_Range (by omega) (by omega) (by omega) (by omega)) ?_)
    rintro _ _ ⟨y10, rfl, hy10, rfl⟩
    refine ⟨fun _ => .inl trivial, ?_⟩
    refine ahe2 7 15 rfl rfl (by kernel_rfl) ?_ ?_
    ·skip
     refine hop_e rfl (eop_callx (i := 0) ca49 rfl (WeakL.refl _) rfl (c_benchmake_Stream_Range (by omega) (by omega) (by omega) (by omega)) ?_)
     rintro _ _ ⟨y12, rfl, hy12, rfl⟩
     refine ⟨fun _ => .inl trivial, ?_⟩
     refine ahe2 10 15 rfl rfl (by kernel_rfl) ?_ ?_
     ·skip
      refine hop_e rfl (eop_callx (i := 0) ca11 rfl (WeakL.refl _) rfl (c_benchmake_Stream_Pick (L := [_, _]) (by omega) (by simp_all) (by simp_all)) ?_)
      rintro _ _ ⟨y15, rfl, hy15, rfl⟩
      refine ⟨fun _ => .inl trivial, ?_⟩
      refine ahe2 13 15 rfl rfl (by kernel_rfl) ?_ ?_
      ·skip
       refine hop_e rfl (eop_callx (i := 0) ca11 rfl (WeakL.refl _) rfl (c_benchmake_Stream_Pick (L := [_, _, _]) (by omega) (by simp_all) (by simp_all)) ?_)
       rintro _ _ ⟨y18, rfl, hy18, rfl⟩
       refine ⟨fun _ => .inl trivial, ?_⟩
       refine ahp 14 rfl rfl (by kernel_rfl) (by kernel_rfl) (pop_build (cs := [_, _, _, _, _, _]) ty64 pl64 rfl) ?_
       refine ahe 15 rfl (by kernel_rfl) ?_
       refine hop_e rfl (eop_alloc ty64 rfl fun b3 => ?_)
       refine ⟨fun _ => .inl trivial, ?_⟩
       refine ahe 16 rfl (by kernel_rfl) ?_
       refine hop_e0 (eop_store (i := 0) ty64 rfl rfl rfl rfl rfl (Nat.le_of_ble_eq_true rfl) ?_)
       refine ⟨fun _ => .inl trivial, ?_⟩
       refine ahz (by kernel_rfl) ?_
       refine ⟨(b3, (team3.take y7.toNat).drop 0, y10, y12, y15, y18), ?_, ⟨rfl, trivial⟩, (by repeat (first | exact keeps_refl | refine keeps_upd rfl ?_ | refine keeps_loop rfl rfl ?_)), ?_⟩
       ·refine ⟨by simp [team3]; omega, by dsimp only; omega, fun s hs => ?_⟩
        exact team3_len s (List.mem_of_mem_take hs)
       ·repeat (first | exact List.Perm.nil | refine permTo 0 rfl ?_ | refine permTo 1 rfl ?_ | refine permTo 2 rfl ?_ | refine permTo 3 rfl ?_ | (refine permToE 0 rfl ?hq ?_; (case hq => simp [setL, hcells]; done)) | (refine permToE 1 rfl ?hq ?_; (case hq => simp [setL, hcells]; done)) | (refine permToE 2 rfl ?hq ?_; (case hq => simp [setL, hcells]; done)) | (refine permToE 3 rfl ?hq ?_; (case hq => simp [setL, hcells]; done)) | fail)
      ·skip
       refine hop_e rfl (eop_alloc ty64 rfl fun b3 => ?_)
       refine ⟨fun _ => .inl trivial, ?_⟩
       refine ahe 13 rfl (by kernel_rfl) ?_
       refine hop_e rfl (eop_callx (i := 1) ca11 rfl (WeakL.refl _) rfl (c_benchmake_Stream_Pick (L := [_, _, _]) (by omega) (by simp_all) (by simp_all)) ?_)
       rintro _ _ ⟨y18, rfl, hy18, rfl⟩
       refine ⟨fun _ => .inl trivial, ?_⟩
       refine ahp 14 rfl rfl (by kernel_rfl) (by kernel_rfl) (pop_build (cs := [_, _, _, _, _, _]) ty64 pl64 rfl) ?_
       refine ahe 16 rfl (by kernel_rfl) ?_
       refine hop_e0 (eop_store (i := 1) ty64 rfl rfl rfl rfl rfl (Nat.le_of_ble_eq_true rfl) ?_)
       refine ⟨fun _ => .inl trivial, ?_⟩
       refine ahz (by kernel_rfl) ?_
       refine ⟨(b3, (team3.take y7.toNat).drop 0, y10, y12, y15, y18), ?_, ⟨rfl, trivial⟩, (by repeat (first | exact keeps_refl | refine keeps_upd rfl ?_ | refine keeps_loop rfl rfl ?_)), ?_⟩
       ·refine ⟨by simp [team3]; omega, by dsimp only; omega, fun s hs => ?_⟩
        exact team3_len s (List.mem_of_mem_take hs)
       ·repeat (first | exact List.Perm.nil | refine permTo 0 rfl ?_ | refine permTo 1 rfl ?_ | refine permTo 2 rfl ?_ | refine permTo 3 rfl ?_ | (refine permToE 0 rfl ?hq ?_; (case hq => simp [setL, hcells]; done)) | (refine permToE 1 rfl ?hq ?_; (case hq => simp [setL, hcells]; done)) | (refine permToE 2 rfl ?hq ?_; (case hq => simp [setL, hcells]; done)) | (refine permToE 3 rfl ?hq ?_; (case hq => simp [setL, hcells]; done)) | fail)
     ·skip
      refine hop_e rfl (eop_alloc ty64 rfl fun b3 => ?_)
      refine ⟨fun _ => .inl trivial, ?_⟩
      refine ahe 10 rfl (by kernel_rfl) ?_
      refine hop_e rfl (eop_callx (i := 1) ca11 rfl (WeakL.refl _) rfl (c_benchmake_Stream_Pick (L := [_, _]) (by omega) (by simp_all) (by simp_all)) ?_)
      rintro _ _ ⟨y15, rfl, hy15, rfl⟩
      refine ⟨fun _ => .inl trivial, ?_⟩
      refine ahe 13 rfl (by kernel_rfl) ?_
      refine hop_e rfl (eop_callx (i := 0) ca11 rfl (WeakL.refl _) rfl (c_benchmake_Stream_Pick (L := [_, _, _]) (by omega) (by simp_all) (by simp_all)) ?_)
      rintro _ _ ⟨y18, rfl, hy18, rfl⟩
      refine ⟨fun _ => .inl trivial, ?_⟩
      refine ahp 14 rfl rfl (by kernel_rfl) (by kernel_rfl) (pop_build (cs := [_, _, _, _, _, _]) ty64 pl64 rfl) ?_
      refine ahe 16 rfl (by kernel_rfl) ?_
      refine hop_e0 (eop_store (i := 1) ty64 rfl rfl rfl rfl rfl (Nat.le_of_ble_eq_true rfl) ?_)
      refine ⟨fun _ => .inl trivial, ?_⟩
      refine ahz (by kernel_rfl) ?_
      refine ⟨(b3, (team3.take y7.toNat).drop 0, y10, y12, y15, y18), ?_, ⟨rfl, trivial⟩, (by repeat (first | exact keeps_refl | refine keeps_upd rfl ?_ | refine keeps_loop rfl rfl ?_)), ?_⟩
      ·refine ⟨by simp [team3]; omega, by dsimp only; omega, fun s hs => ?_⟩
       exact team3_len s (List.mem_of_mem_take hs)
      ·repeat (first | exact List.Perm.nil | refine permTo 0 rfl ?_ | refine permTo 1 rfl ?_ | refine permTo 2 rfl ?_ | refine permTo 3 rfl ?_ | (refine permToE 0 rfl ?hq ?_; (case hq => simp [setL, hcells]; done)) | (refine permToE 1 rfl ?hq ?_; (case hq => simp [setL, hcells]; done)) | (refine permToE 2 rfl ?hq ?_; (case hq => simp [setL, hcells]; done)) | (refine permToE 3 rfl ?hq ?_; (case hq => simp [setL, hcells]; done)) | fail)
    ·skip
     refine hop_e rfl (eop_alloc ty64 rfl fun b3 => ?_)
     refine ⟨fun _ => .inl trivial, ?_⟩
     refine ahe 7 rfl (by kernel_rfl) ?_
     refine hop_e rfl (eop_callx (i := 1) ca49 rfl (WeakL.refl _) rfl (c_benchmake_Stream_Range (by omega) (by omega) (by omega) (by omega)) ?_)
     rintro _ _ ⟨y12, rfl, hy12, rfl⟩
     refine ⟨fun _ => .inl trivial, ?_⟩
     refine ahe 10 rfl (by kernel_rfl) ?_
     refine hop_e rfl (eop_callx (i := 0) ca11 rfl (WeakL.refl _) rfl (c_benchmake_Stream_Pick (L := [_, _]) (by omega) (by simp_all) (by simp_all)) ?_)
     rintro _ _ ⟨y15, rfl, hy15, rfl⟩
     refine ⟨fun _ => .inl trivial, ?_⟩
     refine ahe 13 rfl (by kernel_rfl) ?_
     refine hop_e rfl (eop_callx (i := 0) ca11 rfl (WeakL.refl _) rfl (c_benchmake_Stream_Pick (L := [_, _, _]) (by omega) (by simp_all) (by simp_all)) ?_)
     rintro _ _ ⟨y18, rfl, hy18, rfl⟩
     refine ⟨fun _ => .inl trivial, ?_⟩
     refine ahp 14 rfl rfl (by kernel_rfl) (by kernel_rfl) (pop_build (cs := [_, _, _, _, _, _]) ty64 pl64 rfl) ?_
     refine ahe 16 rfl (by kernel_rfl) ?_
     refine hop_e0 (eop_store (i := 1) ty64 rfl rfl rfl rfl rfl (Nat.le_of_ble_eq_true rfl) ?_)
     refine ⟨fun _ => .inl trivial, ?_⟩
     refine ahz (by kernel_rfl) ?_
     refine ⟨(b3, (team3.take y7.toNat).drop 0, y10, y12, y15, y18), ?_, ⟨rfl, trivial⟩, (by repeat (first | exact keeps_refl | refine keeps_upd rfl ?_ | refine keeps_loop rfl rfl ?_)), ?_⟩
     ·refine ⟨by simp [team3]; omega, by dsimp only; omega, fun s hs => ?_⟩
      exact team3_len s (List.mem_of_mem_take hs)
     ·repeat (first | exact List.Perm.nil | refine permTo 0 rfl ?_ | refine permTo 1 rfl ?_ | refine permTo 2 rfl ?_ | refine permTo 3 rfl ?_ | (refine permToE 0 rfl ?hq ?_; (case hq => simp [setL, hcells]; done)) | (refine permToE 1 rfl ?hq ?_; (case hq => simp [setL, hcells]; done)) | (refine permToE 2 rfl ?hq ?_; (case hq => simp [setL, hcells]; done)) | (refine permToE 3 rfl ?hq ?_; (case hq => simp [setL, hcells]; done)) | fail)
   ·skip
    refine hop_e rfl (eop_alloc ty64 rfl fun b3 => ?_)
    refine ⟨fun _ => .inl trivial, ?_⟩
    refine ahe 5 rfl (by kernel_rfl) ?_
    refine hop_e rfl (eop_callx (i := 1) ca49 rfl (WeakL.refl _) rfl (c_benchmake_Stream_Range (by omega) (by omega) (by omega) (by omega)) ?_)
    rintro _ _ ⟨y10, rfl, hy10, rfl⟩
    refine ⟨fun _ => .inl trivial, ?_⟩
    refine ahe 7 rfl (by kernel_rfl) ?_
    refine hop_e rfl (eop_callx (i := 0) ca49 rfl (WeakL.refl _) rfl (c_benchmake_Stream_Range (by omega) (by omega) (by omega) (by omega)) ?_)
    rintro _ _ ⟨y12, rfl, hy12, rfl⟩
    refine ⟨fun _ => .inl trivial, ?_⟩
    refine ahe 10 rfl (by kernel_rfl) ?_
    refine hop_e rfl (eop_callx (i := 0) ca11 rfl (WeakL.refl _) rfl (c_benchmake_Stream_Pick (L := [_, _]) (by omega) (by simp_all) (by simp_all)) ?_)
    rintro _ _ ⟨y15, rfl, hy15, rfl⟩
    refine ⟨fun _ => .inl trivial, ?_⟩
    refine ahe 13 rfl (by kernel_rfl) ?_
    refine hop_e rfl (eop_callx (i := 0) ca11 rfl (WeakL.refl _) rfl (c_benchmake_Stream_Pick (L := [_, _, _]) (by omega) (by simp_all) (by simp_all)) ?_)
    rintro _ _ ⟨y18, rfl, hy18, rfl⟩
    refine ⟨fun _ => .inl trivial, ?_⟩
    refine ahp 14 rfl rfl (by kernel_rfl) (by kernel_rfl) (pop_build (cs := [_, _, _, _, _, _]) ty64 pl64 rfl) ?_
    refine ahe 16 rfl (by kernel_rfl) ?_
    refine hop_e0 (eop_store (i := 1) ty64 rfl rfl rfl rfl rfl (Nat.le_of_ble_eq_true rfl) ?_)
    refine ⟨fun _ => .inl trivial, ?_⟩
    refine ahz (by kernel_rfl) ?_
    refine ⟨(b3, (team3.take y7.toNat).drop 0, y10, y12, y15, y18), ?_, ⟨rfl, trivial⟩, (by repeat (first | exact keeps_refl | refine keeps_upd rfl ?_ | refine keeps_loop rfl rfl ?_)), ?_⟩
    ·refine ⟨by simp [team3]; omega, by dsimp only; omega, fun s hs => ?_⟩
     exact team3_len s (List.mem_of_mem_take hs)
    ·repeat (first | exact List.Perm.nil | refine permTo 0 rfl ?_ | refine permTo 1 rfl ?_ | refine permTo 2 rfl ?_ | refine permTo 3 rfl ?_ | (refine permToE 0 rfl ?hq ?_; (case hq => simp [setL, hcells]; done)) | (refine permToE 1 rfl ?hq ?_; (case hq => simp [setL, hcells]; done)) | (refine permToE 2 rfl ?hq ?_; (case hq => simp [setL, hcells]; done)) | (refine permToE 3 rfl ?hq ?_; (case hq => simp [setL, hcells]; done)) | fail)
  ·skip
   refine hop_e rfl (eop_alloc ty64 rfl fun b3 => ?_)
   refine ⟨fun _ => .inl trivial, ?_⟩
   refine ahe 2 rfl (by kernel_rfl) ?_
   refine hop_e rfl (eop_callx (i := 2) ca49 rfl (WeakL.refl _) rfl (c_benchmake_Stream_Range (by omega) (by omega) (by omega) (by omega)) ?_)
   rintro _ _ ⟨y7, rfl, hy7, rfl⟩
   refine ⟨fun _ => .inl trivial, ?_⟩
   refine ahp 3 rfl rfl (by kernel_rfl) (by kernel_rfl) (pop_slicem (es := team3) (f := HVal.str) (h := y7.toNat) ty28 ty9 rfl rfl ⟨_, _, rfl, by omega⟩ (by omega) (by simp [team3]; omega)) ?_
   refine ahe 5 rfl (by kernel_rfl) ?_
   refine hop_e rfl (eop_callx (i := 0) ca49 rfl (WeakL.refl _) rfl (c_benchmake_Stream_Range (by omega) (by omega) (by omega) (by omega)) ?_)
   rintro _ _ ⟨y10, rfl, hy10, rfl⟩
   refine ⟨fun _ => .inl trivial, ?_⟩
   refine ahe 7 rfl (by kernel_rfl) ?_
   refine hop_e rfl (eop_callx (i := 0) ca49 rfl (WeakL.refl _) rfl (c_benchmake_Stream_Range (by omega) (by omega) (by omega) (by omega)) ?_)
   rintro _ _ ⟨y12, rfl, hy12, rfl⟩
   refine ⟨fun _ => .inl trivial, ?_⟩
   refine ahe 10 rfl (by kernel_rfl) ?_
   refine hop_e rfl (eop_callx (i := 0) ca11 rfl (WeakL.refl _) rfl (c_benchmake_Stream_Pick (L := [_, _]) (by omega) (by simp_all) (by simp_all)) ?_)
   rintro _ _ ⟨y15, rfl, hy15, rfl⟩
   refine ⟨fun _ => .inl trivial, ?_⟩
   refine ahe 13 rfl (by kernel_rfl) ?_
   refine hop_e rfl (eop_callx (i := 0) ca11 rfl (WeakL.refl _) rfl (c_benchmake_Stream_Pick (L := [_, _, _]) (by omega) (by simp_all) (by simp_all)) ?_)
   rintro _ _ ⟨y18, rfl, hy18, rfl⟩
   refine ⟨fun _ => .inl trivial, ?_⟩
   refine ahp 14 rfl rfl (by kernel_rfl) (by kernel_rfl) (pop_build (cs := [_, _, _, _, _, _]) ty64 pl64 rfl) ?_
   refine ahe 16 rfl (by kernel_rfl) ?_
   refine hop_e0 (eop_store (i := 1) ty64 rfl rfl rfl rfl rfl (Nat.le_of_ble_eq_true rfl) ?_)
   refine ⟨fun _ => .inl trivial, ?_⟩
   refine ahz (by kernel_rfl) ?_
   refine ⟨(b3, (team3.take y7.toNat).drop 0, y10, y12, y15, y18), ?_, ⟨rfl, trivial⟩, (by repeat (first | exact keeps_refl | refine keeps_upd rfl ?_ | refine keeps_loop rfl rfl ?_)), ?_⟩
   ·refine ⟨by simp [team3]; omega, by dsimp only; omega, fun s hs => ?_⟩
    exact team3_len s (List.mem_of_mem_take hs)
   ·repeat (first | exact List.Perm.nil | refine permTo 0 rfl ?_ | refine permTo 1 rfl ?_ | refine permTo 2 rfl ?_ | refine permTo 3 rfl ?_ | (refine permToE 0 rfl ?hq ?_; (case hq => simp [setL, hcells]; done)) | (refine permToE 1 rfl ?hq ?_; (case hq => simp [setL, hcells]; done)) | (refine permToE 2 rfl ?hq ?_; (case hq => simp [setL, hcells]; done)) | (refine permToE 3 rfl ?hq ?_; (case hq => simp [setL, hcells]; done)) | fail)
 ·intro q hq
  obtain ⟨b3, T, R, Wy, C, S⟩ := q
  dsimp only at hq
  obtain ⟨hT, hR, hTs⟩ := hq
  refine hw_seq ?_
  refine hw_draw (fun M => ∃ i : Nat, M[i]? = some (RoomC b3 (eSs (T)) R Wy nilS C S)) [1, 4] mixed ?_
  refine ahp 0 rfl rfl (by kernel_rfl) (by kernel_rfl) (pop_fieldAddr_raw ty64 rfl ty28 (by decide) rfl) ?_
  refine ahl 1 rfl rfl (by kernel_rfl) (by kernel_rfl) (by simp) (⟨0, rfl⟩) (fun M hM => by obtain ⟨i, hi⟩ := hM; exact eop_load (i := i) ty28 rfl hi (.inl ⟨rfl, rfl⟩) ⟨rfl, rfl⟩) ?_
  refine ahp 2 rfl rfl (by kernel_rfl) (by kernel_rfl) (pop_lenm ty28 rfl) ?_
  refine ahp 3 rfl rfl (by kernel_rfl) (by kernel_rfl) (pop_fieldAddr_raw ty64 rfl ty3 (by decide) rfl) ?_
  refine ahl 4 rfl rfl (by kernel_rfl) (by kernel_rfl) (by simp) (⟨0, rfl⟩) (fun M hM => by obtain ⟨i, hi⟩ := hM; exact eop_load (i := i) ty3 rfl hi (.inl ⟨rfl, rfl⟩) ⟨rfl, rfl⟩) ?_
  have hm1 : 0 < (T.length : Int) * R := Int.mul_pos (by omega) (by omega)
  have hm := mul_bd (a := (T.length : Int)) (b := R) (A := 3) (B := 4) (by omega) (by omega) (by omega) (by omega)
  refine ahp 5 rfl rfl (by kernel_rfl) (by kernel_rfl) (pop_mul64 rfl rfl (by omega) (by omega)) ?_
  refine ahp 6 rfl rfl (by kernel_rfl) (by kernel_rfl) (pop_move rfl) ?_
  refine ahp 7 rfl rfl (by kernel_rfl) (by kernel_rfl) (pop_buildSlice (hs := [_, _, _, _]) ty22 ty3 rfl rfl (by decide) (by decide) rfl) ?_
  refine ahp 10 rfl rfl (by kernel_rfl) (by kernel_rfl) (pop_move rfl) ?_
  refine ahe 8 rfl (by kernel_rfl) ?_
  refine hop_e rfl (eop_callx (i := 2) ca11 rfl (WeakL.refl _) rfl (c_benchmake_Stream_Pick (L := [_, _, _, _]) (by omega) (by simp_all) (by simp_all)) ?_)
  rintro _ _ ⟨y28, rfl, hy28, rfl⟩
  refine ⟨fun _ => by first | exact .inl ⟨0, rfl⟩ | exact .inl ⟨1, rfl⟩ | exact .inl ⟨2, rfl⟩ | exact .inr (by simp [Before, Region.binds]), ?_⟩
  have hy3 : 0 ≤ y28 ∧ y28 ≤ 3 := by simp at hy28; omega
  refine ahp 9 rfl rfl (by kernel_rfl) (by kernel_rfl) (pop_add64 rfl rfl (by omega) (by omega)) ?_
  refine ahz (by kernel_rfl) ?_
  refine hw_ghost (Ghost.arr_nil 1) ?_
  refine hw_block ?_
  refine hw_loopw3 [4, 30, 31, 32, 33, 34, 35, 36, 37, 38, 39, 40, 41, 42] (fun (k : Nat) (v : Value) (Pl : List Str) => [(30, .int .i64 k)]) (fun (k : Nat) (v : Value) (Pl : List Str) => [.arr v 1 (Pl.map .str), RoomC b3 (eSs (T)) R Wy (.raw v) C S, RoomC b2 nilS 0 0 nilS 0 0, St b l (a + 6)]) (fun (k : Nat) (v : Value) (Pl : List Str) => k ≤ 15 ∧ Pl.length = k ∧ ∀ s ∈ Pl, s.length ≤ 100) (fun (k : Nat) (v : Value) (Pl : List Str) => 15 - k) (0) (.slice none 0 0) ([]) ?_ ?_ ?_ ?_
  ·exact ⟨by omega, rfl, by simp⟩
  ·exact ⟨rfl, trivial⟩
  ·repeat (first | exact List.Perm.nil | refine permTo 0 rfl ?_ | refine permTo 1 rfl ?_ | refine permTo 2 rfl ?_ | refine permTo 3 rfl ?_ | (refine permToE 0 rfl ?hq ?_; (case hq => simp [setL, hcells]; done)) | (refine permToE 1 rfl ?hq ?_; (case hq => simp [setL, hcells]; done)) | (refine permToE 2 rfl ?hq ?_; (case hq => simp [setL, hcells]; done)) | (refine permToE 3 rfl ?hq ?_; (case hq => simp [setL, hcells]; done)) | fail)
  ·intro k v Pl hinv
   obtain ⟨hk, hPl, hPs⟩ := hinv
   refine hw_reg ?_
   refine dp rfl (pop_lss rfl rfl) ?_
   refine dn ?_
   refine hw_seq ?_
   refine hw_cond rfl (fun h1 => ?_) (fun h2 => ?_)
   ·try simp at h1
    refine hw_skip ?_
    refine seqQ_n ?_
    refine hw_seq ?_
    refine hw_block ?_
    refine hw_reg ?_
    refine dp rfl (pop_move rfl) ?_
    refine dp rfl (pop_assign rfl) ?_
    refine dn ?_
    refine hw_draw1 (fun _ => True) [] mixed ?_
    refine ahp 0 rfl rfl (by kernel_rfl) (by kernel_rfl) (pop_fieldAddr_raw ty64 rfl ty28 (by decide) rfl) ?_
    refine ahp 2 rfl rfl (by kernel_rfl) (by kernel_rfl) (pop_move rfl) ?_
    refine ahp 3 rfl rfl (by kernel_rfl) (by kernel_rfl) (pop_add64 rfl rfl (by omega) (by omega)) ?_
    refine ahp 4 rfl rfl (by kernel_rfl) (by kernel_rfl) (pop_call ca116 rfl (WeakL.refl _) (c_strconv_Itoa (i := 10 + k) (by omega))) ?_
    have hdl := dec_len (i := 10 + k) (by omega)
    refine ahp 5 rfl rfl (by kernel_rfl) (by kernel_rfl) (pop_adds rfl rfl (by simp; omega)) ?_
    refine ahp 6 rfl rfl (by kernel_rfl) (by kernel_rfl) (pop_buildSlice (hs := [_]) ty28 ty9 rfl rfl (by decide) (by decide) rfl) ?_
    refine ahe 1 rfl (by kernel_rfl) ?_
    refine hop_e rfl (eop_load (i := 1) ty28 rfl rfl (.inl ⟨rfl, rfl⟩) ?_)
    refine ⟨fun _ => .inl trivial, ?_⟩
    refine ahe 7 rfl (by kernel_rfl) ?_
    refine hop_e rfl (eop_append (i := 0) ty28 ty9 rfl rfl rfl rfl rfl (by simp [flat, hcells]) (by simp; omega) fun v40 => ?_)
    refine ⟨fun _ => .inl trivial, ?_⟩
    refine ahp 8 rfl rfl (by kernel_rfl) (by kernel_rfl) (pop_fieldAddr_raw ty64 rfl ty28 (by decide) rfl) ?_
    refine ahe 9 rfl (by kernel_rfl) ?_
    refine hop_e0 (eop_store (i := 1) ty28 rfl rfl rfl rfl rfl (Nat.le_of_ble_eq_true rfl) ?_)
    refine ⟨fun _ => .inl trivial, ?_⟩
    refine ahz (by kernel_rfl) ?_
    refine blockQ_n ?_
    refine seqQ_n ?_
    refine hw_reg1 ?_
    refine dp rfl (pop_add64 rfl rfl (by omega) (by omega)) ?_
    refine dp rfl (pop_move rfl) ?_
    refine dn ?_
    refine ⟨k + 1, v40, Pl ++ [112 :: Lib.decDigits (10 + k)], ?_, ?_, ⟨rfl, trivial⟩, (by repeat (first | exact keeps_refl | refine keeps_upd rfl ?_ | refine keeps_loop rfl rfl ?_)), ?_⟩
    ·refine ⟨by omega, by simp [hPl], fun s hs => ?_⟩
     rcases List.mem_append.1 hs with h | h
     ·exact hPs s h
     ·have := dec_len (i := 10 + k) (by omega)
      simp at h; subst h; simp; omega
    ·dsimp only; omega
    ·repeat (first | exact List.Perm.nil | refine permTo 0 rfl ?_ | refine permTo 1 rfl ?_ | refine permTo 2 rfl ?_ | refine permTo 3 rfl ?_ | (refine permToE 0 rfl ?hq ?_; (case hq => simp [setL, hcells]; done)) | (refine permToE 1 rfl ?hq ?_; (case hq => simp [setL, hcells]; done)) | (refine permToE 2 rfl ?hq ?_; (case hq => simp [setL, hcells]; done)) | (refine permToE 3 rfl ?hq ?_; (case hq => simp [setL, hcells]; done)) | fail)
   ·try simp at h2
    refine hw_exit ?_
    refine seqQ_x ?_
    refine loopQ3_x ?_
    refine blockQ_eq ?_
    refine seqQ_n ?_
    refine hw_joing [43, 44, 45, 46, 47, 48, 49, 50, 51, 52, 53, 54, 55, 56, 57, 58, 59, 60, 61, 62, 63, 64, 65, 66, 67, 68, 69, 70, 71, 72, 73, 74, 75, 76, 77, 78, 79, 80, 81, 82] (fun (q : Room × Nat) => []) (fun (q : Room × Nat) => [.cells b3 (hcells (eRoom q.1)), RoomC b2 nilS 0 0 nilS 0 0, St b l q.2]) (fun (q : Room × Nat) => GoodRoom q.1 ∧ q.2 ≤ a + 20) ?_ ?_
    ·skip
     refine hw_reg ?_
     refine dp rfl (pop_move rfl) ?_
     refine de rfl (eop_callx (i := 3) ca84 rfl (WeakL.refl _) rfl (c_benchmake_Stream_Flip (by omega) (by omega)) ?_)
     rintro _ _ ⟨y44, rfl, rfl⟩
     refine dn ?_
     refine hw_cond rfl (fun h3 => ?_) (fun h4 => ?_)
     ·try simp at h3
      refine hw_reg ?_
      refine dp rfl (pop_move rfl) ?_
      refine de rfl (eop_callx (i := 0) ca83 rfl (WeakL.refl _) rfl (c_benchmake_Stream_Next (by omega) (by omega)) ?_)
      rintro _ _ ⟨y46, rfl, hy46, rfl⟩
      refine dn ?_
      refine hw_block ?_
      refine hw_reg ?_
      refine dp rfl (pop_eql rfl rfl) ?_
      refine dp rfl (pop_assign rfl) ?_
      refine dn ?_
      refine hw_cond rfl (fun h5 => ?_) (fun h6 => ?_)
      ·try simp at h5
       refine hw_reg1 ?_
       refine dp rfl (pop_fieldAddr_raw ty64 rfl ty28 (by decide) rfl) ?_
       refine de rfl (eop_load (i := 2) ty28 rfl rfl (.inl ⟨rfl, rfl⟩) ?_)
       refine de rfl (eop_calla ca48 rfl (WeakL.refl _) (c_slices_Clone_string_string (by omega)) fun v57 => ?_)
       refine dp rfl (pop_move rfl) ?_
       refine dp rfl (pop_buildSlice (hs := [_, _, _]) ty28 ty9 rfl rfl (by decide) (by decide) rfl) ?_
       refine de rfl (eop_callx (i := 1) ca13 rfl (WeakL.refl _) rfl (c_benchmake_Stream_Some (L := [_, _, _]) (by omega) (by simp_all) (by simp_all)) ?_)
       rintro _ _ ⟨y60, rfl, hy60, rfl⟩
       refine dp rfl (pop_buildSlice (hs := [_]) ty28 ty9 rfl rfl (by decide) (by decide) rfl) ?_
       refine de rfl (eop_append (i := 1) ty28 ty9 rfl rfl rfl rfl rfl (by simp [flat, hcells]) (by simp; omega) fun v62 => ?_)
       refine dp rfl (pop_fieldAddr_raw ty64 rfl ty28 (by decide) rfl) ?_
       refine de0 (eop_store (i := 3) ty28 rfl rfl rfl rfl rfl (Nat.le_of_ble_eq_true rfl) ?_)
       refine dn ?_
       refine blockQ_n ?_
       (first | refine joinG_n (Ghost.fcell (i := 0) (k := 0) (j := 3) rfl rfl rfl) ?_ | refine joinG_n (Ghost.fcell (i := 0) (k := 1) (j := 3) rfl rfl rfl) ?_ | refine joinG_n (Ghost.fcell (i := 0) (k := 2) (j := 3) rfl rfl rfl) ?_ | refine joinG_n (Ghost.fcell (i := 0) (k := 3) (j := 3) rfl rfl rfl) ?_ | refine joinG_n (Ghost.fcell (i := 1) (k := 0) (j := 3) rfl rfl rfl) ?_ | refine joinG_n (Ghost.fcell (i := 1) (k := 1) (j := 3) rfl rfl rfl) ?_ | refine joinG_n (Ghost.fcell (i := 1) (k := 2) (j := 3) rfl rfl rfl) ?_ | refine joinG_n (Ghost.fcell (i := 1) (k := 3) (j := 3) rfl rfl rfl) ?_ | refine joinG_n (Ghost.fcell (i := 2) (k := 0) (j := 3) rfl rfl rfl) ?_ | refine joinG_n (Ghost.fcell (i := 2) (k := 1) (j := 3) rfl rfl rfl) ?_ | refine joinG_n (Ghost.fcell (i := 2) (k := 2) (j := 3) rfl rfl rfl) ?_ | refine joinG_n (Ghost.fcell (i := 2) (k := 3) (j := 3) rfl rfl rfl) ?_ | refine joinG_n (Ghost.fcell (i := 3) (k := 0) (j := 3) rfl rfl rfl) ?_ | refine joinG_n (Ghost.fcell (i := 3) (k := 1) (j := 3) rfl rfl rfl) ?_ | refine joinG_n (Ghost.fcell (i := 3) (k := 2) (j := 3) rfl rfl rfl) ?_ | refine joinG_n (Ghost.fcell (i := 3) (k := 3) (j := 3) rfl rfl rfl) ?_)
       (first | refine joinG_n (Ghost.fcell (i := 0) (k := 0) (j := 0) rfl rfl rfl) ?_ | refine joinG_n (Ghost.fcell (i := 0) (k := 1) (j := 0) rfl rfl rfl) ?_ | refine joinG_n (Ghost.fcell (i := 0) (k := 2) (j := 0) rfl rfl rfl) ?_ | refine joinG_n (Ghost.fcell (i := 0) (k := 3) (j := 0) rfl rfl rfl) ?_ | refine joinG_n (Ghost.fcell (i := 1) (k := 0) (j := 0) rfl rfl rfl) ?_ | refine joinG_n (Ghost.fcell (i := 1) (k := 1) (j := 0) rfl rfl rfl) ?_ | refine joinG_n (Ghost.fcell (i := 1) (k := 2) (j := 0) rfl rfl rfl) ?_ | refine joinG_n (Ghost.fcell (i := 1) (k := 3) (j := 0) rfl rfl rfl) ?_ | refine joinG_n (Ghost.fcell (i := 2) (k := 0) (j := 0) rfl rfl rfl) ?_ | refine joinG_n (Ghost.fcell (i := 2) (k := 1) (j := 0) rfl rfl rfl) ?_ | refine joinG_n (Ghost.fcell (i := 2) (k := 2) (j := 0) rfl rfl rfl) ?_ | refine joinG_n (Ghost.fcell (i := 2) (k := 3) (j := 0) rfl rfl rfl) ?_ | refine joinG_n (Ghost.fcell (i := 3) (k := 0) (j := 0) rfl rfl rfl) ?_ | refine joinG_n (Ghost.fcell (i := 3) (k := 1) (j := 0) rfl rfl rfl) ?_ | refine joinG_n (Ghost.fcell (i := 3) (k := 2) (j := 0) rfl rfl rfl) ?_ | refine joinG_n (Ghost.fcell (i := 3) (k := 3) (j := 0) rfl rfl rfl) ?_)
       refine joinG_z (⟨T ++ [y60], R, Wy, Pl, C, S⟩, a + 9) ⟨?_, by dsimp only; omega⟩ trivial (by repeat (first | exact keeps_refl | refine keeps_upd rfl ?_ | refine keeps_loop rfl rfl ?_)) ?_
       ·exact good_roomT hT hPl (by omega) hTs hPs (by simp at hy60; rcases hy60 with rfl | rfl | rfl <;> simp)
       ·repeat (first | exact List.Perm.nil | refine permTo 0 rfl ?_ | refine permTo 1 rfl ?_ | refine permTo 2 rfl ?_ | refine permTo 3 rfl ?_ | (refine permToE 0 rfl ?hq ?_; (case hq => simp [setL, hcells]; done)) | (refine permToE 1 rfl ?hq ?_; (case hq => simp [setL, hcells]; done)) | (refine permToE 2 rfl ?hq ?_; (case hq => simp [setL, hcells]; done)) | (refine permToE 3 rfl ?hq ?_; (case hq => simp [setL, hcells]; done)) | fail)
      ·try simp at h6
       refine hw_reg ?_
       refine dp rfl (pop_eql rfl rfl) ?_
       refine dp rfl (pop_assign rfl) ?_
       refine dn ?_
       refine hw_cond rfl (fun h7 => ?_) (fun h8 => ?_)
       ·try simp at h7
        refine hw_reg1 ?_
        refine dp rfl (pop_move rfl) ?_
        refine de rfl (eop_callx (i := 0) ca117 rfl (WeakL.refl _) rfl (c_benchmake_Stream_Odd (by omega) (by omega) (by omega) (by omega)) ?_)
        rintro _ _ ⟨y67, rfl, rfl⟩
        refine dp rfl (pop_move rfl) ?_
        refine de rfl (eop_callx (i := 0) ca117 rfl (WeakL.refl _) rfl (c_benchmake_Stream_Odd (by omega) (by omega) (by omega) (by omega)) ?_)
        rintro _ _ ⟨y69, rfl, rfl⟩
        refine dp rfl (pop_fieldAddr_raw ty64 rfl ty3 (by decide) rfl) ?_
        refine de0 (eop_store (i := 2) ty3 rfl rfl rfl rfl rfl (Nat.le_of_ble_eq_true rfl) ?_)
        refine dp rfl (pop_fieldAddr_raw ty64 rfl ty3 (by decide) rfl) ?_
        refine de0 (eop_store (i := 2) ty3 rfl rfl rfl rfl rfl (Nat.le_of_ble_eq_true rfl) ?_)
        refine dn ?_
        refine blockQ_n ?_
        (first | refine joinG_n (Ghost.fcell (i := 0) (k := 0) (j := 3) rfl rfl rfl) ?_ | refine joinG_n (Ghost.fcell (i := 0) (k := 1) (j := 3) rfl rfl rfl) ?_ | refine joinG_n (Ghost.fcell (i := 0) (k := 2) (j := 3) rfl rfl rfl) ?_ | refine joinG_n (Ghost.fcell (i := 0) (k := 3) (j := 3) rfl rfl rfl) ?_ | refine joinG_n (Ghost.fcell (i := 1) (k := 0) (j := 3) rfl rfl rfl) ?_ | refine joinG_n (Ghost.fcell (i := 1) (k := 1) (j := 3) rfl rfl rfl) ?_ | refine joinG_n (Ghost.fcell (i := 1) (k := 2) (j := 3) rfl rfl rfl) ?_ | refine joinG_n (Ghost.fcell (i := 1) (k := 3) (j := 3) rfl rfl rfl) ?_ | refine joinG_n (Ghost.fcell (i := 2) (k := 0) (j := 3) rfl rfl rfl) ?_ | refine joinG_n (Ghost.fcell (i := 2) (k := 1) (j := 3) rfl rfl rfl) ?_ | refine joinG_n (Ghost.fcell (i := 2) (k := 2) (j := 3) rfl rfl rfl) ?_ | refine joinG_n (Ghost.fcell (i := 2) (k := 3) (j := 3) rfl rfl rfl) ?_ | refine joinG_n (Ghost.fcell (i := 3) (k := 0) (j := 3) rfl rfl rfl) ?_ | refine joinG_n (Ghost.fcell (i := 3) (k := 1) (j := 3) rfl rfl rfl) ?_ | refine joinG_n (Ghost.fcell (i := 3) (k := 2) (j := 3) rfl rfl rfl) ?_ | refine joinG_n (Ghost.fcell (i := 3) (k := 3) (j := 3) rfl rfl rfl) ?_)
        refine joinG_z (⟨T, y67, y69, Pl, C, S⟩, a + 12) ⟨?_, by dsimp only; omega⟩ trivial (by repeat (first | exact keeps_refl | refine keeps_upd rfl ?_ | refine keeps_loop rfl rfl ?_)) ?_
        ·exact good_room hT hPl (by omega) hTs hPs
        ·repeat (first | exact List.Perm.nil | refine permTo 0 rfl ?_ | refine permTo 1 rfl ?_ | refine permTo 2 rfl ?_ | refine permTo 3 rfl ?_ | (refine permToE 0 rfl ?hq ?_; (case hq => simp [setL, hcells]; done)) | (refine permToE 1 rfl ?hq ?_; (case hq => simp [setL, hcells]; done)) | (refine permToE 2 rfl ?hq ?_; (case hq => simp [setL, hcells]; done)) | (refine permToE 3 rfl ?hq ?_; (case hq => simp [setL, hcells]; done)) | fail)
       ·try simp at h8
        refine hw_reg ?_
        refine dp rfl (pop_eql rfl rfl) ?_
        refine dp rfl (pop_assign rfl) ?_
        refine dn ?_
        refine hw_cond rfl (fun h9 => ?_) (fun h10 => ?_)
        ·try simp at h9
         obtain ⟨Px, Pt, rfl⟩ : ∃ x t, Pl = x :: t := by
          cases Pl with
          | nil => simp at hPl; omega
          | cons x t => exact ⟨x, t, rfl⟩
         have hPt : Pt.length = k - 1 := by simp at hPl; omega
         have hPts : ∀ s ∈ Pt, s.length ≤ 100 := fun s hs => hPs s (List.mem_cons_of_mem _ hs)
         refine hw_arrc (i := 1) rfl (fun h0 he => ?_) (fun bb off cap hv hcap => ?_)
         ·exfalso; simp at he
         subst hv
         refine hw_ghost (Ghost.perm (List.Perm.swap _ _ _)) ?_
         refine hw_ghost (Ghost.tail (x := .str Px) (es := Pt.map .str)) ?_
         simp only [List.map_cons, List.length_cons] at hcap
         refine hw_draw1 (fun M => ∃ i : Nat, M[i]? = some (RoomC b3 (eSs (T)) R Wy (.raw (.slice (some ⟨bb, off, none⟩) ((Px :: Pt).map HVal.str).length cap)) C S)) [1] mixed ?_
         refine ahp 0 rfl rfl (by kernel_rfl) (by kernel_rfl) (pop_fieldAddr_raw ty64 rfl ty28 (by decide) rfl) ?_
         refine ahl 1 rfl rfl (by kernel_rfl) (by kernel_rfl) (by simp) (⟨2, rfl⟩) (fun M hM => by obtain ⟨i, hi⟩ := hM; exact eop_load (i := i) ty28 rfl hi (.inl ⟨rfl, rfl⟩) ⟨rfl, rfl⟩) ?_
         refine ahp 2 rfl rfl (by kernel_rfl) (by kernel_rfl) (pop_tail (n := (Pt.map HVal.str).length) ty28 ty9 rfl hcap) ?_
         refine ahp 3 rfl rfl (by kernel_rfl) (by kernel_rfl) (pop_move rfl) ?_
         refine ahp 4 rfl rfl (by kernel_rfl) (by kernel_rfl) (pop_buildSlice (hs := [_, _, _]) ty28 ty9 rfl rfl (by decide) (by decide) rfl) ?_
         refine ahe 5 rfl (by kernel_rfl) ?_
         refine hop_e rfl (eop_callx (i := 1) ca13 rfl (WeakL.refl _) rfl (c_benchmake_Stream_Some (L := [_, _, _]) (by omega) (by simp_all) (by simp_all)) ?_)
         rintro _ _ ⟨y79, rfl, hy79, rfl⟩
         refine ⟨fun _ => by first | exact .inl ⟨0, rfl⟩ | exact .inl ⟨1, rfl⟩ | exact .inl ⟨2, rfl⟩ | exact .inr (by simp [Before, Region.binds]), ?_⟩
         refine ahp 6 rfl rfl (by kernel_rfl) (by kernel_rfl) (pop_buildSlice (hs := [_]) ty28 ty9 rfl rfl (by decide) (by decide) rfl) ?_
         refine ahe 7 rfl (by kernel_rfl) ?_
         refine hop_e rfl (eop_append (i := 1) ty28 ty9 rfl rfl rfl rfl rfl (by simp [flat, hcells]) (by simp; omega) fun v81 => ?_)
         refine ⟨fun _ => by first | exact .inl ⟨0, rfl⟩ | exact .inl ⟨1, rfl⟩ | exact .inl ⟨2, rfl⟩ | exact .inr (by simp [Before, Region.binds]), ?_⟩
         refine ahp 8 rfl rfl (by kernel_rfl) (by kernel_rfl) (pop_fieldAddr_raw ty64 rfl ty28 (by decide) rfl) ?_
         refine ahe 9 rfl (by kernel_rfl) ?_
         refine hop_e0 (eop_store (i := 2) ty28 rfl rfl rfl rfl rfl (Nat.le_of_ble_eq_true rfl) ?_)
         refine ⟨fun _ => by first | exact .inl ⟨0, rfl⟩ | exact .inl ⟨1, rfl⟩ | exact .inl ⟨2, rfl⟩ | exact .inr (by simp [Before, Region.binds]), ?_⟩
         refine ahz (by kernel_rfl) ?_
         refine blockQ_n ?_
         (first | refine joinG_n (Ghost.fcell (i := 0) (k := 0) (j := 3) rfl rfl rfl) ?_ | refine joinG_n (Ghost.fcell (i := 0) (k := 1) (j := 3) rfl rfl rfl) ?_ | refine joinG_n (Ghost.fcell (i := 0) (k := 2) (j := 3) rfl rfl rfl) ?_ | refine joinG_n (Ghost.fcell (i := 0) (k := 3) (j := 3) rfl rfl rfl) ?_ | refine joinG_n (Ghost.fcell (i := 1) (k := 0) (j := 3) rfl rfl rfl) ?_ | refine joinG_n (Ghost.fcell (i := 1) (k := 1) (j := 3) rfl rfl rfl) ?_ | refine joinG_n (Ghost.fcell (i := 1) (k := 2) (j := 3) rfl rfl rfl) ?_ | refine joinG_n (Ghost.fcell (i := 1) (k := 3) (j := 3) rfl rfl rfl) ?_ | refine joinG_n (Ghost.fcell (i := 2) (k := 0) (j := 3) rfl rfl rfl) ?_ | refine joinG_n (Ghost.fcell (i := 2) (k := 1) (j := 3) rfl rfl rfl) ?_ | refine joinG_n (Ghost.fcell (i := 2) (k := 2) (j := 3) rfl rfl rfl) ?_ | refine joinG_n (Ghost.fcell (i := 2) (k := 3) (j := 3) rfl rfl rfl) ?_ | refine joinG_n (Ghost.fcell (i := 3) (k := 0) (j := 3) rfl rfl rfl) ?_ | refine joinG_n (Ghost.fcell (i := 3) (k := 1) (j := 3) rfl rfl rfl) ?_ | refine joinG_n (Ghost.fcell (i := 3) (k := 2) (j := 3) rfl rfl rfl) ?_ | refine joinG_n (Ghost.fcell (i := 3) (k := 3) (j := 3) rfl rfl rfl) ?_)
         refine joinG_z (⟨T, R, Wy, Pt ++ [y79], C, S⟩, a + 9) ⟨?_, by dsimp only; omega⟩ trivial (by repeat (first | exact keeps_refl | refine keeps_upd rfl ?_ | refine keeps_loop rfl rfl ?_)) ?_
         ·exact good_roomP hT hPt (by omega) hTs hPts (by simp at hy79; rcases hy79 with rfl | rfl | rfl <;> simp)
         ·repeat (first | exact List.Perm.nil | refine permTo 0 rfl ?_ | refine permTo 1 rfl ?_ | refine permTo 2 rfl ?_ | refine permTo 3 rfl ?_ | (refine permToE 0 rfl ?hq ?_; (case hq => simp [setL, hcells]; done)) | (refine permToE 1 rfl ?hq ?_; (case hq => simp [setL, hcells]; done)) | (refine permToE 2 rfl ?hq ?_; (case hq => simp [setL, hcells]; done)) | (refine permToE 3 rfl ?hq ?_; (case hq => simp [setL, hcells]; done)) | fail)
        ·try simp at h10
         refine hw_reg1 ?_
         refine dp rfl (pop_move rfl) ?_
         refine de rfl (eop_callx (i := 0) ca117 rfl (WeakL.refl _) rfl (c_benchmake_Stream_Odd (by omega) (by omega) (by omega) (by omega)) ?_)
         rintro _ _ ⟨y48, rfl, rfl⟩
         refine dp rfl (pop_move rfl) ?_
         refine de rfl (eop_callx (i := 0) ca117 rfl (WeakL.refl _) rfl (c_benchmake_Stream_Odd (by omega) (by omega) (by omega) (by omega)) ?_)
         rintro _ _ ⟨y50, rfl, rfl⟩
         refine dp rfl (pop_fieldAddr_raw ty64 rfl ty3 (by decide) rfl) ?_
         refine de0 (eop_store (i := 2) ty3 rfl rfl rfl rfl rfl (Nat.le_of_ble_eq_true rfl) ?_)
         refine dp rfl (pop_fieldAddr_raw ty64 rfl ty3 (by decide) rfl) ?_
         refine de0 (eop_store (i := 2) ty3 rfl rfl rfl rfl rfl (Nat.le_of_ble_eq_true rfl) ?_)
         refine dn ?_
         refine blockQ_n ?_
         (first | refine joinG_n (Ghost.fcell (i := 0) (k := 0) (j := 3) rfl rfl rfl) ?_ | refine joinG_n (Ghost.fcell (i := 0) (k := 1) (j := 3) rfl rfl rfl) ?_ | refine joinG_n (Ghost.fcell (i := 0) (k := 2) (j := 3) rfl rfl rfl) ?_ | refine joinG_n (Ghost.fcell (i := 0) (k := 3) (j := 3) rfl rfl rfl) ?_ | refine joinG_n (Ghost.fcell (i := 1) (k := 0) (j := 3) rfl rfl rfl) ?_ | refine joinG_n (Ghost.fcell (i := 1) (k := 1) (j := 3) rfl rfl rfl) ?_ | refine joinG_n (Ghost.fcell (i := 1) (k := 2) (j := 3) rfl rfl rfl) ?_ | refine joinG_n (Ghost.fcell (i := 1) (k := 3) (j := 3) rfl rfl rfl) ?_ | refine joinG_n (Ghost.fcell (i := 2) (k := 0) (j := 3) rfl rfl rfl) ?_ | refine joinG_n (Ghost.fcell (i := 2) (k := 1) (j := 3) rfl rfl rfl) ?_ | refine joinG_n (Ghost.fcell (i := 2) (k := 2) (j := 3) rfl rfl rfl) ?_ | refine joinG_n (Ghost.fcell (i := 2) (k := 3) (j := 3) rfl rfl rfl) ?_ | refine joinG_n (Ghost.fcell (i := 3) (k := 0) (j := 3) rfl rfl rfl) ?_ | refine joinG_n (Ghost.fcell (i := 3) (k := 1) (j := 3) rfl rfl rfl) ?_ | refine joinG_n (Ghost.fcell (i := 3) (k := 2) (j := 3) rfl rfl rfl) ?_ | refine joinG_n (Ghost.fcell (i := 3) (k := 3) (j := 3) rfl rfl rfl) ?_)
         refine joinG_z (⟨T, R, Wy, Pl, y48, y50⟩, a + 12) ⟨?_, by dsimp only; omega⟩ trivial (by repeat (first | exact keeps_refl | refine keeps_upd rfl ?_ | refine keeps_loop rfl rfl ?_)) ?_
         ·exact good_room hT hPl (by omega) hTs hPs
         ·repeat (first | exact List.Perm.nil | refine permTo 0 rfl ?_ | refine permTo 1 rfl ?_ | refine permTo 2 rfl ?_ | refine permTo 3 rfl ?_ | (refine permToE 0 rfl ?hq ?_; (case hq => simp [setL, hcells]; done)) | (refine permToE 1 rfl ?hq ?_; (case hq => simp [setL, hcells]; done)) | (refine permToE 2 rfl ?hq ?_; (case hq => simp [setL, hcells]; done)) | (refine permToE 3 rfl ?hq ?_; (case hq => simp [setL, hcells]; done)) | fail)
     ·try simp at h4
      refine hw_skip ?_
      (first | refine joinG_n (Ghost.fcell (i := 0) (k := 0) (j := 3) rfl rfl rfl) ?_ | refine joinG_n (Ghost.fcell (i := 0) (k := 1) (j := 3) rfl rfl rfl) ?_ | refine joinG_n (Ghost.fcell (i := 0) (k := 2) (j := 3) rfl rfl rfl) ?_ | refine joinG_n (Ghost.fcell (i := 0) (k := 3) (j := 3) rfl rfl rfl) ?_ | refine joinG_n (Ghost.fcell (i := 1) (k := 0) (j := 3) rfl rfl rfl) ?_ | refine joinG_n (Ghost.fcell (i := 1) (k := 1) (j := 3) rfl rfl rfl) ?_ | refine joinG_n (Ghost.fcell (i := 1) (k := 2) (j := 3) rfl rfl rfl) ?_ | refine joinG_n (Ghost.fcell (i := 1) (k := 3) (j := 3) rfl rfl rfl) ?_ | refine joinG_n (Ghost.fcell (i := 2) (k := 0) (j := 3) rfl rfl rfl) ?_ | refine joinG_n (Ghost.fcell (i := 2) (k := 1) (j := 3) rfl rfl rfl) ?_ | refine joinG_n (Ghost.fcell (i := 2) (k := 2) (j := 3) rfl rfl rfl) ?_ | refine joinG_n (Ghost.fcell (i := 2) (k := 3) (j := 3) rfl rfl rfl) ?_ | refine joinG_n (Ghost.fcell (i := 3) (k := 0) (j := 3) rfl rfl rfl) ?_ | refine joinG_n (Ghost.fcell (i := 3) (k := 1) (j := 3) rfl rfl rfl) ?_ | refine joinG_n (Ghost.fcell (i := 3) (k := 2) (j := 3) rfl rfl rfl) ?_ | refine joinG_n (Ghost.fcell (i := 3) (k := 3) (j := 3) rfl rfl rfl) ?_)
      refine joinG_z (⟨T, R, Wy, Pl, C, S⟩, a + 7) ⟨?_, by dsimp only; omega⟩ trivial (by repeat (first | exact keeps_refl | refine keeps_upd rfl ?_ | refine keeps_loop rfl rfl ?_)) ?_
      ·exact good_room hT hPl (by omega) hTs hPs
      ·repeat (first | exact List.Perm.nil | refine permTo 0 rfl ?_ | refine permTo 1 rfl ?_ | refine permTo 2 rfl ?_ | refine permTo 3 rfl ?_ | (refine permToE 0 rfl ?hq ?_; (case hq => simp [setL, hcells]; done)) | (refine permToE 1 rfl ?hq ?_; (case hq => simp [setL, hcells]; done)) | (refine permToE 2 rfl ?hq ?_; (case hq => simp [setL, hcells]; done)) | (refine permToE 3 rfl ?hq ?_; (case hq => simp [setL, hcells]; done)) | fail)
    ·intro q hq2
     obtain ⟨r, a2⟩ := q
     dsimp only at hq2
     refine hw_reg ?_
     refine de rfl (eop_loadw (i := 0) ty64 rfl rfl rfl rfl rfl ?_)
     refine de0 (eop_store (i := 1) ty64 rfl rfl rfl rfl rfl (Nat.le_of_ble_eq_true rfl) ?_)
     refine dn ?_
     refine hw_ret ?_
     exact ⟨_, _, (Ghost.drop).trans (Ghost.fc0 2 rfl), [_], _, ⟨⟨_, _, _, _, _, rfl, ty64, .inr ⟨rfl, rfl, rfl⟩⟩, trivial⟩, Weak.refl _, r, a2, rfl, hq2.1, hq2.2, rfl⟩
end Go.Proofs.YtcnfhcicepmjcaaGreatDoor
end
section
namespace Go.HL
section
variable {P : Program} {ops : Array Oper} {n : Nat} {S : List MObj → Prop} {ld : List Nat} {K : Env → List MObj → Prop} {e : Env} {M : List MObj} {listed : Array Bool} {fuel : Nat} {d : Nat} {op : Op} {ty : TypeId} {pos : String} {af : Array Edge} {h : HVal}
/-- A load under a guard out of owned objects of which S knows enough is taken first. -/
theorem ahgl [Tracks] (i : Nat) {j : Nat} {want c : Bool} (hi : ops[i]? = some ⟨some d, op, ty, pos, af, some (j, want)⟩) (hd : Nat.blt d n = true) (hf : Region.free .any ops listed i = true) (hr : (Region.ready .any ops listed).contains i = true) (hl : i ∈ ld) (hS : S M)
 (hg : guardC ops e j want = some c) (hp : c = true → ∃ e2, OpenTo e e2 ∧ ∀ M, S M → EOp P e2 M ⟨some d, op, ty, pos, af, some (j, want)⟩ fun x M' => x = h ∧ M' = M)
 (k : HAny P ops n S ld K fuel (listed.setIfInBounds i true) (upd e d (.opt c h)) M) : HAny P ops n S ld K (fuel + 1) listed e M :=
 HAny.first (T := S) hi (fun t ht => by simp at ht; subst ht; exact blt_lt hd) (.inr ⟨rfl, hl⟩) fuel listed e M (Region.free_spec hi hf) (by simpa using hr)
  ⟨c, hg, fun hc M hM => by
   obtain ⟨e2, h1, h2⟩ := hp hc
   intro I F a w ho hs
   exact Oper.wp_noQ (fun _ _ ⟨v, x, M', J, h3, h4, ⟨e1, e3⟩, h5, h6⟩ => ⟨v, .opt c h, M, J, h3, h4, ⟨rfl, rfl⟩, .opt (fun _ => e1 ▸ h5) (fun hf => by rw [hc] at hf; cases hf), e3 ▸ h6⟩) (h2 M hM I F a w (ho.open h1) hs),
   fun hc => ⟨h, by rw [hc]⟩⟩ hS k
end
theorem wrap8 {x : Nat} (h : x < 16) : IntKind.wrap .u8 (x : Int) = (x : Int) := by
 have : (List.range 16).all (fun x => IntKind.wrap .u8 (x : Int) == (x : Int)) = true := by decide
 simpa using List.all_eq_true.1 this x (List.mem_range.2 h)
theorem wrapu64 {x : Nat} (h : x < 16) : IntKind.wrap .u64 (x : Int) = (x : Int) := by
 have : (List.range 16).all (fun x => IntKind.wrap .u64 (x : Int) == (x : Int)) = true := by decide
 simpa using List.all_eq_true.1 this x (List.mem_range.2 h)
theorem some_int {k : IntKind} {a b : Int} (h : a = b) : some (HVal.int k a) = some (.int k b) := by rw [h]
section
variable {α : Type} {c : α → α → Int}
theorem isort_take1 (l : List α) : isort c (l.take 1) ++ l.drop 1 = l := by
 cases l with
 | nil => rfl
 | cons x r => simp [isort, insB, insF]
theorem get_mid {A R : List α} {x : α} : (A ++ x :: R)[A.length]? = some x := by simp
theorem get_before {A R : List α} {x : α} (h : 0 < A.length) : (A ++ x :: R)[A.length - 1]? = some ((A[A.length - 1]?).getD x) := by
 rw [List.getElem?_append_left (by omega), List.getElem?_eq_getElem (by omega)]
 simp [List.getElem?_eq_getElem (show A.length - 1 < A.length by omega)]
theorem snoc_of {A : List α} (h : 0 < A.length) : ∃ B y, A = B ++ [y] := by
 have hne : A ≠ [] := fun e => by subst e; simp at h
 exact ⟨_, _, (List.dropLast_concat_getLast hne).symm⟩
theorem getD_snoc {A : List α} {y d : α} : ((A ++ [y])[(A ++ [y]).length - 1]?).getD d = y := by simp
theorem swap_mid {A R : List α} {x y : α} : (((A ++ [y]) ++ x :: R).set (A ++ [y]).length y).set ((A ++ [y]).length - 1) x = A ++ x :: y :: R := by
 have e1 : ((A ++ [y]) ++ x :: R).set (A ++ [y]).length y = (A ++ [y]) ++ y :: R := by rw [List.set_append_right _ _ (Nat.le_refl _)]; simp
 rw [e1, List.append_assoc]
 have e2 : (A ++ [y]).length - 1 = A.length := by simp
 rw [e2, List.set_append_right _ _ (Nat.le_refl _)]
 simp
/-- The inner loop ends. -/
theorem ins_exit {l A B : List α} {x : α} {k : Nat} (hx : l[k]? = some x) (hB : insB c x (isort c (l.take k)) = insB c x A ++ B) (h : 0 < A.length → ¬ c x ((A[A.length - 1]?).getD x) < 0) : A ++ x :: (B ++ l.drop (k + 1)) = isort c (l.take (k + 1)) ++ l.drop (k + 1) := by
 rw [take_snoc' hx, isort_snoc, hB]
 rcases Nat.eq_zero_or_pos A.length with h0 | h0
 ·obtain rfl := List.length_eq_zero_iff.1 h0
  simp [insB_nil]
 ·obtain ⟨A', y, rfl⟩ := snoc_of h0
  have := h h0
  rw [getD_snoc] at this
  rw [insB_snoc, if_neg this]; simp
theorem ins_step {A B : List α} {x y : α} {S : List α} (hB : insB c x S = insB c x (A ++ [y]) ++ B) (h : c x y < 0) : insB c x S = insB c x A ++ (y :: B) := by
 rw [hB, insB_snoc, if_pos h]; simp
end
end Go.HL
namespace Go.HL
section
variable {α : Type} {p : α → Bool}
/-- What slices.DeleteFunc has done when it looks at place j. -/
structure DelInv (p : α → Bool) (l : List α) (j : Nat) (D : List α) : Prop where
 len : D.length = l.length
 jle : j ≤ l.length
 lt : ((l.take j).filter (fun x => !p x)).length < j
 kept : D.take ((l.take j).filter (fun x => !p x)).length = (l.take j).filter (fun x => !p x)
 rest : D.drop j = l.drop j
theorem filter_snoc {l : List α} {j : Nat} {x : α} (hx : l[j]? = some x) : (l.take (j + 1)).filter (fun x => !p x) = (l.take j).filter (fun x => !p x) ++ if p x then [] else [x] := by
 rw [take_snoc' hx, List.filter_append]
 by_cases h : p x <;> simp [h]
theorem DelInv.get {l D : List α} {j : Nat} {x : α} (h : DelInv p l j D) (hx : l[j]? = some x) : D[j]? = some x := by
 have h1 := congrArg (fun t => t[0]?) h.rest
 simp only [List.getElem?_drop, Nat.add_zero] at h1
 rw [h1]; exact hx
theorem DelInv.drop1 {l D : List α} {j : Nat} (h : DelInv p l j D) : D.drop (j + 1) = l.drop (j + 1) := by
 have := congrArg (List.drop 1) h.rest
 simpa [List.drop_drop] using this
theorem DelInv.skip {l D : List α} {j : Nat} {x : α} (h : DelInv p l j D) (hx : l[j]? = some x) (hp : p x = true) : DelInv p l (j + 1) D ∧ ((l.take (j + 1)).filter (fun x => !p x)).length = ((l.take j).filter (fun x => !p x)).length := by
 have e := filter_snoc (p := p) hx
 rw [if_pos hp, List.append_nil] at e
 refine ⟨⟨h.len, by have := lt_of_get hx; omega, by rw [e]; have := h.lt; omega, by rw [e]; exact h.kept, h.drop1⟩, by rw [e]⟩
theorem DelInv.keep {l D : List α} {j : Nat} {x : α} (h : DelInv p l j D) (hx : l[j]? = some x) (hp : p x = false) :
 DelInv p l (j + 1) (D.set ((l.take j).filter (fun x => !p x)).length x) ∧ ((l.take (j + 1)).filter (fun x => !p x)).length = ((l.take j).filter (fun x => !p x)).length + 1 := by
 have e := filter_snoc (p := p) hx
 rw [if_neg (by simp [hp])] at e
 have hlt := h.lt
 have hj := lt_of_get hx
 have hl := h.len
 have el : ((l.take (j + 1)).filter (fun x => !p x)).length = ((l.take j).filter (fun x => !p x)).length + 1 := by rw [e]; simp
 refine ⟨⟨by simp [hl], by omega, by omega, ?_, ?_⟩, el⟩
 ·rw [el, e]
  have hk := h.kept
  generalize ((l.take j).filter (fun x => !p x)) = F at *
  rw [take_snoc' (List.getElem?_set_self (by omega)), List.take_set_of_le (Nat.le_refl _), hk]
 ·rw [List.drop_set_of_lt (by omega)]; exact h.drop1
theorem idxF_found (p : α → Bool) : ∀ (l : List α) (k : Int), 0 ≤ k → idxF p l k ≠ -1 → ∃ i : Nat, idxF p l k = k + i ∧ i < l.length ∧ (∃ x, l[i]? = some x ∧ p x = true) ∧ ∀ y ∈ l.take i, p y = false
 | [], k, _, h => by simp [idxF] at h
 | x :: r, k, h0, h => by
   by_cases hx : p x = true
   ·exact ⟨0, by simp [idxF, hx], by simp, ⟨x, rfl, hx⟩, by simp⟩
   ·have e : idxF p (x :: r) k = idxF p r (k + 1) := by simp [idxF, hx]
    rw [e] at h ⊢
    obtain ⟨i, h1, h2, ⟨y, h3, h4⟩, h5⟩ := idxF_found p r (k + 1) (by omega) h
    refine ⟨i + 1, by rw [h1]; simp; omega, by simp; omega, ⟨y, by simpa using h3, h4⟩, fun z hz => ?_⟩
    simp only [List.take_succ_cons, List.mem_cons] at hz
    rcases hz with rfl | hz
    ·simpa using hx
    ·exact h5 z hz
theorem idxF_none (p : α → Bool) : ∀ (l : List α) (k : Int), 0 ≤ k → idxF p l k = -1 → l.filter (fun x => !p x) = l
 | [], _, _, _ => rfl
 | x :: r, k, h0, h => by
   by_cases hx : p x = true
   ·simp [idxF, hx] at h; omega
   ·have e : idxF p (x :: r) k = idxF p r (k + 1) := by simp [idxF, hx]
    rw [e] at h
    rw [List.filter_cons, if_pos (by simp [hx]), idxF_none p r (k + 1) (by omega) h]
theorem DelInv.start {l : List α} {i : Nat} {x : α} (hi : i < l.length) (hx : l[i]? = some x) (hp : p x = true) (hb : ∀ y ∈ l.take i, p y = false) : DelInv p l (i + 1) l ∧ ((l.take (i + 1)).filter (fun x => !p x)).length = i := by
 have e := filter_snoc (p := p) hx
 rw [if_pos hp, List.append_nil, (List.filter_eq_self (l := l.take i) (p := fun x => !p x)).2 (fun y hy => by simp [hb y hy])] at e
 have hl : (l.take i).length = i := by simp; omega
 refine ⟨⟨rfl, by omega, by rw [e]; omega, by rw [e, hl], rfl⟩, by rw [e, hl]⟩
theorem DelInv.done {l D : List α} (h : DelInv p l l.length D) : D.take (l.filter (fun x => !p x)).length = l.filter (fun x => !p x) := by
 have := h.kept
 rwa [List.take_length] at this
end
theorem slOff_or {cap off sz m n : Nat} (h1 : m ≤ n) (h2 : n ≤ cap) : n - m = 0 ∨ slOff cap off sz m = off + m * sz := by
 unfold slOff
 by_cases h : cap = m
 ·exact .inl (by omega)
 ·exact .inr (by rw [if_neg h])
end Go.HL
namespace Go.HL
end Go.HL
end
section
namespace Go.Proofs.YtcnfhcicepmjcaaGreatDoor
open Go.HL
set_option maxRecDepth 100000
set_option linter.unusedVariables false
set_option linter.unusedSimpArgs false
/-- math/bits.Len64 -/
theorem c_bits_Len64_s [Tracks] {x : Nat} (hx : x < 16) : Con Tryz.prog 222 [.int .u64 (x : Int)] [] (fun y M' => ∃ n : Int, y = .int .i64 n ∧ M' = []) := by
 refine Con.of_body Tryz.func222 rfl Tryz.ntmps222 rfl rfl ?_
 refine hw_reg ?_
 refine dp rfl (pop_assign rfl) ?_
 refine dn ?_
 refine hw_seq ?_
 refine hw_reg ?_
 refine dp rfl (pop_move rfl) ?_
 refine dp rfl (pop_geq rfl rfl) ?_
 refine dn ?_
 refine hw_cond rfl (fun h1 => ?_) (fun h1 => ?_)
 ·exfalso
  try simp at h1
  omega
 ·try simp at h1
  refine hw_skip ?_
  refine seqQ_n ?_
  refine hw_seq ?_
  refine hw_reg ?_
  refine dp rfl (pop_move rfl) ?_
  refine dp rfl (pop_geq rfl rfl) ?_
  refine dn ?_
  refine hw_cond rfl (fun h2 => ?_) (fun h2 => ?_)
  ·exfalso
   try simp at h2
   omega
  ·try simp at h2
   refine hw_skip ?_
   refine seqQ_n ?_
   refine hw_seq ?_
   refine hw_reg ?_
   refine dp rfl (pop_move rfl) ?_
   refine dp rfl (pop_geq rfl rfl) ?_
   refine dn ?_
   refine hw_cond rfl (fun h3 => ?_) (fun h3 => ?_)
   ·exfalso
    try simp at h3
    omega
   ·try simp at h3
    refine hw_skip ?_
    refine seqQ_n ?_
    refine hw_reg ?_
    refine dp rfl (pop_move rfl) ?_
    refine dp rfl (pop_move rfl) ?_
    refine dp rfl (pop_conv ty308 ty5 rfl) ?_
    refine dp rfl (pop_indexs (j := x) ty9 rfl rfl (wrap8 hx) (List.getElem?_eq_getElem (Nat.lt_of_lt_of_le hx (Nat.le_of_ble_eq_true (by kernel_rfl))))) ?_
    refine dp rfl (pop_conv ty5 ty3 rfl) ?_
    refine dp rfl (pop_add rfl rfl) ?_
    refine dp rfl (pop_assign rfl) ?_
    refine dn ?_
    refine hw_ret ?_
    exact ret_q rfl ⟨_, rfl, rfl⟩

/-- math/bits.Len -/
theorem c_bits_Len_s [Tracks] {x : Nat} (hx : x < 16) : Con Tryz.prog 135 [.int .u64 (x : Int)] [] (fun y M' => ∃ n : Int, y = .int .i64 n ∧ M' = []) := by
 refine Con.of_body Tryz.func135 rfl Tryz.ntmps135 rfl rfl ?_
 refine hw_reg ?_
 refine dp rfl (pop_assign rfl) ?_
 refine dn ?_
 refine hw_seq ?_
 refine hw_cond_f rfl ?_
 refine hw_skip ?_
 refine seqQ_n ?_
 refine hw_reg ?_
 refine dp rfl (pop_move rfl) ?_
 refine de rfl (eop_callf (M1 := []) (R := []) ca222 rfl (WeakL.refl _) (List.Perm.refl _) (c_bits_Len64_s hx) ?_)
 rintro _ _ ⟨n7, rfl, rfl⟩
 refine dp rfl (pop_assign rfl) ?_
 refine dn ?_
 refine hw_ret ?_
 exact ret_q rfl ⟨_, rfl, rfl⟩

set_option maxHeartbeats 1000000 in
/-- slices.insertionSortCmpFunc[benchwarmer/api.Asset] -/
theorem c_slices_insertionSortCmpFunc_api_Asset [Tracks] {l : List Asset} {v : Value} {fid : FuncId} {caps : List HVal} {c : Asset → Asset → Int} {n : Int} (hca : Callable Tryz.prog fid) (hp : ∀ x y, ConP Tryz.prog fid ([eAsset x, eAsset y] ++ caps) (.int .i64 (c x y))) (hn : n = l.length) (hl : l.length ≤ 1000000) : Con Tryz.prog 379 [.raw v, .int .i64 0, .int .i64 n, .fn (.func fid) [] caps] [.arr v 3 (l.map eAsset)] (fun x M' => x = .tup [] ∧ M' = [.arr v 3 ((isort c l).map eAsset)]) := by
 subst hn
 refine Con.of_body Tryz.func379 rfl Tryz.ntmps379 rfl rfl ?_
 refine hw_reg ?_
 refine dp rfl (pop_move rfl) ?_
 refine dp rfl (pop_add64 rfl rfl (by omega) (by omega)) ?_
 refine dp rfl (pop_assign rfl) ?_
 refine dn ?_
 refine hw_block ?_
 refine hw_loopw [8, 9, 12, 13, 14, 15, 16, 17, 18, 19, 20, 21, 22, 23, 24, 25, 26, 27, 28, 29, 30, 31, 32, 33, 34, 35, 36, 37, 38, 39, 40, 41, 42, 43, 44, 45, 46, 47, 48, 49, 50, 51, 52] (fun (k : Nat) => [(8, .int .i64 (k : Int))]) (fun (k : Nat) => [.arr v 3 ((isort c (l.take k) ++ l.drop k).map eAsset)]) (fun (k : Nat) => 1 ≤ k) (fun (k : Nat) => l.length - k) (1) ?_ ?_ ?_ ?_
 ·exact Nat.le_refl _
 ·exact ⟨rfl, trivial⟩
 ·exact perm_eq (by rw [isort_take1])
 ·intro k hk
  refine hw_seq ?_
  refine hw_reg ?_
  refine dp rfl (pop_move rfl) ?_
  refine dp rfl (pop_move rfl) ?_
  refine dp rfl (pop_lss rfl rfl) ?_
  refine dn ?_
  refine hw_cond rfl (fun h1 => ?_) (fun h2 => ?_)
  ·try simp at h1
   obtain ⟨x, hx⟩ : ∃ x, l[k]? = some x := ⟨_, List.getElem?_eq_getElem (by omega)⟩
   refine hw_arrc (i := 0) rfl (fun h0 he => ?_) (fun b off cap hv hcap => ?_)
   ·exfalso; have := congrArg List.length he; simp [isort_len] at this; omega
   rw [show ((isort c (l.take k) ++ l.drop k).map eAsset).length = l.length by simp [isort_len]; omega] at hv
   subst hv
   refine hw_skip ?_
   refine seqQ_n ?_
   refine hw_seq ?_
   refine hw_block ?_
   refine hw_reg ?_
   refine dp rfl (pop_move rfl) ?_
   refine dp rfl (pop_assign rfl) ?_
   refine dn ?_
   refine hw_block ?_
   refine hw_loopw2 [9, 18, 19, 20, 21, 22, 23, 24, 25, 26, 27, 28, 29, 30, 31, 32, 33, 34, 35, 36, 37, 38, 39, 40, 41, 42, 43, 44, 45, 46, 47, 48, 49, 50, 51, 52] (fun (A : List Asset) (B : List Asset) => [(9, .int .i64 (A.length : Int))]) (fun (A : List Asset) (B : List Asset) => [.arr (.slice (some ⟨b, off, none⟩) l.length cap) 3 ((A ++ x :: (B ++ l.drop (k + 1))).map eAsset)]) (fun (A : List Asset) (B : List Asset) => A.length + B.length = k ∧ insB c x (isort c (l.take k)) = insB c x A ++ B) (fun (A : List Asset) (B : List Asset) => A.length) (isort c (l.take k)) ([]) ?_ ?_ ?_ ?_
   ·exact ⟨by simp [isort_len]; omega, by simp⟩
   ·exact ⟨some_int (by simp [isort_len]; omega), trivial⟩
   ·exact perm_eq (by rw [drop_cons hx]; rfl)
   ·intro A B hinv
    obtain ⟨hA, hB⟩ := hinv
    have hlA : A.length < l.length := by omega
    have hll : ((A ++ x :: (B ++ l.drop (k + 1)))).length = l.length := by simp; omega
    refine hw_seq ?_
    refine hw_draw (fun M => M = [.arr (.slice (some ⟨b, off, none⟩) l.length cap) 3 ((A ++ x :: (B ++ l.drop (k + 1))).map eAsset)]) [8, 13] mixed ?_
    refine ahp 0 rfl rfl (by kernel_rfl) (by kernel_rfl) (pop_move rfl) ?_
    refine ahp 1 rfl rfl (by kernel_rfl) (by kernel_rfl) (pop_move rfl) ?_
    refine ahp 2 rfl rfl (by kernel_rfl) (by kernel_rfl) (pop_gtr rfl rfl) ?_
    refine ahp 3 rfl rfl (by kernel_rfl) (by kernel_rfl) (pop_move rfl) ?_
    refine ahg 4 rfl rfl (by kernel_rfl) (by kernel_rfl) rfl (fun hc => ⟨_, OpenTo.refl _, pop_move rfl⟩) ?_
    refine ahg 5 rfl rfl (by kernel_rfl) (by kernel_rfl) rfl (fun hc => ⟨_, OpenTo.refl _, pop_move rfl⟩) ?_
    refine ahg 6 rfl rfl (by kernel_rfl) (by kernel_rfl) rfl (fun hc => ⟨_, OpenTo.refl _, pop_move rfl⟩) ?_
    refine ahg 7 rfl rfl (by kernel_rfl) (by kernel_rfl) rfl (fun hc => by
     have hq : 0 < A.length := by simpa using hc
     exact ⟨_, OpenTo.upd (t := 24) rfl (hc) (OpenTo.upd (t := 23) rfl (hc) (OpenTo.refl _)), pop_idxraw (j := A.length) ty119 ty135 rfl rfl (by rfl) (by omega)⟩) ?_
    refine ahgl 8 rfl rfl (by kernel_rfl) (by kernel_rfl) (by simp) rfl rfl (fun hc => ⟨_, OpenTo.upd (t := 25) rfl (hc) (OpenTo.refl _), fun M hM => by
     subst hM; exact eop_load_elw (i := 0) (j := A.length) ty135 rfl rfl rfl get_mid rfl rfl rfl ⟨rfl, rfl⟩
     ⟩) ?_
    refine ahg 9 rfl rfl (by kernel_rfl) (by kernel_rfl) rfl (fun hc => ⟨_, OpenTo.refl _, pop_move rfl⟩) ?_
    refine ahg 10 rfl rfl (by kernel_rfl) (by kernel_rfl) rfl (fun hc => ⟨_, OpenTo.refl _, pop_move rfl⟩) ?_
    refine ahg 11 rfl rfl (by kernel_rfl) (by kernel_rfl) rfl (fun hc => by
     have hq : 0 < A.length := by simpa using hc
     exact ⟨_, OpenTo.upd (t := 28) rfl (hc) (OpenTo.refl _), pop_sub64 rfl rfl (by omega) (by omega)⟩) ?_
    refine ahg 12 rfl rfl (by kernel_rfl) (by kernel_rfl) rfl (fun hc => by
     have hq : 0 < A.length := by simpa using hc
     exact ⟨_, OpenTo.upd (t := 29) rfl (hc) (OpenTo.upd (t := 27) rfl (hc) (OpenTo.refl _)), pop_idxraw (j := A.length - 1) ty119 ty135 rfl rfl (by omega) (by omega)⟩) ?_
    refine ahgl 13 rfl rfl (by kernel_rfl) (by kernel_rfl) (by simp) rfl rfl (fun hc => ⟨_, OpenTo.upd (t := 30) rfl (hc) (OpenTo.refl _), fun M hM => by
     have hq : 0 < A.length := by simpa using hc
     subst hM; exact eop_load_elw (i := 0) (j := A.length - 1) ty135 rfl rfl rfl (get_before hq) rfl rfl rfl ⟨rfl, rfl⟩
     ⟩) ?_
    refine ahg 14 rfl rfl (by kernel_rfl) (by kernel_rfl) rfl (fun hc => ⟨_, OpenTo.upd (t := 31) rfl (hc) (OpenTo.upd (t := 26) rfl (hc) (OpenTo.upd (t := 22) rfl (hc) (OpenTo.refl _))), pop_callv hca rfl rfl (WeakL.refl _) (hp _ _)⟩) ?_
    refine ahg 15 rfl rfl (by kernel_rfl) (by kernel_rfl) rfl (fun hc => ⟨_, OpenTo.upd (t := 32) rfl (hc) (OpenTo.refl _), pop_lss rfl rfl⟩) ?_
    refine ahp 16 rfl rfl (by kernel_rfl) (by kernel_rfl) (pop_picko rfl (.inr ⟨_, rfl, fun h => by simp_all⟩) (.inl rfl)) ?_
    refine ahz (by kernel_rfl) ?_
    refine hw_cond rfl (fun h3 => ?_) (fun h4 => ?_)
    ·try simp at h3
     obtain ⟨hA0, hcx⟩ := h3
     obtain ⟨A1, y, rfl⟩ := snoc_of hA0
     rw [getD_snoc] at hcx
     refine hw_skip ?_
     refine seqQ_n ?_
     refine hw_seq ?_
     refine hw_block ?_
     refine hw_draw1 (fun M => M = [.arr (.slice (some ⟨b, off, none⟩) l.length cap) 3 (((A1 ++ [y]) ++ x :: (B ++ l.drop (k + 1))).map eAsset)]) [9, 13] mixed ?_
     refine ahp 0 rfl rfl (by kernel_rfl) (by kernel_rfl) (pop_move rfl) ?_
     refine ahp 1 rfl rfl (by kernel_rfl) (by kernel_rfl) (pop_move rfl) ?_
     refine ahp 2 rfl rfl (by kernel_rfl) (by kernel_rfl) (pop_move rfl) ?_
     refine ahp 3 rfl rfl (by kernel_rfl) (by kernel_rfl) (pop_move rfl) ?_
     refine ahp 4 rfl rfl (by kernel_rfl) (by kernel_rfl) (pop_sub64 rfl rfl (by omega) (by omega)) ?_
     refine ahp 5 rfl rfl (by kernel_rfl) (by kernel_rfl) (pop_move rfl) ?_
     refine ahp 6 rfl rfl (by kernel_rfl) (by kernel_rfl) (pop_move rfl) ?_
     refine ahp 7 rfl rfl (by kernel_rfl) (by kernel_rfl) (pop_sub64 rfl rfl (by omega) (by omega)) ?_
     refine ahp 8 rfl rfl (by kernel_rfl) (by kernel_rfl) (pop_idxraw (j := (A1 ++ [y]).length - 1) ty119 ty135 rfl rfl (by omega) (by omega)) ?_
     refine ahl 9 rfl rfl (by kernel_rfl) (by kernel_rfl) (by simp) rfl (fun M hM => by subst hM; exact eop_load_elw (i := 0) (j := (A1 ++ [y]).length - 1) ty135 rfl rfl rfl ((get_before hA0).trans (by rw [getD_snoc])) rfl rfl rfl ⟨rfl, rfl⟩) ?_
     refine ahp 10 rfl rfl (by kernel_rfl) (by kernel_rfl) (pop_move rfl) ?_
     refine ahp 11 rfl rfl (by kernel_rfl) (by kernel_rfl) (pop_move rfl) ?_
     refine ahp 12 rfl rfl (by kernel_rfl) (by kernel_rfl) (pop_idxraw (j := (A1 ++ [y]).length) ty119 ty135 rfl rfl rfl (by omega)) ?_
     refine ahl 13 rfl rfl (by kernel_rfl) (by kernel_rfl) (by simp) rfl (fun M hM => by subst hM; exact eop_load_elw (i := 0) (j := (A1 ++ [y]).length) ty135 rfl rfl rfl get_mid rfl rfl rfl ⟨rfl, rfl⟩) ?_
     refine ahp 14 rfl rfl (by kernel_rfl) (by kernel_rfl) (pop_idxraw (j := (A1 ++ [y]).length) ty119 ty135 rfl rfl rfl (by omega)) ?_
     refine ahe 15 rfl (by kernel_rfl) ?_
     refine hop_e0 (eop_store_elw (i := 0) (j := (A1 ++ [y]).length) (y := x) (y' := y) ty135 rfl rfl rfl rfl get_mid rfl rfl rfl ?_)
     refine ⟨fun _ => .inr (by simp [Before, Region.binds]), ?_⟩
     refine ahp 16 rfl rfl (by kernel_rfl) (by kernel_rfl) (pop_idxraw (j := (A1 ++ [y]).length - 1) ty119 ty135 rfl rfl (by omega) (by omega)) ?_
     refine ahe 17 rfl (by kernel_rfl) ?_
     refine hop_e0 (eop_store_elw (i := 0) (j := (A1 ++ [y]).length - 1) (y := y) (y' := x) ty135 rfl rfl rfl rfl (by rw [List.getElem?_set_ne (by simp)]; exact (get_before hA0).trans (by rw [getD_snoc])) rfl rfl rfl ?_)
     refine ⟨fun _ => .inr (by simp [Before, Region.binds]), ?_⟩
     refine ahz (by kernel_rfl) ?_
     refine blockQ_n ?_
     refine seqQ_n ?_
     refine hw_reg1 ?_
     refine dp rfl (pop_move rfl) ?_
     refine dp rfl (pop_sub64 rfl rfl (by omega) (by omega)) ?_
     refine dp rfl (pop_assign rfl) ?_
     refine dn ?_
     exact ⟨A1, y :: B, ⟨by simp at hA ⊢; omega, ins_step hB hcx⟩, by dsimp only; simp, ⟨some_int (by simp), trivial⟩, (by repeat (first | exact keeps_refl | refine keeps_upd rfl ?_ | refine keeps_loop rfl rfl ?_)), perm_eq (by rw [swap_mid]; rfl)⟩
    ·try simp at h4
     have hins := ins_exit (l := l) (k := k) hx hB (by intro h0; have := h4 h0; omega)
     refine hw_exit ?_
     refine seqQ_x ?_
     refine loopQ2_x ?_
     refine blockQ_eq ?_
     refine blockQ_n ?_
     refine seqQ_n ?_
     refine hw_reg1 ?_
     refine dp rfl (pop_move rfl) ?_
     refine dp rfl (pop_add64 rfl rfl (by omega) (by omega)) ?_
     refine dp rfl (pop_assign rfl) ?_
     refine dn ?_
     refine ⟨k + 1, ?_, ?_, ⟨rfl, trivial⟩, (by repeat (first | exact keeps_refl | refine keeps_upd rfl ?_ | refine keeps_loop rfl rfl ?_)), perm_eq (by rw [hins])⟩
     ·omega
     ·dsimp only; omega
  ·try simp at h2
   have hend : isort c (l.take k) ++ l.drop k = isort c l := by rw [List.take_of_length_le (by omega), drop_all (by omega)]; simp
   refine hw_exit ?_
   refine seqQ_x ?_
   refine loopQ_x ?_
   refine blockQ_eq ?_
   exact ⟨_, _, Ghost.sub (Sub.refl _), _, _, rfl, Weak.refl _, rfl, by rw [hend]⟩

/-- slices.pdqsortCmpFunc[benchwarmer/api.Asset] -/
theorem c_slices_pdqsortCmpFunc_api_Asset [Tracks] {l : List Asset} {v : Value} {fid : FuncId} {caps : List HVal} {c : Asset → Asset → Int} {lim : Int} (hca : Callable Tryz.prog fid) (hp : ∀ x y, ConP Tryz.prog fid ([eAsset x, eAsset y] ++ caps) (.int .i64 (c x y))) (hl : l.length ≤ 12) : Con Tryz.prog 349 [.raw v, .int .i64 0, .int .i64 (l.length : Int), .int .i64 lim, .fn (.func fid) [] caps] [.arr v 3 (l.map eAsset)] (fun x M' => x = .tup [] ∧ M' = [.arr v 3 ((isort c l).map eAsset)]) := by
 refine Con.of_body Tryz.func349 rfl Tryz.ntmps349 rfl rfl ?_
 refine hw_reg ?_
 refine dp rfl (pop_assign rfl) ?_
 refine dn ?_
 refine hw_reg ?_
 refine dp rfl (pop_assign rfl) ?_
 refine dn ?_
 refine hw_block ?_
 refine hw_loopw (1 :: 2 :: 3 :: 10 :: 11 :: 12 :: 13 :: 14 :: 15 :: 16 :: 17 :: 18 :: 19 :: 20 :: 21 :: 22 :: 23 :: 24 :: 25 :: 26 :: 27 :: 28 :: 29 :: 30 :: 31 :: 32 :: 33 :: 34 :: 35 :: 36 :: 37 :: 38 :: 39 :: 40 :: 41 :: 42 :: 43 :: 44 :: 45 :: 46 :: 47 :: 48 :: 49 :: 50 :: 51 :: 52 :: 53 :: 54 :: 55 :: 56 :: 57 :: 58 :: 59 :: 60 :: 61 :: 62 :: 63 :: 64 :: 65 :: 66 :: 67 :: 68 :: 69 :: 70 :: 71 :: 72 :: 73 :: 74 :: 75 :: 76 :: 77 :: 78 :: 79 :: 80 :: 81 :: 82 :: 83 :: 84 :: 85 :: 86 :: 87 :: 88 :: 89 :: 90 :: 91 :: 92 :: 93 :: 94 :: 95 :: 96 :: 97 :: 98 :: 99 :: 100 :: 101 :: 102 :: 103 :: 104 :: 105 :: 106 :: 107 :: 108 :: 109 :: 110 :: 111 :: 112 :: 113 :: 114 :: 115 :: 116 :: 117 :: 118 :: 119 :: 120 :: 121 :: 122 :: 123 :: 124 :: 125 :: 126 :: 127 :: 128 :: 129 :: 130 :: 131 :: 132 :: 133 :: 134 :: 135 :: 136 :: 137 :: 138 :: 139 :: 140 :: 141 :: 142 :: 143 :: 144 :: 145 :: 146 :: 147 :: []) (fun (u : Unit) => [(1, .int .i64 0), (2, .int .i64 (l.length : Int))]) (fun (u : Unit) => [.arr v 3 (l.map eAsset)]) (fun (u : Unit) => True) (fun (u : Unit) => 0) (()) ?_ ?_ ?_ ?_
 ·trivial
 ·exact ⟨rfl, rfl, trivial⟩
 ·exact List.Perm.refl _
 ·intro u hu
  refine hw_block ?_
  refine hw_reg ?_
  refine dp rfl (pop_move rfl) ?_
  refine dp rfl (pop_move rfl) ?_
  refine dp rfl (pop_sub64 rfl rfl (by omega) (by omega)) ?_
  refine dp rfl (pop_assign rfl) ?_
  refine dn ?_
  refine hw_seq ?_
  refine hw_reg ?_
  refine dp rfl (pop_move rfl) ?_
  refine dp rfl (pop_leq rfl rfl) ?_
  refine dn ?_
  refine hw_cond rfl (fun h1 => ?_) (fun h1 => ?_)
  ·try simp at h1
   refine hw_reg ?_
   refine dp rfl (pop_move rfl) ?_
   refine dp rfl (pop_move rfl) ?_
   refine dp rfl (pop_move rfl) ?_
   refine dp rfl (pop_move rfl) ?_
   refine de rfl (eop_callx (i := 0) ca379 rfl (WeakL.refl _) rfl (c_slices_insertionSortCmpFunc_api_Asset (l := l) hca hp (by omega) (by omega)) ?_)
   rintro _ _ ⟨rfl, rfl⟩
   refine dn ?_
   refine hw_ret ?_
   exact ret_q rfl ⟨rfl, rfl⟩
  ·exfalso
   try simp at h1
   omega

/-- slices.SortFunc[[]benchwarmer/api.Asset,benchwarmer/api.Asset] -/
theorem c_slices_SortFunc_api_Asset_api_Asset [Tracks] {l : List Asset} {v : Value} {fid : FuncId} {caps : List HVal} {c : Asset → Asset → Int} (hca : Callable Tryz.prog fid) (hp : ∀ x y, ConP Tryz.prog fid ([eAsset x, eAsset y] ++ caps) (.int .i64 (c x y))) (hl : l.length ≤ 12) : Con Tryz.prog 300 [.raw v, .fn (.func fid) [] caps] [.arr v 3 (l.map eAsset)] (fun x M' => x = .tup [] ∧ M' = [.arr v 3 ((isort c l).map eAsset)]) := by
 refine Con.of_body Tryz.func300 rfl Tryz.ntmps300 rfl rfl ?_
 refine hw_reg ?_
 refine dp rfl (pop_move rfl) ?_
 refine de rfl (eop_lenm (i := 0) ty119 rfl rfl ?_)
 refine dp rfl (pop_assign rfl) ?_
 refine dn ?_
 refine hw_reg1 ?_
 refine dp rfl (pop_move rfl) ?_
 refine dp rfl (pop_move rfl) ?_
 refine dp rfl (pop_move rfl) ?_
 refine dp rfl (pop_eq (pop_conv ty3 ty227 rfl) (congrArg _ (wrapu64 (by omega)))) ?_
 refine de rfl (eop_callf (M1 := []) (R := [_]) ca135 rfl (WeakL.refl _) (List.Perm.refl _) (c_bits_Len_s (x := l.length) (by omega)) ?_)
 rintro _ _ ⟨n11, rfl, rfl⟩
 refine dp rfl (pop_move rfl) ?_
 refine de rfl (eop_callx (i := 0) ca349 rfl (WeakL.refl _) rfl (c_slices_pdqsortCmpFunc_api_Asset hca hp hl) ?_)
 rintro _ _ ⟨rfl, rfl⟩
 refine dn ?_
 exact ⟨_, _, Ghost.sub (Sub.refl _), _, _, rfl, Weak.refl _, rfl, rfl⟩

end Go.Proofs.YtcnfhcicepmjcaaGreatDoor
end
section
namespace Go.Proofs.YtcnfhcicepmjcaaGreatDoor
open Go.HL
set_option maxRecDepth 100000
set_option linter.unusedVariables false
set_option linter.unusedSimpArgs false
end Go.Proofs.YtcnfhcicepmjcaaGreatDoor
end
section
namespace Go.Proofs.YtcnfhcicepmjcaaGreatDoor
open Go.HL
set_option maxRecDepth 100000
set_option linter.unusedVariables false
set_option linter.unusedSimpArgs false
/-- benchwarmer/value.assetFault -/
theorem c_value_assetFault [Tracks] {x : Asset}  : ConP Tryz.prog 165 [eAsset x] (.int .i64 (assetFault x)) := by
 refine Con.of_body Tryz.func165 rfl Tryz.ntmps165 rfl rfl ?_
 refine hw_reg ?_
 refine dp rfl (pop_box rfl rfl) ?_
 refine dp rfl (pop_assign rfl) ?_
 refine dn ?_
 refine hw_seq ?_
 refine hw_block ?_
 refine hw_reg ?_
 refine dp rfl (pop_fieldAddr ty135 rfl ty9 (by decide) rfl) ?_
 refine dp rfl (pop_load ty9 rfl rfl rfl) ?_
 refine dp rfl (pop_call ca90 rfl (WeakL.refl _) c_base_Key) ?_
 refine dp rfl (pop_not rfl) ?_
 refine dp rfl (pop_move rfl) ?_
 refine dg rfl rfl (fun hc => ⟨_, OpenTo.refl _, pop_fieldAddr ty135 rfl ty9 (by decide) rfl⟩) ?_
 refine dg rfl rfl (fun hc => ⟨_, OpenTo.upd (t := 9) rfl (hc) (OpenTo.refl _), pop_load ty9 rfl rfl rfl⟩) ?_
 refine dg rfl rfl (fun hc => ⟨_, OpenTo.upd (t := 10) rfl (hc) (OpenTo.refl _), pop_call ca90 rfl (WeakL.refl _) c_base_Key⟩) ?_
 refine dg rfl rfl (fun hc => ⟨_, OpenTo.upd (t := 11) rfl (hc) (OpenTo.refl _), pop_not rfl⟩) ?_
 refine dp rfl (pop_picko rfl (.inl rfl) (.inr ⟨_, rfl, fun h => by simp_all⟩)) ?_
 refine dp rfl (pop_assign rfl) ?_
 refine dn ?_
 refine hw_cond rfl (fun h1 => ?_) (fun h2 => ?_)
 ·try simp at h1
  refine hw_reg ?_
  refine dp rfl (pop_assign rfl) ?_
  refine dn ?_
  refine hw_ret ?_
  refine ret_p rfl ?_
  show HVal.int .i64 _ = _
  simp_all [assetFault]
 ·try simp at h2
  refine hw_reg ?_
  refine dp rfl (pop_fieldAddr ty135 rfl ty3 (by decide) rfl) ?_
  refine dp rfl (pop_load ty3 rfl rfl rfl) ?_
  refine dp rfl (pop_call ca160 rfl (WeakL.refl _) c_base_Out) ?_
  refine dp rfl (pop_assign rfl) ?_
  refine dn ?_
  refine hw_cond rfl (fun h3 => ?_) (fun h4 => ?_)
  ·try simp at h3
   refine hw_reg ?_
   refine dp rfl (pop_assign rfl) ?_
   refine dn ?_
   refine hw_ret ?_
   refine ret_p rfl ?_
   show HVal.int .i64 _ = _
   simp_all [assetFault]
  ·try simp at h4
   refine hw_skip ?_
   refine blockQ_n ?_
   refine seqQ_n ?_
   refine hw_reg ?_
   refine dp rfl (pop_assign rfl) ?_
   refine dn ?_
   refine hw_ret ?_
   refine ret_p rfl ?_
   show HVal.int .i64 _ = _
   simp_all [assetFault]

/-- benchwarmer/value.CheckAssets -/
theorem c_value_CheckAssets [Tracks] {l : List Asset} (hl : l.length ≤ 1000000) : ConP Tryz.prog 162 [eAssets l] (.int .i64 (checkAssets l)) := by
 refine Con.of_body Tryz.func162 rfl Tryz.ntmps162 rfl rfl ?_
 refine hw_reg ?_
 refine dp rfl (pop_assign rfl) ?_
 refine dn ?_
 refine hw_seq ?_
 refine hw_reg ?_
 refine dp rfl (pop_move rfl) ?_
 refine dp rfl (pop_lenm ty119 rfl) ?_
 refine dp rfl (pop_gtr rfl rfl) ?_
 refine dn ?_
 refine hw_cond rfl (fun h1 => ?_) (fun h2 => ?_)
 ·try simp at h1
  refine hw_reg ?_
  refine dp rfl (pop_assign rfl) ?_
  refine dn ?_
  refine hw_ret ?_
  refine ret_p rfl ?_
  show HVal.int .i64 _ = _
  (rw [checkAssets, if_pos (by omega)]; done)
 ·try simp at h2
  refine hw_skip ?_
  refine seqQ_n ?_
  refine hw_seq ?_
  refine hw_reg ?_
  refine dp rfl (pop_move rfl) ?_
  refine dp rfl (pop_lenm ty119 rfl) ?_
  refine dp rfl (pop_move rfl) ?_
  refine dn ?_
  refine hw_block ?_
  refine hw_loopw [2, 3, 4, 5, 11, 12, 13, 14, 15, 16, 17, 18, 19, 20, 21, 22, 23, 24, 25, 26, 27, 28, 29, 30, 31, 32, 33, 34] (fun (k : Nat) => [(11, .int .i64 k)]) (fun (k : Nat) => []) (fun (k : Nat) => k ≤ l.length ∧ (checkAssets l = assetsGo l k (l.drop k))) (fun (k : Nat) => l.length - k) (0) ?_ ?_ ?_ ?_
  ·refine ⟨Nat.zero_le _, ?_⟩
   rw [checkAssets, if_neg (by omega)]; rfl
  ·exact ⟨rfl, trivial⟩
  ·exact List.Perm.refl _
  ·intro k hinv
   obtain ⟨hk, hg⟩ := hinv
   refine hw_reg ?_
   refine dp rfl (pop_lss rfl rfl) ?_
   refine dn ?_
   refine hw_seq ?_
   refine hw_cond rfl (fun h3 => ?_) (fun h4 => ?_)
   ·try simp at h3
    obtain ⟨x, hx⟩ : ∃ x, l[k]? = some x := ⟨_, List.getElem?_eq_getElem h3⟩
    have hdx := drop_cons hx
    rw [hdx] at hg
    refine hw_skip ?_
    refine seqQ_n ?_
    refine hw_seq ?_
    refine hw_block ?_
    refine hw_reg ?_
    refine dp rfl (pop_move rfl) ?_
    refine dp rfl (pop_idx ty119 ty135 rfl rfl rfl (by assumption)) ?_
    refine dp rfl (pop_loadw ty135 rfl rfl rfl rfl) ?_
    refine de rfl (eop_alloc ty135 rfl fun b4 => ?_)
    refine dp rfl (pop_assign rfl) ?_
    refine de0 (eop_storew ty135 rfl rfl rfl rfl rfl ?_)
    refine dn ?_
    refine hw_ghost (Ghost.fc0 4 rfl) ?_
    refine hw_seq ?_
    refine hw_reg ?_
    refine dp rfl (pop_loadw ty135 rfl rfl rfl rfl) ?_
    refine dp rfl (pop_call ca165 rfl (WeakL.refl _) c_value_assetFault) ?_
    refine dp rfl (pop_assign rfl) ?_
    refine dn ?_
    refine hw_reg ?_
    refine dp rfl (pop_move rfl) ?_
    refine dp rfl (pop_neq rfl rfl) ?_
    refine dn ?_
    refine hw_cond rfl (fun h5 => ?_) (fun h6 => ?_)
    ·try simp at h5
     refine hw_reg ?_
     refine dp rfl (pop_move rfl) ?_
     refine dp rfl (pop_assign rfl) ?_
     refine dn ?_
     refine hw_ret ?_
     refine ret_p rfl ?_
     show HVal.int .i64 _ = _
     (rw [hg]; simp_all [assetsGo, leS]; done)
    ·try simp at h6
     refine hw_skip ?_
     refine seqQ_n ?_
     refine hw_draw (fun _ => True) [] mixed ?_
     refine ahp 0 rfl rfl (by kernel_rfl) (by kernel_rfl) (pop_move rfl) ?_
     refine ahp 1 rfl rfl (by kernel_rfl) (by kernel_rfl) (pop_gtr rfl rfl) ?_
     refine ahp 2 rfl rfl (by kernel_rfl) (by kernel_rfl) (pop_move rfl) ?_
     refine ahg 3 rfl rfl (by kernel_rfl) (by kernel_rfl) rfl (fun hc => ⟨_, OpenTo.refl _, pop_fieldAddr ty135 rfl ty9 (by decide) rfl⟩) ?_
     refine ahg 4 rfl rfl (by kernel_rfl) (by kernel_rfl) rfl (fun hc => ⟨_, OpenTo.upd (t := 24) rfl (hc) (OpenTo.refl _), pop_load ty9 rfl rfl rfl⟩) ?_
     refine ahg 5 rfl rfl (by kernel_rfl) (by kernel_rfl) rfl (fun hc => ⟨_, OpenTo.refl _, pop_move rfl⟩) ?_
     refine ahg 6 rfl rfl (by kernel_rfl) (by kernel_rfl) rfl (fun hc => ⟨_, OpenTo.refl _, pop_move rfl⟩) ?_
     refine ahg 7 rfl rfl (by kernel_rfl) (by kernel_rfl) rfl (fun hc => by have hq := hc; (try simp at hq); exact ⟨_, OpenTo.upd (t := 27) rfl (hc) (OpenTo.refl _), pop_sub64 rfl rfl (by omega) (by omega)⟩) ?_
     refine ahg 8 rfl rfl (by kernel_rfl) (by kernel_rfl) rfl (fun hc => by have hq := hc; (try simp at hq); exact ⟨_, OpenTo.upd (t := 28) rfl (hc) (OpenTo.upd (t := 26) rfl (hc) (OpenTo.refl _)), pop_idx (j := k - 1) (a := l.getD (k - 1) asset0) ty119 ty135 rfl rfl (by omega) (getD_some (by omega))⟩) ?_
     refine ahg 9 rfl rfl (by kernel_rfl) (by kernel_rfl) rfl (fun hc => ⟨_, OpenTo.upd (t := 29) rfl (hc) (OpenTo.refl _), pop_fieldAddr ty135 rfl ty9 (by decide) rfl⟩) ?_
     refine ahg 10 rfl rfl (by kernel_rfl) (by kernel_rfl) rfl (fun hc => ⟨_, OpenTo.upd (t := 30) rfl (hc) (OpenTo.refl _), pop_load ty9 rfl rfl rfl⟩) ?_
     refine ahg 11 rfl rfl (by kernel_rfl) (by kernel_rfl) rfl (fun hc => ⟨_, OpenTo.upd (t := 31) rfl (hc) (OpenTo.upd (t := 25) rfl (hc) (OpenTo.refl _)), pop_leqs rfl rfl⟩) ?_
     refine ahp 12 rfl rfl (by kernel_rfl) (by kernel_rfl) (pop_picko rfl (.inr ⟨_, rfl, fun h => by simp_all⟩) (.inl rfl)) ?_
     refine ahz (by kernel_rfl) ?_
     refine hw_cond rfl (fun h7 => ?_) (fun h8 => ?_)
     ·try simp at h7
      refine hw_reg ?_
      refine dp rfl (pop_assign rfl) ?_
      refine dn ?_
      refine hw_ret ?_
      refine ret_p rfl ?_
      show HVal.int .i64 _ = _
      (rw [hg]; simp_all [assetsGo, leS]; done)
     ·try simp at h8
      refine hw_skip ?_
      refine blockQ_n ?_
      refine seqQ_n ?_
      refine hw_reg1 ?_
      refine dp rfl (pop_add64 rfl rfl (by omega) (by omega)) ?_
      refine dp rfl (pop_move rfl) ?_
      refine dn ?_
      refine ⟨k + 1, ?_, ?_, ⟨rfl, trivial⟩, (by repeat (first | exact keeps_refl | refine keeps_upd rfl ?_ | refine keeps_loop rfl rfl ?_)), List.Perm.refl _⟩
      ·refine ⟨by omega, ?_⟩
       rw [hg]; simp_all [assetsGo, leS]
      ·dsimp only; omega
   ·try simp at h4
    have hnk : l.length ≤ k := by omega
    obtain rfl : k = l.length := by omega
    rw [drop_all (Nat.le_refl _)] at hg
    refine hw_exit ?_
    refine seqQ_x ?_
    refine loopQ_x ?_
    refine blockQ_eq ?_
    refine seqQ_n ?_
    refine hw_reg ?_
    refine dp rfl (pop_assign rfl) ?_
    refine dn ?_
    refine hw_ret ?_
    refine ret_p rfl ?_
    show HVal.int .i64 _ = _
    (rw [hg]; simp_all [assetsGo, leS]; done)

/-- benchwarmer/value.CheckPlaces -/
theorem c_value_CheckPlaces [Tracks] {l : List HL.Place} (hl : l.length ≤ 1000000) : ConP Tryz.prog 163 [ePlaces l] (.int .i64 (checkPlaces l)) := by
 refine Con.of_body Tryz.func163 rfl Tryz.ntmps163 rfl rfl ?_
 refine hw_reg ?_
 refine dp rfl (pop_assign rfl) ?_
 refine dn ?_
 refine hw_seq ?_
 refine hw_reg ?_
 refine dp rfl (pop_move rfl) ?_
 refine dp rfl (pop_lenm ty121 rfl) ?_
 refine dp rfl (pop_gtr rfl rfl) ?_
 refine dn ?_
 refine hw_cond rfl (fun h1 => ?_) (fun h2 => ?_)
 ·try simp at h1
  refine hw_reg ?_
  refine dp rfl (pop_assign rfl) ?_
  refine dn ?_
  refine hw_ret ?_
  refine ret_p rfl ?_
  show HVal.int .i64 _ = _
  (rw [checkPlaces, if_pos (by omega)]; done)
 ·try simp at h2
  refine hw_skip ?_
  refine seqQ_n ?_
  refine hw_seq ?_
  refine hw_reg ?_
  refine dp rfl (pop_move rfl) ?_
  refine dp rfl (pop_lenm ty121 rfl) ?_
  refine dp rfl (pop_move rfl) ?_
  refine dn ?_
  refine hw_block ?_
  refine hw_loopw [2, 3, 4, 10, 11, 12, 13, 14, 15, 16, 17, 18, 19, 20, 21, 22, 23, 24, 25, 26, 27, 28, 29, 30, 31, 32, 33, 34, 35, 36, 37, 38] (fun (k : Nat) => [(10, .int .i64 k)]) (fun (k : Nat) => []) (fun (k : Nat) => k ≤ l.length ∧ (checkPlaces l = placesGo l k (l.drop k))) (fun (k : Nat) => l.length - k) (0) ?_ ?_ ?_ ?_
  ·refine ⟨Nat.zero_le _, ?_⟩
   rw [checkPlaces, if_neg (by omega)]; rfl
  ·exact ⟨rfl, trivial⟩
  ·exact List.Perm.refl _
  ·intro k hinv
   obtain ⟨hk, hg⟩ := hinv
   refine hw_reg ?_
   refine dp rfl (pop_lss rfl rfl) ?_
   refine dn ?_
   refine hw_seq ?_
   refine hw_cond rfl (fun h3 => ?_) (fun h4 => ?_)
   ·try simp at h3
    obtain ⟨x, hx⟩ : ∃ x, l[k]? = some x := ⟨_, List.getElem?_eq_getElem h3⟩
    have hdx := drop_cons hx
    rw [hdx] at hg
    refine hw_skip ?_
    refine seqQ_n ?_
    refine hw_seq ?_
    refine hw_block ?_
    refine hw_reg ?_
    refine dp rfl (pop_move rfl) ?_
    refine dp rfl (pop_idx ty121 ty209 rfl rfl rfl (by assumption)) ?_
    refine dp rfl (pop_loadw ty209 rfl rfl rfl rfl) ?_
    refine de rfl (eop_alloc ty209 rfl fun b4 => ?_)
    refine dp rfl (pop_assign rfl) ?_
    refine de0 (eop_storew ty209 rfl rfl rfl rfl rfl ?_)
    refine dn ?_
    refine hw_ghost (Ghost.fc0 4 rfl) ?_
    refine hw_block ?_
    refine hw_reg ?_
    refine dp rfl (pop_fieldAddr ty209 rfl ty9 (by decide) rfl) ?_
    refine dp rfl (pop_load ty9 rfl rfl rfl) ?_
    refine dp rfl (pop_call ca90 rfl (WeakL.refl _) c_base_Key) ?_
    refine dp rfl (pop_not rfl) ?_
    refine dp rfl (pop_assign rfl) ?_
    refine dn ?_
    refine hw_cond rfl (fun h5 => ?_) (fun h6 => ?_)
    ·try simp at h5
     refine hw_reg ?_
     refine dp rfl (pop_assign rfl) ?_
     refine dn ?_
     refine hw_ret ?_
     refine ret_p rfl ?_
     show HVal.int .i64 _ = _
     (rw [hg]; simp_all [placesGo, leS]; done)
    ·try simp at h6
     refine hw_reg ?_
     refine dp rfl (pop_fieldAddr ty209 rfl ty3 (by decide) rfl) ?_
     refine dp rfl (pop_load ty3 rfl rfl rfl) ?_
     refine dp rfl (pop_call ca160 rfl (WeakL.refl _) c_base_Out) ?_
     refine dp rfl (pop_assign rfl) ?_
     refine dn ?_
     refine hw_cond rfl (fun h7 => ?_) (fun h8 => ?_)
     ·try simp at h7
      refine hw_reg ?_
      refine dp rfl (pop_assign rfl) ?_
      refine dn ?_
      refine hw_ret ?_
      refine ret_p rfl ?_
      show HVal.int .i64 _ = _
      (rw [hg]; simp_all [placesGo, leS]; done)
     ·try simp at h8
      refine hw_draw (fun _ => True) [] mixed ?_
      refine ahp 0 rfl rfl (by kernel_rfl) (by kernel_rfl) (pop_move rfl) ?_
      refine ahp 1 rfl rfl (by kernel_rfl) (by kernel_rfl) (pop_gtr rfl rfl) ?_
      refine ahp 2 rfl rfl (by kernel_rfl) (by kernel_rfl) (pop_move rfl) ?_
      refine ahg 3 rfl rfl (by kernel_rfl) (by kernel_rfl) rfl (fun hc => ⟨_, OpenTo.refl _, pop_fieldAddr ty209 rfl ty9 (by decide) rfl⟩) ?_
      refine ahg 4 rfl rfl (by kernel_rfl) (by kernel_rfl) rfl (fun hc => ⟨_, OpenTo.upd (t := 28) rfl (hc) (OpenTo.refl _), pop_load ty9 rfl rfl rfl⟩) ?_
      refine ahg 5 rfl rfl (by kernel_rfl) (by kernel_rfl) rfl (fun hc => ⟨_, OpenTo.refl _, pop_move rfl⟩) ?_
      refine ahg 6 rfl rfl (by kernel_rfl) (by kernel_rfl) rfl (fun hc => ⟨_, OpenTo.refl _, pop_move rfl⟩) ?_
      refine ahg 7 rfl rfl (by kernel_rfl) (by kernel_rfl) rfl (fun hc => by have hq := hc; (try simp at hq); exact ⟨_, OpenTo.upd (t := 31) rfl (hc) (OpenTo.refl _), pop_sub64 rfl rfl (by omega) (by omega)⟩) ?_
      refine ahg 8 rfl rfl (by kernel_rfl) (by kernel_rfl) rfl (fun hc => by have hq := hc; (try simp at hq); exact ⟨_, OpenTo.upd (t := 32) rfl (hc) (OpenTo.upd (t := 30) rfl (hc) (OpenTo.refl _)), pop_idx (j := k - 1) (a := l.getD (k - 1) place0) ty121 ty209 rfl rfl (by omega) (getD_some (by omega))⟩) ?_
      refine ahg 9 rfl rfl (by kernel_rfl) (by kernel_rfl) rfl (fun hc => ⟨_, OpenTo.upd (t := 33) rfl (hc) (OpenTo.refl _), pop_fieldAddr ty209 rfl ty9 (by decide) rfl⟩) ?_
      refine ahg 10 rfl rfl (by kernel_rfl) (by kernel_rfl) rfl (fun hc => ⟨_, OpenTo.upd (t := 34) rfl (hc) (OpenTo.refl _), pop_load ty9 rfl rfl rfl⟩) ?_
      refine ahg 11 rfl rfl (by kernel_rfl) (by kernel_rfl) rfl (fun hc => ⟨_, OpenTo.upd (t := 35) rfl (hc) (OpenTo.upd (t := 29) rfl (hc) (OpenTo.refl _)), pop_leqs rfl rfl⟩) ?_
      refine ahp 12 rfl rfl (by kernel_rfl) (by kernel_rfl) (pop_picko rfl (.inr ⟨_, rfl, fun h => by simp_all⟩) (.inl rfl)) ?_
      refine ahp 13 rfl rfl (by kernel_rfl) (by kernel_rfl) (pop_assign rfl) ?_
      refine ahz (by kernel_rfl) ?_
      refine hw_cond rfl (fun h9 => ?_) (fun h10 => ?_)
      ·try simp at h9
       refine hw_reg ?_
       refine dp rfl (pop_assign rfl) ?_
       refine dn ?_
       refine hw_ret ?_
       refine ret_p rfl ?_
       show HVal.int .i64 _ = _
       (rw [hg]; simp_all [placesGo, leS]; done)
      ·try simp at h10
       refine hw_skip ?_
       refine blockQ_n ?_
       refine blockQ_n ?_
       refine seqQ_n ?_
       refine hw_reg1 ?_
       refine dp rfl (pop_add64 rfl rfl (by omega) (by omega)) ?_
       refine dp rfl (pop_move rfl) ?_
       refine dn ?_
       refine ⟨k + 1, ?_, ?_, ⟨rfl, trivial⟩, (by repeat (first | exact keeps_refl | refine keeps_upd rfl ?_ | refine keeps_loop rfl rfl ?_)), List.Perm.refl _⟩
       ·refine ⟨by omega, ?_⟩
        rw [hg]; simp_all [placesGo, leS]
       ·dsimp only; omega
   ·try simp at h4
    have hnk : l.length ≤ k := by omega
    obtain rfl : k = l.length := by omega
    rw [drop_all (Nat.le_refl _)] at hg
    refine hw_exit ?_
    refine seqQ_x ?_
    refine loopQ_x ?_
    refine blockQ_eq ?_
    refine seqQ_n ?_
    refine hw_reg ?_
    refine dp rfl (pop_assign rfl) ?_
    refine dn ?_
    refine hw_ret ?_
    refine ret_p rfl ?_
    show HVal.int .i64 _ = _
    (rw [hg]; simp_all [placesGo, leS]; done)

/-- benchwarmer/value.byValue -/
theorem c_value_byValue [Tracks] {x y : Asset}  : ConP Tryz.prog 301 [eAsset x, eAsset y] (.int .i64 (byValue x y)) := by
 refine Con.of_body Tryz.func301 rfl Tryz.ntmps301 rfl rfl ?_
 refine hw_reg ?_
 refine dp rfl (pop_box rfl rfl) ?_
 refine dp rfl (pop_box rfl rfl) ?_
 refine dp rfl (pop_assign rfl) ?_
 refine dn ?_
 refine hw_draw (fun _ => True) [] mixed ?_
 refine ahp 0 rfl rfl (by kernel_rfl) (by kernel_rfl) (pop_fieldAddr ty135 rfl ty3 (by decide) rfl) ?_
 refine ahp 1 rfl rfl (by kernel_rfl) (by kernel_rfl) (pop_load ty3 rfl rfl rfl) ?_
 refine ahp 2 rfl rfl (by kernel_rfl) (by kernel_rfl) (pop_fieldAddr ty135 rfl ty3 (by decide) rfl) ?_
 refine ahp 3 rfl rfl (by kernel_rfl) (by kernel_rfl) (pop_load ty3 rfl rfl rfl) ?_
 refine ahp 4 rfl rfl (by kernel_rfl) (by kernel_rfl) (pop_call ca171 rfl (WeakL.refl _) c_cmp_Compare_int) ?_
 refine ahp 5 rfl rfl (by kernel_rfl) (by kernel_rfl) (pop_fieldAddr ty135 rfl ty9 (by decide) rfl) ?_
 refine ahp 6 rfl rfl (by kernel_rfl) (by kernel_rfl) (pop_load ty9 rfl rfl rfl) ?_
 refine ahp 7 rfl rfl (by kernel_rfl) (by kernel_rfl) (pop_fieldAddr ty135 rfl ty9 (by decide) rfl) ?_
 refine ahp 8 rfl rfl (by kernel_rfl) (by kernel_rfl) (pop_load ty9 rfl rfl rfl) ?_
 refine ahp 9 rfl rfl (by kernel_rfl) (by kernel_rfl) (pop_call ca112 rfl (WeakL.refl _) c_strings_Compare) ?_
 refine ahp 10 rfl rfl (by kernel_rfl) (by kernel_rfl) (pop_buildSlice (hs := [_, _]) ty22 ty3 rfl rfl (by decide) (by decide) rfl) ?_
 refine ahp 11 rfl rfl (by kernel_rfl) (by kernel_rfl) (pop_call ca111 rfl (WeakL.refl _) (c_cmp_Or_int (l := [_, _]) (by simp))) ?_
 refine ahp 12 rfl rfl (by kernel_rfl) (by kernel_rfl) (pop_assign rfl) ?_
 refine ahz (by kernel_rfl) ?_
 refine hw_ret ?_
 refine ret_p rfl ?_
 rfl

/-- benchwarmer/value.of -/
theorem c_value_of [Tracks] {l : List Asset} {pos : Str} (hl : l.length ≤ 12) : ConP Tryz.prog 242 [eAssets l, .str pos] (eAssets (ofP l pos)) := by
 refine Con.of_body Tryz.func242 rfl Tryz.ntmps242 rfl rfl ?_
 refine hw_reg ?_
 refine dp rfl (pop_assign rfl) ?_
 refine dn ?_
 refine hw_reg ?_
 refine dp rfl (pop_assign rfl) ?_
 refine dn ?_
 refine hw_ghost (Ghost.arr_nil 3) ?_
 refine hw_seq ?_
 refine hw_reg ?_
 refine dp rfl (pop_move rfl) ?_
 refine dp rfl (pop_lenm ty119 rfl) ?_
 refine dp rfl (pop_move rfl) ?_
 refine dn ?_
 refine hw_block ?_
 refine hw_loopw2 [5, 7, 10, 11, 12, 13, 14, 15, 16, 17, 18, 19, 20, 21, 22] (fun (k : Nat) (u : Value) => [(10, .int .i64 k), (5, .raw u)]) (fun (k : Nat) (u : Value) => [.arr u 3 ((atPos (l.take k) pos).map eAsset)]) (fun (k : Nat) (u : Value) => k ≤ l.length ∧ (True)) (fun (k : Nat) (u : Value) => l.length - k) (0) (.slice none 0 0) ?_ ?_ ?_ ?_
 ·exact ⟨Nat.zero_le _, by simp_all⟩
 ·exact ⟨rfl, rfl, trivial⟩
 ·exact perm_eq (by simp [atPos])
 ·intro k u hinv
  obtain ⟨hk, -⟩ := hinv
  refine hw_reg ?_
  refine dp rfl (pop_lss rfl rfl) ?_
  refine dn ?_
  refine hw_seq ?_
  refine hw_cond rfl (fun h1 => ?_) (fun h2 => ?_)
  ·try simp at h1
   obtain ⟨x, hx⟩ : ∃ x, l[k]? = some x := ⟨_, List.getElem?_eq_getElem h1⟩
   have hdx := drop_cons hx
   refine hw_skip ?_
   refine seqQ_n ?_
   refine hw_seq ?_
   refine hw_block ?_
   refine hw_reg ?_
   refine dp rfl (pop_idx ty119 ty135 rfl rfl rfl (by assumption)) ?_
   refine dp rfl (pop_loadw ty135 rfl rfl rfl rfl) ?_
   refine de rfl (eop_alloc ty135 rfl fun b7 => ?_)
   refine de0 (eop_storew ty135 rfl rfl rfl rfl rfl ?_)
   refine dn ?_
   refine hw_ghost (Ghost.fc0 7 rfl) ?_
   refine hw_reg ?_
   refine dp rfl (pop_fieldAddr ty135 rfl ty9 (by decide) rfl) ?_
   refine dp rfl (pop_load ty9 rfl rfl rfl) ?_
   refine dp rfl (pop_move rfl) ?_
   refine dp rfl (pop_eqls rfl rfl) ?_
   refine dn ?_
   refine hw_cond rfl (fun h3 => ?_) (fun h4 => ?_)
   ·try simp at h3
    refine hw_reg1 ?_
    refine dp rfl (pop_move rfl) ?_
    refine dp rfl (pop_loadw ty135 rfl rfl rfl rfl) ?_
    refine dp rfl (pop_buildSlice (hs := [_]) ty119 ty135 rfl rfl (by decide) (by decide) rfl) ?_
    have hal : (atPos (l.take k) pos).length ≤ 12 := Nat.le_trans (atPos_le _ _) (by simp; omega)
    refine de rfl (eop_append (i := 0) ty119 ty135 rfl rfl rfl rfl rfl (by simp [flat, hcells]) (by simp; omega) fun v21 => ?_)
    refine dp rfl (pop_assign rfl) ?_
    refine dn ?_
    refine blockQ_n ?_
    refine seqQ_n ?_
    refine hw_reg1 ?_
    refine dp rfl (pop_add64 rfl rfl (by omega) (by omega)) ?_
    refine dp rfl (pop_move rfl) ?_
    refine dn ?_
    exact ⟨k + 1, _, ⟨by omega, trivial⟩, by dsimp only; omega, ⟨rfl, rfl, trivial⟩, (by repeat (first | exact keeps_refl | refine keeps_upd rfl ?_ | refine keeps_loop rfl rfl ?_)), perm_eq (by dsimp only; rw [atPos_snoc hx, if_pos (by simp_all)]; simp)⟩
   ·try simp at h4
    refine hw_skip ?_
    refine blockQ_n ?_
    refine seqQ_n ?_
    refine hw_reg1 ?_
    refine dp rfl (pop_add64 rfl rfl (by omega) (by omega)) ?_
    refine dp rfl (pop_move rfl) ?_
    refine dn ?_
    exact ⟨k + 1, _, ⟨by omega, trivial⟩, by dsimp only; omega, ⟨rfl, rfl, trivial⟩, (by repeat (first | exact keeps_refl | refine keeps_upd rfl ?_ | refine keeps_loop rfl rfl ?_)), perm_eq (by dsimp only; rw [atPos_snoc hx, if_neg (by simp_all)]; simp)⟩
  ·try simp at h2
   have hnk : l.length ≤ k := by omega
   obtain rfl : k = l.length := by omega
   rw [List.take_length]
   refine hw_exit ?_
   refine seqQ_x ?_
   refine loopQ2_x ?_
   refine blockQ_eq ?_
   refine seqQ_n ?_
   have hal := atPos_le l pos
   refine hw_reg ?_
   refine dp rfl (pop_move rfl) ?_
   refine de rfl (eop_callx (i := 0) ca300 rfl (WeakL.refl _) rfl (c_slices_SortFunc_api_Asset_api_Asset (l := atPos l pos) (c := byValue) (caps := []) ca301 (fun x y => c_value_byValue) (by omega)) ?_)
   rintro _ _ ⟨rfl, rfl⟩
   refine dn ?_
   refine hw_reg ?_
   refine dp rfl (pop_move rfl) ?_
   refine dp rfl (pop_assign rfl) ?_
   refine dn ?_
   refine hw_ret ?_
   exact ret_fa (M := []) 4 rfl rfl rfl

set_option maxHeartbeats 1000000 in
/-- benchwarmer/value.fielded -/
theorem c_value_fielded [Tracks] {l : List Asset} {p : List HL.Place} (hl : l.length ≤ 12) (hp : p.length ≤ 10) (hm : ∀ x ∈ p, 0 ≤ x.Many) (hv : ∀ x ∈ l, -1000000 ≤ x.Value ∧ x.Value ≤ 1000000) : ConP Tryz.prog 164 [eAssets l, ePlaces p] (.tup [.int .i64 (sumV (fieldedL (ofP l) p)), eSs (namesV (fieldedL (ofP l) p))]) := by
 have hon : ∀ s, (ofP l s).length ≤ 12 := fun s => Nat.le_trans (ofP_len l s) hl
 refine Con.of_body Tryz.func164 rfl Tryz.ntmps164 rfl rfl ?_
 refine hw_reg ?_
 refine dp rfl (pop_assign rfl) ?_
 refine dp rfl (pop_assign rfl) ?_
 refine dn ?_
 refine hw_reg ?_
 refine dp rfl (pop_assign rfl) ?_
 refine dn ?_
 refine hw_reg ?_
 refine dp rfl (pop_assign rfl) ?_
 refine dn ?_
 refine hw_ghost (Ghost.arr_nil 1) ?_
 refine hw_seq ?_
 refine hw_reg ?_
 refine dp rfl (pop_move rfl) ?_
 refine dp rfl (pop_lenm ty121 rfl) ?_
 refine dp rfl (pop_move rfl) ?_
 refine dn ?_
 refine hw_block ?_
 refine hw_loopw2 [6, 7, 9, 10, 12, 15, 16, 17, 18, 19, 20, 21, 22, 23, 24, 25, 26, 27, 28, 29, 30, 31, 32, 33, 34, 35, 36, 37, 38, 39, 40, 41, 42, 43, 44, 45, 46, 47, 48] (fun (i : Nat) (u : Value) => [(15, .int .i64 i), (6, .int .i64 (sumV (fieldedL (ofP l) (p.take i)))), (7, .raw u)]) (fun (i : Nat) (u : Value) => [.arr u 1 (((fieldedL (ofP l) (p.take i)).map (·.Player)).map .str)]) (fun (i : Nat) (u : Value) => i ≤ p.length ∧ (True)) (fun (i : Nat) (u : Value) => p.length - i) (0) (.slice none 0 0) ?_ ?_ ?_ ?_
 ·exact ⟨Nat.zero_le _, by simp_all⟩
 ·exact ⟨rfl, some_int (by simp [fieldedL, sumV]), rfl, trivial⟩
 ·exact perm_eq (by simp [fieldedL])
 ·intro i u hinv
  obtain ⟨hi, -⟩ := hinv
  refine hw_reg ?_
  refine dp rfl (pop_lss rfl rfl) ?_
  refine dn ?_
  refine hw_seq ?_
  refine hw_cond rfl (fun h1 => ?_) (fun h2 => ?_)
  ·try simp at h1
   obtain ⟨x, hx⟩ : ∃ x, p[i]? = some x := ⟨_, List.getElem?_eq_getElem h1⟩
   have hdx := drop_cons hx
   refine hw_skip ?_
   refine seqQ_n ?_
   refine hw_seq ?_
   refine hw_block ?_
   refine hw_reg ?_
   refine dp rfl (pop_idx ty121 ty209 rfl rfl rfl (by assumption)) ?_
   refine dp rfl (pop_loadw ty209 rfl rfl rfl rfl) ?_
   refine de rfl (eop_alloc ty209 rfl fun b9 => ?_)
   refine de0 (eop_storew ty209 rfl rfl rfl rfl rfl ?_)
   refine dn ?_
   refine hw_ghost (Ghost.fc0 9 rfl) ?_
   refine hw_reg ?_
   refine dp rfl (pop_move rfl) ?_
   refine dp rfl (pop_fieldAddr ty209 rfl ty9 (by decide) rfl) ?_
   refine dp rfl (pop_load ty9 rfl rfl rfl) ?_
   refine dp rfl (pop_call ca242 rfl (WeakL.refl _) (c_value_of (by assumption))) ?_
   refine dp rfl (pop_assign rfl) ?_
   refine dn ?_
   have hx0 := hm x (List.mem_of_getElem? hx)
   have hon1 := hon x.Position
   obtain ⟨N, hN⟩ : ∃ N : Nat, (if ((ofP l x.Position).length : Int) < x.Many then ((ofP l x.Position).length : Int) else x.Many) = (N : Int) := ⟨_, (Int.toNat_of_nonneg (by split <;> omega)).symm⟩
   have hNle : N ≤ (ofP l x.Position).length := by split at hN <;> omega
   refine hw_reg ?_
   refine dp rfl (pop_move rfl) ?_
   refine dp rfl (pop_fieldAddr ty209 rfl ty3 (by decide) rfl) ?_
   refine dp rfl (pop_load ty3 rfl rfl rfl) ?_
   refine dp rfl (pop_move rfl) ?_
   refine dp rfl (pop_lenm ty119 rfl) ?_
   refine dp rfl (pop_eq (pop_min rfl rfl) (congrArg _ hN)) ?_
   refine dp rfl (pop_slicem (h := N) ty119 ty135 rfl rfl ⟨_, _, rfl, rfl⟩ (by omega) hNle) ?_
   refine dp rfl (pop_lenm ty119 rfl) ?_
   refine dp rfl (pop_move rfl) ?_
   refine dn ?_
   have hCl : ((List.drop 0 (List.take N (ofP l x.Position)))).length ≤ 12 := by simp; omega
   have hCm : ∀ y ∈ (List.drop 0 (List.take N (ofP l x.Position))), y ∈ l := fun y hy => by
    have := List.mem_of_mem_take (List.mem_of_mem_drop hy)
    unfold ofP atPos at this
    exact (List.mem_filter.1 ((isort_mem _).1 this)).1
   generalize hCd : List.drop 0 (List.take N (ofP l x.Position)) = C at *
   refine hw_block ?_
   refine hw_loopw2 [6, 7, 12, 31, 32, 33, 34, 35, 36, 37, 38, 39, 40, 41, 42, 43, 44, 45, 46, 47] (fun (k : Nat) (w : Value) => [(31, .int .i64 k), (6, .int .i64 (sumV ((fieldedL (ofP l) (p.take i)) ++ ((C.take k).filter (fun y => decide (0 < y.Value)))))), (7, .raw w)]) (fun (k : Nat) (w : Value) => [.arr w 1 ((((fieldedL (ofP l) (p.take i)) ++ ((C.take k).filter (fun y => decide (0 < y.Value)))).map (·.Player)).map .str)]) (fun (k : Nat) (w : Value) => k ≤ C.length ∧ (True)) (fun (k : Nat) (w : Value) => C.length - k) (0) (u) ?_ ?_ ?_ ?_
   ·exact ⟨Nat.zero_le _, by simp_all⟩
   ·exact ⟨rfl, some_int (by simp), rfl, trivial⟩
   ·exact perm_eq (by simp)
   ·intro k w hinv
    obtain ⟨hk, -⟩ := hinv
    refine hw_reg ?_
    refine dp rfl (pop_lss rfl rfl) ?_
    refine dn ?_
    refine hw_seq ?_
    refine hw_cond rfl (fun h3 => ?_) (fun h4 => ?_)
    ·try simp at h3
     obtain ⟨y, hy⟩ : ∃ y, C[k]? = some y := ⟨_, List.getElem?_eq_getElem h3⟩
     have hdy := drop_cons hy
     refine hw_skip ?_
     refine seqQ_n ?_
     refine hw_seq ?_
     refine hw_block ?_
     refine hw_reg ?_
     refine dp rfl (pop_idx ty119 ty135 rfl rfl rfl (by assumption)) ?_
     refine dp rfl (pop_loadw ty135 rfl rfl rfl rfl) ?_
     refine de rfl (eop_alloc ty135 rfl fun b12 => ?_)
     refine de0 (eop_storew ty135 rfl rfl rfl rfl rfl ?_)
     refine dn ?_
     refine hw_ghost (Ghost.fc0 12 rfl) ?_
     refine hw_reg ?_
     refine dp rfl (pop_fieldAddr ty135 rfl ty3 (by decide) rfl) ?_
     refine dp rfl (pop_load ty3 rfl rfl rfl) ?_
     refine dp rfl (pop_gtr rfl rfl) ?_
     refine dn ?_
     refine hw_cond rfl (fun h5 => ?_) (fun h6 => ?_)
     ·try simp at h5
      refine hw_reg ?_
      refine dp rfl (pop_move rfl) ?_
      refine dp rfl (pop_fieldAddr ty135 rfl ty3 (by decide) rfl) ?_
      refine dp rfl (pop_load ty3 rfl rfl rfl) ?_
      have hb1 := field_bd (f := ofP l) (p := p) (i := i) (fun s m y => mem_chosen) hon hp hv
      have hb2 := pos_bd (k := k) hCm hCl hv
      have hb3 := hv y (hCm y (List.mem_of_getElem? hy))
      have hb4 := sumV_app (fieldedL (ofP l) (p.take i)) ((C.take k).filter (fun y => decide (0 < y.Value)))
      refine dp rfl (pop_add64 rfl rfl (by omega) (by omega)) ?_
      refine dp rfl (pop_assign rfl) ?_
      refine dn ?_
      refine hw_reg1 ?_
      refine dp rfl (pop_move rfl) ?_
      refine dp rfl (pop_fieldAddr ty135 rfl ty9 (by decide) rfl) ?_
      refine dp rfl (pop_load ty9 rfl rfl rfl) ?_
      refine dp rfl (pop_buildSlice (hs := [_]) ty28 ty9 rfl rfl (by decide) (by decide) rfl) ?_
      refine de rfl (eop_append (i := 0) ty28 ty9 rfl rfl rfl rfl rfl (by simp [flat, hcells]) (by simp only [List.length_map, List.length_append, List.length_cons, List.length_nil]; omega) fun v46 => ?_)
      refine dp rfl (pop_assign rfl) ?_
      refine dn ?_
      refine blockQ_n ?_
      refine seqQ_n ?_
      refine hw_reg1 ?_
      refine dp rfl (pop_add64 rfl rfl (by omega) (by omega)) ?_
      refine dp rfl (pop_move rfl) ?_
      refine dn ?_
      exact ⟨k + 1, _, ⟨by omega, trivial⟩, by dsimp only; omega, ⟨rfl, some_int (by rw [pos_snoc hy, if_pos (by simp_all), ← List.append_assoc, sumV_app _ [y]]; simp [sumV]), rfl, trivial⟩, (by repeat (first | exact keeps_refl | refine keeps_upd rfl ?_ | refine keeps_loop rfl rfl ?_)), perm_eq (by dsimp only; rw [pos_snoc hy, if_pos (by simp_all)]; simp)⟩
     ·try simp at h6
      refine hw_skip ?_
      refine blockQ_n ?_
      refine seqQ_n ?_
      refine hw_reg1 ?_
      refine dp rfl (pop_add64 rfl rfl (by omega) (by omega)) ?_
      refine dp rfl (pop_move rfl) ?_
      refine dn ?_
      exact ⟨k + 1, _, ⟨by omega, trivial⟩, by dsimp only; omega, ⟨rfl, some_int (by rw [pos_snoc hy, if_neg (by omega)]; simp), rfl, trivial⟩, (by repeat (first | exact keeps_refl | refine keeps_upd rfl ?_ | refine keeps_loop rfl rfl ?_)), perm_eq (by dsimp only; rw [pos_snoc hy, if_neg (by omega)]; simp)⟩
    ·try simp at h4
     have hnk : C.length ≤ k := by omega
     obtain rfl : k = C.length := by omega
     refine hw_exit ?_
     refine seqQ_x ?_
     refine loopQ2_x ?_
     refine blockQ_eq ?_
     refine blockQ_n ?_
     refine seqQ_n ?_
     refine hw_reg1 ?_
     refine dp rfl (pop_add64 rfl rfl (by omega) (by omega)) ?_
     refine dp rfl (pop_move rfl) ?_
     refine dn ?_
     exact ⟨i + 1, _, ⟨by omega, trivial⟩, by dsimp only; omega, ⟨rfl, some_int (by rw [fieldedL_snoc _ hx, chosen_eq hN, hCd, List.take_length]), rfl, trivial⟩, (by repeat (first | exact keeps_refl | refine keeps_upd rfl ?_ | refine keeps_loop rfl rfl ?_)), perm_eq (by dsimp only; rw [fieldedL_snoc _ hx, chosen_eq hN, hCd, List.take_length])⟩
  ·try simp at h2
   have hni : p.length ≤ i := by omega
   obtain rfl : i = p.length := by omega
   refine hw_exit ?_
   refine seqQ_x ?_
   refine loopQ2_x ?_
   refine blockQ_eq ?_
   refine seqQ_n ?_
   rw [List.take_length]
   refine hw_reg ?_
   refine dp rfl (pop_move rfl) ?_
   refine de rfl (eop_callx (i := 0) ca46 rfl (WeakL.refl _) rfl (c_slices_Sort (l := (fieldedL (ofP l) p).map (·.Player)) (by have hb1 := field_bd (f := ofP l) (p := p) (i := p.length) (fun s m y => mem_chosen) hon hp hv; rw [List.take_length] at hb1; simp; omega)) ?_)
   rintro _ _ ⟨rfl, rfl⟩
   refine dn ?_
   refine hw_reg ?_
   refine dp rfl (pop_move rfl) ?_
   refine dp rfl (pop_move rfl) ?_
   refine dp rfl (pop_assign rfl) ?_
   refine dp rfl (pop_assign rfl) ?_
   refine dn ?_
   refine hw_ret ?_
   exact ret_fa (M := []) 5 rfl rfl rfl
end Go.Proofs.YtcnfhcicepmjcaaGreatDoor
end
section
namespace Go.Proofs.YtcnfhcicepmjcaaGreatDoor
open Go.HL
set_option maxRecDepth 100000
set_option linter.unusedVariables false
set_option linter.unusedSimpArgs false
/-- benchwarmer/value.Fielded -/
theorem c_value_Fielded [Tracks] {l : List Asset} {p : List HL.Place} (hl : l.length ≤ 11) (hp : p.length ≤ 1000000) : ConP Tryz.prog 75 [eAssets l, ePlaces p] (.tup [.int .i64 (if okAP l p != 0 then 0 else sumF l p), eSs (if okAP l p != 0 then [] else namesV (fieldedL (ofP l) p)), .int .i64 (okAP l p)]) := by
 refine Con.of_body Tryz.func75 rfl Tryz.ntmps75 rfl rfl ?_
 refine hw_reg ?_
 refine dp rfl (pop_assign rfl) ?_
 refine dp rfl (pop_assign rfl) ?_
 refine dp rfl (pop_assign rfl) ?_
 refine dn ?_
 refine hw_seq ?_
 refine hw_reg ?_
 refine dp rfl (pop_move rfl) ?_
 refine dp rfl (pop_call ca162 rfl (WeakL.refl _) (c_value_CheckAssets (by omega))) ?_
 refine dp rfl (pop_move rfl) ?_
 refine dp rfl (pop_call ca163 rfl (WeakL.refl _) (c_value_CheckPlaces (by assumption))) ?_
 refine dp rfl (pop_buildSlice (hs := [_, _]) ty172 ty33 rfl rfl (by decide) (by decide) rfl) ?_
 refine dp rfl (pop_call ca91 rfl (WeakL.refl _) (c_base_First (l := [_, _]) (by simp))) ?_
 refine dp rfl (pop_assign rfl) ?_
 refine dn ?_
 refine hw_reg ?_
 refine dp rfl (pop_move rfl) ?_
 refine dp rfl (pop_neq rfl rfl) ?_
 refine dn ?_
 refine hw_cond rfl (fun h1 => ?_) (fun h2 => ?_)
 ·try simp at h1
  refine hw_reg ?_
  refine dp rfl (pop_move rfl) ?_
  refine dp rfl (pop_assign rfl) ?_
  refine dp rfl (pop_assign rfl) ?_
  refine dp rfl (pop_assign rfl) ?_
  refine dn ?_
  refine hw_ret ?_
  (refine ret_w rfl (weak_tup3 ?_ ?_ (Weak.refl _))
   ·rw [if_pos (by simpa [okAP] using h1)]; exact Weak.refl _
   ·rw [if_pos (by simpa [okAP] using h1)]; exact weak_nil 1)
 ·try simp at h2
  refine hw_skip ?_
  refine seqQ_n ?_
  obtain ⟨hca0, hcp0⟩ := okAP_ok (l := l) (p := p) (by simpa [okAP] using h2)
  obtain ⟨hsr, haf⟩ := checkAssets_ok hca0
  obtain ⟨hmm, hp10⟩ := checkPlaces_ok hcp0
  have hvv : ∀ x ∈ l, -1000000 ≤ x.Value ∧ x.Value ≤ 1000000 := fun x hx => (assetFault_ok (haf x hx)).2.2
  refine hw_reg ?_
  refine dp rfl (pop_move rfl) ?_
  refine dp rfl (pop_move rfl) ?_
  refine dp rfl (pop_call ca164 rfl (WeakL.refl _) (c_value_fielded (by omega) (by assumption) (by simp_all) (by assumption))) ?_
  refine dp rfl (pop_move rfl) ?_
  refine dp rfl (pop_extract rfl rfl) ?_
  refine dp rfl (pop_extract rfl rfl) ?_
  refine dp rfl (pop_assign rfl) ?_
  refine dp rfl (pop_assign rfl) ?_
  refine dn ?_
  refine hw_reg ?_
  refine dp rfl (pop_move rfl) ?_
  refine dp rfl (pop_move rfl) ?_
  refine dp rfl (pop_assign rfl) ?_
  refine dp rfl (pop_assign rfl) ?_
  refine dp rfl (pop_assign rfl) ?_
  refine dn ?_
  refine hw_ret ?_
  (refine ret_p rfl ?_
   have h0 : okAP l p = 0 := by simpa [okAP] using h2
   simp [h0, sumF, ofVal, ofVal1])

end Go.Proofs.YtcnfhcicepmjcaaGreatDoor
end
section
namespace Go.Proofs.YtcnfhcicepmjcaaGreatDoor
open Go.HL
set_option maxRecDepth 100000
set_option linter.unusedVariables false
set_option linter.unusedSimpArgs false
/-- benchwarmer/benchref1.SwapsFault -/
theorem c_benchref1_SwapsFault [Tracks] {r : Room} {l : List Swap} (ht : r.Teams.length ≤ 1000000) (hp : r.Players.length ≤ 1000000) (hl : l.length ≤ 1000000) : ConP Tryz.prog 273 [eRoom r, eSwaps l] (.int .i64 (refSwaps r l)) := by
 refine Con.of_body Tryz.func273 rfl Tryz.ntmps273 rfl rfl ?_
 refine hw_reg ?_
 refine dp rfl (pop_box rfl rfl) ?_
 refine dp rfl (pop_assign rfl) ?_
 refine dn ?_
 refine hw_seq ?_
 refine hw_reg ?_
 refine dp rfl (pop_move rfl) ?_
 refine dp rfl (pop_lenm ty68 rfl) ?_
 refine dp rfl (pop_gtr rfl rfl) ?_
 refine dn ?_
 refine hw_cond rfl (fun h1 => ?_) (fun h2 => ?_)
 ·try simp at h1
  refine hw_reg ?_
  refine dp rfl (pop_assign rfl) ?_
  refine dn ?_
  refine hw_ret ?_
  refine ret_p rfl ?_
  show HVal.int .i64 _ = _
  (rw [refSwaps, if_pos (by omega)]; done)
 ·try simp at h2
  refine hw_skip ?_
  refine seqQ_n ?_
  refine hw_seq ?_
  refine hw_reg ?_
  refine dp rfl (pop_move rfl) ?_
  refine dp rfl (pop_lenm ty68 rfl) ?_
  refine dp rfl (pop_move rfl) ?_
  refine dn ?_
  refine hw_block ?_
  refine hw_loopw [4, 5, 6, 12, 13, 14, 15, 16, 17, 18, 19, 20, 21, 22, 23, 24, 25, 26, 27, 28, 29, 30, 31, 32, 33, 34, 35, 36, 37, 38, 39, 40, 41, 42, 43, 44, 45, 46, 47, 48, 49, 50, 51, 52, 53, 54, 55, 56, 57, 58, 59, 60, 61, 62, 63, 64, 65] (fun (k : Nat) => [(12, .int .i64 k)]) (fun (k : Nat) => []) (fun (k : Nat) => k ≤ l.length ∧ (refSwaps r l = swapsGo r l k (l.drop k))) (fun (k : Nat) => l.length - k) (0) ?_ ?_ ?_ ?_
  ·refine ⟨Nat.zero_le _, ?_⟩
   rw [refSwaps, if_neg (by omega)]; rfl
  ·exact ⟨rfl, trivial⟩
  ·exact List.Perm.refl _
  ·intro k hinv
   obtain ⟨hk, hg⟩ := hinv
   refine hw_reg ?_
   refine dp rfl (pop_lss rfl rfl) ?_
   refine dn ?_
   refine hw_seq ?_
   refine hw_cond rfl (fun h3 => ?_) (fun h4 => ?_)
   ·try simp at h3
    obtain ⟨x, hx⟩ : ∃ x, l[k]? = some x := ⟨_, List.getElem?_eq_getElem h3⟩
    have hdx := drop_cons hx
    rw [hdx] at hg
    refine hw_skip ?_
    refine seqQ_n ?_
    refine hw_seq ?_
    refine hw_block ?_
    refine hw_reg ?_
    refine dp rfl (pop_move rfl) ?_
    refine dp rfl (pop_idx ty68 ty198 rfl rfl rfl (by assumption)) ?_
    refine dp rfl (pop_loadw ty198 rfl rfl rfl rfl) ?_
    refine de rfl (eop_alloc ty198 rfl fun b6 => ?_)
    refine dp rfl (pop_assign rfl) ?_
    refine de0 (eop_storew ty198 rfl rfl rfl rfl rfl ?_)
    refine dn ?_
    refine hw_ghost (Ghost.fc0 6 rfl) ?_
    refine hw_block ?_
    refine hw_reg ?_
    refine dp rfl (pop_fieldAddr ty198 rfl ty3 (by decide) rfl) ?_
    refine dp rfl (pop_load ty3 rfl rfl rfl) ?_
    refine dp rfl (pop_fieldAddr ty64 rfl ty3 (by decide) rfl) ?_
    refine dp rfl (pop_load ty3 rfl rfl rfl) ?_
    refine dp rfl (pop_call ca149 rfl (WeakL.refl _) c_benchref1_in) ?_
    refine dp rfl (pop_not rfl) ?_
    refine dp rfl (pop_assign rfl) ?_
    refine dn ?_
    refine hw_cond rfl (fun h5 => ?_) (fun h6 => ?_)
    ·try simp at h5
     refine hw_reg ?_
     refine dp rfl (pop_assign rfl) ?_
     refine dn ?_
     refine hw_ret ?_
     refine ret_p rfl ?_
     show HVal.int .i64 _ = _
     (rw [hg, swapsGo]; simp_all; done)
    ·try simp at h6
     refine hw_reg ?_
     refine dp rfl (pop_fieldAddr ty64 rfl ty28 (by decide) rfl) ?_
     refine dp rfl (pop_load ty28 rfl rfl rfl) ?_
     refine dp rfl (pop_fieldAddr ty198 rfl ty9 (by decide) rfl) ?_
     refine dp rfl (pop_load ty9 rfl rfl rfl) ?_
     refine dp rfl (pop_call ca89 rfl (WeakL.refl _) (c_slices_Contains_string_string (by omega))) ?_
     refine dp rfl (pop_not rfl) ?_
     refine dp rfl (pop_move rfl) ?_
     refine dg rfl rfl (fun hc => ⟨_, OpenTo.refl _, pop_fieldAddr ty64 rfl ty28 (by decide) rfl⟩) ?_
     refine dg rfl rfl (fun hc => ⟨_, OpenTo.upd (t := 32) rfl (hc) (OpenTo.refl _), pop_load ty28 rfl rfl rfl⟩) ?_
     refine dg rfl rfl (fun hc => ⟨_, OpenTo.refl _, pop_fieldAddr ty198 rfl ty9 (by decide) rfl⟩) ?_
     refine dg rfl rfl (fun hc => ⟨_, OpenTo.upd (t := 34) rfl (hc) (OpenTo.refl _), pop_load ty9 rfl rfl rfl⟩) ?_
     refine dg rfl rfl (fun hc => by have hq := hc; (try simp at hq); exact ⟨_, OpenTo.upd (t := 35) rfl (hc) (OpenTo.upd (t := 33) rfl (hc) (OpenTo.refl _)), pop_call ca89 rfl (WeakL.refl _) (c_slices_Contains_string_string (by omega))⟩) ?_
     refine dg rfl rfl (fun hc => ⟨_, OpenTo.upd (t := 36) rfl (hc) (OpenTo.refl _), pop_not rfl⟩) ?_
     refine dp rfl (pop_picko rfl (.inl rfl) (.inr ⟨_, rfl, fun h => by simp_all⟩)) ?_
     refine dp rfl (pop_assign rfl) ?_
     refine dn ?_
     refine hw_cond rfl (fun h7 => ?_) (fun h8 => ?_)
     ·try simp at h7
      refine hw_reg ?_
      refine dp rfl (pop_assign rfl) ?_
      refine dn ?_
      refine hw_ret ?_
      refine ret_p rfl ?_
      show HVal.int .i64 _ = _
      (rw [hg, swapsGo]; simp_all; done)
     ·try simp at h8
      refine hw_draw (fun _ => True) [] mixed ?_
      refine ahp 0 rfl rfl (by kernel_rfl) (by kernel_rfl) (pop_move rfl) ?_
      refine ahp 1 rfl rfl (by kernel_rfl) (by kernel_rfl) (pop_gtr rfl rfl) ?_
      refine ahp 2 rfl rfl (by kernel_rfl) (by kernel_rfl) (pop_move rfl) ?_
      refine ahg 3 rfl rfl (by kernel_rfl) (by kernel_rfl) rfl (fun hc => ⟨_, OpenTo.refl _, pop_move rfl⟩) ?_
      refine ahg 4 rfl rfl (by kernel_rfl) (by kernel_rfl) rfl (fun hc => ⟨_, OpenTo.refl _, pop_move rfl⟩) ?_
      refine ahg 5 rfl rfl (by kernel_rfl) (by kernel_rfl) rfl (fun hc => by have hq := hc; (try simp at hq); exact ⟨_, OpenTo.upd (t := 44) rfl (hc) (OpenTo.refl _), pop_sub64 rfl rfl (by omega) (by omega)⟩) ?_
      refine ahg 6 rfl rfl (by kernel_rfl) (by kernel_rfl) rfl (fun hc => by have hq := hc; (try simp at hq); exact ⟨_, OpenTo.upd (t := 45) rfl (hc) (OpenTo.upd (t := 43) rfl (hc) (OpenTo.refl _)), pop_idx (j := k - 1) (a := l.getD (k - 1) swap0) ty68 ty198 rfl rfl (by omega) (getD_some (by omega))⟩) ?_
      refine ahg 7 rfl rfl (by kernel_rfl) (by kernel_rfl) rfl (fun hc => ⟨_, OpenTo.upd (t := 46) rfl (hc) (OpenTo.refl _), pop_fieldAddr ty198 rfl ty3 (by decide) rfl⟩) ?_
      refine ahg 8 rfl rfl (by kernel_rfl) (by kernel_rfl) rfl (fun hc => ⟨_, OpenTo.upd (t := 47) rfl (hc) (OpenTo.refl _), pop_load ty3 rfl rfl rfl⟩) ?_
      refine ahg 9 rfl rfl (by kernel_rfl) (by kernel_rfl) rfl (fun hc => ⟨_, OpenTo.refl _, pop_fieldAddr ty198 rfl ty3 (by decide) rfl⟩) ?_
      refine ahg 10 rfl rfl (by kernel_rfl) (by kernel_rfl) rfl (fun hc => ⟨_, OpenTo.upd (t := 49) rfl (hc) (OpenTo.refl _), pop_load ty3 rfl rfl rfl⟩) ?_
      refine ahg 11 rfl rfl (by kernel_rfl) (by kernel_rfl) rfl (fun hc => ⟨_, OpenTo.upd (t := 50) rfl (hc) (OpenTo.upd (t := 48) rfl (hc) (OpenTo.refl _)), pop_call ca171 rfl (WeakL.refl _) c_cmp_Compare_int⟩) ?_
      refine ahg 12 rfl rfl (by kernel_rfl) (by kernel_rfl) rfl (fun hc => ⟨_, OpenTo.refl _, pop_move rfl⟩) ?_
      refine ahg 13 rfl rfl (by kernel_rfl) (by kernel_rfl) rfl (fun hc => ⟨_, OpenTo.refl _, pop_move rfl⟩) ?_
      refine ahg 14 rfl rfl (by kernel_rfl) (by kernel_rfl) rfl (fun hc => by have hq := hc; (try simp at hq); exact ⟨_, OpenTo.upd (t := 53) rfl (hc) (OpenTo.refl _), pop_sub64 rfl rfl (by omega) (by omega)⟩) ?_
      refine ahg 15 rfl rfl (by kernel_rfl) (by kernel_rfl) rfl (fun hc => by have hq := hc; (try simp at hq); exact ⟨_, OpenTo.upd (t := 54) rfl (hc) (OpenTo.upd (t := 52) rfl (hc) (OpenTo.refl _)), pop_idx (j := k - 1) (a := l.getD (k - 1) swap0) ty68 ty198 rfl rfl (by omega) (getD_some (by omega))⟩) ?_
      refine ahg 16 rfl rfl (by kernel_rfl) (by kernel_rfl) rfl (fun hc => ⟨_, OpenTo.upd (t := 55) rfl (hc) (OpenTo.refl _), pop_fieldAddr ty198 rfl ty9 (by decide) rfl⟩) ?_
      refine ahg 17 rfl rfl (by kernel_rfl) (by kernel_rfl) rfl (fun hc => ⟨_, OpenTo.upd (t := 56) rfl (hc) (OpenTo.refl _), pop_load ty9 rfl rfl rfl⟩) ?_
      refine ahg 18 rfl rfl (by kernel_rfl) (by kernel_rfl) rfl (fun hc => ⟨_, OpenTo.refl _, pop_fieldAddr ty198 rfl ty9 (by decide) rfl⟩) ?_
      refine ahg 19 rfl rfl (by kernel_rfl) (by kernel_rfl) rfl (fun hc => ⟨_, OpenTo.upd (t := 58) rfl (hc) (OpenTo.refl _), pop_load ty9 rfl rfl rfl⟩) ?_
      refine ahg 20 rfl rfl (by kernel_rfl) (by kernel_rfl) rfl (fun hc => ⟨_, OpenTo.upd (t := 59) rfl (hc) (OpenTo.upd (t := 57) rfl (hc) (OpenTo.refl _)), pop_call ca112 rfl (WeakL.refl _) c_strings_Compare⟩) ?_
      refine ahg 21 rfl rfl (by kernel_rfl) (by kernel_rfl) rfl (fun hc => ⟨_, OpenTo.upd (t := 60) rfl (hc) (OpenTo.upd (t := 51) rfl (hc) (OpenTo.refl _)), pop_buildSlice (hs := [_, _]) ty22 ty3 rfl rfl (by decide) (by decide) rfl⟩) ?_
      refine ahg 22 rfl rfl (by kernel_rfl) (by kernel_rfl) rfl (fun hc => ⟨_, OpenTo.upd (t := 61) rfl (hc) (OpenTo.refl _), pop_call ca111 rfl (WeakL.refl _) (c_cmp_Or_int (l := [_, _]) (by simp))⟩) ?_
      refine ahg 23 rfl rfl (by kernel_rfl) (by kernel_rfl) rfl (fun hc => ⟨_, OpenTo.upd (t := 62) rfl (hc) (OpenTo.refl _), pop_geq rfl rfl⟩) ?_
      refine ahp 24 rfl rfl (by kernel_rfl) (by kernel_rfl) (pop_picko rfl (.inr ⟨_, rfl, fun h => by simp_all⟩) (.inl rfl)) ?_
      refine ahp 25 rfl rfl (by kernel_rfl) (by kernel_rfl) (pop_assign rfl) ?_
      refine ahz (by kernel_rfl) ?_
      refine hw_cond rfl (fun h9 => ?_) (fun h10 => ?_)
      ·rw [ord_is] at h9
       try simp at h9
       refine hw_reg ?_
       refine dp rfl (pop_assign rfl) ?_
       refine dn ?_
       refine hw_ret ?_
       refine ret_p rfl ?_
       show HVal.int .i64 _ = _
       (rw [hg, swapsGo]; simp_all; done)
      ·rw [ord_is] at h10
       try simp at h10
       refine hw_skip ?_
       refine blockQ_n ?_
       refine blockQ_n ?_
       refine seqQ_n ?_
       refine hw_reg1 ?_
       refine dp rfl (pop_add64 rfl rfl (by omega) (by omega)) ?_
       refine dp rfl (pop_move rfl) ?_
       refine dn ?_
       refine ⟨k + 1, ?_, ?_, ⟨rfl, trivial⟩, (by repeat (first | exact keeps_refl | refine keeps_upd rfl ?_ | refine keeps_loop rfl rfl ?_)), List.Perm.refl _⟩
       ·refine ⟨by omega, ?_⟩
        rw [hg, swapsGo]; simp_all
        try (intro h1 h2; have := h10 h1; omega)
       ·dsimp only; omega
   ·try simp at h4
    have hnk : l.length ≤ k := by omega
    obtain rfl : k = l.length := by omega
    rw [drop_all (Nat.le_refl _)] at hg
    refine hw_exit ?_
    refine seqQ_x ?_
    refine loopQ_x ?_
    refine blockQ_eq ?_
    refine seqQ_n ?_
    refine hw_reg ?_
    refine dp rfl (pop_assign rfl) ?_
    refine dn ?_
    refine hw_ret ?_
    refine ret_p rfl ?_
    show HVal.int .i64 _ = _
    (rw [hg]; rfl)

/-- benchwarmer/benchref1.KeepsFault -/
theorem c_benchref1_KeepsFault [Tracks] {r : Room} {l : List Keep} (ht : r.Teams.length ≤ 1000000) (hp : r.Players.length ≤ 1000000) (hl : l.length ≤ 1000000) : ConP Tryz.prog 272 [eRoom r, eKeeps l] (.int .i64 (refKeeps r l)) := by
 refine Con.of_body Tryz.func272 rfl Tryz.ntmps272 rfl rfl ?_
 refine hw_reg ?_
 refine dp rfl (pop_box rfl rfl) ?_
 refine dp rfl (pop_assign rfl) ?_
 refine dn ?_
 refine hw_seq ?_
 refine hw_reg ?_
 refine dp rfl (pop_move rfl) ?_
 refine dp rfl (pop_lenm ty66 rfl) ?_
 refine dp rfl (pop_gtr rfl rfl) ?_
 refine dn ?_
 refine hw_cond rfl (fun h1 => ?_) (fun h2 => ?_)
 ·try simp at h1
  refine hw_reg ?_
  refine dp rfl (pop_assign rfl) ?_
  refine dn ?_
  refine hw_ret ?_
  (refine ret_p rfl ?_
   show HVal.int .i64 _ = _
   first | (rw [refKeeps, if_pos (by omega)]; done) | (rw [hg, refKeepsGo]; simp_all [isTwice]; done))
 ·try simp at h2
  refine hw_skip ?_
  refine seqQ_n ?_
  refine hw_reg ?_
  refine dp rfl (pop_assign rfl) ?_
  refine dn ?_
  refine hw_ghost (Ghost.arr_nil 1) ?_
  refine hw_seq ?_
  refine hw_reg ?_
  refine dp rfl (pop_move rfl) ?_
  refine dp rfl (pop_lenm ty66 rfl) ?_
  refine dp rfl (pop_move rfl) ?_
  refine dn ?_
  refine hw_block ?_
  refine hw_loopw2 (4 :: 5 :: 6 :: 7 :: 13 :: 14 :: 15 :: 16 :: 17 :: 18 :: 19 :: 20 :: 21 :: 22 :: 23 :: 24 :: 25 :: 26 :: 27 :: 28 :: 29 :: 30 :: 31 :: 32 :: 33 :: 34 :: 35 :: 36 :: 37 :: 38 :: 39 :: 40 :: 41 :: 42 :: 43 :: 44 :: 45 :: 46 :: 47 :: 48 :: 49 :: 50 :: 51 :: 52 :: 53 :: 54 :: 55 :: 56 :: 57 :: 58 :: 59 :: 60 :: 61 :: 62 :: 63 :: 64 :: 65 :: 66 :: 67 :: 68 :: 69 :: 70 :: 71 :: []) (fun (k : Nat) (u : Value) => [(13, .int .i64 k), (5, .raw u)]) (fun (k : Nat) (u : Value) => [.arr u 1 (((l.take k).map (·.Player)).map .str)]) (fun (k : Nat) (u : Value) => k ≤ l.length ∧ (refKeeps r l = refKeepsGo r l k ((l.take k).map (·.Player)) (l.drop k))) (fun (k : Nat) (u : Value) => l.length - k) (0) (.slice none 0 0) ?_ ?_ ?_ ?_
  ·refine ⟨Nat.zero_le _, ?_⟩
   rw [refKeeps, if_neg (by omega)]; rfl
  ·exact ⟨rfl, rfl, trivial⟩
  ·exact perm_eq (by simp)
  ·intro k u hinv
   obtain ⟨hk, hg⟩ := hinv
   refine hw_reg ?_
   refine dp rfl (pop_lss rfl rfl) ?_
   refine dn ?_
   refine hw_seq ?_
   refine hw_cond rfl (fun h3 => ?_) (fun h4 => ?_)
   ·try simp at h3
    obtain ⟨x, hx⟩ : ∃ x, l[k]? = some x := ⟨_, List.getElem?_eq_getElem h3⟩
    have hdx := drop_cons hx
    rw [hdx] at hg
    refine hw_skip ?_
    refine seqQ_n ?_
    refine hw_seq ?_
    refine hw_block ?_
    refine hw_reg ?_
    refine dp rfl (pop_move rfl) ?_
    refine dp rfl (pop_idx ty66 ty194 rfl rfl rfl (by assumption)) ?_
    refine dp rfl (pop_loadw ty194 rfl rfl rfl rfl) ?_
    refine de rfl (eop_alloc ty194 rfl fun b7 => ?_)
    refine dp rfl (pop_assign rfl) ?_
    refine de0 (eop_storew ty194 rfl rfl rfl rfl rfl ?_)
    refine dn ?_
    refine hw_ghost (Ghost.fc0 7 rfl) ?_
    refine hw_seq ?_
    refine hw_block ?_
    refine hw_reg ?_
    refine dp rfl (pop_fieldAddr ty64 rfl ty28 (by decide) rfl) ?_
    refine dp rfl (pop_load ty28 rfl rfl rfl) ?_
    refine dp rfl (pop_fieldAddr ty194 rfl ty9 (by decide) rfl) ?_
    refine dp rfl (pop_load ty9 rfl rfl rfl) ?_
    refine dp rfl (pop_call ca89 rfl (WeakL.refl _) (c_slices_Contains_string_string (by omega))) ?_
    refine dp rfl (pop_not rfl) ?_
    refine dp rfl (pop_move rfl) ?_
    refine dg rfl rfl (fun hc => ⟨_, OpenTo.refl _, pop_fieldAddr ty64 rfl ty28 (by decide) rfl⟩) ?_
    refine dg rfl rfl (fun hc => ⟨_, OpenTo.upd (t := 26) rfl (hc) (OpenTo.refl _), pop_load ty28 rfl rfl rfl⟩) ?_
    refine dg rfl rfl (fun hc => ⟨_, OpenTo.refl _, pop_fieldAddr ty194 rfl ty9 (by decide) rfl⟩) ?_
    refine dg rfl rfl (fun hc => ⟨_, OpenTo.upd (t := 28) rfl (hc) (OpenTo.refl _), pop_load ty9 rfl rfl rfl⟩) ?_
    refine dg rfl rfl (fun hc => by have hq := hc; (try simp at hq); exact ⟨_, OpenTo.upd (t := 29) rfl (hc) (OpenTo.upd (t := 27) rfl (hc) (OpenTo.refl _)), pop_call ca89 rfl (WeakL.refl _) (c_slices_Contains_string_string (by omega))⟩) ?_
    refine dg rfl rfl (fun hc => ⟨_, OpenTo.upd (t := 30) rfl (hc) (OpenTo.refl _), pop_not rfl⟩) ?_
    refine dp rfl (pop_picko rfl (.inl rfl) (.inr ⟨_, rfl, fun h => by simp_all⟩)) ?_
    refine dp rfl (pop_assign rfl) ?_
    refine dn ?_
    refine hw_cond rfl (fun h5 => ?_) (fun h6 => ?_)
    ·try simp at h5
     refine hw_reg ?_
     refine dp rfl (pop_assign rfl) ?_
     refine dn ?_
     refine hw_ret ?_
     (refine ret_g Ghost.drop rfl ⟨?_, rfl⟩
      show HVal.int .i64 _ = _
      rw [hg, refKeepsGo]; simp_all; done)
    ·try simp at h6
     refine hw_reg ?_
     refine dp rfl (pop_fieldAddr ty194 rfl ty3 (by decide) rfl) ?_
     refine dp rfl (pop_load ty3 rfl rfl rfl) ?_
     refine dp rfl (pop_fieldAddr ty64 rfl ty3 (by decide) rfl) ?_
     refine dp rfl (pop_load ty3 rfl rfl rfl) ?_
     refine dp rfl (pop_call ca149 rfl (WeakL.refl _) c_benchref1_in) ?_
     refine dp rfl (pop_not rfl) ?_
     refine dp rfl (pop_assign rfl) ?_
     refine dn ?_
     refine hw_cond rfl (fun h7 => ?_) (fun h8 => ?_)
     ·try simp at h7
      refine hw_reg ?_
      refine dp rfl (pop_assign rfl) ?_
      refine dn ?_
      refine hw_ret ?_
      (refine ret_g Ghost.drop rfl ⟨?_, rfl⟩
       show HVal.int .i64 _ = _
       rw [hg, refKeepsGo]; simp_all; done)
     ·try simp at h8
      refine hw_draw (fun _ => True) [] mixed ?_
      refine ahp 0 rfl rfl (by kernel_rfl) (by kernel_rfl) (pop_move rfl) ?_
      refine ahp 1 rfl rfl (by kernel_rfl) (by kernel_rfl) (pop_gtr rfl rfl) ?_
      refine ahp 2 rfl rfl (by kernel_rfl) (by kernel_rfl) (pop_move rfl) ?_
      refine ahg 3 rfl rfl (by kernel_rfl) (by kernel_rfl) rfl (fun hc => ⟨_, OpenTo.refl _, pop_move rfl⟩) ?_
      refine ahg 4 rfl rfl (by kernel_rfl) (by kernel_rfl) rfl (fun hc => ⟨_, OpenTo.refl _, pop_move rfl⟩) ?_
      refine ahg 5 rfl rfl (by kernel_rfl) (by kernel_rfl) rfl (fun hc => by have hq := hc; (try simp at hq); exact ⟨_, OpenTo.upd (t := 45) rfl (hc) (OpenTo.refl _), pop_sub64 rfl rfl (by omega) (by omega)⟩) ?_
      refine ahg 6 rfl rfl (by kernel_rfl) (by kernel_rfl) rfl (fun hc => by have hq := hc; (try simp at hq); exact ⟨_, OpenTo.upd (t := 46) rfl (hc) (OpenTo.upd (t := 44) rfl (hc) (OpenTo.refl _)), pop_idx (j := k - 1) (a := l.getD (k - 1) keep0) ty66 ty194 rfl rfl (by omega) (getD_some (by omega))⟩) ?_
      refine ahg 7 rfl rfl (by kernel_rfl) (by kernel_rfl) rfl (fun hc => ⟨_, OpenTo.upd (t := 47) rfl (hc) (OpenTo.refl _), pop_fieldAddr ty194 rfl ty9 (by decide) rfl⟩) ?_
      refine ahg 8 rfl rfl (by kernel_rfl) (by kernel_rfl) rfl (fun hc => ⟨_, OpenTo.upd (t := 48) rfl (hc) (OpenTo.refl _), pop_load ty9 rfl rfl rfl⟩) ?_
      refine ahg 9 rfl rfl (by kernel_rfl) (by kernel_rfl) rfl (fun hc => ⟨_, OpenTo.refl _, pop_fieldAddr ty194 rfl ty9 (by decide) rfl⟩) ?_
      refine ahg 10 rfl rfl (by kernel_rfl) (by kernel_rfl) rfl (fun hc => ⟨_, OpenTo.upd (t := 50) rfl (hc) (OpenTo.refl _), pop_load ty9 rfl rfl rfl⟩) ?_
      refine ahg 11 rfl rfl (by kernel_rfl) (by kernel_rfl) rfl (fun hc => ⟨_, OpenTo.upd (t := 51) rfl (hc) (OpenTo.upd (t := 49) rfl (hc) (OpenTo.refl _)), pop_call ca112 rfl (WeakL.refl _) c_strings_Compare⟩) ?_
      refine ahg 12 rfl rfl (by kernel_rfl) (by kernel_rfl) rfl (fun hc => ⟨_, OpenTo.refl _, pop_move rfl⟩) ?_
      refine ahg 13 rfl rfl (by kernel_rfl) (by kernel_rfl) rfl (fun hc => ⟨_, OpenTo.refl _, pop_move rfl⟩) ?_
      refine ahg 14 rfl rfl (by kernel_rfl) (by kernel_rfl) rfl (fun hc => by have hq := hc; (try simp at hq); exact ⟨_, OpenTo.upd (t := 54) rfl (hc) (OpenTo.refl _), pop_sub64 rfl rfl (by omega) (by omega)⟩) ?_
      refine ahg 15 rfl rfl (by kernel_rfl) (by kernel_rfl) rfl (fun hc => by have hq := hc; (try simp at hq); exact ⟨_, OpenTo.upd (t := 55) rfl (hc) (OpenTo.upd (t := 53) rfl (hc) (OpenTo.refl _)), pop_idx (j := k - 1) (a := l.getD (k - 1) keep0) ty66 ty194 rfl rfl (by omega) (getD_some (by omega))⟩) ?_
      refine ahg 16 rfl rfl (by kernel_rfl) (by kernel_rfl) rfl (fun hc => ⟨_, OpenTo.upd (t := 56) rfl (hc) (OpenTo.refl _), pop_fieldAddr ty194 rfl ty3 (by decide) rfl⟩) ?_
      refine ahg 17 rfl rfl (by kernel_rfl) (by kernel_rfl) rfl (fun hc => ⟨_, OpenTo.upd (t := 57) rfl (hc) (OpenTo.refl _), pop_load ty3 rfl rfl rfl⟩) ?_
      refine ahg 18 rfl rfl (by kernel_rfl) (by kernel_rfl) rfl (fun hc => ⟨_, OpenTo.refl _, pop_fieldAddr ty194 rfl ty3 (by decide) rfl⟩) ?_
      refine ahg 19 rfl rfl (by kernel_rfl) (by kernel_rfl) rfl (fun hc => ⟨_, OpenTo.upd (t := 59) rfl (hc) (OpenTo.refl _), pop_load ty3 rfl rfl rfl⟩) ?_
      refine ahg 20 rfl rfl (by kernel_rfl) (by kernel_rfl) rfl (fun hc => ⟨_, OpenTo.upd (t := 60) rfl (hc) (OpenTo.upd (t := 58) rfl (hc) (OpenTo.refl _)), pop_call ca171 rfl (WeakL.refl _) c_cmp_Compare_int⟩) ?_
      refine ahg 21 rfl rfl (by kernel_rfl) (by kernel_rfl) rfl (fun hc => ⟨_, OpenTo.upd (t := 61) rfl (hc) (OpenTo.upd (t := 52) rfl (hc) (OpenTo.refl _)), pop_buildSlice (hs := [_, _]) ty22 ty3 rfl rfl (by decide) (by decide) rfl⟩) ?_
      refine ahg 22 rfl rfl (by kernel_rfl) (by kernel_rfl) rfl (fun hc => ⟨_, OpenTo.upd (t := 62) rfl (hc) (OpenTo.refl _), pop_call ca111 rfl (WeakL.refl _) (c_cmp_Or_int (l := [_, _]) (by simp))⟩) ?_
      refine ahg 23 rfl rfl (by kernel_rfl) (by kernel_rfl) rfl (fun hc => ⟨_, OpenTo.upd (t := 63) rfl (hc) (OpenTo.refl _), pop_geq rfl rfl⟩) ?_
      refine ahp 24 rfl rfl (by kernel_rfl) (by kernel_rfl) (pop_picko rfl (.inr ⟨_, rfl, fun h => by simp_all⟩) (.inl rfl)) ?_
      refine ahp 25 rfl rfl (by kernel_rfl) (by kernel_rfl) (pop_assign rfl) ?_
      refine ahz (by kernel_rfl) ?_
      refine hw_cond rfl (fun h9 => ?_) (fun h10 => ?_)
      ·rw [ord_si] at h9
       try simp at h9
       refine hw_reg ?_
       refine dp rfl (pop_assign rfl) ?_
       refine dn ?_
       refine hw_ret ?_
       (refine ret_g Ghost.drop rfl ⟨?_, rfl⟩
        show HVal.int .i64 _ = _
        rw [hg, refKeepsGo]; simp_all; done)
      ·rw [ord_si] at h10
       try simp at h10
       refine hw_skip ?_
       refine blockQ_n ?_
       refine seqQ_n ?_
       refine hw_reg1 ?_
       refine dp rfl (pop_move rfl) ?_
       refine dp rfl (pop_fieldAddr ty194 rfl ty9 (by decide) rfl) ?_
       refine dp rfl (pop_load ty9 rfl rfl rfl) ?_
       refine dp rfl (pop_buildSlice (hs := [_]) ty28 ty9 rfl rfl (by decide) (by decide) rfl) ?_
       refine de rfl (eop_append (i := 0) ty28 ty9 rfl rfl rfl rfl rfl (by simp [flat, hcells]) (by simp; omega) fun v70 => ?_)
       refine dp rfl (pop_assign rfl) ?_
       refine dn ?_
       refine blockQ_n ?_
       refine seqQ_n ?_
       refine hw_reg1 ?_
       refine dp rfl (pop_add64 rfl rfl (by omega) (by omega)) ?_
       refine dp rfl (pop_move rfl) ?_
       refine dn ?_
       refine ⟨k + 1, _, ?_, ?_, ⟨rfl, rfl, trivial⟩, (by repeat (first | exact keeps_refl | refine keeps_upd rfl ?_ | refine keeps_loop rfl rfl ?_)), perm_eq (by simp [List.take_add_one, hx])⟩
       ·refine ⟨by omega, ?_⟩
        rw [hg, refKeepsGo, take_map_snoc _ hx]; simp_all
        try (intro h1 h2; have := h10 h1; omega)
       ·dsimp only; omega
   ·try simp at h4
    have hnk : l.length ≤ k := by omega
    obtain rfl : k = l.length := by omega
    rw [drop_all (Nat.le_refl _), List.take_length] at hg
    rw [List.take_length]
    refine hw_exit ?_
    refine seqQ_x ?_
    refine loopQ2_x ?_
    refine blockQ_eq ?_
    refine seqQ_n ?_
    refine hw_seq ?_
    refine hw_ghost (Ghost.fa0 5 rfl) ?_
    refine hw_reg ?_
    refine dp rfl (pop_move rfl) ?_
    refine dp rfl (pop_call ca338 rfl (WeakL.refl _) (c_benchref1_twice (l := l.map (·.Player)) (by simpa using hl))) ?_
    refine dn ?_
    refine hw_cond rfl (fun h11 => ?_) (fun h12 => ?_)
    ·try simp at h11
     refine hw_reg ?_
     refine dp rfl (pop_assign rfl) ?_
     refine dn ?_
     refine hw_ret ?_
     (refine ret_p rfl ?_
      show HVal.int .i64 _ = _
      first | (rw [refKeeps, if_pos (by omega)]; done) | (rw [hg, refKeepsGo]; simp_all [isTwice]; done))
    ·try simp at h12
     refine hw_skip ?_
     refine seqQ_n ?_
     refine hw_reg ?_
     refine dp rfl (pop_assign rfl) ?_
     refine dn ?_
     refine hw_ret ?_
     (refine ret_p rfl ?_
      show HVal.int .i64 _ = _
      first | (rw [refKeeps, if_pos (by omega)]; done) | (rw [hg, refKeepsGo]; simp_all [isTwice]; done))

/-- benchwarmer/benchref1.DraftFault -/
theorem c_benchref1_DraftFault [Tracks] {r : Room} {k : List Keep} {s : List Swap} (ht : r.Teams.length ≤ 1000000) (hp : r.Players.length ≤ 1000000) (hs1 : ∀ s ∈ r.Teams, s.length ≤ 1000000) (hs2 : ∀ s ∈ r.Players, s.length ≤ 1000000) (hk0 : k.length ≤ 1000000) (hl : s.length ≤ 1000000) : ConP Tryz.prog 195 [eRoom r, eKeeps k, eSwaps s] (.int .i64 (draftFault r k s)) := by
 refine Con.of_body Tryz.func195 rfl Tryz.ntmps195 rfl rfl ?_
 refine hw_reg ?_
 refine dp rfl (pop_box rfl rfl) ?_
 refine dp rfl (pop_assign rfl) ?_
 refine dn ?_
 refine hw_seq ?_
 refine hw_reg ?_
 refine dp rfl (pop_loadw ty64 rfl rfl rfl rfl) ?_
 refine dp rfl (pop_call ca271 rfl (WeakL.refl _) (c_benchref1_RoomFault (by assumption) (by assumption) (by assumption) (by assumption))) ?_
 refine dp rfl (pop_assign rfl) ?_
 refine dn ?_
 refine hw_reg ?_
 refine dp rfl (pop_move rfl) ?_
 refine dp rfl (pop_neq rfl rfl) ?_
 refine dn ?_
 refine hw_cond rfl (fun h1 => ?_) (fun h2 => ?_)
 ·try simp at h1
  refine hw_reg ?_
  refine dp rfl (pop_move rfl) ?_
  refine dp rfl (pop_assign rfl) ?_
  refine dn ?_
  refine hw_ret ?_
  refine ret_p rfl ?_
  show HVal.int .i64 _ = _
  simp_all [draftFault]
 ·try simp at h2
  refine hw_skip ?_
  refine seqQ_n ?_
  refine hw_draw (fun _ => True) [] mixed ?_
  refine ahp 0 rfl rfl (by kernel_rfl) (by kernel_rfl) (pop_loadw ty64 rfl rfl rfl rfl) ?_
  refine ahp 1 rfl rfl (by kernel_rfl) (by kernel_rfl) (pop_move rfl) ?_
  refine ahp 2 rfl rfl (by kernel_rfl) (by kernel_rfl) (pop_call ca272 rfl (WeakL.refl _) (c_benchref1_KeepsFault (by assumption) (by assumption) (by assumption))) ?_
  refine ahp 3 rfl rfl (by kernel_rfl) (by kernel_rfl) (pop_loadw ty64 rfl rfl rfl rfl) ?_
  refine ahp 4 rfl rfl (by kernel_rfl) (by kernel_rfl) (pop_move rfl) ?_
  refine ahp 5 rfl rfl (by kernel_rfl) (by kernel_rfl) (pop_call ca273 rfl (WeakL.refl _) (c_benchref1_SwapsFault (by assumption) (by assumption) (by assumption))) ?_
  refine ahp 6 rfl rfl (by kernel_rfl) (by kernel_rfl) (pop_buildSlice (hs := [_, _]) ty172 ty33 rfl rfl (by decide) (by decide) rfl) ?_
  refine ahp 7 rfl rfl (by kernel_rfl) (by kernel_rfl) (pop_call ca20 rfl (WeakL.refl _) (c_cmp_Or_api_Errno (l := [_, _]) (by simp))) ?_
  refine ahp 8 rfl rfl (by kernel_rfl) (by kernel_rfl) (pop_assign rfl) ?_
  refine ahz (by kernel_rfl) ?_
  refine hw_ret ?_
  refine ret_p rfl ?_
  show HVal.int .i64 _ = _
  simp_all [draftFault]

/-- benchwarmer/benchref1.OpenFault -/
theorem c_benchref1_OpenFault [Tracks] {r : Room} {k : List Keep} {s : List Swap} (ht : r.Teams.length ≤ 1000000) (hp : r.Players.length ≤ 1000000) (hs1 : ∀ s ∈ r.Teams, s.length ≤ 1000000) (hs2 : ∀ s ∈ r.Players, s.length ≤ 1000000) (hk0 : k.length ≤ 1000000) (hl : s.length ≤ 1000000) : ConP Tryz.prog 119 [eRoom r, eKeeps k, eSwaps s] (.int .i64 (refOpenFault r k s)) := by
 refine Con.of_body Tryz.func119 rfl Tryz.ntmps119 rfl rfl ?_
 refine hw_reg ?_
 refine dp rfl (pop_box rfl rfl) ?_
 refine dp rfl (pop_assign rfl) ?_
 refine dn ?_
 refine hw_seq ?_
 refine hw_reg ?_
 refine dp rfl (pop_loadw ty64 rfl rfl rfl rfl) ?_
 refine dp rfl (pop_move rfl) ?_
 refine dp rfl (pop_move rfl) ?_
 refine dp rfl (pop_call ca195 rfl (WeakL.refl _) (c_benchref1_DraftFault (by assumption) (by assumption) (by assumption) (by assumption) (by assumption) (by assumption))) ?_
 refine dp rfl (pop_assign rfl) ?_
 refine dn ?_
 refine hw_reg ?_
 refine dp rfl (pop_move rfl) ?_
 refine dp rfl (pop_neq rfl rfl) ?_
 refine dn ?_
 refine hw_cond rfl (fun h1 => ?_) (fun h2 => ?_)
 ·try simp at h1
  refine hw_reg ?_
  refine dp rfl (pop_move rfl) ?_
  refine dp rfl (pop_assign rfl) ?_
  refine dn ?_
  refine hw_ret ?_
  refine ret_p rfl ?_
  show HVal.int .i64 _ = _
  (rw [refOpenFault, if_pos (by simp_all)]; done)
 ·try simp at h2
  refine hw_skip ?_
  refine seqQ_n ?_
  refine hw_seq ?_
  refine hw_reg ?_
  refine dp rfl (pop_move rfl) ?_
  refine dp rfl (pop_lenm ty66 rfl) ?_
  refine dp rfl (pop_move rfl) ?_
  refine dn ?_
  refine hw_block ?_
  refine hw_loopw [6, 9, 10, 11, 21, 22, 23, 24, 25, 26, 27, 28, 29, 30, 31, 32, 33, 34, 35] (fun (i : Nat) => [(21, .int .i64 i)]) (fun (i : Nat) => []) (fun (i : Nat) => i ≤ k.length ∧ (refOpenFault r k s = clashGo s (k.drop i))) (fun (i : Nat) => k.length - i) (0) ?_ ?_ ?_ ?_
  ·refine ⟨Nat.zero_le _, ?_⟩
   rw [refOpenFault, if_neg (by simp_all)]; rfl
  ·exact ⟨rfl, trivial⟩
  ·exact List.Perm.refl _
  ·intro i hinv
   obtain ⟨hi, hg⟩ := hinv
   refine hw_reg ?_
   refine dp rfl (pop_lss rfl rfl) ?_
   refine dn ?_
   refine hw_seq ?_
   refine hw_cond rfl (fun h3 => ?_) (fun h4 => ?_)
   ·try simp at h3
    obtain ⟨x, hx⟩ : ∃ x, k[i]? = some x := ⟨_, List.getElem?_eq_getElem h3⟩
    have hdx := drop_cons hx
    rw [hdx] at hg
    refine hw_skip ?_
    refine seqQ_n ?_
    refine hw_seq ?_
    refine hw_block ?_
    refine hw_reg ?_
    refine dp rfl (pop_idx ty66 ty194 rfl rfl rfl (by assumption)) ?_
    refine dp rfl (pop_loadw ty194 rfl rfl rfl rfl) ?_
    refine de rfl (eop_alloc ty194 rfl fun b9 => ?_)
    refine de0 (eop_storew ty194 rfl rfl rfl rfl rfl ?_)
    refine dn ?_
    refine hw_ghost (Ghost.fc0 9 rfl) ?_
    refine hw_reg ?_
    refine dp rfl (pop_move rfl) ?_
    refine dp rfl (pop_fieldAddr ty194 rfl ty3 (by decide) rfl) ?_
    refine dp rfl (pop_load ty3 rfl rfl rfl) ?_
    refine dp rfl (pop_fieldAddr ty194 rfl ty9 (by decide) rfl) ?_
    refine dp rfl (pop_load ty9 rfl rfl rfl) ?_
    refine dp rfl (pop_call ca196 rfl (WeakL.refl _) (c_benchref1_swapped (by assumption))) ?_
    refine dp rfl (pop_move rfl) ?_
    refine dp rfl (pop_extract rfl rfl) ?_
    refine dp rfl (pop_extract rfl rfl) ?_
    refine dp rfl (pop_assign rfl) ?_
    refine dp rfl (pop_assign rfl) ?_
    refine dn ?_
    refine hw_reg ?_
    refine dp rfl (pop_move rfl) ?_
    refine dn ?_
    refine hw_cond rfl (fun h5 => ?_) (fun h6 => ?_)
    ·try simp at h5
     refine hw_reg ?_
     refine dp rfl (pop_assign rfl) ?_
     refine dn ?_
     refine hw_ret ?_
     refine ret_p rfl ?_
     show HVal.int .i64 _ = _
     (rw [hg, clashGo]; simp_all [clash]; done)
    ·try simp at h6
     refine hw_skip ?_
     refine blockQ_n ?_
     refine seqQ_n ?_
     refine hw_reg1 ?_
     refine dp rfl (pop_add64 rfl rfl (by omega) (by omega)) ?_
     refine dp rfl (pop_move rfl) ?_
     refine dn ?_
     refine ⟨i + 1, ?_, ?_, ⟨rfl, trivial⟩, (by repeat (first | exact keeps_refl | refine keeps_upd rfl ?_ | refine keeps_loop rfl rfl ?_)), List.Perm.refl _⟩
     ·refine ⟨by omega, ?_⟩
      rw [hg, clashGo]; simp_all [clash]
     ·dsimp only; omega
   ·try simp at h4
    have hni : k.length ≤ i := by omega
    obtain rfl : i = k.length := by omega
    rw [drop_all (Nat.le_refl _)] at hg
    refine hw_exit ?_
    refine seqQ_x ?_
    refine loopQ_x ?_
    refine blockQ_eq ?_
    refine seqQ_n ?_
    refine hw_reg ?_
    refine dp rfl (pop_assign rfl) ?_
    refine dn ?_
    refine hw_ret ?_
    refine ret_p rfl ?_
    show HVal.int .i64 _ = _
    (rw [hg]; rfl)

/-- benchwarmer/benchref1.TurnsFor -/
theorem c_benchref1_TurnsFor [Tracks] {r : Room} {s : List Swap} (ht0 : 0 < r.Teams.length) (ht : r.Teams.length ≤ 20) (hr0 : 1 ≤ r.Rounds) (hr : r.Rounds ≤ 30) (hl : s.length ≤ 1000000) : ConP Tryz.prog 276 [eRoom r, eSwaps s] (eSs ((turns r s).map (·.team))) := by
 have ho := ownFrom_len r r.Rounds.toNat
 have hm := Nat.mul_le_mul (show r.Rounds.toNat ≤ 30 by omega) ht
 have ho6 : (ownTurns r).length ≤ 600 := by unfold ownTurns; omega
 refine Con.of_body Tryz.func276 rfl Tryz.ntmps276 rfl rfl ?_
 refine hw_reg ?_
 refine dp rfl (pop_box rfl rfl) ?_
 refine dp rfl (pop_assign rfl) ?_
 refine dn ?_
 refine hw_reg ?_
 refine dp rfl (pop_assign rfl) ?_
 refine dn ?_
 refine hw_ghost (Ghost.arr_nil 1) ?_
 refine hw_seq ?_
 refine hw_reg ?_
 refine dp rfl (pop_loadw ty64 rfl rfl rfl rfl) ?_
 refine dp rfl (pop_call ca275 rfl (WeakL.refl _) (c_benchref1_ownTurns (by assumption) (by assumption) (by assumption))) ?_
 refine dp rfl (pop_lenm ty28 rfl) ?_
 refine dp rfl (pop_move rfl) ?_
 refine dn ?_
 refine hw_block ?_
 refine hw_loopw2 [5, 6, 7, 8, 9, 13, 14, 15, 16, 17, 18, 19, 20, 21, 22, 23, 24, 25, 26, 27, 28, 29, 30, 31, 32, 33, 34] (fun (k : Nat) (u : Value) => [(13, .int .i64 k), (5, .raw u)]) (fun (k : Nat) (u : Value) => [.arr u 1 ((((tfor r s 0 (ownTurns r)).take k).map (·.team)).map .str)]) (fun (k : Nat) (u : Value) => k ≤ (ownTurns r).length ∧ (True)) (fun (k : Nat) (u : Value) => (ownTurns r).length - k) (0) (.slice none 0 0) ?_ ?_ ?_ ?_
 ·exact ⟨Nat.zero_le _, by simp_all⟩
 ·exact ⟨rfl, rfl, trivial⟩
 ·exact perm_eq (by simp)
 ·intro k u hinv
  obtain ⟨hk, -⟩ := hinv
  refine hw_reg ?_
  refine dp rfl (pop_lss rfl rfl) ?_
  refine dn ?_
  refine hw_seq ?_
  refine hw_cond rfl (fun h1 => ?_) (fun h2 => ?_)
  ·try simp at h1
   obtain ⟨x, hx⟩ : ∃ x, (ownTurns r)[k]? = some x := ⟨_, List.getElem?_eq_getElem h1⟩
   have hdx := drop_cons hx
   refine hw_skip ?_
   refine seqQ_n ?_
   refine hw_seq ?_
   refine hw_block ?_
   refine hw_reg ?_
   refine dp rfl (pop_move rfl) ?_
   refine dp rfl (pop_idx ty28 ty9 rfl rfl rfl (by assumption)) ?_
   refine dp rfl (pop_load ty9 rfl rfl rfl) ?_
   refine dp rfl (pop_assign rfl) ?_
   refine dp rfl (pop_assign rfl) ?_
   refine dn ?_
   refine hw_reg ?_
   refine dp rfl (pop_move rfl) ?_
   refine dp rfl (pop_move rfl) ?_
   refine dp rfl (pop_fieldAddr ty64 rfl ty28 (by decide) rfl) ?_
   refine dp rfl (pop_load ty28 rfl rfl rfl) ?_
   refine dp rfl (pop_lenm ty28 rfl) ?_
   refine dp rfl (pop_eq (pop_quo64 rfl rfl (by omega) (by omega) (by omega)) (congrArg _ (tdiv_nat _ _))) ?_
   have hdl := Nat.div_le_self k r.Teams.length
   have hdn : (0:Int) ≤ ((k / r.Teams.length : Nat) : Int) := Int.natCast_nonneg _
   refine dp rfl (pop_add64 rfl rfl (by omega) (by omega)) ?_
   refine dp rfl (pop_move rfl) ?_
   refine dp rfl (pop_call ca196 rfl (WeakL.refl _) (c_benchref1_swapped (by assumption))) ?_
   refine dp rfl (pop_move rfl) ?_
   refine dp rfl (pop_extract rfl rfl) ?_
   refine dp rfl (pop_extract rfl rfl) ?_
   refine dp rfl (pop_assign rfl) ?_
   refine dp rfl (pop_assign rfl) ?_
   refine dn ?_
   refine hw_reg1 ?_
   refine dp rfl (pop_move rfl) ?_
   refine dp rfl (pop_move rfl) ?_
   refine dp rfl (pop_buildSlice (hs := [_]) ty28 ty9 rfl rfl (by decide) (by decide) rfl) ?_
   refine de rfl (eop_append (i := 0) ty28 ty9 rfl rfl rfl rfl rfl (by simp [flat, hcells]) (by simp; omega) fun v33 => ?_)
   refine dp rfl (pop_assign rfl) ?_
   refine dn ?_
   refine blockQ_n ?_
   refine seqQ_n ?_
   refine hw_reg1 ?_
   refine dp rfl (pop_add64 rfl rfl (by omega) (by omega)) ?_
   refine dp rfl (pop_move rfl) ?_
   refine dn ?_
   refine ⟨k + 1, _, ?_, ?_, ⟨rfl, rfl, trivial⟩, (by repeat (first | exact keeps_refl | refine keeps_upd rfl ?_ | refine keeps_loop rfl rfl ?_)), perm_eq (by dsimp only; rw [take_map_snoc _ (tfor_get r s _ 0 k x hx)]; simp)⟩
   ·exact ⟨by omega, trivial⟩
   ·dsimp only; omega
  ·try simp at h2
   have hnk : (ownTurns r).length ≤ k := by omega
   obtain rfl : k = (ownTurns r).length := by omega
   refine hw_exit ?_
   refine seqQ_x ?_
   refine loopQ2_x ?_
   refine blockQ_eq ?_
   refine seqQ_n ?_
   refine hw_reg ?_
   refine dp rfl (pop_move rfl) ?_
   refine dp rfl (pop_assign rfl) ?_
   refine dn ?_
   refine hw_ret ?_
   refine ret_fa (M := []) 4 rfl rfl ?_
   rw [← ref_turns, ← tfor_len r s 0 (ownTurns r), List.take_length]

end Go.Proofs.YtcnfhcicepmjcaaGreatDoor
end
section
namespace Go.Proofs.YtcnfhcicepmjcaaGreatDoor
open Go.HL
set_option maxRecDepth 100000
set_option linter.unusedVariables false
set_option linter.unusedSimpArgs false
/-- slices.Delete of one place -/
theorem c_slices_Delete [Tracks] {l : List Str} {v : Value} {k : Nat} (hk : k < l.length) (hl : l.length ≤ 1000000) : Con Tryz.prog 118 [.raw v, .int .i64 (k : Int), .int .i64 ((k : Int) + 1)] [.arr v 1 (l.map .str)] fun x M' => ∃ u, x = .raw u ∧ M' = [.arr u 1 ((l.eraseIdx k).map .str)] := by
 have hlen : (l.eraseIdx k).length = l.length - 1 := by rw [List.length_eraseIdx]; simp [hk]
 refine con_rowd (zs := l.eraseIdx k) (by omega) (by omega) fun b off cap w h1 h2 h3 => ?_
 refine (Any.slices_Delete_string Tryz.lays224 b off cap k (k + 1) l w h1 h2 h3 (by omega) (by omega)).mono ?_
 rintro _ _ ⟨rfl, q, rfl⟩
 have e1 : l.length - (k + 1 - k) = (l.eraseIdx k).length := by omega
 have e2 : l.length - (l.eraseIdx k).length = k + 1 - k := by omega
 refine ⟨by rw [e1], q, ?_⟩
 rw [e2, List.eraseIdx_eq_take_drop_succ]
/-- slices.Compact where the long slice is used again -/
theorem c_slices_Compact_k [Tracks] {l : List Str} {b off cap n : Nat} (hl : l.length ≤ 1000000) (hn : l.length = n) : Con Tryz.prog 47 [.raw (.slice (some ⟨b, off, none⟩) n cap)] [.arr (.slice (some ⟨b, off, none⟩) n cap) 1 (l.map .str)] fun x M' => x = .raw (.slice (some ⟨b, off, none⟩) (Lib.compact l).length cap) ∧ M' = [.arr (.slice (some ⟨b, off, none⟩) n cap) 1 ((fillUp n (Lib.compact l)).map .str)] := by
 subst hn
 exact con_rowk (compact_le l) (fun w h1 h2 h3 => Any.slices_Compact_string Tryz.lays194 b off cap l w h1 (by omega) h3)

set_option maxHeartbeats 2000000 in
/-- (*benchwarmer/benchmake.Stream).KeepList -/
theorem c_benchmake_Stream_KeepList [Tracks] {b : Nat} {l : List Int} {a : Nat} {r : Room}  (ha : a ≤ 800000) (hr : GoodRoom r) : Con Tryz.prog 33 [pAt b, eRoom r] [St b l a] (fun x M' => ∃ k a', x = eKeeps k ∧ GoodKeeps k ∧ a' ≤ a + 60 ∧ M' = [St b l a']) := by
 have hrp := hr.p20
 have hrt := hr.t4
 refine Con.of_body Tryz.func33 rfl Tryz.ntmps33 rfl rfl ?_
 refine hw_reg ?_
 refine dp rfl (pop_box rfl rfl) ?_
 refine dp rfl (pop_assign rfl) ?_
 refine dn ?_
 refine hw_reg ?_
 refine dp rfl (pop_assign rfl) ?_
 refine dn ?_
 refine hw_reg ?_
 refine dp rfl ((pop_fieldAddr ty64 rfl ty28 (by decide) rfl)) ?_
 refine dp rfl (pop_load ty28 rfl rfl rfl) ?_
 refine de rfl (eop_calla ca48 rfl (WeakL.refl _) (c_slices_Clone_string_string (by omega)) fun v15 => ?_)
 refine dp rfl (pop_assign rfl) ?_
 refine dn ?_
 refine hw_reg ?_
 refine dp rfl ((pop_fieldAddr ty64 rfl ty28 (by decide) rfl)) ?_
 refine dp rfl (pop_load ty28 rfl rfl rfl) ?_
 refine de rfl (eop_calla ca48 rfl (WeakL.refl _) (c_slices_Clone_string_string (by omega)) fun v18 => ?_)
 refine dp rfl (pop_assign rfl) ?_
 refine dn ?_
 refine hw_reg ?_
 refine dp rfl (pop_move rfl) ?_
 refine de rfl (eop_callx (i := 0) ca46 rfl (WeakL.refl _) rfl (c_slices_Sort (l := r.Teams) (by omega)) ?_)
 rintro _ _ ⟨rfl, rfl⟩
 refine dn ?_
 refine hw_seq ?_
 refine hw_reg ?_
 refine dp rfl (pop_move rfl) ?_
 refine de rfl (eop_callx (i := 0) ca47 rfl (WeakL.refl _) rfl (c_slices_Compact (l := sortS r.Teams) (by rw [sortS_len]; omega)) ?_)
 rintro _ _ ⟨u22, rfl, rfl⟩
 refine de rfl (eop_lenm (i := 0) ty28 rfl rfl ?_)
 refine dp rfl (pop_move rfl) ?_
 refine dn ?_
 refine hw_ghost (Ghost.fa 22 (i := 0) rfl rfl) ?_
 have hts4 : (Lib.compact (sortS r.Teams)).length ≤ 4 := Nat.le_trans (cs_len _) hrt
 have hss : ∀ s ∈ Lib.compact (sortS r.Teams), Sh s := fun s hs => hr.ts s (mem_cs hs)
 generalize Lib.compact (sortS r.Teams) = ts at *
 refine hw_ghost (Ghost.arr_nil 3) ?_
 refine hw_block ?_
 refine hw_loopw2 [5, 6, 9, 10, 11, 24, 25, 26, 27, 28, 29, 30, 31, 32, 33, 34, 35, 36, 37, 38, 39, 40, 41, 42, 43, 44, 45, 46, 47, 48, 49, 50, 51, 52, 53, 54, 55, 56, 57, 58, 59, 60, 61] (fun (k : Nat) (q : KLs) => [(24, .int .i64 k), (5, .raw q.u), (6, .raw q.lv)]) (fun (k : Nat) (q : KLs) => [St b l q.a, .arr q.u 3 (q.out.map eKeep), .arr q.lv 1 (q.left.map .str)]) (fun (k : Nat) (q : KLs) => k ≤ ts.length ∧ (KLok (4 * k) a q)) (fun (k : Nat) (q : KLs) => ts.length - k) (0) (⟨.slice none 0 0, [], v15, r.Players, a⟩) ?_ ?_ ?_ ?_
 ·exact ⟨Nat.zero_le _, ⟨by simp, hrp, hr.ps, by simp, by dsimp only; omega⟩⟩
 ·exact ⟨rfl, rfl, rfl, trivial⟩
 ·repeat (first | exact List.Perm.nil | refine permTo 0 rfl ?_ | refine permTo 1 rfl ?_ | refine permTo 2 rfl ?_ | refine permTo 3 rfl ?_ | (refine permToE 0 rfl ?hq ?_; (case hq => simp [setL, hcells]; done)) | (refine permToE 1 rfl ?hq ?_; (case hq => simp [setL, hcells]; done)) | (refine permToE 2 rfl ?hq ?_; (case hq => simp [setL, hcells]; done)) | (refine permToE 3 rfl ?hq ?_; (case hq => simp [setL, hcells]; done)) | fail)
 ·intro k q hinv
  obtain ⟨hk, hg⟩ := hinv
  obtain ⟨u, out, lv, left, a2⟩ := q
  obtain ⟨g1, g2, g3, g4, g5⟩ := id hg
  dsimp only at g1 g2 g3 g4 g5
  refine hw_reg ?_
  refine dp rfl (pop_lss rfl rfl) ?_
  refine dn ?_
  refine hw_seq ?_
  refine hw_cond rfl (fun h1 => ?_) (fun h2 => ?_)
  ·try simp at h1
   obtain ⟨x, hx⟩ : ∃ x, ts[k]? = some x := ⟨_, List.getElem?_eq_getElem h1⟩
   have hdx := drop_cons hx
   refine hw_skip ?_
   refine seqQ_n ?_
   refine hw_seq ?_
   refine hw_block ?_
   refine hw_reg ?_
   refine dp rfl (pop_idx ty28 ty9 rfl rfl rfl (by assumption)) ?_
   refine dp rfl (pop_load ty9 rfl rfl rfl) ?_
   refine dp rfl (pop_assign rfl) ?_
   refine dn ?_
   refine hw_reg ?_
   refine dp rfl (pop_assign rfl) ?_
   refine dn ?_
   refine hw_block ?_
   refine hw_loopw2 [5, 6, 10, 11, 28, 29, 30, 31, 32, 33, 34, 35, 36, 37, 38, 39, 40, 41, 42, 43, 44, 45, 46, 47, 48, 49, 50, 51, 52, 53, 54, 55, 56, 57, 58, 59, 60] (fun (m : Nat) (q : KLs) => [(10, .int .i64 ((m : Int) + 1)), (5, .raw q.u), (6, .raw q.lv)]) (fun (m : Nat) (q : KLs) => [St b l q.a, .arr q.u 3 (q.out.map eKeep), .arr q.lv 1 (q.left.map .str)]) (fun (m : Nat) (q : KLs) => m ≤ 4 ∧ KLok (4 * k + m) a q) (fun (m : Nat) (q : KLs) => 4 - m) (0) (⟨u, out, lv, left, a2⟩) ?_ ?_ ?_ ?_
   ·exact ⟨by omega, hg⟩
   ·exact ⟨rfl, rfl, rfl, trivial⟩
   ·exact List.Perm.refl _
   ·intro m q hinv
    obtain ⟨hm, hm2⟩ := hinv
    obtain ⟨u, out, lv, left, a2⟩ := q
    obtain ⟨g1, g2, g3, g4, g5⟩ := id hm2
    dsimp only at g1 g2 g3 g4 g5
    refine hw_seq ?_
    refine hw_reg ?_
    refine dp rfl (pop_move rfl) ?_
    refine dp rfl ((pop_fieldAddr ty64 rfl ty3 (by decide) rfl)) ?_
    refine dp rfl (pop_load ty3 rfl rfl rfl) ?_
    refine dp rfl (pop_min rfl rfl) ?_
    refine dp rfl (pop_leq rfl rfl) ?_
    refine dn ?_
    refine hw_cond rfl (fun h3 => ?_) (fun h4 => ?_)
    ·try simp at h3
     have hm4 : m < 4 := by omega
     refine hw_skip ?_
     refine seqQ_n ?_
     refine hw_seq ?_
     refine hw_block ?_
     refine hw_reg ?_
     refine dp rfl (pop_move rfl) ?_
     refine de rfl (eop_lenm (i := 2) ty28 rfl rfl ?_)
     refine dp rfl (pop_gtr rfl rfl) ?_
     refine dp rfl (pop_move rfl) ?_
     refine dg rfl rfl (fun hc => ⟨_, OpenTo.refl _, pop_move rfl⟩) ?_
     refine dgx (fun x M' => ∃ (y : Bool) (a3 : Nat), x = .bool y ∧ a3 ≤ a2 + 1 ∧ M' = [St b l a3, .arr u 3 (out.map eKeep), .arr lv 1 (left.map .str)]) rfl rfl (fun hc => ⟨_, false, a2, rfl, by omega, rfl⟩) (fun hc => ⟨_, OpenTo.upd (t := 39) rfl (hc) (OpenTo.refl _), eop_callx (i := 0) ca84 rfl (WeakL.refl _) rfl (c_benchmake_Stream_Flip (a := a2) (by omega) (by omega)) (fun h M' hh => by
      obtain ⟨y, h1, h2⟩ := hh
      exact ⟨y, a2 + 1, h1, by omega, by rw [h2]; rfl⟩)⟩) ?_
     rintro _ _ ⟨y, a3, rfl, ha3, rfl⟩
     refine dp rfl (pop_picko rfl (.inr ⟨_, rfl, fun h => by simp_all⟩) (.inl rfl)) ?_
     refine dn ?_
     refine hw_cond rfl (fun h5 => ?_) (fun h6 => ?_)
     ·try simp at h5
      refine hw_reg ?_
      refine dp rfl (pop_move rfl) ?_
      refine dp rfl (pop_move rfl) ?_
      refine de rfl (eop_lenm (i := 2) ty28 rfl rfl ?_)
      refine de rfl (eop_callx (i := 0) ca83 rfl (WeakL.refl _) rfl (c_benchmake_Stream_Next (by omega) (by omega)) ?_)
      rintro _ _ ⟨y45, rfl, hy45, rfl⟩
      refine dp rfl (pop_assign rfl) ?_
      refine dn ?_
      obtain ⟨z, hz⟩ : ∃ z, left[y45]? = some z := ⟨_, List.getElem?_eq_getElem (by omega)⟩
      refine hw_arrc (i := 2) rfl (fun h0 he => ?_) (fun lb loff lcap hv hcap => ?_)
      ·exfalso; have := congrArg List.length he; simp at this; subst this; simp at hz
      subst hv
      refine hw_reg ?_
      refine dp rfl (pop_move rfl) ?_
      refine dp rfl (pop_move rfl) ?_
      refine dp rfl (pop_move rfl) ?_
      refine dp rfl (pop_move rfl) ?_
      refine dp rfl (pop_idxraw (j := y45) ty28 ty9 rfl rfl rfl (by simp; omega)) ?_
      refine de rfl (eop_load_el (i := 2) (j := y45) 0 ty9 rfl (by omega) rfl hz rfl rfl ?_)
      refine dp rfl (pop_move rfl) ?_
      refine dp rfl (pop_build (cs := [_, _, _]) ty194 pl194 rfl) ?_
      refine dp rfl (pop_buildSlice (hs := [_]) ty66 ty194 rfl rfl (by decide) (by decide) rfl) ?_
      refine de rfl (eop_append (i := 1) ty66 ty194 rfl rfl rfl rfl rfl (by simp [flat, hcells]) (by simp; omega) fun v55 => ?_)
      refine dp rfl (pop_assign rfl) ?_
      refine dn ?_
      refine hw_reg1 ?_
      refine dp rfl (pop_move rfl) ?_
      refine dp rfl (pop_move rfl) ?_
      refine dp rfl (pop_move rfl) ?_
      refine dp rfl (pop_add64 rfl rfl (by omega) (by omega)) ?_
      refine de rfl (eop_callx (i := 2) ca118 rfl (WeakL.refl _) rfl (c_slices_Delete (l := left) (k := y45) (by omega) (by omega)) ?_)
      rintro _ _ ⟨u60, rfl, rfl⟩
      refine dp rfl (pop_assign rfl) ?_
      refine dn ?_
      refine blockQ_n ?_
      refine seqQ_n ?_
      refine hw_reg1 ?_
      refine dp rfl (pop_move rfl) ?_
      refine dp rfl (pop_add64 rfl rfl (by omega) (by omega)) ?_
      refine dp rfl (pop_assign rfl) ?_
      refine dn ?_
      exact ⟨m + 1, ⟨v55, out ++ [⟨x, z, (m : Int) + 1⟩], u60, left.eraseIdx y45, a3 + 1⟩, ⟨by omega, hm2.add (by omega) (hss x (List.mem_of_getElem? hx)) hz⟩, by dsimp only; omega, ⟨rfl, rfl, rfl, trivial⟩, (by repeat (first | exact keeps_refl | refine keeps_upd rfl ?_ | refine keeps_loop rfl rfl ?_)), by repeat (first | exact List.Perm.nil | refine permTo 0 rfl ?_ | refine permTo 1 rfl ?_ | refine permTo 2 rfl ?_ | refine permTo 3 rfl ?_ | (refine permToE 0 rfl ?hq ?_; (case hq => simp [setL, hcells]; done)) | (refine permToE 1 rfl ?hq ?_; (case hq => simp [setL, hcells]; done)) | (refine permToE 2 rfl ?hq ?_; (case hq => simp [setL, hcells]; done)) | (refine permToE 3 rfl ?hq ?_; (case hq => simp [setL, hcells]; done)) | fail)⟩
     ·try simp at h6
      refine hw_skip ?_
      refine blockQ_n ?_
      refine seqQ_n ?_
      refine hw_reg1 ?_
      refine dp rfl (pop_move rfl) ?_
      refine dp rfl (pop_add64 rfl rfl (by omega) (by omega)) ?_
      refine dp rfl (pop_assign rfl) ?_
      refine dn ?_
      exact ⟨m + 1, ⟨u, out, lv, left, a3⟩, ⟨by omega, hm2.more (by omega)⟩, by dsimp only; omega, ⟨rfl, rfl, rfl, trivial⟩, (by repeat (first | exact keeps_refl | refine keeps_upd rfl ?_ | refine keeps_loop rfl rfl ?_)), by repeat (first | exact List.Perm.nil | refine permTo 0 rfl ?_ | refine permTo 1 rfl ?_ | refine permTo 2 rfl ?_ | refine permTo 3 rfl ?_ | (refine permToE 0 rfl ?hq ?_; (case hq => simp [setL, hcells]; done)) | (refine permToE 1 rfl ?hq ?_; (case hq => simp [setL, hcells]; done)) | (refine permToE 2 rfl ?hq ?_; (case hq => simp [setL, hcells]; done)) | (refine permToE 3 rfl ?hq ?_; (case hq => simp [setL, hcells]; done)) | fail)⟩
    ·try simp at h4
     refine hw_exit ?_
     refine seqQ_x ?_
     refine loopQ2_x ?_
     refine blockQ_eq ?_
     refine blockQ_n ?_
     refine seqQ_n ?_
     refine hw_reg1 ?_
     refine dp rfl (pop_add64 rfl rfl (by omega) (by omega)) ?_
     refine dp rfl (pop_move rfl) ?_
     refine dn ?_
     exact ⟨k + 1, _, ⟨by omega, hm2.mono (by omega)⟩, by dsimp only; omega, ⟨rfl, rfl, rfl, trivial⟩, (by repeat (first | exact keeps_refl | refine keeps_upd rfl ?_ | refine keeps_loop rfl rfl ?_)), List.Perm.refl _⟩
  ·try simp at h2
   have hnk : ts.length ≤ k := by omega
   obtain rfl : k = ts.length := by omega
   refine hw_exit ?_
   refine seqQ_x ?_
   refine loopQ2_x ?_
   refine blockQ_eq ?_
   refine seqQ_n ?_
   refine hw_join [12, 62, 63, 64, 65, 66, 67, 68, 69, 70, 71, 72, 73, 74, 75, 76, 77, 78, 79, 80, 81, 82, 83, 84, 85, 86, 87, 88, 89, 90, 91, 92, 93, 94, 95, 96, 97, 98, 99, 100, 101, 102, 103, 104, 105, 106, 107, 108] (fun (q : List Keep × Nat) => []) (fun (q : List Keep × Nat) => [St b l q.2, .arr u 3 (q.1.map eKeep)]) (fun (q : List Keep × Nat) => q.1.length ≤ 16 ∧ (∀ x ∈ q.1, Sh x.Team ∧ Sh x.Player) ∧ q.2 ≤ a + 60) ?_ ?_
   ·skip
    refine hw_ghost (Ghost.perm (M' := [.arr lv 1 (left.map .str), St b l a2, .arr u 3 (out.map eKeep)]) (by repeat (first | exact List.Perm.nil | refine permTo 0 rfl ?_ | refine permTo 1 rfl ?_ | refine permTo 2 rfl ?_ | refine permTo 3 rfl ?_ | (refine permToE 0 rfl ?hq ?_; (case hq => simp [setL, hcells]; done)) | (refine permToE 1 rfl ?hq ?_; (case hq => simp [setL, hcells]; done)) | (refine permToE 2 rfl ?hq ?_; (case hq => simp [setL, hcells]; done)) | (refine permToE 3 rfl ?hq ?_; (case hq => simp [setL, hcells]; done)) | fail))) ?_
    refine hw_ghost Ghost.drop ?_
    refine hw_reg ?_
    refine dp rfl (pop_move rfl) ?_
    refine de rfl (eop_lenm (i := 1) ty66 rfl rfl ?_)
    refine dp rfl (pop_gtr rfl rfl) ?_
    refine dp rfl (pop_move rfl) ?_
    refine dg rfl rfl (fun hc => ⟨_, OpenTo.refl _, pop_move rfl⟩) ?_
    refine dgx (fun x M' => ∃ (y : Bool) (a3 : Nat), x = .bool y ∧ a3 ≤ a2 + 1 ∧ M' = [St b l a3, .arr u 3 (out.map eKeep)]) rfl rfl (fun hc => ⟨_, false, a2, rfl, by omega, rfl⟩) (fun hc => ⟨_, OpenTo.upd (t := 66) rfl (hc) (OpenTo.refl _), eop_callx (i := 0) ca84 rfl (WeakL.refl _) rfl (c_benchmake_Stream_Flip (a := a2) (by omega) (by omega)) (fun h M' hh => by
     obtain ⟨y, h1, h2⟩ := hh
     exact ⟨y, a2 + 1, h1, by omega, by rw [h2]; rfl⟩)⟩) ?_
    rintro _ _ ⟨y, a3, rfl, ha3, rfl⟩
    refine dp rfl (pop_picko rfl (.inr ⟨_, rfl, fun h => by simp_all⟩) (.inl rfl)) ?_
    refine dn ?_
    refine hw_cond rfl (fun h7 => ?_) (fun h8 => ?_)
    ·try simp at h7
     have ho0 : 0 < out.length := by simp_all
     have hol : out.length ≤ 16 := by omega
     refine hw_arrc (i := 1) rfl (fun h0 he => ?_) (fun ob off cap hv hcap => ?_)
     ·exfalso; have := congrArg List.length he; simp at this; subst this; simp at ho0
     subst hv
     refine hw_reg ?_
     refine dp rfl (pop_move rfl) ?_
     refine dp rfl (pop_move rfl) ?_
     refine dp rfl (pop_move rfl) ?_
     refine de rfl (eop_lenm (i := 1) ty66 rfl rfl ?_)
     refine de rfl (eop_callx (i := 0) ca83 rfl (WeakL.refl _) rfl (c_benchmake_Stream_Next (by omega) (by omega)) ?_)
     rintro _ _ ⟨y73, rfl, hy73, rfl⟩
     refine dp rfl (pop_idxraw (j := y73) ty66 ty194 rfl rfl rfl (by simp; omega)) ?_
     refine dp rfl (pop_assign rfl) ?_
     refine dn ?_
     obtain ⟨x, hx⟩ : ∃ x, out[y73]? = some x := ⟨_, List.getElem?_eq_getElem (by omega)⟩
     obtain ⟨x0, hx0⟩ : ∃ x, out[0]? = some x := ⟨_, List.getElem?_eq_getElem (by omega)⟩
     refine hw_draw1 (fun M => ∃ i : Nat, M[i]? = some (.arr (.slice (some ⟨ob, off, none⟩) (out.map eKeep).length cap) 3 (out.map eKeep))) [7, 14, 18, 25] mixed ?_
     refine ahp 0 rfl rfl (by kernel_rfl) (by kernel_rfl) (pop_move rfl) ?_
     refine ahp 1 rfl rfl (by kernel_rfl) (by kernel_rfl) (pop_move rfl) ?_
     refine ahp 2 rfl rfl (by kernel_rfl) (by kernel_rfl) (pop_move rfl) ?_
     refine ahp 3 rfl rfl (by kernel_rfl) (by kernel_rfl) (pop_move rfl) ?_
     refine ahp 4 rfl rfl (by kernel_rfl) (by kernel_rfl) (pop_move rfl) ?_
     refine ahp 5 rfl rfl (by kernel_rfl) (by kernel_rfl) ((pop_nilCheck_raw rfl)) ?_
     refine ahp 6 rfl rfl (by kernel_rfl) (by kernel_rfl) ((pop_fieldAddr_raw ty194 rfl ty9 (by decide) rfl)) ?_
     refine ahl 7 rfl rfl (by kernel_rfl) (by kernel_rfl) (by simp) ⟨1, rfl⟩ (fun M hM => by obtain ⟨i, hi⟩ := hM; exact eop_load_el (i := i) (j := y73) 0 ty9 rfl (by omega) hi hx rfl rfl ⟨rfl, rfl⟩) ?_
     refine ahp 8 rfl rfl (by kernel_rfl) (by kernel_rfl) (pop_buildSlice (hs := [_, _]) ty28 ty9 rfl rfl (by decide) (by decide) rfl) ?_
     refine ahp 10 rfl rfl (by kernel_rfl) (by kernel_rfl) (pop_move rfl) ?_
     refine ahp 11 rfl rfl (by kernel_rfl) (by kernel_rfl) (pop_move rfl) ?_
     refine ahp 12 rfl rfl (by kernel_rfl) (by kernel_rfl) ((pop_nilCheck_raw rfl)) ?_
     refine ahp 13 rfl rfl (by kernel_rfl) (by kernel_rfl) ((pop_fieldAddr_raw ty194 rfl ty9 (by decide) rfl)) ?_
     refine ahl 14 rfl rfl (by kernel_rfl) (by kernel_rfl) (by simp) ⟨1, rfl⟩ (fun M hM => by obtain ⟨i, hi⟩ := hM; exact eop_load_el (i := i) (j := y73) 1 ty9 rfl (by omega) hi hx rfl rfl ⟨rfl, rfl⟩) ?_
     refine ahp 15 rfl rfl (by kernel_rfl) (by kernel_rfl) (pop_move rfl) ?_
     refine ahp 16 rfl rfl (by kernel_rfl) (by kernel_rfl) (pop_idxraw (j := 0) ty66 ty194 rfl rfl rfl (by simp; omega)) ?_
     refine ahp 17 rfl rfl (by kernel_rfl) (by kernel_rfl) ((pop_fieldAddr_raw ty194 rfl ty9 (by decide) rfl)) ?_
     refine ahl 18 rfl rfl (by kernel_rfl) (by kernel_rfl) (by simp) ⟨1, rfl⟩ (fun M hM => by obtain ⟨i, hi⟩ := hM; exact eop_load_el (i := i) (j := 0) 1 ty9 rfl (by omega) hi hx0 rfl rfl ⟨rfl, rfl⟩) ?_
     refine ahp 19 rfl rfl (by kernel_rfl) (by kernel_rfl) (pop_buildSlice (hs := [_, _, _]) ty28 ty9 rfl rfl (by decide) (by decide) rfl) ?_
     refine ahp 21 rfl rfl (by kernel_rfl) (by kernel_rfl) (pop_move rfl) ?_
     refine ahp 22 rfl rfl (by kernel_rfl) (by kernel_rfl) (pop_move rfl) ?_
     refine ahp 23 rfl rfl (by kernel_rfl) (by kernel_rfl) ((pop_nilCheck_raw rfl)) ?_
     refine ahp 24 rfl rfl (by kernel_rfl) (by kernel_rfl) ((pop_fieldAddr_raw ty194 rfl ty3 (by decide) rfl)) ?_
     refine ahl 25 rfl rfl (by kernel_rfl) (by kernel_rfl) (by simp) ⟨1, rfl⟩ (fun M hM => by obtain ⟨i, hi⟩ := hM; exact eop_load_el (i := i) (j := y73) 2 ty3 rfl (by omega) hi hx rfl rfl ⟨rfl, rfl⟩) ?_
     refine ahp 26 rfl rfl (by kernel_rfl) (by kernel_rfl) (pop_buildSlice (hs := [_, _, _]) ty22 ty3 rfl rfl (by decide) (by decide) rfl) ?_
     refine ahe 9 rfl (by kernel_rfl) ?_
     refine hop_e rfl (eop_callx (i := 0) ca13 rfl (WeakL.refl _) rfl (c_benchmake_Stream_Some (L := [_, _]) (by omega) (by simp_all) (by simp_all)) ?_)
     rintro _ _ ⟨y84, rfl, hy84, rfl⟩
     refine ⟨fun _ => by first | exact .inl ⟨0, rfl⟩ | exact .inl ⟨1, rfl⟩ | exact .inl ⟨2, rfl⟩ | exact .inr (by simp [Before, Region.binds]), ?_⟩
     refine ahe 20 rfl (by kernel_rfl) ?_
     refine hop_e rfl (eop_callx (i := 0) ca13 rfl (WeakL.refl _) rfl (c_benchmake_Stream_Some (L := [_, _, _]) (by omega) (by simp_all) (by simp_all)) ?_)
     rintro _ _ ⟨y95, rfl, hy95, rfl⟩
     refine ⟨fun _ => by first | exact .inl ⟨0, rfl⟩ | exact .inl ⟨1, rfl⟩ | exact .inl ⟨2, rfl⟩ | exact .inr (by simp [Before, Region.binds]), ?_⟩
     refine ahe 27 rfl (by kernel_rfl) ?_
     refine hop_e rfl (eop_callx (i := 0) ca11 rfl (WeakL.refl _) rfl (c_benchmake_Stream_Pick (L := [_, _, _]) (by omega) (by simp_all) (by simp_all)) ?_)
     rintro _ _ ⟨y102, rfl, hy102, rfl⟩
     refine ⟨fun _ => by first | exact .inl ⟨0, rfl⟩ | exact .inl ⟨1, rfl⟩ | exact .inl ⟨2, rfl⟩ | exact .inr (by simp [Before, Region.binds]), ?_⟩
     refine ahp 28 rfl rfl (by kernel_rfl) (by kernel_rfl) ((pop_nilCheck_raw rfl)) ?_
     refine ahp 29 rfl rfl (by kernel_rfl) (by kernel_rfl) ((pop_fieldAddr_raw ty194 rfl ty9 (by decide) rfl)) ?_
     refine ahe 30 rfl (by kernel_rfl) ?_
     refine hop_e0 (eop_store_arr (i := 1) (j := y73) (f := 0) (y := eKeep x) (y' := eKeep ⟨y84, x.Player, x.Round⟩) ty9 rfl (by omega) rfl rfl (by simp [hx]) rfl rfl (by simp [hcells]) rfl ?_)
     refine ⟨fun _ => .inr (by simp [Before, Region.binds]), ?_⟩
     refine ahp 31 rfl rfl (by kernel_rfl) (by kernel_rfl) ((pop_nilCheck_raw rfl)) ?_
     refine ahp 32 rfl rfl (by kernel_rfl) (by kernel_rfl) ((pop_fieldAddr_raw ty194 rfl ty9 (by decide) rfl)) ?_
     refine ahe 33 rfl (by kernel_rfl) ?_
     refine hop_e0 (eop_store_arr (i := 1) (j := y73) (f := 1) (y := eKeep ⟨y84, x.Player, x.Round⟩) (y' := eKeep ⟨y84, y95, x.Round⟩) ty9 rfl (by omega) rfl rfl (set_self (map_get hx)) rfl rfl (by simp [hcells]) rfl ?_)
     refine ⟨fun _ => .inr (by simp [Before, Region.binds]), ?_⟩
     refine ahp 34 rfl rfl (by kernel_rfl) (by kernel_rfl) ((pop_nilCheck_raw rfl)) ?_
     refine ahp 35 rfl rfl (by kernel_rfl) (by kernel_rfl) ((pop_fieldAddr_raw ty194 rfl ty3 (by decide) rfl)) ?_
     refine ahe 36 rfl (by kernel_rfl) ?_
     refine hop_e0 (eop_store_arr (i := 1) (j := y73) (f := 2) (y := eKeep ⟨y84, y95, x.Round⟩) (y' := eKeep ⟨y84, y95, y102⟩) ty3 rfl (by omega) rfl rfl (set_self (set_self (map_get hx))) rfl rfl (by simp [hcells]) rfl ?_)
     refine ⟨fun _ => .inr (by simp [Before, Region.binds]), ?_⟩
     refine ahz (by kernel_rfl) ?_
     exact ⟨(out.set y73 ⟨y84, y95, y102⟩, a3 + 4), ⟨by simp; omega, keeps_set g4 (by simp at hy84; rcases hy84 with rfl | rfl <;> first | exact zz_sh | exact (g4 x (List.mem_of_getElem? hx)).1) (by simp at hy95; rcases hy95 with rfl | rfl | rfl <;> first | exact zz_sh | exact (g4 x (List.mem_of_getElem? hx)).2 | exact (g4 x0 (List.mem_of_getElem? hx0)).2), by dsimp only; omega⟩, trivial, (by repeat (first | exact keeps_refl | refine keeps_upd rfl ?_ | refine keeps_loop rfl rfl ?_)), by repeat (first | exact List.Perm.nil | refine permTo 0 rfl ?_ | refine permTo 1 rfl ?_ | refine permTo 2 rfl ?_ | refine permTo 3 rfl ?_ | (refine permToE 0 rfl ?hq ?_; (case hq => simp [setL, hcells]; done)) | (refine permToE 1 rfl ?hq ?_; (case hq => simp [setL, hcells]; done)) | (refine permToE 2 rfl ?hq ?_; (case hq => simp [setL, hcells]; done)) | (refine permToE 3 rfl ?hq ?_; (case hq => simp [setL, hcells]; done)) | fail)⟩
    ·try simp at h8
     refine hw_skip ?_
     exact ⟨(out, a3), ⟨by dsimp only; omega, g4, by dsimp only; omega⟩, trivial, (by repeat (first | exact keeps_refl | refine keeps_upd rfl ?_ | refine keeps_loop rfl rfl ?_)), by repeat (first | exact List.Perm.nil | refine permTo 0 rfl ?_ | refine permTo 1 rfl ?_ | refine permTo 2 rfl ?_ | refine permTo 3 rfl ?_ | (refine permToE 0 rfl ?hq ?_; (case hq => simp [setL, hcells]; done)) | (refine permToE 1 rfl ?hq ?_; (case hq => simp [setL, hcells]; done)) | (refine permToE 2 rfl ?hq ?_; (case hq => simp [setL, hcells]; done)) | (refine permToE 3 rfl ?hq ?_; (case hq => simp [setL, hcells]; done)) | fail)⟩
   ·intro q hq
    obtain ⟨k, a4⟩ := q
    dsimp only at hq
    obtain ⟨q1, q2, q3⟩ := hq
    refine hw_reg ?_
    refine dp rfl (pop_move rfl) ?_
    refine dp rfl (pop_assign rfl) ?_
    refine dn ?_
    refine hw_ret ?_
    refine ret_g (Ghost.fa 4 (i := 1) rfl rfl) rfl ⟨k, a4, rfl, ⟨by omega, q2⟩, by omega, rfl⟩
end Go.Proofs.YtcnfhcicepmjcaaGreatDoor
end
section
namespace Go.Proofs.YtcnfhcicepmjcaaGreatDoor
open Go.HL
set_option maxRecDepth 100000
set_option linter.unusedVariables false
set_option linter.unusedSimpArgs false
set_option maxHeartbeats 2000000 in
/-- (*benchwarmer/benchmake.Stream).SwapList -/
theorem c_benchmake_Stream_SwapList [Tracks] {b : Nat} {l : List Int} {a : Nat} {r : Room}  (ha : a ≤ 800000) (hr : GoodRoom r) : Con Tryz.prog 34 [pAt b, eRoom r] [St b l a] (fun x M' => ∃ k a', x = eSwaps k ∧ GoodSwaps k ∧ a' ≤ a + 60 ∧ M' = [St b l a']) := by
 have hrp := hr.p20
 have hrt := hr.t4
 have hrt0 := hr.t0
 refine Con.of_body Tryz.func34 rfl Tryz.ntmps34 rfl rfl ?_
 refine hw_reg ?_
 refine dp rfl (pop_box rfl rfl) ?_
 refine dp rfl (pop_assign rfl) ?_
 refine dn ?_
 refine hw_reg ?_
 refine dp rfl (pop_assign rfl) ?_
 refine dn ?_
 refine hw_reg ?_
 refine dp rfl ((pop_fieldAddr ty64 rfl ty28 (by decide) rfl)) ?_
 refine dp rfl (pop_load ty28 rfl rfl rfl) ?_
 refine de rfl (eop_calla ca48 rfl (WeakL.refl _) (c_slices_Clone_string_string (by omega)) fun v13 => ?_)
 refine dp rfl (pop_assign rfl) ?_
 refine dn ?_
 refine hw_reg ?_
 refine dp rfl (pop_move rfl) ?_
 refine de rfl (eop_callx (i := 0) ca46 rfl (WeakL.refl _) rfl (c_slices_Sort (l := r.Teams) (by omega)) ?_)
 rintro _ _ ⟨rfl, rfl⟩
 refine dn ?_
 refine hw_arrc (i := 0) rfl (fun h0 he => ?_) (fun tb toff tcap hv hcap => ?_)
 ·exfalso; have := congrArg List.length he; simp [sortS_len] at this; rw [this] at hrt0; simp at hrt0
 rw [List.length_map, sortS_len] at hv
 subst hv
 refine hw_ghost (Ghost.arr_nil 3) ?_
 refine hw_seq ?_
 refine hw_reg ?_
 refine dp rfl (pop_assign rfl) ?_
 refine dn ?_
 refine hw_block ?_
 refine hw_loopw2 [5, 7, 9, 16, 17, 18, 19, 20, 21, 22, 23, 24, 25, 26, 27, 28, 29, 30, 31, 32, 33, 34, 35, 36, 37, 38, 39, 40, 41, 42] (fun (m : Nat) (q : SLs) => [(7, .int .i64 ((m : Int) + 1)), (5, .raw q.u)]) (fun (m : Nat) (q : SLs) => [St b l q.a, .arr q.u 3 (q.out.map eSwap), .arr (.slice (some ⟨tb, toff, none⟩) r.Teams.length tcap) 1 (q.row.map .str)]) (fun (m : Nat) (q : SLs) => m ≤ 4 ∧ q.row.length = r.Teams.length ∧ SLok (4 * m) a q) (fun (m : Nat) (q : SLs) => 4 - m) (0) (⟨.slice none 0 0, [], sortS r.Teams, a⟩) ?_ ?_ ?_ ?_
 ·exact ⟨by omega, sortS_len _, ⟨by simp, by simp [sortS_len, hrt], fun s hs => hr.ts s ((List.mergeSort_perm _ _).mem_iff.1 hs), by simp, by dsimp only; omega⟩⟩
 ·exact ⟨rfl, rfl, trivial⟩
 ·repeat (first | exact List.Perm.nil | refine permTo 0 rfl ?_ | refine permTo 1 rfl ?_ | refine permTo 2 rfl ?_ | refine permTo 3 rfl ?_ | (refine permToE 0 rfl ?hq ?_; (case hq => simp [setL, hcells]; done)) | (refine permToE 1 rfl ?hq ?_; (case hq => simp [setL, hcells]; done)) | (refine permToE 2 rfl ?hq ?_; (case hq => simp [setL, hcells]; done)) | (refine permToE 3 rfl ?hq ?_; (case hq => simp [setL, hcells]; done)) | fail)
 ·intro m q hinv
  obtain ⟨hm, hrl, hm2⟩ := hinv
  obtain ⟨u, out, row, a2⟩ := q
  obtain ⟨g1, g2, g3, g4, g5⟩ := id hm2
  dsimp only at g1 g2 g3 g4 g5 hrl
  refine hw_seq ?_
  refine hw_reg ?_
  refine dp rfl (pop_move rfl) ?_
  refine dp rfl ((pop_fieldAddr ty64 rfl ty3 (by decide) rfl)) ?_
  refine dp rfl (pop_load ty3 rfl rfl rfl) ?_
  refine dp rfl (pop_min rfl rfl) ?_
  refine dp rfl (pop_leq rfl rfl) ?_
  refine dn ?_
  refine hw_cond rfl (fun h1 => ?_) (fun h2 => ?_)
  ·try simp at h1
   have hm4 : m < 4 := by omega
   refine hw_skip ?_
   refine seqQ_n ?_
   refine hw_seq ?_
   refine hw_block ?_
   refine hw_reg ?_
   refine dp rfl (pop_move rfl) ?_
   refine de rfl (eop_callx (i := 2) ca47 rfl (WeakL.refl _) rfl (c_slices_Compact_k (l := row) (by omega) hrl) ?_)
   rintro _ _ ⟨rfl, rfl⟩
   refine dp rfl (pop_len_raw ty28 rfl) ?_
   refine dp rfl (pop_move rfl) ?_
   refine dn ?_
   have hcl := compact_le row
   have hrow : ∀ s ∈ Lib.compact row, Sh s := fun s hs => g3 s (mem_compact hs)
   refine hw_block ?_
   refine hw_loopw2 [5, 9, 26, 27, 28, 29, 30, 31, 32, 33, 34, 35, 36, 37, 38, 39, 40, 41, 42] (fun (k : Nat) (q : SLs) => [(26, .int .i64 k), (5, .raw q.u)]) (fun (k : Nat) (q : SLs) => [St b l q.a, .arr q.u 3 (q.out.map eSwap), .arr (.slice (some ⟨tb, toff, none⟩) r.Teams.length tcap) 1 ((fillUp r.Teams.length (Lib.compact row)).map .str)]) (fun (k : Nat) (q : SLs) => k ≤ (Lib.compact row).length ∧ (SLok (4 * m + k) a q)) (fun (k : Nat) (q : SLs) => (Lib.compact row).length - k) (0) (⟨u, out, row, a2⟩) ?_ ?_ ?_ ?_
   ·exact ⟨Nat.zero_le _, hm2⟩
   ·exact ⟨rfl, rfl, trivial⟩
   ·repeat (first | exact List.Perm.nil | refine permTo 0 rfl ?_ | refine permTo 1 rfl ?_ | refine permTo 2 rfl ?_ | refine permTo 3 rfl ?_ | (refine permToE 0 rfl ?hq ?_; (case hq => simp [setL, hcells]; done)) | (refine permToE 1 rfl ?hq ?_; (case hq => simp [setL, hcells]; done)) | (refine permToE 2 rfl ?hq ?_; (case hq => simp [setL, hcells]; done)) | (refine permToE 3 rfl ?hq ?_; (case hq => simp [setL, hcells]; done)) | fail)
   ·intro k q hinv
    obtain ⟨hk, hg⟩ := hinv
    obtain ⟨u2, out2, row2, a4⟩ := q
    obtain ⟨g1, g2, g3, g4, g5⟩ := id hg
    dsimp only at g1 g2 g3 g4 g5
    refine hw_reg ?_
    refine dp rfl (pop_lss rfl rfl) ?_
    refine dn ?_
    refine hw_seq ?_
    refine hw_cond rfl (fun h3 => ?_) (fun h4 => ?_)
    ·try simp at h3
     obtain ⟨x, hx⟩ : ∃ x, (Lib.compact row)[k]? = some x := ⟨_, List.getElem?_eq_getElem h3⟩
     have hdx := drop_cons hx
     refine hw_skip ?_
     refine seqQ_n ?_
     refine hw_seq ?_
     refine hw_block ?_
     refine hw_reg ?_
     refine dp rfl (pop_idxraw (j := k) ty28 ty9 rfl rfl rfl (lt_of_get hx)) ?_
     refine de rfl (eop_load_el (i := 2) (j := k) 0 ty9 rfl (by omega) rfl (fillUp_get hx) rfl rfl ?_)
     refine dp rfl (pop_assign rfl) ?_
     refine dn ?_
     refine hw_reg ?_
     refine dp rfl (pop_move rfl) ?_
     refine de rfl (eop_callx (i := 0) ca84 rfl (WeakL.refl _) rfl (c_benchmake_Stream_Flip (by simp; omega) (by omega)) ?_)
     rintro _ _ ⟨y31, rfl, rfl⟩
     refine dn ?_
     refine hw_cond rfl (fun h5 => ?_) (fun h6 => ?_)
     ·try simp at h5
      refine hw_reg1 ?_
      refine dp rfl (pop_move rfl) ?_
      refine dp rfl (pop_move rfl) ?_
      refine dp rfl (pop_move rfl) ?_
      refine dp rfl (pop_move rfl) ?_
      refine dp rfl ((pop_fieldAddr ty64 rfl ty28 (by decide) rfl)) ?_
      refine dp rfl (pop_load ty28 rfl rfl rfl) ?_
      refine de rfl (eop_callx (i := 0) ca13 rfl (WeakL.refl _) rfl (c_benchmake_Stream_Some (by simp; omega) (by assumption) (by omega)) ?_)
      rintro _ _ ⟨y38, rfl, hy38, rfl⟩
      refine dp rfl (pop_build (cs := [_, _, _]) ty198 pl198 rfl) ?_
      refine dp rfl (pop_buildSlice (hs := [_]) ty68 ty198 rfl rfl (by decide) (by decide) rfl) ?_
      refine de rfl (eop_append (i := 1) ty68 ty198 rfl rfl rfl rfl rfl (by simp [flat, hcells]) (by simp; omega) fun v41 => ?_)
      refine dp rfl (pop_assign rfl) ?_
      refine dn ?_
      refine blockQ_n ?_
      refine seqQ_n ?_
      refine hw_reg1 ?_
      refine dp rfl (pop_add64 rfl rfl (by omega) (by omega)) ?_
      refine dp rfl (pop_move rfl) ?_
      refine dn ?_
      exact ⟨k + 1, ⟨v41, out2 ++ [⟨(m : Int) + 1, x, y38⟩], row2, a4 + 2⟩, ⟨by omega, hg.add (by omega) (hrow x (List.mem_of_getElem? hx)) (hr.ts _ hy38)⟩, by dsimp only; omega, ⟨rfl, rfl, trivial⟩, (by repeat (first | exact keeps_refl | refine keeps_upd rfl ?_ | refine keeps_loop rfl rfl ?_)), by repeat (first | exact List.Perm.nil | refine permTo 0 rfl ?_ | refine permTo 1 rfl ?_ | refine permTo 2 rfl ?_ | refine permTo 3 rfl ?_ | (refine permToE 0 rfl ?hq ?_; (case hq => simp [setL, hcells]; done)) | (refine permToE 1 rfl ?hq ?_; (case hq => simp [setL, hcells]; done)) | (refine permToE 2 rfl ?hq ?_; (case hq => simp [setL, hcells]; done)) | (refine permToE 3 rfl ?hq ?_; (case hq => simp [setL, hcells]; done)) | fail)⟩
     ·try simp at h6
      refine hw_skip ?_
      refine blockQ_n ?_
      refine seqQ_n ?_
      refine hw_reg1 ?_
      refine dp rfl (pop_add64 rfl rfl (by omega) (by omega)) ?_
      refine dp rfl (pop_move rfl) ?_
      refine dn ?_
      exact ⟨k + 1, ⟨u2, out2, row2, a4 + 1⟩, ⟨by omega, hg.more (by omega)⟩, by dsimp only; omega, ⟨rfl, rfl, trivial⟩, (by repeat (first | exact keeps_refl | refine keeps_upd rfl ?_ | refine keeps_loop rfl rfl ?_)), by repeat (first | exact List.Perm.nil | refine permTo 0 rfl ?_ | refine permTo 1 rfl ?_ | refine permTo 2 rfl ?_ | refine permTo 3 rfl ?_ | (refine permToE 0 rfl ?hq ?_; (case hq => simp [setL, hcells]; done)) | (refine permToE 1 rfl ?hq ?_; (case hq => simp [setL, hcells]; done)) | (refine permToE 2 rfl ?hq ?_; (case hq => simp [setL, hcells]; done)) | (refine permToE 3 rfl ?hq ?_; (case hq => simp [setL, hcells]; done)) | fail)⟩
    ·try simp at h4
     have hnk : (Lib.compact row).length ≤ k := by omega
     obtain rfl : k = (Lib.compact row).length := by omega
     refine hw_exit ?_
     refine seqQ_x ?_
     refine loopQ2_x ?_
     refine blockQ_eq ?_
     refine blockQ_n ?_
     refine seqQ_n ?_
     refine hw_reg1 ?_
     refine dp rfl (pop_move rfl) ?_
     refine dp rfl (pop_add64 rfl rfl (by omega) (by omega)) ?_
     refine dp rfl (pop_assign rfl) ?_
     refine dn ?_
     exact ⟨m + 1, ⟨u2, out2, fillUp r.Teams.length (Lib.compact row), a4⟩, ⟨by omega, fillUp_len (by omega), (hg.mono (by omega)).rowTo (by rw [fillUp_len (by omega)]; exact hrt) (fillUp_sh hrow)⟩, by dsimp only; omega, ⟨rfl, rfl, trivial⟩, (by repeat (first | exact keeps_refl | refine keeps_upd rfl ?_ | refine keeps_loop rfl rfl ?_)), by repeat (first | exact List.Perm.nil | refine permTo 0 rfl ?_ | refine permTo 1 rfl ?_ | refine permTo 2 rfl ?_ | refine permTo 3 rfl ?_ | (refine permToE 0 rfl ?hq ?_; (case hq => simp [setL, hcells]; done)) | (refine permToE 1 rfl ?hq ?_; (case hq => simp [setL, hcells]; done)) | (refine permToE 2 rfl ?hq ?_; (case hq => simp [setL, hcells]; done)) | (refine permToE 3 rfl ?hq ?_; (case hq => simp [setL, hcells]; done)) | fail)⟩
  ·try simp at h2
   refine hw_exit ?_
   refine seqQ_x ?_
   refine loopQ2_x ?_
   refine blockQ_eq ?_
   refine seqQ_n ?_
   refine hw_join [10, 43, 44, 45, 46, 47, 48, 49, 50, 51, 52, 53, 54, 55, 56, 57, 58, 59, 60, 61, 62, 63, 64, 65, 66, 67, 68, 69, 70, 71, 72, 73, 74, 75, 76, 77, 78, 79, 80, 81, 82, 83, 84, 85] (fun (q : List Swap × Nat) => []) (fun (q : List Swap × Nat) => [St b l q.2, .arr u 3 (q.1.map eSwap)]) (fun (q : List Swap × Nat) => q.1.length ≤ 16 ∧ (∀ x ∈ q.1, Sh x.Of ∧ Sh x.Team) ∧ q.2 ≤ a + 60) ?_ ?_
   ·skip
    refine hw_ghost (Ghost.perm (M' := [.arr (.slice (some ⟨tb, toff, none⟩) r.Teams.length tcap) 1 (row.map .str), St b l a2, .arr u 3 (out.map eSwap)]) (by repeat (first | exact List.Perm.nil | refine permTo 0 rfl ?_ | refine permTo 1 rfl ?_ | refine permTo 2 rfl ?_ | refine permTo 3 rfl ?_ | (refine permToE 0 rfl ?hq ?_; (case hq => simp [setL, hcells]; done)) | (refine permToE 1 rfl ?hq ?_; (case hq => simp [setL, hcells]; done)) | (refine permToE 2 rfl ?hq ?_; (case hq => simp [setL, hcells]; done)) | (refine permToE 3 rfl ?hq ?_; (case hq => simp [setL, hcells]; done)) | fail))) ?_
    refine hw_ghost Ghost.drop ?_
    refine hw_reg ?_
    refine dp rfl (pop_move rfl) ?_
    refine de rfl (eop_lenm (i := 1) ty68 rfl rfl ?_)
    refine dp rfl (pop_gtr rfl rfl) ?_
    refine dp rfl (pop_move rfl) ?_
    refine dg rfl rfl (fun hc => ⟨_, OpenTo.refl _, pop_move rfl⟩) ?_
    refine dgx (fun x M' => ∃ (y : Bool) (a3 : Nat), x = .bool y ∧ a3 ≤ a2 + 1 ∧ M' = [St b l a3, .arr u 3 (out.map eSwap)]) rfl rfl (fun hc => ⟨_, false, a2, rfl, by omega, rfl⟩) (fun hc => ⟨_, OpenTo.upd (t := 47) rfl (hc) (OpenTo.refl _), eop_callx (i := 0) ca84 rfl (WeakL.refl _) rfl (c_benchmake_Stream_Flip (a := a2) (by omega) (by omega)) (fun h M' hh => by
     obtain ⟨y, h1, h2⟩ := hh
     exact ⟨y, a2 + 1, h1, by omega, by rw [h2]; rfl⟩)⟩) ?_
    rintro _ _ ⟨y, a3, rfl, ha3, rfl⟩
    refine dp rfl (pop_picko rfl (.inr ⟨_, rfl, fun h => by simp_all⟩) (.inl rfl)) ?_
    refine dn ?_
    refine hw_cond rfl (fun h7 => ?_) (fun h8 => ?_)
    ·try simp at h7
     have ho0 : 0 < out.length := by simp_all
     have hol : out.length ≤ 16 := by omega
     refine hw_arrc (i := 1) rfl (fun h0 he => ?_) (fun ob off cap hv hcap => ?_)
     ·exfalso; have := congrArg List.length he; simp at this; subst this; simp at ho0
     subst hv
     refine hw_reg ?_
     refine dp rfl (pop_move rfl) ?_
     refine dp rfl (pop_move rfl) ?_
     refine dp rfl (pop_move rfl) ?_
     refine de rfl (eop_lenm (i := 1) ty68 rfl rfl ?_)
     refine de rfl (eop_callx (i := 0) ca83 rfl (WeakL.refl _) rfl (c_benchmake_Stream_Next (by omega) (by omega)) ?_)
     rintro _ _ ⟨y54, rfl, hy54, rfl⟩
     refine dp rfl (pop_idxraw (j := y54) ty68 ty198 rfl rfl rfl (by simp; omega)) ?_
     refine dp rfl (pop_assign rfl) ?_
     refine dn ?_
     obtain ⟨x, hx⟩ : ∃ x, out[y54]? = some x := ⟨_, List.getElem?_eq_getElem (by omega)⟩
     refine hw_draw1 (fun M => ∃ i : Nat, M[i]? = some (.arr (.slice (some ⟨ob, off, none⟩) (out.map eSwap).length cap) 3 (out.map eSwap))) [7, 14, 21] mixed ?_
     refine ahp 0 rfl rfl (by kernel_rfl) (by kernel_rfl) (pop_move rfl) ?_
     refine ahp 1 rfl rfl (by kernel_rfl) (by kernel_rfl) (pop_move rfl) ?_
     refine ahp 2 rfl rfl (by kernel_rfl) (by kernel_rfl) (pop_move rfl) ?_
     refine ahp 3 rfl rfl (by kernel_rfl) (by kernel_rfl) (pop_move rfl) ?_
     refine ahp 4 rfl rfl (by kernel_rfl) (by kernel_rfl) (pop_move rfl) ?_
     refine ahp 5 rfl rfl (by kernel_rfl) (by kernel_rfl) ((pop_nilCheck_raw rfl)) ?_
     refine ahp 6 rfl rfl (by kernel_rfl) (by kernel_rfl) ((pop_fieldAddr_raw ty198 rfl ty3 (by decide) rfl)) ?_
     refine ahl 7 rfl rfl (by kernel_rfl) (by kernel_rfl) (by simp) ⟨1, rfl⟩ (fun M hM => by obtain ⟨i, hi⟩ := hM; exact eop_load_el (i := i) (j := y54) 0 ty3 rfl (by omega) hi hx rfl rfl ⟨rfl, rfl⟩) ?_
     refine ahp 8 rfl rfl (by kernel_rfl) (by kernel_rfl) (pop_buildSlice (hs := [_, _, _]) ty22 ty3 rfl rfl (by decide) (by decide) rfl) ?_
     refine ahp 10 rfl rfl (by kernel_rfl) (by kernel_rfl) (pop_move rfl) ?_
     refine ahp 11 rfl rfl (by kernel_rfl) (by kernel_rfl) (pop_move rfl) ?_
     refine ahp 12 rfl rfl (by kernel_rfl) (by kernel_rfl) ((pop_nilCheck_raw rfl)) ?_
     refine ahp 13 rfl rfl (by kernel_rfl) (by kernel_rfl) ((pop_fieldAddr_raw ty198 rfl ty9 (by decide) rfl)) ?_
     refine ahl 14 rfl rfl (by kernel_rfl) (by kernel_rfl) (by simp) ⟨1, rfl⟩ (fun M hM => by obtain ⟨i, hi⟩ := hM; exact eop_load_el (i := i) (j := y54) 1 ty9 rfl (by omega) hi hx rfl rfl ⟨rfl, rfl⟩) ?_
     refine ahp 15 rfl rfl (by kernel_rfl) (by kernel_rfl) (pop_buildSlice (hs := [_, _]) ty28 ty9 rfl rfl (by decide) (by decide) rfl) ?_
     refine ahp 17 rfl rfl (by kernel_rfl) (by kernel_rfl) (pop_move rfl) ?_
     refine ahp 18 rfl rfl (by kernel_rfl) (by kernel_rfl) (pop_move rfl) ?_
     refine ahp 19 rfl rfl (by kernel_rfl) (by kernel_rfl) ((pop_nilCheck_raw rfl)) ?_
     refine ahp 20 rfl rfl (by kernel_rfl) (by kernel_rfl) ((pop_fieldAddr_raw ty198 rfl ty9 (by decide) rfl)) ?_
     refine ahl 21 rfl rfl (by kernel_rfl) (by kernel_rfl) (by simp) ⟨1, rfl⟩ (fun M hM => by obtain ⟨i, hi⟩ := hM; exact eop_load_el (i := i) (j := y54) 2 ty9 rfl (by omega) hi hx rfl rfl ⟨rfl, rfl⟩) ?_
     refine ahp 22 rfl rfl (by kernel_rfl) (by kernel_rfl) (pop_buildSlice (hs := [_, _]) ty28 ty9 rfl rfl (by decide) (by decide) rfl) ?_
     refine ahe 9 rfl (by kernel_rfl) ?_
     refine hop_e rfl (eop_callx (i := 0) ca11 rfl (WeakL.refl _) rfl (c_benchmake_Stream_Pick (L := [_, _, _]) (by omega) (by simp_all) (by simp_all)) ?_)
     rintro _ _ ⟨y65, rfl, hy65, rfl⟩
     refine ⟨fun _ => by first | exact .inl ⟨0, rfl⟩ | exact .inl ⟨1, rfl⟩ | exact .inl ⟨2, rfl⟩ | exact .inr (by simp [Before, Region.binds]), ?_⟩
     refine ahe 16 rfl (by kernel_rfl) ?_
     refine hop_e rfl (eop_callx (i := 0) ca13 rfl (WeakL.refl _) rfl (c_benchmake_Stream_Some (L := [_, _]) (by omega) (by simp_all) (by simp_all)) ?_)
     rintro _ _ ⟨y72, rfl, hy72, rfl⟩
     refine ⟨fun _ => by first | exact .inl ⟨0, rfl⟩ | exact .inl ⟨1, rfl⟩ | exact .inl ⟨2, rfl⟩ | exact .inr (by simp [Before, Region.binds]), ?_⟩
     refine ahe 23 rfl (by kernel_rfl) ?_
     refine hop_e rfl (eop_callx (i := 0) ca13 rfl (WeakL.refl _) rfl (c_benchmake_Stream_Some (L := [_, _]) (by omega) (by simp_all) (by simp_all)) ?_)
     rintro _ _ ⟨y79, rfl, hy79, rfl⟩
     refine ⟨fun _ => by first | exact .inl ⟨0, rfl⟩ | exact .inl ⟨1, rfl⟩ | exact .inl ⟨2, rfl⟩ | exact .inr (by simp [Before, Region.binds]), ?_⟩
     refine ahp 24 rfl rfl (by kernel_rfl) (by kernel_rfl) ((pop_nilCheck_raw rfl)) ?_
     refine ahp 25 rfl rfl (by kernel_rfl) (by kernel_rfl) ((pop_fieldAddr_raw ty198 rfl ty3 (by decide) rfl)) ?_
     refine ahe 26 rfl (by kernel_rfl) ?_
     refine hop_e0 (eop_store_arr (i := 1) (j := y54) (f := 0) (y := eSwap x) (y' := eSwap ⟨y65, x.Of, x.Team⟩) ty3 rfl (by omega) rfl rfl (by simp [hx]) rfl rfl (by simp [hcells]) rfl ?_)
     refine ⟨fun _ => .inr (by simp [Before, Region.binds]), ?_⟩
     refine ahp 27 rfl rfl (by kernel_rfl) (by kernel_rfl) ((pop_nilCheck_raw rfl)) ?_
     refine ahp 28 rfl rfl (by kernel_rfl) (by kernel_rfl) ((pop_fieldAddr_raw ty198 rfl ty9 (by decide) rfl)) ?_
     refine ahe 29 rfl (by kernel_rfl) ?_
     refine hop_e0 (eop_store_arr (i := 1) (j := y54) (f := 1) (y := eSwap ⟨y65, x.Of, x.Team⟩) (y' := eSwap ⟨y65, y72, x.Team⟩) ty9 rfl (by omega) rfl rfl (set_self (map_get hx)) rfl rfl (by simp [hcells]) rfl ?_)
     refine ⟨fun _ => .inr (by simp [Before, Region.binds]), ?_⟩
     refine ahp 30 rfl rfl (by kernel_rfl) (by kernel_rfl) ((pop_nilCheck_raw rfl)) ?_
     refine ahp 31 rfl rfl (by kernel_rfl) (by kernel_rfl) ((pop_fieldAddr_raw ty198 rfl ty9 (by decide) rfl)) ?_
     refine ahe 32 rfl (by kernel_rfl) ?_
     refine hop_e0 (eop_store_arr (i := 1) (j := y54) (f := 2) (y := eSwap ⟨y65, y72, x.Team⟩) (y' := eSwap ⟨y65, y72, y79⟩) ty9 rfl (by omega) rfl rfl (set_self (set_self (map_get hx))) rfl rfl (by simp [hcells]) rfl ?_)
     refine ⟨fun _ => .inr (by simp [Before, Region.binds]), ?_⟩
     refine ahz (by kernel_rfl) ?_
     exact ⟨(out.set y54 ⟨y65, y72, y79⟩, a3 + 4), ⟨by simp; omega, swaps_set g4 (by simp at hy72; rcases hy72 with rfl | rfl <;> first | exact zz_sh | exact (g4 x (List.mem_of_getElem? hx)).1) (by simp at hy79; rcases hy79 with rfl | rfl <;> first | exact zz_sh | exact (g4 x (List.mem_of_getElem? hx)).2), by dsimp only; omega⟩, trivial, (by repeat (first | exact keeps_refl | refine keeps_upd rfl ?_ | refine keeps_loop rfl rfl ?_)), by repeat (first | exact List.Perm.nil | refine permTo 0 rfl ?_ | refine permTo 1 rfl ?_ | refine permTo 2 rfl ?_ | refine permTo 3 rfl ?_ | (refine permToE 0 rfl ?hq ?_; (case hq => simp [setL, hcells]; done)) | (refine permToE 1 rfl ?hq ?_; (case hq => simp [setL, hcells]; done)) | (refine permToE 2 rfl ?hq ?_; (case hq => simp [setL, hcells]; done)) | (refine permToE 3 rfl ?hq ?_; (case hq => simp [setL, hcells]; done)) | fail)⟩
    ·try simp at h8
     refine hw_skip ?_
     exact ⟨(out, a3), ⟨by dsimp only; omega, g4, by dsimp only; omega⟩, trivial, (by repeat (first | exact keeps_refl | refine keeps_upd rfl ?_ | refine keeps_loop rfl rfl ?_)), by repeat (first | exact List.Perm.nil | refine permTo 0 rfl ?_ | refine permTo 1 rfl ?_ | refine permTo 2 rfl ?_ | refine permTo 3 rfl ?_ | (refine permToE 0 rfl ?hq ?_; (case hq => simp [setL, hcells]; done)) | (refine permToE 1 rfl ?hq ?_; (case hq => simp [setL, hcells]; done)) | (refine permToE 2 rfl ?hq ?_; (case hq => simp [setL, hcells]; done)) | (refine permToE 3 rfl ?hq ?_; (case hq => simp [setL, hcells]; done)) | fail)⟩
   ·intro q hq
    obtain ⟨k, a4⟩ := q
    dsimp only at hq
    obtain ⟨q1, q2, q3⟩ := hq
    refine hw_reg ?_
    refine dp rfl (pop_move rfl) ?_
    refine dp rfl (pop_assign rfl) ?_
    refine dn ?_
    refine hw_ret ?_
    refine ret_g (Ghost.fa 4 (i := 1) rfl rfl) rfl ⟨k, a4, rfl, ⟨by omega, q2⟩, by omega, rfl⟩
end Go.Proofs.YtcnfhcicepmjcaaGreatDoor
end
section
namespace Go.HL
def room1 : Room := ⟨[[97], [98]], 2, 2, [[112], [113], [114], [115]], 1000, 0⟩
theorem room1_ok : checkSwaps room1 [] = 0 := by kernel_rfl
theorem room1_turns : turnTeams room1 [] = [[97], [98], [98], [97]] := by kernel_rfl
end Go.HL
end
section
namespace Go.HL
open Op (bytesLess)
abbrev pick0 : Pick := ⟨0, [], [], 0, false⟩
theorem adj_pairwise {α : Type} {R : α → α → Prop} (tr : ∀ a b c, R a b → R b c → R a c) {l : List α} (h : ∀ (i : Nat) (a b : α), l[i]? = some a → l[i + 1]? = some b → R a b) : l.Pairwise R := by
 have key : ∀ (d i : Nat) (a b : α), l[i]? = some a → l[i + d + 1]? = some b → R a b := by
  intro d
  induction d with
  | zero => intro i a b ha hb; exact h i a b ha hb
  | succ d ih =>
    intro i a b ha hb
    have hlt := lt_of_get hb
    have hc := List.getElem?_eq_getElem (l := l) (i := i + d + 1) (by omega)
    exact tr _ _ _ (ih i a _ ha hc) (h (i + d + 1) _ b hc (by rw [show i + d + 1 + 1 = i + (d + 1) + 1 by omega]; exact hb))
 refine List.pairwise_iff_getElem.2 fun i j hi hj hij => ?_
 refine key (j - i - 1) i _ _ (List.getElem?_eq_getElem hi) ?_
 rw [show i + (j - i - 1) + 1 = j by omega]; exact List.getElem?_eq_getElem hj
theorem nodup_sub {α : Type} [DecidableEq α] : ∀ {l m : List α}, l.Nodup → (∀ x ∈ l, x ∈ m) → l.length ≤ m.length
 | [], _, _, _ => Nat.zero_le _
 | a :: l, m, h, hs => by
   have ha := hs a List.mem_cons_self
   obtain ⟨h1, h2⟩ := List.nodup_cons.1 h
   have h3 := nodup_sub (m := m.erase a) h2 fun x hx => (List.mem_erase_of_ne (fun e : x = a => h1 (by rw [← e]; exact hx))).2 (hs x (List.mem_cons_of_mem _ hx))
   rw [List.length_erase_of_mem ha] at h3
   have := List.length_pos_of_mem ha
   simp; omega
theorem pw_tri {α : Type} {R : α → α → Prop} : ∀ {l : List α}, l.Pairwise R → ∀ x ∈ l, ∀ y ∈ l, x = y ∨ R x y ∨ R y x
 | [], _, x, hx, _, _ => by simp at hx
 | a :: l, h, x, hx, y, hy => by
   obtain ⟨h1, h2⟩ := List.pairwise_cons.1 h
   rcases List.mem_cons.1 hx with e | hx' <;> rcases List.mem_cons.1 hy with e' | hy'
   ·exact .inl (e.trans e'.symm)
   ·exact .inr (.inl (e ▸ h1 y hy'))
   ·exact .inr (.inr (e' ▸ h1 x hx'))
   ·exact pw_tri h2 x hx' y hy'
/-! keeps that are right -/
def kLt (a b : Keep) : Prop := bytesLess a.Team b.Team = true ∨ (a.Team = b.Team ∧ a.Round < b.Round)
theorem kLt_trans (a b c : Keep) (h1 : kLt a b) (h2 : kLt b c) : kLt a c := by
 rcases h1 with h1 | ⟨e1, h1⟩ <;> rcases h2 with h2 | ⟨e2, h2⟩
 ·exact .inl (less_trans h1 h2)
 ·exact .inl (e2 ▸ h1)
 ·exact .inl (e1 ▸ h2)
 ·exact .inr ⟨e1.trans e2, by omega⟩
theorem kLt_of {a b : Keep} (h : ¬ orI [cmpS b.Team a.Team, cmpI b.Round a.Round] ≤ 0) : kLt a b := by
 rw [cmpS_eq] at h
 rcases less_total a.Team b.Team with h1 | h1 | h1
 ·exact .inl h1
 ·refine .inr ⟨h1, ?_⟩
  rw [h1] at h
  simp [less_irrefl, orI, cmpI] at h
  split at h
  ·omega
  ·split at h <;> omega
 ·rw [h1] at h; simp [orI] at h
structure KeepsOk (r : Room) (k : List Keep) : Prop where
 all : ∀ x ∈ k, x.Team ∈ r.Teams ∧ x.Player ∈ r.Players ∧ 1 ≤ x.Round ∧ x.Round ≤ r.Rounds
 lt : k.Pairwise kLt
theorem keepsGo_ok {r : Room} {l : List Keep} : ∀ (t : List Keep) (k : Nat) (kept : List Str) (tw : Bool), l.drop k = t → keepsGo r l k kept tw t = 0 →
 (∀ x ∈ t, x.Team ∈ r.Teams ∧ x.Player ∈ r.Players ∧ 1 ≤ x.Round ∧ x.Round ≤ r.Rounds) ∧ ∀ (i : Nat) (a b : Keep), k ≤ i + 1 → l[i]? = some a → l[i + 1]? = some b → kLt a b
 | [], k, kept, tw, hd, h => ⟨by simp, fun i a b hi ha hb => by
    have := lt_of_get hb
    have h2 : l.length ≤ k := by rw [← List.drop_eq_nil_iff]; exact hd
    omega⟩
 | x :: t, k, kept, tw, hd, h => by
   have hk : l[k]? = some x := by
    have := congrArg (fun q => q[0]?) hd
    simpa using this
   have hd' : l.drop (k + 1) = t := by
    have := drop_cons hk
    rw [hd] at this; simp at this; exact this.symm
   simp only [keepsGo] at h
   split at h
   ·omega
   ·rename_i h1
    split at h
    ·omega
    ·rename_i h2
     split at h
     ·omega
     ·rename_i h3
      obtain ⟨h4, h5⟩ := keepsGo_ok t (k + 1) _ _ hd' h
      have h2' := out_f (by simpa using h2)
      refine ⟨fun y hy => ?_, fun i a b hi ha hb => ?_⟩
      ·rcases List.mem_cons.1 hy with rfl | hy
       ·simp at h1; exact ⟨h1.1, h1.2, h2'⟩
       ·exact h4 y hy
      ·by_cases e : k = i + 1
       ·subst e
        rw [hk] at hb; cases hb
        refine kLt_of fun hc => h3 ?_
        simp [List.getD, ha]; exact hc
       ·exact h5 i a b (by omega) ha hb
theorem checkKeeps_good {r : Room} {k : List Keep} (h : checkKeeps r k = 0) : KeepsOk r k := by
 unfold checkKeeps at h
 split at h
 ·rename_i hc; simp [h] at hc
 ·split at h
  ·omega
  ·obtain ⟨h1, h2⟩ := keepsGo_ok k 0 [] false rfl h
   exact ⟨h1, adj_pairwise kLt_trans fun i a b => h2 i a b (by omega)⟩
theorem risingGo_key {l : List Str} : ∀ (r : List Str) (k : Nat), risingGo l k r = 0 → ∀ s ∈ r, key s = true
 | [], _, _, s, hs => by simp at hs
 | x :: r, k, h, s, hs => by
   simp only [risingGo] at h
   split at h
   ·omega
   ·rename_i h1
    split at h
    ·omega
    ·rcases List.mem_cons.1 hs with rfl | hs
     ·simpa using h1
     ·exact risingGo_key r (k + 1) h s hs
structure RoomOk (r : Room) : Prop where
 sorted : SortedS r.Players
 t20 : r.Teams.length ≤ 20
 t0 : 0 < r.Teams.length
 r1 : 1 ≤ r.Rounds
 r30 : r.Rounds ≤ 30
 p500 : r.Players.length ≤ 500
 ne : ∀ s ∈ r.Players, s ≠ []
 many : (r.Teams.length : Int) * r.Rounds ≤ r.Players.length
 clock : 1000 ≤ r.Clock ∧ r.Clock ≤ 86400000
 start : moment r.Start = true
theorem room_ok {r : Room} (h : checkRoom r = 0) : RoomOk r := by
 obtain ⟨a1, a2, a3, a4, a5, a6⟩ := checkRoom_ok h
 unfold checkRoom at h
 split at h
 ·rename_i hc; simp [h] at hc
 ·split at h
  ·omega
  ·split at h
   ·omega
   ·split at h
    ·rename_i hc; simp [h] at hc
    ·rename_i hp
     split at h
     ·omega
     ·rename_i hcl
      split at h
      ·omega
      ·rename_i hm
       simp at hcl hp
       refine ⟨a1, a2, a3, a4, a5, a6, fun s hs e => ?_, by omega, out_f hcl.1, hcl.2⟩
       unfold playersFault at hp
       split at hp
       ·omega
       ·have := risingGo_key _ 0 hp s hs
        subst e; simp [key, keyHd] at this
theorem sorted_nodup {l : List Str} (h : SortedS l) : l.Nodup :=
 List.Pairwise.imp (fun {a b} hab e => by subst e; rw [less_irrefl] at hab; cases hab) h
/-! turns -/
theorem mem_turnsFrom {r : Room} {s : List Swap} {t : Str} (ht : t ∈ r.Teams) : ∀ (n : Nat) (rd : Int), 1 ≤ rd → rd ≤ n → ∃ x ∈ turnsFrom r s n, x.of = t ∧ x.round = rd
 | 0, rd, h1, h2 => by omega
 | n + 1, rd, h1, h2 => by
   by_cases e : rd = (n : Int) + 1
   ·refine ⟨⟨rd, t, owner rd t s⟩, ?_, rfl, rfl⟩
    simp only [turnsFrom, List.mem_append]
    right
    subst e
    unfold roundTurns
    refine List.mem_map.2 ⟨t, ?_, rfl⟩
    split
    ·exact List.mem_reverse.2 ht
    ·exact ht
   ·obtain ⟨x, hx, h3⟩ := mem_turnsFrom ht n rd h1 (by omega)
    exact ⟨x, by simp only [turnsFrom, List.mem_append]; exact .inl hx, h3⟩
def fits (t : Turn) (x : Keep) : Bool := decide (x.Team = t.of ∧ x.Round = t.round)
theorem keepIn_fix (r : Room) (t : Turn) : ∀ (k : List Keep) (p : Pick), (keepIn r t p k).No = p.No ∧ (keepIn r t p k).Team = p.Team
 | [], p => ⟨rfl, rfl⟩
 | x :: k, p => by
   obtain ⟨h1, h2⟩ := keepIn_fix r t k (if x.Team = t.of ∧ x.Round = t.round then { p with Player := x.Player, At := r.Start } else p)
   simp only [keepIn]; rw [h1, h2]
   split <;> exact ⟨rfl, rfl⟩
theorem keepIn_mem (r : Room) (t : Turn) : ∀ (k : List Keep) (p : Pick), (keepIn r t p k).Player = p.Player ∨ ∃ x ∈ k, fits t x = true ∧ (keepIn r t p k).Player = x.Player
 | [], p => .inl rfl
 | x :: k, p => by
   simp only [keepIn]
   rcases keepIn_mem r t k (if x.Team = t.of ∧ x.Round = t.round then { p with Player := x.Player, At := r.Start } else p) with h | ⟨y, hy, h1, h2⟩
   ·by_cases e : x.Team = t.of ∧ x.Round = t.round
    ·rw [if_pos e] at h ⊢
     exact .inr ⟨x, List.mem_cons_self, by simp [fits, e], h⟩
    ·rw [if_neg e] at h ⊢
     exact .inl h
   ·exact .inr ⟨y, List.mem_cons_of_mem _ hy, h1, h2⟩
theorem keepIn_none (r : Room) (t : Turn) : ∀ (k : List Keep) (p : Pick), k.any (fits t) = false → keepIn r t p k = p
 | [], p, _ => rfl
 | x :: k, p, h => by
   simp only [List.any_cons, Bool.or_eq_false_iff] at h
   have e : ¬ (x.Team = t.of ∧ x.Round = t.round) := by simpa [fits] using h.1
   simp only [keepIn]; rw [if_neg e]; exact keepIn_none r t k p h.2
theorem keepIn_one (r : Room) (t : Turn) {x : Keep} : ∀ (k : List Keep) (p : Pick), x ∈ k → fits t x = true → (∀ y ∈ k, fits t y = true → y.Player = x.Player) → (keepIn r t p k).Player = x.Player
 | [], p, hx, _, _ => by simp at hx
 | y :: k, p, hx, hf, hu => by
   simp only [keepIn]
   by_cases e : y.Team = t.of ∧ y.Round = t.round
   ·have hy := hu y List.mem_cons_self (by simp [fits, e])
    rw [if_pos e]
    rcases keepIn_mem r t k { p with Player := y.Player, At := r.Start } with h | ⟨z, hz, h1, h2⟩
    ·rw [h]; exact hy
    ·rw [h2]; exact hu z (List.mem_cons_of_mem _ hz) h1
   ·rw [if_neg e]
    rcases List.mem_cons.1 hx with rfl | hx
    ·exact absurd (by simpa [fits] using hf) e
    ·exact keepIn_one r t k p hx hf fun z hz => hu z (List.mem_cons_of_mem _ hz)
theorem KeepsOk.one {r : Room} {k : List Keep} (h : KeepsOk r k) {t : Turn} {x y : Keep} (hx : x ∈ k) (hy : y ∈ k) (fx : fits t x = true) (fy : fits t y = true) : y = x := by
 simp [fits] at fx fy
 rcases pw_tri h.lt x hx y hy with e | e | e
 ·exact e.symm
 ·exfalso
  rcases e with e | ⟨e1, e2⟩
  ·rw [fx.1, fy.1, less_irrefl] at e; cases e
  ·omega
 ·exfalso
  rcases e with e | ⟨e1, e2⟩
  ·rw [fx.1, fy.1, less_irrefl] at e; cases e
  ·omega
theorem keepIn_free {r : Room} {k : List Keep} (h : KeepsOk r k) (hne : ∀ s ∈ r.Players, s ≠ []) (t : Turn) (p : Pick) (hp : p.Player = []) : ((keepIn r t p k).Player == []) = !(k.any (fits t)) := by
 cases hq : k.any (fits t) with
 | false => rw [keepIn_none r t k p hq, hp]; rfl
 | true =>
   obtain ⟨x, hx, hf⟩ := List.any_eq_true.1 hq
   rw [keepIn_one r t k p hx hf fun y hy hfy => by rw [h.one hx hy hf hfy]]
   have := hne _ (h.all x hx).2.1
   simpa using this
theorem mem_openFrom {r : Room} {k : List Keep} {p : Pick} : ∀ (l : List Turn) (i : Nat), p ∈ openFrom r k i l → ∃ (j : Nat) (t : Turn), t ∈ l ∧ p = keepIn r t ⟨j, t.team, [], 0, false⟩ k
 | [], i, h => by simp [openFrom] at h
 | t :: l, i, h => by
   simp only [openFrom, List.mem_cons] at h
   rcases h with h | h
   ·exact ⟨i, t, List.mem_cons_self, h⟩
   ·obtain ⟨j, t', h1, h2⟩ := mem_openFrom l (i + 1) h
    exact ⟨j, t', List.mem_cons_of_mem _ h1, h2⟩
theorem openFrom_mem {r : Room} {k : List Keep} {t : Turn} : ∀ (l : List Turn) (i : Nat), t ∈ l → ∃ j : Nat, keepIn r t ⟨j, t.team, [], 0, false⟩ k ∈ openFrom r k i l
 | [], i, h => by simp at h
 | x :: l, i, h => by
   rcases List.mem_cons.1 h with rfl | h
   ·exact ⟨i, by simp [openFrom]⟩
   ·obtain ⟨j, hj⟩ := openFrom_mem l (i + 1) h
    exact ⟨j, by simp only [openFrom, List.mem_cons]; exact .inr hj⟩
theorem open_any {r : Room} {k : List Keep} {s : List Swap} (h : openFault r k s = 0) {n : Str} (hn : n ≠ []) : (open1 r k s).any (fun p => p.Player == n) = k.any (fun x => x.Player == n) := by
 obtain ⟨h1, _, h3⟩ := openFault_ok h
 have hk := checkKeeps_good h3
 have hr := room_ok h1
 rw [Bool.eq_iff_iff, List.any_eq_true, List.any_eq_true]
 constructor
 ·rintro ⟨p, hp, e⟩
  obtain ⟨j, t, _, rfl⟩ := mem_openFrom _ _ hp
  rcases keepIn_mem r t k ⟨j, t.team, [], 0, false⟩ with q | ⟨x, hx, _, q⟩
  ·rw [q] at e; simp at e; exact absurd e hn
  ·exact ⟨x, hx, by rw [q] at e; exact e⟩
 ·rintro ⟨x, hx, e⟩
  obtain ⟨a1, _, a3, a4⟩ := hk.all x hx
  obtain ⟨t, ht, b1, b2⟩ := mem_turnsFrom (s := s) a1 r.Rounds.toNat x.Round a3 (by omega)
  obtain ⟨j, hj⟩ := openFrom_mem (r := r) (k := k) (turnsFrom r s r.Rounds.toNat) 0 ht
  have hf : fits t x = true := by simp [fits, b1, b2]
  exact ⟨_, hj, by rw [keepIn_one r t k _ hx hf fun y hy hfy => by rw [hk.one hx hy hf hfy]]; exact e⟩
def freeP (r : Room) (k : List Keep) (s : List Swap) : List Pick := (open1 r k s).filter fun p => p.Player == []
theorem openFrom_free {r : Room} {k : List Keep} (h : KeepsOk r k) (hne : ∀ s ∈ r.Players, s ≠ []) : ∀ (l : List Turn) (i : Nat), ((openFrom r k i l).filter fun p => p.Player == []).length + (l.filter fun t => k.any (fits t)).length = l.length
 | [], i => rfl
 | t :: l, i => by
   have ih := openFrom_free h hne l (i + 1)
   simp only [openFrom, List.filter_cons, keepIn_free h hne t ⟨i, t.team, [], 0, false⟩ rfl, List.length_cons]
   cases k.any (fits t) <;> simp only [Bool.not_true, Bool.not_false, Bool.false_eq_true, if_true, if_false, List.length_cons] <;> omega
theorem free_len {r : Room} {k : List Keep} {s : List Swap} (h : openFault r k s = 0) : (freeP r k s).length + k.length ≤ (turns r s).length := by
 obtain ⟨h1, _, h3⟩ := openFault_ok h
 have hk := checkKeeps_good h3
 have hr := room_ok h1
 have e := openFrom_free hk hr.ne (turns r s) 0
 have hs : (k.map fun x => (x.Team, x.Round)).length ≤ (((turns r s).filter fun t => k.any (fits t)).map fun t => (t.of, t.round)).length := by
  refine nodup_sub ?_ fun q hq => ?_
  ·refine List.pairwise_map.2 (hk.lt.imp fun {a b} hab e => ?_)
   injection e with e1 e2
   rcases hab with hab | ⟨_, hab⟩
   ·rw [e1, less_irrefl] at hab; cases hab
   ·omega
  ·obtain ⟨x, hx, rfl⟩ := List.mem_map.1 hq
   obtain ⟨a1, _, a3, a4⟩ := hk.all x hx
   obtain ⟨t, ht, b1, b2⟩ := mem_turnsFrom (s := s) a1 r.Rounds.toNat x.Round a3 (by omega)
   refine List.mem_map.2 ⟨t, List.mem_filter.2 ⟨ht, List.any_eq_true.2 ⟨x, hx, by simp [fits, b1, b2]⟩⟩, by rw [b1, b2]⟩
 simp only [List.length_map] at hs
 unfold freeP open1
 omega
/-! who is left -/
def goneB (k : List Keep) (l : List Pick) (s : Str) : Bool := k.any (fun x => x.Player == s) || l.any (fun p => p.Player == s)
def leftL (r : Room) (k : List Keep) (l : List Pick) : List Str := r.Players.filter fun s => !(goneB k l s)
theorem left_len {r : Room} {k : List Keep} {l : List Pick} (hs : SortedS r.Players) : r.Players.length ≤ (leftL r k l).length + k.length + l.length := by
 have h1 : (r.Players.filter (goneB k l)).length ≤ (k.map (·.Player) ++ l.map (·.Player)).length := by
  refine nodup_sub ((sorted_nodup hs).sublist List.filter_sublist) fun s h => ?_
  have := (List.mem_filter.1 h).2
  simp only [goneB, Bool.or_eq_true, List.any_eq_true, beq_iff_eq] at this
  rcases this with ⟨x, hx, e⟩ | ⟨x, hx, e⟩
  ·exact List.mem_append_left _ (List.mem_map.2 ⟨x, hx, e⟩)
  ·exact List.mem_append_right _ (List.mem_map.2 ⟨x, hx, e⟩)
 have h2 : ∀ (p : Str → Bool) (q : List Str), (q.filter fun s => !(p s)).length + (q.filter p).length = q.length := fun p q => by
  induction q with
  | nil => rfl
  | cons a q ih => simp only [List.filter_cons]; cases p a <;> simp <;> omega
 have := h2 (goneB k l) r.Players
 rw [List.length_append, List.length_map, List.length_map] at h1
 unfold leftL
 omega
theorem turns_many {r : Room} {s : List Swap} (h : RoomOk r) : (turns r s).length ≤ r.Players.length := by
 unfold turns; rw [turnsFrom_len]
 have := h.many
 have e : ((r.Rounds.toNat * r.Teams.length : Nat) : Int) = (r.Teams.length : Int) * r.Rounds := by
  rw [Int.natCast_mul, Int.toNat_of_nonneg (by have := h.r1; omega), Int.mul_comm]
 omega
theorem left_ne {r : Room} {k : List Keep} {s : List Swap} {l : List Pick} (h : openFault r k s = 0) (hl : l.length < (freeP r k s).length) : 0 < (leftL r k l).length := by
 have hr := room_ok (openFault_ok h).1
 have h1 := free_len h
 have h2 := left_len (k := k) (l := l) hr.sorted
 have h3 := turns_many (s := s) hr
 omega
end Go.HL
end
section
namespace Go.HL
def lastAt (r : Room) (l : List Pick) : Int := match l.getLast? with | some p => p.At | none => r.Start
theorem lastAt_snoc (r : Room) (l : List Pick) (p : Pick) : lastAt r (l ++ [p]) = p.At := by simp [lastAt]
def pkF (r : Room) (k : List Keep) (fr l : List Pick) (p : Pick) : Int :=
 if !(moment p.At) then 1 else if !(p.No == (fr.getD l.length pick0).No) then 7 else if !(p.Team == (fr.getD l.length pick0).Team) then 13
 else if !(r.Players.contains p.Player) then 8 else if goneB k l p.Player then 6 else if p.At < lastAt r l then 11 else 0
def pksGo (r : Room) (k : List Keep) (fr l : List Pick) : Nat → List Pick → Int
 | _, [] => 0
 | i, p :: t => if pkF r k fr (l.take i) p != 0 then pkF r k fr (l.take i) p else pksGo r k fr l (i + 1) t
def pksR (r : Room) (k : List Keep) (s : List Swap) (l : List Pick) : Int := if (freeP r k s).length < l.length then 2 else pksGo r k (freeP r k s) l 0 l
def picksE (r : Room) (k : List Keep) (s : List Swap) (l : List Pick) : Int := if openFault r k s != 0 then openFault r k s else pksR r k s l
theorem pgo_ne {r : Room} {k : List Keep} {fr l : List Pick} {i : Nat} {p : Pick} {t : List Pick} (h : pkF r k fr (l.take i) p ≠ 0) : pksGo r k fr l i (p :: t) = pkF r k fr (l.take i) p := by
 rw [pksGo, if_pos (by simpa using h)]
theorem pgo_z {r : Room} {k : List Keep} {fr l : List Pick} {i : Nat} {p : Pick} {t : List Pick} (h : pkF r k fr (l.take i) p = 0) : pksGo r k fr l i (p :: t) = pksGo r k fr l (i + 1) t := by
 rw [pksGo, if_neg (by simp [h])]
section
variable {r : Room} {k : List Keep} {fr l : List Pick} {p : Pick}
theorem pf1 (h1 : moment p.At = false) : pkF r k fr l p = 1 := by simp [pkF, h1]
theorem pf2 (h1 : moment p.At = true) (h2 : ¬ p.No = (fr.getD l.length pick0).No) : pkF r k fr l p = 7 := by
 unfold pkF; rw [if_neg (by simp [h1]), if_pos (by simpa using h2)]
theorem pf3 (h1 : moment p.At = true) (h2 : p.No = (fr.getD l.length pick0).No) (h3 : ¬ p.Team = (fr.getD l.length pick0).Team) : pkF r k fr l p = 13 := by
 unfold pkF; rw [if_neg (by simp [h1]), if_neg (by simpa using h2), if_pos (by simpa using h3)]
theorem pf4 (h1 : moment p.At = true) (h2 : p.No = (fr.getD l.length pick0).No) (h3 : p.Team = (fr.getD l.length pick0).Team) (h4 : ¬ p.Player ∈ r.Players) : pkF r k fr l p = 8 := by
 unfold pkF; rw [if_neg (by simp [h1]), if_neg (by simpa using h2), if_neg (by simpa using h3), if_pos (by simpa using h4)]
theorem pf5 (h1 : moment p.At = true) (h2 : p.No = (fr.getD l.length pick0).No) (h3 : p.Team = (fr.getD l.length pick0).Team) (h4 : p.Player ∈ r.Players) (h5 : goneB k l p.Player = true) : pkF r k fr l p = 6 := by
 unfold pkF; rw [if_neg (by simp [h1]), if_neg (by simpa using h2), if_neg (by simpa using h3), if_neg (by simpa using h4), if_pos h5]
theorem pf6 (h1 : moment p.At = true) (h2 : p.No = (fr.getD l.length pick0).No) (h3 : p.Team = (fr.getD l.length pick0).Team) (h4 : p.Player ∈ r.Players) (h5 : goneB k l p.Player = false) (h6 : p.At < lastAt r l) : pkF r k fr l p = 11 := by
 unfold pkF; rw [if_neg (by simp [h1]), if_neg (by simpa using h2), if_neg (by simpa using h3), if_neg (by simpa using h4), if_neg (by simp [h5]), if_pos h6]
theorem pf0 (h1 : moment p.At = true) (h2 : p.No = (fr.getD l.length pick0).No) (h3 : p.Team = (fr.getD l.length pick0).Team) (h4 : p.Player ∈ r.Players) (h5 : goneB k l p.Player = false) (h6 : ¬ p.At < lastAt r l) : pkF r k fr l p = 0 := by
 unfold pkF; rw [if_neg (by simp [h1]), if_neg (by simpa using h2), if_neg (by simpa using h3), if_neg (by simpa using h4), if_neg (by simp [h5]), if_neg h6]
theorem pkF_ok (h : pkF r k fr l p = 0) : moment p.At = true ∧ p.No = (fr.getD l.length pick0).No ∧ p.Team = (fr.getD l.length pick0).Team ∧ p.Player ∈ r.Players ∧ goneB k l p.Player = false := by
 unfold pkF at h
 split at h
 ·omega
 ·rename_i h1
  split at h
  ·omega
  ·rename_i h2
   split at h
   ·omega
   ·rename_i h3
    split at h
    ·omega
    ·rename_i h4
     split at h
     ·omega
     ·rename_i h5
      simp at h1 h2 h3 h4 h5
      exact ⟨h1, h2, h3, h4, h5⟩
end
theorem picksE_ok {r : Room} {k : List Keep} {s : List Swap} {l : List Pick} (h : picksE r k s l = 0) : openFault r k s = 0 ∧ l.length ≤ (freeP r k s).length ∧ pksGo r k (freeP r k s) l 0 l = 0 := by
 unfold picksE at h
 split at h
 ·rename_i hc; simp [h] at hc
 ·rename_i hc
  unfold pksR at h
  split at h
  ·omega
  ·exact ⟨by simpa using hc, by omega, h⟩
theorem pksGo_at {r : Room} {k : List Keep} {fr l : List Pick} : ∀ (t : List Pick) (i : Nat), l.drop i = t → pksGo r k fr l i t = 0 → ∀ (j : Nat) (p : Pick), i ≤ j → l[j]? = some p → pkF r k fr (l.take j) p = 0
 | [], i, hd, _, j, p, hj, hp => by
   have := lt_of_get hp
   have h2 : l.length ≤ i := by rw [← List.drop_eq_nil_iff]; exact hd
   omega
 | x :: t, i, hd, h, j, p, hj, hp => by
   have hk : l[i]? = some x := by
    have := congrArg (fun q => q[0]?) hd
    simpa using this
   have hd' : l.drop (i + 1) = t := by
    have := drop_cons hk
    rw [hd] at this; simp at this; exact this.symm
   by_cases e : pkF r k fr (l.take i) x = 0
   ·rw [pgo_z e] at h
    by_cases hij : i = j
    ·subst hij; rw [hk] at hp; cases hp; exact e
    ·exact pksGo_at t (i + 1) hd' h j p (by omega) hp
   ·rw [pgo_ne e] at h; exact absurd h e
theorem last_moment {r : Room} {k : List Keep} {s : List Swap} {l : List Pick} (h : picksE r k s l = 0) : moment (lastAt r l) = true := by
 obtain ⟨h1, h2, h3⟩ := picksE_ok h
 cases hl : l.getLast? with
 | none => simp only [lastAt, hl]; exact (room_ok (openFault_ok h1).1).start
 | some p =>
   simp only [lastAt, hl]
   have : l[l.length - 1]? = some p := by rw [← List.getLast?_eq_getElem?]; exact hl
   exact (pkF_ok (pksGo_at l 0 rfl h3 _ p (Nat.zero_le _) this)).1
/-! wishes -/
structure Wish where
 Team : Str
 Players : List Str
abbrev eWish (w : Wish) : HVal := .agg [.str w.Team, eSs w.Players]
abbrev eWishes (l : List Wish) : HVal := .slice 2 (l.map eWish)
def wpGo (r : Room) (l : List Str) : Nat → List Str → Int
 | _, [] => 0
 | j, s :: t => if !(r.Players.contains s) then 8 else if (l.take j).contains s then 6 else wpGo r l (j + 1) t
def wsGo (r : Room) (w : List Wish) : Nat → List Wish → Int
 | _, [] => 0
 | i, x :: t => if !(r.Teams.contains x.Team) then 8 else if (w.take i).any (fun y => y.Team == x.Team) then 6 else if 500 < x.Players.length then 2
   else if wpGo r x.Players 0 x.Players != 0 then wpGo r x.Players 0 x.Players else wsGo r w (i + 1) t
def wishesR (r : Room) (w : List Wish) : Int := if 20 < w.length then 2 else wsGo r w 0 w
def wishesE (r : Room) (w : List Wish) : Int := if checkRoom r != 0 then checkRoom r else wishesR r w
theorem wpGo_in {r : Room} {l : List Str} : ∀ (t : List Str) (j : Nat), wpGo r l j t = 0 → ∀ s ∈ t, s ∈ r.Players
 | [], _, _, s, hs => by simp at hs
 | x :: t, j, h, s, hs => by
   simp only [wpGo] at h
   split at h
   ·omega
   ·rename_i h1
    split at h
    ·omega
    ·rcases List.mem_cons.1 hs with rfl | hs
     ·simpa using h1
     ·exact wpGo_in t (j + 1) h s hs
theorem wsGo_in {r : Room} {w : List Wish} : ∀ (t : List Wish) (i : Nat), wsGo r w i t = 0 → ∀ y ∈ t, (∀ s ∈ y.Players, s ∈ r.Players) ∧ y.Players.length ≤ 500
 | [], _, _, y, hy => by simp at hy
 | x :: t, i, h, y, hy => by
   simp only [wsGo] at h
   split at h
   ·omega
   ·split at h
    ·omega
    ·split at h
     ·omega
     ·split at h
      ·rename_i hc; simp [h] at hc
      ·rename_i hc
       rcases List.mem_cons.1 hy with rfl | hy
       ·exact ⟨wpGo_in _ 0 (by simpa using hc), by omega⟩
       ·exact wsGo_in t (i + 1) h y hy
theorem wishes_in {r : Room} {w : List Wish} (h : wishesE r w = 0) : ∀ y ∈ w, (∀ s ∈ y.Players, s ∈ r.Players) ∧ y.Players.length ≤ 500 := by
 unfold wishesE wishesR at h
 split at h
 ·rename_i hc; simp [h] at hc
 ·split at h
  ·omega
  ·exact wsGo_in w 0 h
/-- whom a team would pick of those who are not gone -/
def wishGo (g : Str → Bool) (team : Str) : List Wish → Option Str
 | [] => none
 | y :: r => if y.Team = team then (match y.Players.find? (fun s => !(g s)) with | some s => some s | none => wishGo g team r) else wishGo g team r
def wishOf (r : Room) (g : Str → Bool) (w : List Wish) (team : Str) : Str := match wishGo g team w with | some s => s | none => (r.Players.find? (fun s => !(g s))).getD []
theorem find_congr {p q : Str → Bool} : ∀ {l : List Str}, (∀ s ∈ l, p s = q s) → l.find? p = l.find? q
 | [], _ => rfl
 | a :: l, h => by
   simp only [List.find?_cons, h a List.mem_cons_self]
   rw [find_congr fun s hs => h s (List.mem_cons_of_mem _ hs)]
theorem wishGo_congr {r : Room} {g g' : Str → Bool} (h : ∀ s ∈ r.Players, g s = g' s) {team : Str} : ∀ {w : List Wish}, (∀ y ∈ w, ∀ s ∈ y.Players, s ∈ r.Players) → wishGo g team w = wishGo g' team w
 | [], _ => rfl
 | y :: w, hw => by
   simp only [wishGo]
   rw [wishGo_congr h fun z hz => hw z (List.mem_cons_of_mem _ hz), find_congr (p := fun s => !(g s)) (q := fun s => !(g' s)) fun s hs => by rw [h s (hw y List.mem_cons_self s hs)]]
theorem wishOf_congr {r : Room} {g g' : Str → Bool} (h : ∀ s ∈ r.Players, g s = g' s) {team : Str} {w : List Wish} (hw : ∀ y ∈ w, ∀ s ∈ y.Players, s ∈ r.Players) : wishOf r g w team = wishOf r g' w team := by
 unfold wishOf
 rw [wishGo_congr h hw, find_congr (p := fun s => !(g s)) (q := fun s => !(g' s)) fun s hs => by rw [h s hs]]
theorem find_mem {p : Str → Bool} {l : List Str} {s : Str} (h : l.find? p = some s) : s ∈ l ∧ p s = true := ⟨List.mem_of_find?_eq_some h, List.find?_some h⟩
/-! picks by lists -/
def autoP (r : Room) (k : List Keep) (fr : List Pick) (w : List Wish) (l : List Pick) (at' : Int) : Pick :=
 ⟨(fr.getD l.length pick0).No, (fr.getD l.length pick0).Team, wishOf r (goneB k l) w (fr.getD l.length pick0).Team, at', true⟩
def finGo (r : Room) (k : List Keep) (fr : List Pick) (w : List Wish) : Nat → List Pick → List Pick
 | 0, l => l
 | n + 1, l => finGo r k fr w n (l ++ [autoP r k fr w l (lastAt r l)])
def finL (r : Room) (k : List Keep) (s : List Swap) (w : List Wish) (l : List Pick) : List Pick := finGo r k (freeP r k s) w ((freeP r k s).length - l.length) l
def dueB (r : Room) (l : List Pick) (at' : Int) : Bool := moment (lastAt r l + r.Clock) && decide (lastAt r l + r.Clock ≤ at')
def autoGo (r : Room) (k : List Keep) (fr : List Pick) (w : List Wish) (at' : Int) : Nat → List Pick → List Pick
 | 0, l => l
 | n + 1, l => if dueB r l at' then autoGo r k fr w at' n (l ++ [autoP r k fr w l (lastAt r l + r.Clock)]) else l
theorem goneB_snoc (k : List Keep) (l : List Pick) (p : Pick) (s : Str) : goneB k (l ++ [p]) s = (goneB k l s || p.Player == s) := by
 simp [goneB, Bool.or_assoc]
/-! what a run holds -/
structure RunOk (r : Room) (k : List Keep) (s : List Swap) (l : List Pick) (S : List Str) : Prop where
 gone : ∀ x ∈ r.Players, S.contains x = goneB k l x
theorem RunOk.add {r : Room} {k : List Keep} {s : List Swap} {l : List Pick} {S : List Str} (ok : RunOk r k s l S) (p : Pick) : RunOk r k s (l ++ [p]) (sadd p.Player S) :=
 ⟨fun x hx => by rw [goneB_snoc, sadd_contains, ok.gone x hx]⟩
end Go.HL
end
section
namespace Go.HL
abbrev RunH (r : Room) (A T l : List Pick) (S : List Str) : List HVal := [.vptr (hcells (eRoom r)) 0, ePicks A, ePicks T, ePicks l, hset S]
abbrev RunM (b m : Nat) (va v : Value) (r : Room) (A T l : List Pick) (S : List Str) : List MObj :=
 [.cells b [.vptr (hcells (eRoom r)) 0, .raw va, ePicks T, .raw v, .raw (.map (some m))], .arr va 5 (A.map ePick), .arr v 5 (l.map ePick), .map m (sk (mset S))]
theorem bowRun0 {b m : Nat} {va v : Value} {r : Room} {A T l : List Pick} {S : List Str} : Bow (RunM b m va v r A T l S) (pAt b) (.vptr (RunH r A T l S) 0) :=
 .cellsL (i := 0) rfl ⟨.refl, .arr (i := 1) rfl, .refl, .arr (i := 2) rfl, .map (i := 3) (L := mset S) rfl, trivial⟩
theorem lastAt_z {r : Room} {l : List Pick} (h : l = []) : lastAt r l = r.Start := by subst h; rfl
theorem lastAt_n {r : Room} {l : List Pick} (h : ¬ l = []) : lastAt r l = (l.getD (l.length - 1) pick0).At := by
 have h0 : 0 < l.length := List.length_pos_iff.2 h
 have e : l.getLast? = some (l.getD (l.length - 1) pick0) := by rw [List.getLast?_eq_getElem?, getD_some (d := pick0) (by omega)]
 simp only [lastAt, e]
theorem drop_get {α : Type} {l : List α} {n : Nat} {d : α} (h : n < l.length) : (l.drop n)[0]? = some (l.getD n d) := by
 rw [List.getElem?_drop]; exact getD_some h
theorem idxF_find {α : Type} {p : α → Bool} {l : List α} (h : 0 ≤ idxF p l 0) : ∃ (i : Nat) (x : α), idxF p l 0 = (i : Int) ∧ l[i]? = some x ∧ l.find? p = some x := by
 obtain ⟨i, h1, h2, ⟨x, hx, hp⟩, hb⟩ := idxF_found p l 0 (by omega) (by omega)
 refine ⟨i, x, by omega, hx, ?_⟩
 have e : l = l.take i ++ x :: l.drop (i + 1) := by rw [← drop_cons hx, List.take_append_drop]
 rw [e, List.find?_append, List.find?_eq_none.2 (by simpa using hb)]
 simp [hp]
theorem idxF_miss {α : Type} {p : α → Bool} {l : List α} (h : idxF p l 0 < 0) : l.find? p = none := by
 have := idxF_nonneg p l 0 (by omega)
 rw [List.find?_eq_none]
 intro x hx hp
 have h1 : l.any p = true := List.any_eq_true.2 ⟨x, hx, hp⟩
 rw [← this] at h1
 simp at h1; omega
theorem wish_1 {g : Str → Bool} {team : Str} {y : Wish} {r : List Wish} {s : Str} (h : y.Team = team) (hf : y.Players.find? (fun s => !(g s)) = some s) : wishGo g team (y :: r) = some s := by
 simp [wishGo, h, hf]
theorem wish_2 {g : Str → Bool} {team : Str} {y : Wish} {r : List Wish} (h : y.Team = team) (hf : y.Players.find? (fun s => !(g s)) = none) : wishGo g team (y :: r) = wishGo g team r := by
 simp [wishGo, h, hf]
theorem wish_3 {g : Str → Bool} {team : Str} {y : Wish} {r : List Wish} (h : ¬ y.Team = team) : wishGo g team (y :: r) = wishGo g team r := by
 simp [wishGo, h]
theorem idxF_pos {α : Type} {p : α → Bool} {l : List α} (h : ∃ x ∈ l, p x = true) : 0 ≤ idxF p l 0 := by
 have h1 : l.any p = true := List.any_eq_true.2 h
 rw [← idxF_nonneg p l 0 (by omega)] at h1
 simpa using h1
theorem bowRunC {x : MObj} {b m : Nat} {va v : Value} {r : Room} {A T l : List Pick} {S : List Str} : Bow (x :: RunM b m va v r A T l S) (pAt b) (.vptr (RunH r A T l S) 0) :=
 .cellsL (i := 1) rfl ⟨.refl, .arr (i := 2) rfl, .refl, .arr (i := 3) rfl, .map (i := 4) (L := mset S) rfl, trivial⟩
theorem open_pos {r : Room} {k : List Keep} {s : List Swap} (h : RoomOk r) : 0 < (open1 r k s).length := by
 unfold open1; rw [openFrom_len]; unfold turns; rw [turnsFrom_len]
 exact Nat.mul_pos (by have := h.r1; omega) h.t0
theorem run_start {r : Room} {k : List Keep} {s : List Swap} {S : List Str} (h : openFault r k s = 0) (hS : ∀ x, S.contains x = (open1 r k s).any fun p => !(p.Player == []) && p.Player == x) : RunOk r k s [] S := ⟨fun x hx => by
 have hne := (room_ok (openFault_ok h).1).ne x hx
 rw [hS x, goneB, ← open_any h hne]
 simp only [List.any_nil, Bool.or_false]
 congr 1; funext p
 by_cases e : p.Player = x
 ·subst e; simp [hne]
 ·have : (p.Player == x) = false := by simpa using e
  rw [this]; simp⟩
theorem any_snoc {α : Type} (q : α → Bool) {l : List α} {i : Nat} {x : α} (hx : l[i]? = some x) : (l.take (i + 1)).any q = ((l.take i).any q || q x) := by
 rw [take_snoc' hx]; simp
theorem filter_snoc1 {α : Type} (q : α → Bool) {l : List α} {i : Nat} {x : α} (hx : l[i]? = some x) : (l.take (i + 1)).filter q = (l.take i).filter q ++ if q x then [x] else [] := by
 rw [take_snoc' hx, List.filter_append]; congr 1; simp [List.filter_cons]
def dueI (r : Room) (T l : List Pick) : Int := if T.isEmpty || !(moment (lastAt r l + r.Clock)) then 0 else lastAt r l + r.Clock
def dueD (r : Room) (T l : List Pick) : Bool := !(T.isEmpty || !(moment (lastAt r l + r.Clock)))
theorem auto_stop {r : Room} {k : List Keep} {fr : List Pick} {w : List Wish} {n : Int} {L : List Pick} (h : dueD r (fr.drop L.length) L = false ∨ n < dueI r (fr.drop L.length) L) : autoGo r k fr w n (fr.length - L.length) L = L := by
 by_cases e : fr.length ≤ L.length
 ·rw [show fr.length - L.length = 0 by omega]; rfl
 ·obtain ⟨q, hq⟩ : ∃ q, fr.length - L.length = q + 1 := ⟨fr.length - L.length - 1, by omega⟩
  have hT : (fr.drop L.length).isEmpty = false := by
   cases hd : fr.drop L.length with
   | nil => exact absurd (List.drop_eq_nil_iff.1 hd) e
   | cons a b => rfl
  rw [hq, autoGo]
  unfold dueD dueI at h
  rw [hT] at h
  rw [if_neg]
  intro hc
  simp only [dueB, Bool.and_eq_true, decide_eq_true_eq] at hc
  rw [hc.1] at h
  simp at h; omega
theorem fin_go {r : Room} {k : List Keep} {fr : List Pick} {w : List Wish} {L : List Pick} (h : L.length < fr.length) :
 finGo r k fr w (fr.length - L.length) L = finGo r k fr w (fr.length - (L.length + 1)) (L ++ [autoP r k fr w L (lastAt r L)]) := by
 obtain ⟨q, hq⟩ : ∃ q, fr.length - L.length = q + 1 := ⟨fr.length - L.length - 1, by omega⟩
 rw [hq, finGo, show fr.length - (L.length + 1) = q by omega]
theorem fin_stop {r : Room} {k : List Keep} {fr : List Pick} {w : List Wish} {L : List Pick} (h : fr.length ≤ L.length) : finGo r k fr w (fr.length - L.length) L = L := by
 rw [show fr.length - L.length = 0 by omega]; rfl
theorem left_ex {r : Room} {k : List Keep} {s : List Swap} {L : List Pick} {S : List Str} (h : openFault r k s = 0) (hl : L.length < (freeP r k s).length) (ok : RunOk r k s L S) : ∃ x ∈ r.Players, (fun y => S.contains y) x = false := by
 have := left_ne h hl
 obtain ⟨x, hx⟩ := List.exists_mem_of_length_pos this
 obtain ⟨h1, h2⟩ := List.mem_filter.1 hx
 exact ⟨x, h1, by show S.contains x = false; rw [ok.gone x h1]; simpa using h2⟩
theorem wish_ok {r : Room} {k : List Keep} {s : List Swap} {L : List Pick} {S : List Str} {w : List Wish} (ok : RunOk r k s L S) (hw : ∀ y ∈ w, ∀ x ∈ y.Players, x ∈ r.Players) (t : Str) : wishOf r (fun y => S.contains y) w t = wishOf r (goneB k L) w t := wishOf_congr ok.gone hw
def wishedE (r : Room) (k : List Keep) (s : List Swap) (l : List Pick) (w : List Wish) : Int := if picksE r k s l != 0 then picksE r k s l else wishesE r w
theorem wishedE_ok {r : Room} {k : List Keep} {s : List Swap} {l : List Pick} {w : List Wish} (h : wishedE r k s l w = 0) : picksE r k s l = 0 ∧ wishesE r w = 0 := by
 unfold wishedE at h
 split at h
 ·rename_i hc; simp [h] at hc
 ·rename_i hc; exact ⟨by simpa using hc, h⟩
section
variable {r : Room} {w : List Wish} {k : Nat} {x : Wish} {t : List Wish}
theorem ws8 (h : ¬ x.Team ∈ r.Teams) : wsGo r w k (x :: t) = 8 := by simp [wsGo, h]
theorem ws6 (h : x.Team ∈ r.Teams) (h9 : (w.take k).any (fun y => y.Team == x.Team) = true) : wsGo r w k (x :: t) = 6 := by
 simp only [wsGo]; rw [if_neg (by simp [h]), if_pos h9]
theorem ws2 (h : x.Team ∈ r.Teams) (h9 : (w.take k).any (fun y => y.Team == x.Team) = false) (h11 : 500 < x.Players.length) : wsGo r w k (x :: t) = 2 := by
 simp only [wsGo]; rw [if_neg (by simp [h]), if_neg (by simp [h9]), if_pos h11]
theorem wsP {c : Int} (h : x.Team ∈ r.Teams) (h9 : (w.take k).any (fun y => y.Team == x.Team) = false) (h11 : ¬ 500 < x.Players.length) (hp : wpGo r x.Players 0 x.Players = c) (hc : c ≠ 0) : wsGo r w k (x :: t) = c := by
 simp only [wsGo]; rw [if_neg (by simp [h]), if_neg (by simp [h9]), if_neg h11, hp, if_pos (by simpa using hc)]
theorem ws0 (h : x.Team ∈ r.Teams) (h9 : (w.take k).any (fun y => y.Team == x.Team) = false) (h11 : ¬ 500 < x.Players.length) (hp : wpGo r x.Players 0 x.Players = 0) : wsGo r w k (x :: t) = wsGo r w (k + 1) t := by
 simp only [wsGo]; rw [if_neg (by simp [h]), if_neg (by simp [h9]), if_neg h11, hp, if_neg (by simp)]
end
theorem wp8 {r : Room} {l : List Str} {j : Nat} {y : Str} {t : List Str} (h : ¬ y ∈ r.Players) : wpGo r l j (y :: t) = 8 := by simp [wpGo, h]
theorem wp6 {r : Room} {l : List Str} {j : Nat} {y : Str} {t : List Str} (h : y ∈ r.Players) (h2 : (l.take j).contains y = true) : wpGo r l j (y :: t) = 6 := by
 simp only [wpGo]; rw [if_neg (by simp [h]), if_pos h2]
theorem wp0 {r : Room} {l : List Str} {j : Nat} {y : Str} {t : List Str} (h : y ∈ r.Players) (h2 : (l.take j).contains y = false) : wpGo r l j (y :: t) = wpGo r l (j + 1) t := by
 simp only [wpGo]; rw [if_neg (by simp [h]), if_neg (by rw [h2]; simp)]
theorem set_snoc {l : List Str} {j : Nat} {y z : Str} (hy : l[j]? = some y) : ((l.take j).contains z || y == z) = (l.take (j + 1)).contains z := by
 rw [take_snoc' hy, Bool.eq_iff_iff]
 simp only [Bool.or_eq_true, beq_iff_eq, List.contains_iff_mem, List.mem_append, List.mem_singleton]
 exact ⟨fun h => h.imp id Eq.symm, fun h => h.imp id Eq.symm⟩
theorem left_mem {r : Room} {k : List Keep} {l : List Pick} {s : Str} (h : s ∈ r.Players) : s ∈ leftL r k l ↔ goneB k l s = false := by
 simp [leftL, h]
def nextP (r : Room) (k : List Keep) (s : List Swap) (l : List Pick) : Pick := if l.length < (freeP r k s).length then (freeP r k s).getD l.length pick0 else pick0
theorem b_true {b : Bool} (h : ¬ b = false) : b = true := by cases b <;> simp_all
structure GoodPicks (l : List Pick) : Prop where
 len : l.length ≤ 10
structure GoodWishes (w : List Wish) : Prop where
 len : w.length ≤ 4
 all : ∀ y ∈ w, y.Players.length ≤ 100
abbrev GoodW (w : Wish) : Prop := w.Players.length ≤ 60
end Go.HL
end
