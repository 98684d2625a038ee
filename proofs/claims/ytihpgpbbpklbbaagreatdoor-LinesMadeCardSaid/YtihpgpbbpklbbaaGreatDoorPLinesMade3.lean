/- Part 3 of the proof: a program logic, contracts of functions and plain facts; no conditions. -/
import Derived.Test.YtihpgpbbpklbbaaGreatDoorPLinesMade2
import Derived.Ground.Names2Prog
import Derived.KernelRfl
import Derived.Shelf.Slices.CompactI
import Derived.Shelf.Slices.CompactS
import Derived.Shelf.Slices.Delete
import Derived.Shelf.Slices.In.SortNone
import Derived.Shelf.Sort.Plain
import Derived.Shelf.Strconv.Atoi
import Derived.Shelf.Strconv.Itoa3
import Derived.Shelf.Strings.Prefix
import Derived.Test.YtihpgpbbpklbbaaGreatDoorProg
set_option linter.unusedVariables false
set_option linter.unusedSimpArgs false
section
namespace Go.Proofs.YtihpgpbbpklbbaaGreatDoor
open Go.HL
set_option maxRecDepth 100000
set_option linter.unusedVariables false
set_option linter.unusedSimpArgs false
/-- benchwarmer/play.undone -/
theorem c_play_undone [Tracks] {l : List Play} {n : Int} (hl : l.length ≤ 1000000) : Con Tryz.prog 68 [ePlays l, .int .i64 n] [] (fun x M' => ∃ b, x = .raw (.map (some b)) ∧ M' = [.map b (kk eNum (em HVal.bool (goneL l n)))]) := by
 refine Con.of_body Tryz.func68 rfl Tryz.ntmps68 rfl rfl ?_
 refine hw_reg ?_
 refine dp rfl (pop_assign rfl) ?_
 refine dn ?_
 refine hw_reg ?_
 refine de rfl (eop_makeMap fun m14 => ?_)
 refine dp rfl (pop_assign rfl) ?_
 refine dn ?_
 refine hw_seq ?_
 refine hw_reg ?_
 refine dp rfl (pop_move rfl) ?_
 refine dp rfl (pop_lenm ty26 rfl) ?_
 refine dp rfl (pop_move rfl) ?_
 refine dn ?_
 refine hw_block ?_
 refine hw_loopw [7, 17, 18, 19, 20, 21, 22, 23, 24, 25, 26, 27, 28, 29, 30, 31, 32] (fun (k : Nat) => [(17, .int .i64 k)]) (fun (k : Nat) => [.map m14 (kk eNum (em ePlay (numL (l.take k) n)))]) (fun (k : Nat) => k ≤ l.length ∧ (True)) (fun (k : Nat) => l.length - k) (0) ?_ ?_ ?_ ?_
 ·exact ⟨Nat.zero_le _, trivial⟩
 ·exact ⟨rfl, trivial⟩
 ·exact List.Perm.refl _
 ·intro k hinv
  obtain ⟨hk, -⟩ := hinv
  refine hw_reg ?_
  refine dp rfl (pop_lss rfl rfl) ?_
  refine dn ?_
  refine hw_seq ?_
  refine hw_cond rfl (fun h1 => ?_) (fun h2 => ?_)
  ·try simp at h1
   obtain ⟨x, hx⟩ : ∃ x, l[k]? = some x := ⟨_, List.getElem?_eq_getElem h1⟩
   have hdx := drop_cons hx
   refine hw_skip ?_
   refine seqQ_n ?_
   refine hw_seq ?_
   refine hw_block ?_
   refine hw_reg ?_
   refine dp rfl (pop_idx ty26 ty93 rfl rfl rfl (by assumption)) ?_
   refine dp rfl (pop_loadw ty93 rfl rfl rfl rfl) ?_
   refine de rfl (eop_alloc ty93 rfl fun b7 => ?_)
   refine de0 (eop_storew ty93 rfl rfl rfl rfl rfl ?_)
   refine dn ?_
   refine hw_ghost (Ghost.fc0 7 rfl) ?_
   refine hw_reg ?_
   refine dp rfl (pop_fieldAddr ty93 rfl ty3 (by decide) rfl) ?_
   refine dp rfl (pop_load ty3 rfl rfl rfl) ?_
   refine dp rfl (pop_move rfl) ?_
   refine dp rfl (pop_leq rfl rfl) ?_
   refine dn ?_
   refine hw_cond rfl (fun h3 => ?_) (fun h4 => ?_)
   ·try simp at h3
    refine hw_reg1 ?_
    refine dp rfl (pop_move rfl) ?_
    refine dp rfl (pop_fieldAddr ty93 rfl ty9 (by decide) rfl) ?_
    refine dp rfl (pop_load ty9 rfl rfl rfl) ?_
    refine dp rfl (pop_fieldAddr ty93 rfl ty3 (by decide) rfl) ?_
    refine dp rfl (pop_load ty3 rfl rfl rfl) ?_
    refine dp rfl (pop_build (cs := [_, _]) ty119 pl119 rfl) ?_
    refine dp rfl (pop_loadw ty93 rfl rfl rfl rfl) ?_
    refine de0 (eop_updatekA (i := 0) (s := (x.Source, x.No)) (v := x) ty177 ok119 rfl rfl rfl rfl ?_)
    refine dn ?_
    refine blockQ_n ?_
    refine seqQ_n ?_
    refine hw_reg1 ?_
    refine dp rfl (pop_add64 rfl rfl (by omega) (by omega)) ?_
    refine dp rfl (pop_move rfl) ?_
    refine dn ?_
    exact ⟨k + 1, ⟨by omega, trivial⟩, by dsimp only; omega, ⟨rfl, trivial⟩, (by repeat (first | exact keeps_refl | refine keeps_upd rfl ?_ | refine keeps_loop rfl rfl ?_)), perm_eq (by dsimp only; rw [numL_snoc hx, numStep, if_pos (by simpa using h3)]; try rfl)⟩
   ·try simp at h4
    refine hw_skip ?_
    refine blockQ_n ?_
    refine seqQ_n ?_
    refine hw_reg1 ?_
    refine dp rfl (pop_add64 rfl rfl (by omega) (by omega)) ?_
    refine dp rfl (pop_move rfl) ?_
    refine dn ?_
    exact ⟨k + 1, ⟨by omega, trivial⟩, by dsimp only; omega, ⟨rfl, trivial⟩, (by repeat (first | exact keeps_refl | refine keeps_upd rfl ?_ | refine keeps_loop rfl rfl ?_)), perm_eq (by dsimp only; rw [numL_snoc hx, numStep, if_neg (by simpa using h4)]; try rfl)⟩
  ·try simp at h2
   have hnk : l.length ≤ k := by omega
   obtain rfl : k = l.length := by omega
   refine hw_exit ?_
   refine seqQ_x ?_
   refine loopQ_x ?_
   refine blockQ_eq ?_
   refine seqQ_n ?_
   rw [List.take_length]
   refine hw_reg ?_
   refine de rfl (eop_makeMap fun m33 => ?_)
   refine dp rfl (pop_assign rfl) ?_
   refine dn ?_
   refine hw_seq ?_
   refine hw_reg ?_
   refine dp rfl (pop_move rfl) ?_
   refine dp rfl (pop_lenm ty26 rfl) ?_
   refine dp rfl (pop_move rfl) ?_
   refine dn ?_
   refine hw_block ?_
   refine hw_loopw [10, 11, 12, 13, 36, 37, 38, 39, 40, 41, 42, 43, 44, 45, 46, 47, 48, 49, 50, 51, 52, 53, 54, 55, 56, 57, 58, 59, 60, 61, 62, 63, 64, 65, 66, 67, 68, 69, 70, 71, 72, 73, 74, 75, 76, 77, 78, 79, 80, 81, 82, 83, 84, 85, 86, 87, 88, 89] (fun (k : Nat) => [(36, .int .i64 k)]) (fun (k : Nat) => [.map m33 (kk eNum (em HVal.bool (goneGo (numL l n) n (l.take k)))), .map m14 (kk eNum (em ePlay (numL l n)))]) (fun (k : Nat) => k ≤ l.length ∧ (True)) (fun (k : Nat) => l.length - k) (0) ?_ ?_ ?_ ?_
   ·exact ⟨Nat.zero_le _, trivial⟩
   ·exact ⟨rfl, trivial⟩
   ·exact List.Perm.refl _
   ·intro k hinv
    obtain ⟨hk, -⟩ := hinv
    refine hw_reg ?_
    refine dp rfl (pop_lss rfl rfl) ?_
    refine dn ?_
    refine hw_seq ?_
    refine hw_cond rfl (fun h5 => ?_) (fun h6 => ?_)
    ·try simp at h5
     obtain ⟨x, hx⟩ : ∃ x, l[k]? = some x := ⟨_, List.getElem?_eq_getElem h5⟩
     have hdx := drop_cons hx
     refine hw_skip ?_
     refine seqQ_n ?_
     refine hw_seq ?_
     refine hw_block ?_
     refine hw_reg ?_
     refine dp rfl (pop_idx ty26 ty93 rfl rfl rfl (by assumption)) ?_
     refine dp rfl (pop_loadw ty93 rfl rfl rfl rfl) ?_
     refine de rfl (eop_alloc ty93 rfl fun b10 => ?_)
     refine de0 (eop_storew ty93 rfl rfl rfl rfl rfl ?_)
     refine dn ?_
     refine hw_ghost (Ghost.fc0 10 rfl) ?_
     refine hw_seq ?_
     refine hw_reg ?_
     refine dp rfl (pop_fieldAddr ty93 rfl ty3 (by decide) rfl) ?_
     refine dp rfl (pop_load ty3 rfl rfl rfl) ?_
     refine dp rfl (pop_move rfl) ?_
     refine dp rfl (pop_gtr rfl rfl) ?_
     refine dp rfl (pop_move rfl) ?_
     refine dg rfl rfl (fun hc => ⟨_, OpenTo.refl _, pop_fieldAddr ty93 rfl ty3 (by decide) rfl⟩) ?_
     refine dg rfl rfl (fun hc => ⟨_, OpenTo.upd (t := 45) rfl (hc) (OpenTo.refl _), pop_load ty3 rfl rfl rfl⟩) ?_
     refine dg rfl rfl (fun hc => ⟨_, OpenTo.upd (t := 46) rfl (hc) (OpenTo.refl _), pop_eql rfl rfl⟩) ?_
     refine dp rfl (pop_picko rfl (.inl rfl) (.inr ⟨_, rfl, fun h => by simp_all⟩)) ?_
     refine dn ?_
     refine hw_cond rfl (fun h7 => ?_) (fun h8 => ?_)
     ·try simp at h7
      refine hw_exit ?_
      refine seqQ_x ?_
      refine blockQ_eq ?_
      refine seqQ_n ?_
      refine hw_reg1 ?_
      refine dp rfl (pop_add64 rfl rfl (by omega) (by omega)) ?_
      refine dp rfl (pop_move rfl) ?_
      refine dn ?_
      exact ⟨k + 1, ⟨by omega, trivial⟩, by dsimp only; omega, ⟨rfl, trivial⟩, (by repeat (first | exact keeps_refl | refine keeps_upd rfl ?_ | refine keeps_loop rfl rfl ?_)), perm_eq (by dsimp only; rw [goneGo_snoc hx, goneStep, if_pos (by simpa using h7)]; try rfl)⟩
     ·try simp at h8
      refine hw_skip ?_
      refine seqQ_n ?_
      refine hw_reg ?_
      refine dp rfl (pop_fieldAddr ty93 rfl ty9 (by decide) rfl) ?_
      refine dp rfl (pop_load ty9 rfl rfl rfl) ?_
      refine dp rfl (pop_fieldAddr ty93 rfl ty3 (by decide) rfl) ?_
      refine dp rfl (pop_load ty3 rfl rfl rfl) ?_
      refine dp rfl (pop_build (cs := [_, _]) ty119 pl119 rfl) ?_
      refine de rfl (eop_alloc ty119 rfl fun b11 => ?_)
      refine de0 (eop_storew ty119 rfl rfl rfl rfl rfl ?_)
      refine dn ?_
      refine hw_ghost (Ghost.fc0 11 rfl) ?_
      refine hw_reg ?_
      refine dp rfl (pop_move rfl) ?_
      refine dp rfl (pop_loadw ty119 rfl rfl rfl rfl) ?_
      refine de rfl (eop_lookupk2A (i := 1) (s := (x.Source, x.Undo)) (z0 := play0) ty177 ok119 ty93 rfl rfl rfl rfl ?_)
      refine dp rfl (pop_move rfl) ?_
      refine dp rfl (pop_extract rfl rfl) ?_
      refine dp rfl (pop_extract rfl rfl) ?_
      refine de rfl (eop_alloc ty93 rfl fun b12 => ?_)
      refine de0 (eop_storew ty93 rfl rfl rfl rfl rfl ?_)
      refine dp rfl (pop_assign rfl) ?_
      refine dn ?_
      refine hw_ghost (Ghost.fc0 12 rfl) ?_
      refine hw_reg ?_
      refine dp rfl (pop_move rfl) ?_
      refine dp rfl (pop_move rfl) ?_
      refine dg rfl rfl (fun hc => ⟨_, OpenTo.refl _, pop_fieldAddr ty93 rfl ty3 (by decide) rfl⟩) ?_
      refine dg rfl rfl (fun hc => ⟨_, OpenTo.upd (t := 62) rfl (hc) (OpenTo.refl _), pop_load ty3 rfl rfl rfl⟩) ?_
      refine dg rfl rfl (fun hc => ⟨_, OpenTo.upd (t := 63) rfl (hc) (OpenTo.refl _), pop_eql rfl rfl⟩) ?_
      refine dp rfl (pop_picko rfl (.inr ⟨_, rfl, fun h => by simp_all⟩) (.inl rfl)) ?_
      refine dp rfl (pop_move rfl) ?_
      refine dg rfl rfl (fun hc => ⟨_, OpenTo.refl _, pop_fieldAddr ty93 rfl ty9 (by decide) rfl⟩) ?_
      refine dg rfl rfl (fun hc => ⟨_, OpenTo.upd (t := 67) rfl (hc) (OpenTo.refl _), pop_load ty9 rfl rfl rfl⟩) ?_
      refine dg rfl rfl (fun hc => ⟨_, OpenTo.refl _, pop_fieldAddr ty93 rfl ty9 (by decide) rfl⟩) ?_
      refine dg rfl rfl (fun hc => ⟨_, OpenTo.upd (t := 69) rfl (hc) (OpenTo.refl _), pop_load ty9 rfl rfl rfl⟩) ?_
      refine dg rfl rfl (fun hc => ⟨_, OpenTo.upd (t := 70) rfl (hc) (OpenTo.upd (t := 68) rfl (hc) (OpenTo.refl _)), pop_eqls rfl rfl⟩) ?_
      refine dp rfl (pop_picko rfl (.inr ⟨_, rfl, fun h => by simp_all⟩) (.inl rfl)) ?_
      refine dp rfl (pop_move rfl) ?_
      refine dg rfl rfl (fun hc => ⟨_, OpenTo.refl _, pop_fieldAddr ty93 rfl ty9 (by decide) rfl⟩) ?_
      refine dg rfl rfl (fun hc => ⟨_, OpenTo.upd (t := 74) rfl (hc) (OpenTo.refl _), pop_load ty9 rfl rfl rfl⟩) ?_
      refine dg rfl rfl (fun hc => ⟨_, OpenTo.refl _, pop_fieldAddr ty93 rfl ty9 (by decide) rfl⟩) ?_
      refine dg rfl rfl (fun hc => ⟨_, OpenTo.upd (t := 76) rfl (hc) (OpenTo.refl _), pop_load ty9 rfl rfl rfl⟩) ?_
      refine dg rfl rfl (fun hc => ⟨_, OpenTo.upd (t := 77) rfl (hc) (OpenTo.upd (t := 75) rfl (hc) (OpenTo.refl _)), pop_eqls rfl rfl⟩) ?_
      refine dp rfl (pop_picko rfl (.inr ⟨_, rfl, fun h => by simp_all⟩) (.inl rfl)) ?_
      refine dp rfl (pop_move rfl) ?_
      refine dg rfl rfl (fun hc => ⟨_, OpenTo.refl _, pop_fieldAddr ty93 rfl ty9 (by decide) rfl⟩) ?_
      refine dg rfl rfl (fun hc => ⟨_, OpenTo.upd (t := 81) rfl (hc) (OpenTo.refl _), pop_load ty9 rfl rfl rfl⟩) ?_
      refine dg rfl rfl (fun hc => ⟨_, OpenTo.refl _, pop_fieldAddr ty93 rfl ty9 (by decide) rfl⟩) ?_
      refine dg rfl rfl (fun hc => ⟨_, OpenTo.upd (t := 83) rfl (hc) (OpenTo.refl _), pop_load ty9 rfl rfl rfl⟩) ?_
      refine dg rfl rfl (fun hc => ⟨_, OpenTo.upd (t := 84) rfl (hc) (OpenTo.upd (t := 82) rfl (hc) (OpenTo.refl _)), pop_eqls rfl rfl⟩) ?_
      refine dp rfl (pop_picko rfl (.inr ⟨_, rfl, fun h => by simp_all⟩) (.inl rfl)) ?_
      refine dn ?_
      refine hw_cond rfl (fun h9 => ?_) (fun h10 => ?_)
      ·try simp at h9
       refine hw_reg1 ?_
       refine dp rfl (pop_move rfl) ?_
       refine dp rfl (pop_loadw ty119 rfl rfl rfl rfl) ?_
       refine de0 (eop_updatekA (i := 0) (s := (x.Source, x.Undo)) (v := true) ty113 ok119 rfl rfl rfl rfl ?_)
       refine dn ?_
       refine blockQ_n ?_
       refine seqQ_n ?_
       refine hw_reg1 ?_
       refine dp rfl (pop_add64 rfl rfl (by omega) (by omega)) ?_
       refine dp rfl (pop_move rfl) ?_
       refine dn ?_
       exact ⟨k + 1, ⟨by omega, trivial⟩, by dsimp only; omega, ⟨rfl, trivial⟩, (by repeat (first | exact keeps_refl | refine keeps_upd rfl ?_ | refine keeps_loop rfl rfl ?_)), perm_eq (by dsimp only; rw [goneGo_snoc hx, goneStep, if_neg (by simp_all; try omega), if_pos (by simp_all [undoes])]; try rfl)⟩
      ·try simp at h10
       refine hw_skip ?_
       refine blockQ_n ?_
       refine seqQ_n ?_
       refine hw_reg1 ?_
       refine dp rfl (pop_add64 rfl rfl (by omega) (by omega)) ?_
       refine dp rfl (pop_move rfl) ?_
       refine dn ?_
       exact ⟨k + 1, ⟨by omega, trivial⟩, by dsimp only; omega, ⟨rfl, trivial⟩, (by repeat (first | exact keeps_refl | refine keeps_upd rfl ?_ | refine keeps_loop rfl rfl ?_)), perm_eq (by dsimp only; rw [goneGo_snoc hx, goneStep, if_neg (by simp_all; try omega), if_neg (by simp_all [undoes])]; try rfl)⟩
    ·try simp at h6
     have hnk : l.length ≤ k := by omega
     obtain rfl : k = l.length := by omega
     refine hw_exit ?_
     refine seqQ_x ?_
     refine loopQ_x ?_
     refine blockQ_eq ?_
     refine seqQ_n ?_
     rw [List.take_length]
     refine hw_ghost (Ghost.only (i := 0) rfl) ?_
     refine hw_reg ?_
     refine dp rfl (pop_move rfl) ?_
     refine dp rfl (pop_assign rfl) ?_
     refine dn ?_
     refine hw_ret ?_
     exact ret_q rfl ⟨_, rfl, rfl⟩

/-- benchwarmer/play.byName -/
theorem c_play_byName [Tracks] {a b : StatS}  : ConP Tryz.prog 162 [eStat a, eStat b] (.int .i64 (byNm a b)) := by
 refine Con.of_body Tryz.func162 rfl Tryz.ntmps162 rfl rfl ?_
 refine hw_reg ?_
 refine dp rfl (pop_box rfl rfl) ?_
 refine dp rfl (pop_box rfl rfl) ?_
 refine dp rfl (pop_assign rfl) ?_
 refine dn ?_
 refine hw_reg ?_
 refine dp rfl (pop_fieldAddr ty144 rfl ty9 (by decide) rfl) ?_
 refine dp rfl (pop_load ty9 rfl rfl rfl) ?_
 refine dp rfl (pop_fieldAddr ty144 rfl ty9 (by decide) rfl) ?_
 refine dp rfl (pop_load ty9 rfl rfl rfl) ?_
 refine dp rfl (pop_call ca81 rfl (WeakL.refl _) c_strings_Compare) ?_
 refine dp rfl (pop_assign rfl) ?_
 refine dn ?_
 refine hw_ret ?_
 refine ret_p rfl ?_
 rfl

/-- slices.SortFunc -/
theorem c_sort_Stat [Tracks] {c : StatS → StatS → Int} (hO : Go.Sort.SWO (Go.Proofs.ltOf c)) {g : FuncId} (hg : Callable Tryz.prog g) {cap : List HVal} (hc : ∀ x y, @ConP trackOn Tryz.prog g (eStat x :: eStat y :: cap) (.int .i64 (c x y))) {l : List StatS} (hl : l.length ≤ 1000000) {v : Value} :
 Con Tryz.prog 128 [.raw v, .fn (.func g) [] cap] [.arr v 2 (l.map eStat)] fun x M' => ∃ l' : List StatS, x = .tup [] ∧ l'.Perm l ∧ l'.Pairwise (fun a b => ¬ c b a < 0) ∧ M' = [.arr v 2 (l'.map eStat)] :=
 con_sortf (e := eStat) Tryz.g128 (Tryz.isAgg144) (Tryz.sizeOf144) (fun _ => rfl) (fun _ => rfl) (fun _ => rfl) hO hg hc hl

theorem sortsIn [Tracks] (m : Nat) : Go.Proofs.AnyZ.SortsIn Tryz.prog Tryz.g64_ren Fence.wide m :=
 ⟨fun blk off cap ss W hH hblk hsz => callsIn_wide.2 (AnyM.slices_Sort_string Tryz.g114 blk off cap ss W hH hblk hsz), fun p cap W => callsIn_wide.2 (AnyM.slices_Sort_string_none Tryz.g114 p cap W)⟩
theorem c_keys_161 [Tracks] {b : Nat} : Con Tryz.prog 161 [.raw (.map (some b))] [] fun x M' => ∃ bx, x = .fn (.func 207) [] [.raw (.pointer (some ⟨bx, 0, none⟩))] ∧ M' = [.cells bx [.raw (.map (some b))]] :=
 con_keys (ρ := Tryz.g161_ren) Tryz.g161
theorem c_sortedset_161 [Tracks] (hT : Tracks.on = false) {S : List Str} (hn : S.Nodup) (hl : ∀ s ∈ S, s.length ≤ 1000000) (hs : S.length ≤ 1000000) {b bx : Nat} :
 Con Tryz.prog 64 [.fn (.func 207) [] [.raw (.pointer (some ⟨bx, 0, none⟩))]] [.cells bx [.raw (.map (some b))], .map b (sk (mset S))] fun x M' => ∃ v, x = .raw v ∧ M' = [.arr v 1 ((sortS S).map .str), .map b (sk (mset S))] :=
 con_sortedset hT (ρ := Tryz.g64_ren) (ρk := Tryz.g161_ren) Tryz.g64 Tryz.g161 sortsIn (enters_of Tryz.func114 (by kernel_rfl) rfl) (enters_of Tryz.func207 (by kernel_rfl) rfl) hn hl hs

set_option maxHeartbeats 1000000 in
/-- (benchwarmer/play.counted).lines -/
theorem c_play_counted_lines [Tracks] {b0 b1 : Nat} {c : List (Of2 × Int)} {S : List Str} {week : Int} (hT : Tracks.on = false) (hn : ANodup c) (hSn : S.Nodup) (hSk : ∀ s ∈ S, s.length ≤ 40) (hc : c.length ≤ 1000000) (hSl : S.length ≤ 1000000) : Con Tryz.prog 116 [.raw (.map (some b0)), .raw (.map (some b1)), .int .i64 week] [.map b0 (kk eOf (em (HVal.int .i64) c)), .map b1 (sk (mset S))] (fun x M' => x = .tup [eLines (clinesL c S week), .int .i64 (clinesE c S)] ∧ M' = []) := by
 refine Con.of_body Tryz.func116 rfl Tryz.ntmps116 rfl rfl ?_
 refine hw_reg ?_
 refine dp rfl (pop_assign rfl) ?_
 refine dp rfl (pop_assign rfl) ?_
 refine dn ?_
 refine hw_reg ?_
 refine de rfl (eop_makeMap fun m15 => ?_)
 refine dp rfl (pop_assign rfl) ?_
 refine dn ?_
 refine hw_seq ?_
 refine hw_reg ?_
 refine dp rfl (pop_move rfl) ?_
 refine de rfl (eop_range (i := 1) ty117 rfl rfl fun r => ?_)
 refine dn ?_
 refine hw_block ?_
 refine hw_loopw3 [6, 7, 9, 10, 18, 19, 20, 21, 22, 23, 24, 25, 26, 27, 28, 29, 30, 31, 32, 33, 34, 35, 36, 37, 38, 39, 40, 41] (fun (vis : List Nat) (E : List (Of2 × Int)) (G : Grp StatS) => []) (fun (vis : List Nat) (E : List (Of2 × Int)) (G : Grp StatS) => [.map m15 (sk (em fG G)), .iter r b0 (kk eOf (em (HVal.int .i64) c)) vis, .map b1 (sk (mset S))] ++ grp 2 eStat G) (fun (vis : List Nat) (E : List (Of2 × Int)) (G : Grp StatS) => VisOk (c) vis E ∧ (GOk E G ∧ ∀ y ∈ E, out y.2 (-100000) 100000 = false)) (fun (vis : List Nat) (E : List (Of2 × Int)) (G : Grp StatS) => (c).length - vis.length) ([]) ([]) ([]) ?_ ?_ ?_ ?_
 ·exact ⟨VisOk.nil _, GOk.nil, fun y h => by cases h⟩
 ·exact trivial
 ·exact perm_eq rfl
 ·intro vis E G hinv
  obtain ⟨hvis, hG, hO⟩ := hinv
  refine hw_reg ?_
  refine de rfl (eop_nextA (i := 1) (L := c) (enc := (fun p : Of2 × Int => (eOf p.1, HVal.int .i64 p.2))) rfl rfl (kk_em _ _ _) hvis.nd hvis.lt fun cb R vis' hnx => ?_)
  refine dp rfl (pop_extract rfl rfl) ?_
  refine dn ?_
  refine hw_seq ?_
  refine hw_cond rfl (fun h1 => ?_) (fun h2 => ?_)
  ·try simp at h1
   obtain ⟨j, q, hq, hj, rfl⟩ := hnx.t h1
   have hroom := hvis.room hq hj
   have hstep := hvis.step hq hj
   have hqm := List.mem_of_getElem? hq
   refine hw_skip ?_
   refine seqQ_n ?_
   refine hw_block ?_
   refine hw_reg ?_
   refine de rfl (eop_entryA (i := 1) (L := c) (enc := (fun p : Of2 × Int => (eOf p.1, HVal.int .i64 p.2))) rfl rfl (kk_em _ _ _) hq ?_)
   refine dp rfl (pop_extract rfl rfl) ?_
   refine dp rfl (pop_extract rfl rfl) ?_
   refine de rfl (eop_alloc ty121 rfl fun b9 => ?_)
   refine de0 (eop_storew ty121 rfl rfl rfl rfl rfl ?_)
   refine dp rfl (pop_assign rfl) ?_
   refine dn ?_
   refine hw_ghost (Ghost.fc0 9 rfl) ?_
   refine hw_block ?_
   refine hw_reg ?_
   refine dp rfl (pop_move rfl) ?_
   refine dp rfl (pop_call ca92 rfl (WeakL.refl _) c_base_Out) ?_
   refine dp rfl (pop_assign rfl) ?_
   refine dn ?_
   refine hw_cond rfl (fun h3 => ?_) (fun h4 => ?_)
   ·try simp at h3
    refine hw_reg ?_
    refine dp rfl (pop_assign rfl) ?_
    refine dp rfl (pop_assign rfl) ?_
    refine dn ?_
    refine hw_ret ?_
    exact ⟨_, [], Ghost.clear, _, _, rfl, weak_tup2 (weak_nil 3) (Weak.refl _), by have hf := full_count (S := S) hqm (by simpa using h3); rw [clinesL, clinesE, hf]; rfl, rfl⟩
   ·try simp at h4
    refine hw_reg ?_
    refine dp rfl (pop_move rfl) ?_
    refine dp rfl (pop_neq rfl rfl) ?_
    refine dp rfl (pop_assign rfl) ?_
    refine dn ?_
    refine hw_cond rfl (fun h5 => ?_) (fun h6 => ?_)
    ·try simp at h5
     refine hw_ghost (Ghost.of_eq (M' := [.map m15 (sk (em fG G)), .iter r b0 (kk eOf (em (HVal.int .i64) c)) (vis ++ [j]), .map b1 (sk (mset S))] ++ grp 2 eStat G) rfl) ?_
     refine hw_draw1 (fun _ => True) [] mixed ?_
     refine ahp 0 rfl rfl (by kernel_rfl) (by kernel_rfl) (pop_move rfl) ?_
     refine ahp 1 rfl rfl (by kernel_rfl) (by kernel_rfl) ((pop_fieldAddr ty121 rfl ty9 (by decide) rfl)) ?_
     refine ahp 2 rfl rfl (by kernel_rfl) (by kernel_rfl) (pop_load ty9 rfl rfl rfl) ?_
     refine ahp 3 rfl rfl (by kernel_rfl) (by kernel_rfl) (pop_move rfl) ?_
     refine ahp 4 rfl rfl (by kernel_rfl) (by kernel_rfl) ((pop_fieldAddr ty121 rfl ty9 (by decide) rfl)) ?_
     refine ahp 5 rfl rfl (by kernel_rfl) (by kernel_rfl) (pop_load ty9 rfl rfl rfl) ?_
     refine ahp 7 rfl rfl (by kernel_rfl) (by kernel_rfl) ((pop_fieldAddr ty121 rfl ty9 (by decide) rfl)) ?_
     refine ahp 8 rfl rfl (by kernel_rfl) (by kernel_rfl) (pop_load ty9 rfl rfl rfl) ?_
     refine ahp 9 rfl rfl (by kernel_rfl) (by kernel_rfl) (pop_move rfl) ?_
     refine ahp 10 rfl rfl (by kernel_rfl) (by kernel_rfl) (pop_build (cs := [_, _]) ty144 pl144 rfl) ?_
     refine ahp 11 rfl rfl (by kernel_rfl) (by kernel_rfl) (pop_buildSlice (hs := [_]) ty54 ty144 rfl rfl (by decide) (by decide) rfl) ?_
     refine ahe 6 rfl (by kernel_rfl) ?_
     refine hop_e rfl (eop_lookupA (i := 0) (z0 := gZ StatS) ty217 ty9 ty54 rfl rfl rfl rfl ?_)
     refine ⟨fun _ => .inl trivial, ?_⟩
     refine ahe 12 rfl (by kernel_rfl) ?_
     refine hop_e rfl (eop_append_grp (A := [.map m15 (sk (em fG G)), .iter r b0 (kk eOf (em (HVal.int .i64) c)) (vis ++ [j]), .map b1 (sk (mset S))]) (G := G) (s := q.1.1) (ys := [⟨q.1.2, q.2⟩]) (eb := eStat) ty54 ty144 rfl rfl rfl rfl (by simp [flat, hcells]) (by have := rawStats_le E q.1.1; rw [← hG.raw] at this; have := hvis.len; simp only [List.length_cons, List.length_nil]; omega) fun v41 => ?_)
     refine ⟨fun _ => .inl trivial, ?_⟩
     refine ahe 13 rfl (by kernel_rfl) ?_
     refine hop_e0 (eop_updateA (i := 0) (f := fG) (L := G) (v := (v41, gL q.1.1 G ++ [⟨q.1.2, q.2⟩])) ty217 ty9 rfl rfl rfl rfl ?_)
     refine ⟨fun _ => .inl trivial, ?_⟩
     refine ahz (by kernel_rfl) ?_
     refine blockQ_n ?_
     refine blockQ_n ?_
     have hO' : ∀ y ∈ E ++ [q], out y.2 (-100000) 100000 = false := fun y hy => by
      rcases List.mem_append.1 hy with hy | hy
      ·exact hO y hy
      ·rw [List.mem_singleton.1 hy]; simpa using h4
     exact ⟨_, E ++ [q], _, ⟨hstep, hG.put (by simpa using h5) v41, hO'⟩, by dsimp only; rw [List.length_append]; simp only [List.length_cons, List.length_nil]; omega, trivial, (by repeat (first | exact keeps_refl | refine keeps_upd rfl ?_ | refine keeps_loop rfl rfl ?_)), perm_eq rfl⟩
    ·try simp at h6
     refine hw_skip ?_
     refine blockQ_n ?_
     refine blockQ_n ?_
     have hO' : ∀ y ∈ E ++ [q], out y.2 (-100000) 100000 = false := fun y hy => by
      rcases List.mem_append.1 hy with hy | hy
      ·exact hO y hy
      ·rw [List.mem_singleton.1 hy]; simpa using h4
     exact ⟨_, E ++ [q], G, ⟨hstep, hG.skip (by simpa using h6), hO'⟩, by dsimp only; rw [List.length_append]; simp only [List.length_cons, List.length_nil]; omega, trivial, (by repeat (first | exact keeps_refl | refine keeps_upd rfl ?_ | refine keeps_loop rfl rfl ?_)), perm_eq rfl⟩
  ·try simp at h2
   obtain ⟨rfl, hlen⟩ := hnx.f h2
   have hEp := hvis.done hlen
   refine hw_exit ?_
   refine seqQ_x ?_
   refine loopQ3_x ?_
   refine blockQ_eq ?_
   refine seqQ_n ?_
   refine hw_ghost (Ghost.iterOver (i := 1) rfl) ?_
   refine hw_ghost (Ghost.of_eq (M' := [.map m15 (sk (em fG G)), .map b0 (kk eOf (em (HVal.int .i64) c)), .map b1 (sk (mset S))] ++ grp 2 eStat G) rfl) ?_
   refine hw_reg ?_
   refine dp rfl (pop_assign rfl) ?_
   refine dn ?_
   refine hw_seq ?_
   refine hw_reg ?_
   refine dp rfl (pop_move rfl) ?_
   refine de rfl (eop_callf (M1 := []) (R := _) ca161 rfl (WeakL.refl _) (List.Perm.refl _) c_keys_161 ?_)
   rintro _ _ ⟨bx, rfl, rfl⟩
   refine de rfl (EOp.fzi (N := [.map b1 (sk (mset S)), .map b0 (kk eOf (em (HVal.int .i64) c))] ++ ([.map m15 (sk (em fG G))] ++ grp 2 eStat G)) (sz := 1) (es := (sortS S).map .str) 0 (eop_callf (M1 := [.cells bx [.raw (.map (some b1))], .map b1 (sk (mset S))]) (R := [.map b0 (kk eOf (em (HVal.int .i64) c))] ++ ([.map m15 (sk (em fG G))] ++ grp 2 eStat G)) ca64 rfl (WeakL.refl _) (by exact perm3) (c_sortedset_161 hT hSn (fun s hs => Nat.le_trans (hSk s hs) (by decide)) hSl) (by rintro _ _ ⟨v, rfl, rfl⟩; exact ⟨v, rfl, rfl, rfl⟩)) ?_)
   refine dp rfl (pop_lenm ty28 rfl) ?_
   refine dp rfl (pop_move rfl) ?_
   refine dn ?_
   refine hw_ghost (Ghost.suffix (R := [_, _])) ?_
   refine hw_ghost (Ghost.arr_nil 3) ?_
   have hSSl : (sortS S).length ≤ 1000000 := by rw [sortS_len]; exact hSl
   have hSS : (sortS S).Nodup := (sortS_perm S).nodup_iff.2 hSn
   refine hw_block ?_
   refine hw_loopw2 [6, 7, 11, 13, 14, 46, 47, 48, 49, 50, 51, 52, 53, 54, 55, 56, 57, 58, 59, 60, 61, 62, 63, 64, 65] (fun (k : Nat) (u : Value) => [(46, .int .i64 k), (11, .raw u)]) (fun (k : Nat) (u : Value) => [.arr u 3 (((sortS S).take k).map fun s => eLine ⟨s, week, statsOf c s⟩), .map m15 (sk (em fG G))] ++ grp 2 eStat (restG G ((sortS S).take k))) (fun (k : Nat) (u : Value) => k ≤ (sortS S).length ∧ (∀ s ∈ (sortS S).take k, ¬ 40 < (rawStats c s).length)) (fun (k : Nat) (u : Value) => (sortS S).length - k) (0) (.slice none 0 0) ?_ ?_ ?_ ?_
   ·exact ⟨Nat.zero_le _, fun s h => by simp at h⟩
   ·exact ⟨rfl, rfl, trivial⟩
   ·exact perm_eq (by simp [rest_nil])
   ·intro k u hinv
    obtain ⟨hk, hg⟩ := hinv
    refine hw_reg ?_
    refine dp rfl (pop_lss rfl rfl) ?_
    refine dn ?_
    refine hw_seq ?_
    refine hw_cond rfl (fun h7 => ?_) (fun h8 => ?_)
    ·try simp at h7
     obtain ⟨x, hx⟩ : ∃ x, (sortS S)[k]? = some x := ⟨_, List.getElem?_eq_getElem h7⟩
     have hdx := drop_cons hx
     refine hw_skip ?_
     refine seqQ_n ?_
     refine hw_seq ?_
     refine hw_block ?_
     refine hw_reg ?_
     refine dp rfl (pop_idx ty28 ty9 rfl rfl rfl (by assumption)) ?_
     refine dp rfl (pop_load ty9 rfl rfl rfl) ?_
     refine dp rfl (pop_assign rfl) ?_
     refine dn ?_
     refine hw_reg ?_
     refine dp rfl (pop_move rfl) ?_
     refine dp rfl (pop_move rfl) ?_
     refine de rfl (eop_lookupA (i := 1) (z0 := gZ StatS) ty217 ty9 ty54 rfl rfl rfl rfl ?_)
     refine dp rfl (pop_assign rfl) ?_
     refine dn ?_
     have hnx := take_notin hSS hx
     have hxS : x ∈ S := (sortS_perm S).mem_iff.1 (List.mem_of_getElem? hx)
     refine hw_ghost (Ghost.grp_take (A := [.arr u 3 (((sortS S).take k).map fun s => eLine ⟨s, week, statsOf c s⟩), .map m15 (sk (em fG G))]) (G := restG G ((sortS S).take k)) (G' := G) (s := x) (rest_nodup hG.nd) (rest_alk hnx)) ?_
     rw [rest_snoc]
     refine hw_seq ?_
     refine hw_reg ?_
     refine dp rfl (pop_move rfl) ?_
     refine de rfl (eop_lenm (i := 0) (es := gL x G) ty54 rfl rfl ?_)
     refine dp rfl (pop_gtr rfl rfl) ?_
     refine dn ?_
     refine hw_cond rfl (fun h9 => ?_) (fun h10 => ?_)
     ·try simp at h9
      refine hw_reg ?_
      refine dp rfl (pop_assign rfl) ?_
      refine dp rfl (pop_assign rfl) ?_
      refine dn ?_
      refine hw_ret ?_
      exact ⟨_, [], Ghost.clear, _, _, rfl, weak_tup2 (weak_nil 3) (Weak.refl _), by have hf := full_stats (c := c) hxS (by rw [← gL_len hEp hG]; omega); rw [clinesL, clinesE, hf]; rfl, rfl⟩
     ·try simp at h10
      refine hw_skip ?_
      refine seqQ_n ?_
      refine hw_reg ?_
      refine dp rfl (pop_move rfl) ?_
      refine de rfl (eop_callf (M1 := [.arr (gV x G) 2 ((gL x G).map eStat)]) (R := [.arr u 3 (((sortS S).take k).map fun s => eLine ⟨s, week, statsOf c s⟩), .map m15 (sk (em fG G))] ++ grp 2 eStat (restG G ((sortS S).take k ++ [x]))) ca128 rfl (WeakL.refl _) (List.Perm.refl _) (c_sort_Stat (c := byNm) (swo_cmp byNm_cmp) ca162 (fun _ _ => @c_play_byName trackOn _ _) (l := gL x G) (by have := rawStats_le c x; rw [gL_len hEp hG]; omega)) ?_)
      rintro _ _ ⟨l', rfl, hp', hw', rfl⟩
      obtain rfl := stats_sorted hEp hn hG hp' hw'
      refine dn ?_
      refine hw_ghost (Ghost.fa 14 (i := 0) rfl rfl) ?_
      refine hw_reg1 ?_
      refine dp rfl (pop_move rfl) ?_
      refine dp rfl (pop_move rfl) ?_
      refine dp rfl (pop_move rfl) ?_
      refine dp rfl (pop_move rfl) ?_
      refine dp rfl (pop_build (cs := [_, _, _]) ty56 pl56 rfl) ?_
      refine dp rfl (pop_buildSlice (hs := [_]) ty39 ty56 rfl rfl (by decide) (by decide) rfl) ?_
      refine de rfl (eop_append (i := 0) ty39 ty56 rfl rfl rfl rfl rfl (by simp [flat, hcells]) (by have := sortS_len S; simp only [List.length_map, List.length_cons, List.length_nil, List.length_take]; omega) fun v64 => ?_)
      refine dp rfl (pop_assign rfl) ?_
      refine dn ?_
      refine blockQ_n ?_
      refine seqQ_n ?_
      refine hw_reg1 ?_
      refine dp rfl (pop_add64 rfl rfl (by omega) (by omega)) ?_
      refine dp rfl (pop_move rfl) ?_
      refine dn ?_
      refine ⟨k + 1, v64, ⟨by omega, fun s hs => ?_⟩, by dsimp only; omega, ⟨rfl, rfl, trivial⟩, (by repeat (first | exact keeps_refl | refine keeps_upd rfl ?_ | refine keeps_loop rfl rfl ?_)), perm_eq (by dsimp only; rw [take_snoc' hx, List.map_append]; rfl)⟩
      rw [take_snoc' hx] at hs
      rcases List.mem_append.1 hs with hs | hs
      ·exact hg s hs
      ·rw [List.mem_singleton.1 hs, ← gL_len hEp hG]; omega
    ·try simp at h8
     have hnk : (sortS S).length ≤ k := by omega
     obtain rfl : k = (sortS S).length := by omega
     refine hw_exit ?_
     refine seqQ_x ?_
     refine loopQ2_x ?_
     refine blockQ_eq ?_
     refine seqQ_n ?_
     rw [List.take_length] at hg ⊢
     refine hw_ghost (Ghost.only (i := 0) rfl) ?_
     refine hw_reg ?_
     refine dp rfl (pop_move rfl) ?_
     refine dp rfl (pop_assign rfl) ?_
     refine dp rfl (pop_assign rfl) ?_
     refine dn ?_
     refine hw_ret ?_
     (refine ret_fa (M := []) 6 rfl rfl ?_
      have hf := full_none (c := c) (S := S) (fun y hy => hO y (hEp.mem_iff.2 hy)) (fun s hs => hg s ((sortS_perm S).mem_iff.2 hs))
      rw [clinesL, clinesE, hf]; simp [Function.comp_def, ofVal, ofVal1])

end Go.Proofs.YtihpgpbbpklbbaaGreatDoor
end
section
namespace Go.Proofs.YtihpgpbbpklbbaaGreatDoor
open Go.HL
set_option maxRecDepth 100000
set_option linter.unusedVariables false
set_option linter.unusedSimpArgs false
set_option maxHeartbeats 1000000 in
/-- benchwarmer/play.lines -/
theorem c_play_lines [Tracks] {l : List Play} {trust : List Str} {week n : Int} (hT : Tracks.on = false) (hl : l.length ≤ 3000) (ht : trust.length ≤ 1000000) (ok : ∀ x ∈ l, playFault x = 0) : ConP Tryz.prog 67 [ePlays l, eSs trust, .int .i64 week, .int .i64 n] (.tup [eLines (linesL l trust week n), .int .i64 (linesE l trust week n)]) := by
 refine Con.of_body Tryz.func67 rfl Tryz.ntmps67 rfl rfl ?_
 refine hw_reg ?_
 refine dp rfl (pop_assign rfl) ?_
 refine dp rfl (pop_assign rfl) ?_
 refine dn ?_
 refine hw_reg ?_
 refine dp rfl (pop_move rfl) ?_
 refine dp rfl (pop_move rfl) ?_
 refine dp rfl (pop_move rfl) ?_
 refine de rfl (eop_callf (M1 := []) (R := []) ca63 rfl (WeakL.refl _) (List.Perm.refl _) (c_play_told (l := l) (trust := trust) (n := n) (by omega) ht) ?_)
 rintro _ _ ⟨b19, O19, rfl, hn19, hO19, rfl⟩
 refine dp rfl (pop_move rfl) ?_
 refine dp rfl (pop_move rfl) ?_
 refine de rfl (eop_callf (M1 := []) (R := _) ca68 rfl (WeakL.refl _) (List.Perm.refl _) (c_play_undone (l := l) (n := n) (by omega)) ?_)
 rintro _ _ ⟨b22, rfl, rfl⟩
 refine dp rfl (pop_assign rfl) ?_
 refine dp rfl (pop_assign rfl) ?_
 refine dn ?_
 refine hw_reg ?_
 refine de rfl (eop_makeMap fun m23 => ?_)
 refine de rfl (eop_makeMap fun m24 => ?_)
 refine dp rfl (pop_assign rfl) ?_
 refine dp rfl (pop_assign rfl) ?_
 refine dn ?_
 refine hw_seq ?_
 refine hw_reg ?_
 refine dp rfl (pop_move rfl) ?_
 refine dp rfl (pop_lenm ty26 rfl) ?_
 refine dp rfl (pop_move rfl) ?_
 refine dn ?_
 refine hw_block ?_
 refine hw_loopw [15, 27, 28, 29, 30, 31, 32, 33, 34, 35, 36, 37, 38, 39, 40, 41, 42, 43, 44, 45, 46, 47, 48, 49, 50, 51, 52, 53, 54, 55, 56, 57, 58, 59, 60, 61, 62, 63, 64, 65, 66, 67, 68, 69, 70, 71, 72, 73, 74, 75, 76, 77, 78, 79] (fun (k : Nat) => [(27, .int .i64 k)]) (fun (k : Nat) => [.map m24 (kk eOf (em (HVal.int .i64) (lnGo l trust week n (l.take k)).c)), .map m23 (sk (mset (lnGo l trust week n (l.take k)).S)), .map b22 (kk eNum (em HVal.bool (goneL l n))), .map b19 (sk (em HVal.str O19))]) (fun (k : Nat) => k ≤ l.length ∧ (True)) (fun (k : Nat) => l.length - k) (0) ?_ ?_ ?_ ?_
 ·exact ⟨Nat.zero_le _, trivial⟩
 ·exact ⟨rfl, trivial⟩
 ·exact perm_eq rfl
 ·intro k hinv
  obtain ⟨hk, -⟩ := hinv
  refine hw_reg ?_
  refine dp rfl (pop_lss rfl rfl) ?_
  refine dn ?_
  refine hw_seq ?_
  refine hw_cond rfl (fun h1 => ?_) (fun h2 => ?_)
  ·try simp at h1
   obtain ⟨x, hx⟩ : ∃ x, l[k]? = some x := ⟨_, List.getElem?_eq_getElem h1⟩
   have hdx := drop_cons hx
   refine hw_skip ?_
   refine seqQ_n ?_
   refine hw_seq ?_
   refine hw_block ?_
   refine hw_reg ?_
   refine dp rfl (pop_idx ty26 ty93 rfl rfl rfl (by assumption)) ?_
   refine dp rfl (pop_loadw ty93 rfl rfl rfl rfl) ?_
   refine de rfl (eop_alloc ty93 rfl fun b15 => ?_)
   refine de0 (eop_storew ty93 rfl rfl rfl rfl rfl ?_)
   refine dn ?_
   refine hw_ghost (Ghost.fc0 15 rfl) ?_
   refine hw_seq ?_
   refine hw_reg ?_
   refine dp rfl (pop_fieldAddr ty93 rfl ty3 (by decide) rfl) ?_
   refine dp rfl (pop_load ty3 rfl rfl rfl) ?_
   refine dp rfl (pop_move rfl) ?_
   refine dp rfl (pop_gtr rfl rfl) ?_
   refine dp rfl (pop_move rfl) ?_
   refine dg rfl rfl (fun hc => ⟨_, OpenTo.refl _, pop_fieldAddr ty93 rfl ty3 (by decide) rfl⟩) ?_
   refine dg rfl rfl (fun hc => ⟨_, OpenTo.upd (t := 36) rfl (hc) (OpenTo.refl _), pop_load ty3 rfl rfl rfl⟩) ?_
   refine dg rfl rfl (fun hc => ⟨_, OpenTo.refl _, pop_move rfl⟩) ?_
   refine dg rfl rfl (fun hc => ⟨_, OpenTo.upd (t := 38) rfl (hc) (OpenTo.upd (t := 37) rfl (hc) (OpenTo.refl _)), pop_neq rfl rfl⟩) ?_
   refine dp rfl (pop_picko rfl (.inl rfl) (.inr ⟨_, rfl, fun h => by simp_all⟩)) ?_
   refine dp rfl (pop_move rfl) ?_
   refine dg rfl rfl (fun hc => ⟨_, OpenTo.refl _, pop_fieldAddr ty93 rfl ty3 (by decide) rfl⟩) ?_
   refine dg rfl rfl (fun hc => ⟨_, OpenTo.upd (t := 42) rfl (hc) (OpenTo.refl _), pop_load ty3 rfl rfl rfl⟩) ?_
   refine dg rfl rfl (fun hc => ⟨_, OpenTo.upd (t := 43) rfl (hc) (OpenTo.refl _), pop_gtr rfl rfl⟩) ?_
   refine dp rfl (pop_picko rfl (.inl rfl) (.inr ⟨_, rfl, fun h => by simp_all⟩)) ?_
   refine dp rfl (pop_move rfl) ?_
   refine dg rfl rfl (fun hc => ⟨_, OpenTo.refl _, pop_move rfl⟩) ?_
   refine dg rfl rfl (fun hc => ⟨_, OpenTo.refl _, pop_fieldAddr ty93 rfl ty9 (by decide) rfl⟩) ?_
   refine dg rfl rfl (fun hc => ⟨_, OpenTo.upd (t := 48) rfl (hc) (OpenTo.refl _), pop_load ty9 rfl rfl rfl⟩) ?_
   refine dg rfl rfl (fun hc => ⟨_, OpenTo.refl _, pop_fieldAddr ty93 rfl ty3 (by decide) rfl⟩) ?_
   refine dg rfl rfl (fun hc => ⟨_, OpenTo.upd (t := 50) rfl (hc) (OpenTo.refl _), pop_load ty3 rfl rfl rfl⟩) ?_
   refine dg rfl rfl (fun hc => ⟨_, OpenTo.upd (t := 51) rfl (hc) (OpenTo.upd (t := 49) rfl (hc) (OpenTo.refl _)), pop_build (cs := [_, _]) ty119 pl119 rfl⟩) ?_
   refine dgl rfl rfl (fun hc => ⟨_, OpenTo.upd (t := 52) rfl (hc) (OpenTo.upd (t := 47) rfl (hc) (OpenTo.refl _)), eop_lookupkA (i := 2) (s := (x.Source, x.No)) (z0 := false) ty113 ok119 ty4 rfl rfl rfl rfl ⟨rfl, rfl⟩⟩) ?_
   refine dp rfl (pop_picko rfl (.inl rfl) (.inr ⟨_, rfl, fun h => by simp_all⟩)) ?_
   refine dp rfl (pop_move rfl) ?_
   refine dg rfl rfl (fun hc => ⟨_, OpenTo.refl _, pop_move rfl⟩) ?_
   refine dg rfl rfl (fun hc => ⟨_, OpenTo.refl _, pop_fieldAddr ty93 rfl ty9 (by decide) rfl⟩) ?_
   refine dg rfl rfl (fun hc => ⟨_, OpenTo.upd (t := 57) rfl (hc) (OpenTo.refl _), pop_load ty9 rfl rfl rfl⟩) ?_
   refine dgl rfl rfl (fun hc => ⟨_, OpenTo.upd (t := 58) rfl (hc) (OpenTo.upd (t := 56) rfl (hc) (OpenTo.refl _)), eop_lookupA (i := 3) (z0 := ([] : Str)) ty107 ty9 ty9 rfl rfl rfl rfl ⟨rfl, rfl⟩⟩) ?_
   refine dg rfl rfl (fun hc => ⟨_, OpenTo.refl _, pop_fieldAddr ty93 rfl ty9 (by decide) rfl⟩) ?_
   refine dg rfl rfl (fun hc => ⟨_, OpenTo.upd (t := 60) rfl (hc) (OpenTo.refl _), pop_load ty9 rfl rfl rfl⟩) ?_
   refine dg rfl rfl (fun hc => ⟨_, OpenTo.upd (t := 61) rfl (hc) (OpenTo.upd (t := 59) rfl (hc) (OpenTo.refl _)), pop_neqs rfl rfl⟩) ?_
   refine dp rfl (pop_picko rfl (.inl rfl) (.inr ⟨_, rfl, fun h => by simp_all⟩)) ?_
   refine dn ?_
   refine hw_cond rfl (fun h3 => ?_) (fun h4 => ?_)
   ·try simp at h3
    refine hw_exit ?_
    refine seqQ_x ?_
    refine blockQ_eq ?_
    refine seqQ_n ?_
    refine hw_reg1 ?_
    refine dp rfl (pop_add64 rfl rfl (by omega) (by omega)) ?_
    refine dp rfl (pop_move rfl) ?_
    refine dn ?_
    exact ⟨k + 1, ⟨by omega, trivial⟩, by dsimp only; omega, ⟨rfl, trivial⟩, (by repeat (first | exact keeps_refl | refine keeps_upd rfl ?_ | refine keeps_loop rfl rfl ?_)), perm_eq (by dsimp only; rw [lnGo_snoc hx, lnStep, if_neg (by rw [inLine_f hO19 h3]; simp)])⟩
   ·try simp at h4
    refine hw_skip ?_
    refine seqQ_n ?_
    refine hw_reg ?_
    refine dp rfl (pop_move rfl) ?_
    refine dp rfl (pop_fieldAddr ty93 rfl ty9 (by decide) rfl) ?_
    refine dp rfl (pop_load ty9 rfl rfl rfl) ?_
    refine de0 (eop_update_set (i := 1) ty101 ty9 rfl rfl rfl rfl ?_)
    refine dn ?_
    have hpx := ok x (List.mem_of_getElem? hx)
    obtain ⟨_, _, _, _, _, hcb, _⟩ := playFault_ok hpx
    have hlk := ln_ok (l := l) (m := l.take k) (trust := trust) (week := week) (n := n) (fun y hy => ok y (List.mem_of_mem_take hy))
    have hvb := hlk.val (x.Player, x.Stat)
    have hlt : ((l.take k).length : Int) ≤ 3000 := by rw [List.length_take]; omega
    refine hw_draw1 (fun M => M = [MObj.map m24 (kk eOf (em (HVal.int .i64) (lnGo l trust week n (l.take k)).c)), MObj.map m23 (sk (mset (sadd x.Player (lnGo l trust week n (l.take k)).S))), MObj.map b22 (kk eNum (em HVal.bool (goneL l n))), MObj.map b19 (sk (em HVal.str O19))] ∨ ∃ j st, kidx (x.Player, x.Stat) (kent (x.Player, x.Stat) (HVal.int .i64 0) (em (HVal.int .i64) (lnGo l trust week n (l.take k)).c)) = some j ∧ M = [MObj.mape m24 (kk eOf (kent (x.Player, x.Stat) (HVal.int .i64 0) (em (HVal.int .i64) (lnGo l trust week n (l.take k)).c))) j st, MObj.map m23 (sk (mset (sadd x.Player (lnGo l trust week n (l.take k)).S))), MObj.map b22 (kk eNum (em HVal.bool (goneL l n))), MObj.map b19 (sk (em HVal.str O19))]) [6] mixed ?_
    refine ahp 0 rfl rfl (by kernel_rfl) (by kernel_rfl) (pop_move rfl) ?_
    refine ahp 1 rfl rfl (by kernel_rfl) (by kernel_rfl) (pop_fieldAddr ty93 rfl ty9 (by decide) rfl) ?_
    refine ahp 2 rfl rfl (by kernel_rfl) (by kernel_rfl) (pop_load ty9 rfl rfl rfl) ?_
    refine ahp 3 rfl rfl (by kernel_rfl) (by kernel_rfl) (pop_fieldAddr ty93 rfl ty9 (by decide) rfl) ?_
    refine ahp 4 rfl rfl (by kernel_rfl) (by kernel_rfl) (pop_load ty9 rfl rfl rfl) ?_
    refine ahp 5 rfl rfl (by kernel_rfl) (by kernel_rfl) (pop_build (cs := [_, _]) ty121 pl121 rfl) ?_
    refine ahl 6 rfl rfl (by kernel_rfl) (by kernel_rfl) (by simp) (.inl rfl) (fun M hM => by
   rcases hM with rfl | ⟨j, st, hj, rfl⟩
   ·exact eop_lookupkA (i := 0) (s := (x.Player, x.Stat)) (z0 := (0 : Int)) ty117 ok121 ty3 rfl rfl rfl rfl ⟨rfl, rfl⟩
   ·exact eop_lookupke (i := 0) (s := (x.Player, x.Stat)) (z0 := (0 : Int)) (f := HVal.int .i64) ty117 ok121 ty3 rfl rfl rfl rfl ⟨rfl, rfl⟩) ?_
    refine ahp 7 rfl rfl (by kernel_rfl) (by kernel_rfl) (pop_fieldAddr ty93 rfl ty3 (by decide) rfl) ?_
    refine ahp 8 rfl rfl (by kernel_rfl) (by kernel_rfl) (pop_load ty3 rfl rfl rfl) ?_
    refine ahp 9 rfl rfl (by kernel_rfl) (by kernel_rfl) (pop_add64 rfl rfl (by omega) (by omega)) ?_
    refine ahe 10 rfl (by kernel_rfl) ?_
    refine hop_e rfl (eop_mapEntryA (i := 0) (s := (x.Player, x.Stat)) (z0 := (0 : Int)) (f := HVal.int .i64) ty117 ok121 ty3 rfl rfl rfl rfl fun j77 st77 hj77 => ?_)
    refine ⟨fun _ => .inl (.inr ⟨j77, st77, hj77, rfl⟩), ?_⟩
    refine ahp 11 rfl rfl (by kernel_rfl) (by kernel_rfl) (pop_extract rfl rfl) ?_
    refine ahe 12 rfl (by kernel_rfl) ?_
    refine hop_e0 (eop_entryStoreA (i := 0) (s := (x.Player, x.Stat)) (f := HVal.int .i64) (z0 := (0 : Int)) (v := (alk (x.Player, x.Stat) (lnGo l trust week n (l.take k)).c).getD 0 + x.Count) rfl rfl rfl rfl hj77 ?_)
    refine ⟨fun _ => .inr (by simp [Before, Region.binds]), ?_⟩
    refine ahz (by kernel_rfl) ?_
    refine blockQ_n ?_
    refine seqQ_n ?_
    refine hw_reg1 ?_
    refine dp rfl (pop_add64 rfl rfl (by omega) (by omega)) ?_
    refine dp rfl (pop_move rfl) ?_
    refine dn ?_
    exact ⟨k + 1, ⟨by omega, trivial⟩, by dsimp only; omega, ⟨rfl, trivial⟩, (by repeat (first | exact keeps_refl | refine keeps_upd rfl ?_ | refine keeps_loop rfl rfl ?_)), perm_eq (by dsimp only; rw [lnGo_snoc hx, lnStep, if_pos (inLine_t hO19 h4)]; rfl)⟩
  ·try simp at h2
   have hnk : l.length ≤ k := by omega
   obtain rfl : k = l.length := by omega
   refine hw_exit ?_
   refine seqQ_x ?_
   refine loopQ_x ?_
   refine blockQ_eq ?_
   refine seqQ_n ?_
   rw [List.take_length]
   have hok := ln_ok (l := l) (m := l) (trust := trust) (week := week) (n := n) ok
   refine hw_reg ?_
   refine dp rfl (pop_move rfl) ?_
   refine dp rfl (pop_move rfl) ?_
   refine dp rfl (pop_move rfl) ?_
   refine de rfl (eop_callf (M1 := [_, _]) (R := [_, _]) ca116 rfl (WeakL.refl _) (List.Perm.refl _) (c_play_counted_lines hT hok.c hok.S hok.k (Nat.le_trans hok.cl (by omega)) (Nat.le_trans hok.Sl (by omega))) ?_)
   rintro _ _ ⟨rfl, rfl⟩
   refine dp rfl (pop_extract rfl rfl) ?_
   refine dp rfl (pop_extract rfl rfl) ?_
   refine dp rfl (pop_assign rfl) ?_
   refine dp rfl (pop_assign rfl) ?_
   refine dn ?_
   refine hw_ret ?_
   exact ret_g Ghost.clear rfl ⟨rfl, rfl⟩

/-- benchwarmer/play.Lines -/
theorem c_play_Lines [Tracks] {l : List Play} {trust : List Str} {week n : Int} (hT : Tracks.on = false) (hl : l.length ≤ 1000000) (ht : trust.length ≤ 1000000) : ConP Tryz.prog 16 [ePlays l, eSs trust, .int .i64 week, .int .i64 n] (.tup [eLines (LinesL l trust week n), .int .i64 (LinesE l trust week n)]) := by
 refine Con.of_body Tryz.func16 rfl Tryz.ntmps16 rfl rfl ?_
 refine hw_reg ?_
 refine dp rfl (pop_assign rfl) ?_
 refine dp rfl (pop_assign rfl) ?_
 refine dn ?_
 refine hw_seq ?_
 refine hw_reg ?_
 refine dp rfl (pop_move rfl) ?_
 refine dp rfl (pop_call ca61 rfl (WeakL.refl _) (c_play_CheckPlays (by assumption))) ?_
 refine dp rfl (pop_move rfl) ?_
 refine dp rfl (pop_call ca14 rfl (WeakL.refl _) (c_play_CheckTrust (by assumption))) ?_
 refine dp rfl (pop_buildSlice (hs := [_, _]) ty124 ty33 rfl rfl (by decide) (by decide) rfl) ?_
 refine dp rfl (pop_call ca60 rfl (WeakL.refl _) (c_base_First (l := [_, _]) (by simp))) ?_
 refine dp rfl (pop_assign rfl) ?_
 refine dn ?_
 refine hw_reg ?_
 refine dp rfl (pop_move rfl) ?_
 refine dp rfl (pop_neq rfl rfl) ?_
 refine dn ?_
 refine hw_cond rfl (fun h1 => ?_) (fun h2 => ?_)
 ·try simp at h1
  refine hw_reg ?_
  refine dp rfl (pop_move rfl) ?_
  refine dp rfl (pop_assign rfl) ?_
  refine dp rfl (pop_assign rfl) ?_
  refine dn ?_
  refine hw_ret ?_
  exact ret_w rfl (weak_tup2 (by rw [LinesL, if_pos (by simpa using h1)]; exact weak_nil 3) (by rw [LinesE, if_pos (by simpa using h1)]; exact Weak.refl _))
 ·try simp at h2
  refine hw_skip ?_
  refine seqQ_n ?_
  refine hw_seq ?_
  refine hw_reg ?_
  refine dp rfl (pop_move rfl) ?_
  refine dp rfl (pop_call ca66 rfl (WeakL.refl _) c_base_Week) ?_
  refine dp rfl (pop_not rfl) ?_
  refine dp rfl (pop_move rfl) ?_
  refine dg rfl rfl (fun hc => ⟨_, OpenTo.refl _, pop_move rfl⟩) ?_
  refine dg rfl rfl (fun hc => ⟨_, OpenTo.upd (t := 24) rfl (hc) (OpenTo.refl _), pop_call ca62 rfl (WeakL.refl _) c_base_Moment⟩) ?_
  refine dg rfl rfl (fun hc => ⟨_, OpenTo.upd (t := 25) rfl (hc) (OpenTo.refl _), pop_not rfl⟩) ?_
  refine dp rfl (pop_picko rfl (.inl rfl) (.inr ⟨_, rfl, fun h => by simp_all⟩)) ?_
  refine dn ?_
  refine hw_cond rfl (fun h3 => ?_) (fun h4 => ?_)
  ·try simp at h3
   refine hw_reg ?_
   refine dp rfl (pop_assign rfl) ?_
   refine dp rfl (pop_assign rfl) ?_
   refine dn ?_
   refine hw_ret ?_
   exact ret_w rfl (weak_tup2 (by rw [LinesL, if_neg (by simpa using h2), if_pos (by simp_all)]; exact weak_nil 3) (by rw [LinesE, if_neg (by simpa using h2), if_pos (by simp_all)]; exact Weak.refl _))
  ·try simp at h4
   refine hw_skip ?_
   refine seqQ_n ?_
   refine hw_reg ?_
   refine dp rfl (pop_move rfl) ?_
   refine dp rfl (pop_move rfl) ?_
   refine dp rfl (pop_move rfl) ?_
   refine dp rfl (pop_move rfl) ?_
   refine dp rfl (pop_call ca67 rfl (WeakL.refl _) (c_play_lines hT (playsE_ok (okPT h2).1).1 ht (plays_fault (okPT h2).1))) ?_
   refine dp rfl (pop_extract rfl rfl) ?_
   refine dp rfl (pop_extract rfl rfl) ?_
   refine dp rfl (pop_assign rfl) ?_
   refine dp rfl (pop_assign rfl) ?_
   refine dn ?_
   refine hw_ret ?_
   (refine ret_p rfl ?_
    rw [LinesL, LinesE, if_neg (by simpa using h2), if_neg (by simp_all), if_neg (by simpa using h2), if_neg (by simp_all)])

end Go.Proofs.YtihpgpbbpklbbaaGreatDoor
end
section
namespace Go.Proofs.YtihpgpbbpklbbaaGreatDoor
open Go.HL
set_option maxRecDepth 100000
set_option linter.unusedVariables false
set_option linter.unusedSimpArgs false
end Go.Proofs.YtihpgpbbpklbbaaGreatDoor
end
section
namespace Go.Proofs.YtihpgpbbpklbbaaGreatDoor
open Go.HL
set_option maxRecDepth 100000
set_option linter.unusedVariables false
set_option linter.unusedSimpArgs false
/-- slices.Clone[[]string,string] -/
theorem c_slices_Clone_string_string [Tracks] {l : List Str} (hl : l.length ≤ 1000000) : ConA Tryz.prog 120 [eSs l] 1 (l.map .str) := by
 refine Con.of_body Tryz.func120 rfl Tryz.ntmps120 rfl rfl ?_
 refine hw_reg ?_
 refine dp rfl (pop_assign rfl) ?_
 refine dn ?_
 refine hw_seq ?_
 refine hw_reg ?_
 refine dp rfl (pop_move rfl) ?_
 refine de rfl (eop_eqnil ty28 rfl rfl fun b4 hb4 => ?_)
 refine dn ?_
 refine hw_cond rfl (fun h1 => ?_) (fun h2 => ?_)
 ·try simp at h1
  refine hw_reg ?_
  refine dp rfl (pop_assign rfl) ?_
  refine dn ?_
  refine hw_ret ?_
  exact ret_g (Ghost.arr_nil 1) rfl ⟨_, rfl, by simp_all⟩
 ·try simp at h2
  refine hw_skip ?_
  refine seqQ_n ?_
  refine hw_reg ?_
  refine de rfl (eop_mk0 ty28 ty9 fun v5 => ?_)
  refine dp rfl (pop_move rfl) ?_
  refine de rfl (eop_append (i := 0) ty28 ty9 rfl rfl rfl rfl rfl (by simp [flat, hcells]) (by simp; omega) fun v7 => ?_)
  refine dp rfl (pop_assign rfl) ?_
  refine dn ?_
  refine hw_ret ?_
  exact ret_a rfl rfl

end Go.Proofs.YtihpgpbbpklbbaaGreatDoor
end
section
namespace Go.Proofs.YtihpgpbbpklbbaaGreatDoor
open Go.HL
set_option maxRecDepth 100000
set_option linter.unusedVariables false
set_option linter.unusedSimpArgs false
end Go.Proofs.YtihpgpbbpklbbaaGreatDoor
end
section
namespace Go.Proofs.YtihpgpbbpklbbaaGreatDoor
open Go.HL
set_option maxRecDepth 100000
set_option linter.unusedVariables false
set_option linter.unusedSimpArgs false
/-- strings.makeASCIISet -/
theorem c_strings_makeASCIISet [Tracks] {l : Str} (hl : l.length ≤ 1000000) (ha : ∀ c ∈ l, c.toNat < 128) : ConP Tryz.prog 147 [.str l] (.tup [.agg (asciiSet l), .bool true]) := by
 refine Con.of_bodyc Tryz.func147 rfl Tryz.ntmps147 rfl rfl ?_
 refine hw_reg ?_
 refine de rfl (eop_alloc ty208 rfl fun b2 => ?_)
 refine dp rfl (pop_assign rfl) ?_
 refine dn ?_
 refine hw_seq ?_
 refine hw_reg ?_
 refine dp rfl (pop_assign rfl) ?_
 refine dn ?_
 refine hw_block ?_
 refine hw_loopw [3, 4, 5, 6, 7, 8, 9, 10, 11, 12, 13, 14, 15, 16, 17, 18, 19] (fun (k : Nat) => [(4, .int .i64 k)]) (fun (k : Nat) => [.cells b2 (asciiSet (l.take k))]) (fun (k : Nat) => k ≤ l.length ∧ (True)) (fun (k : Nat) => l.length - k) (0) ?_ ?_ ?_ ?_
 ·exact ⟨Nat.zero_le _, by simp_all⟩
 ·exact ⟨rfl, trivial⟩
 ·exact perm_eq rfl
 ·intro k hinv
  obtain ⟨hk, -⟩ := hinv
  refine hw_seq ?_
  refine hw_reg ?_
  refine dp rfl (pop_move rfl) ?_
  refine dp rfl (pop_move rfl) ?_
  refine dp rfl (pop_lens ty9 rfl) ?_
  refine dp rfl (pop_lss rfl rfl) ?_
  refine dn ?_
  refine hw_cond rfl (fun h1 => ?_) (fun h2 => ?_)
  ·try simp at h1
   obtain ⟨x, hx⟩ : ∃ x, l[k]? = some x := ⟨_, List.getElem?_eq_getElem h1⟩
   have hdx := drop_cons hx
   have hc := ha x (List.mem_of_getElem? hx)
   refine hw_skip ?_
   refine seqQ_n ?_
   refine hw_seq ?_
   refine hw_block ?_
   refine hw_reg ?_
   refine dp rfl (pop_move rfl) ?_
   refine dp rfl (pop_move rfl) ?_
   refine dp rfl (pop_indexs ty9 rfl rfl rfl (by assumption)) ?_
   refine dp rfl (pop_assign rfl) ?_
   refine dn ?_
   refine hw_seq ?_
   refine hw_reg ?_
   refine dp rfl (pop_move rfl) ?_
   refine dp rfl (pop_geq rfl rfl) ?_
   refine dn ?_
   refine hw_cond rfl (fun h3 => ?_) (fun h3 => ?_)
   ·exfalso
    try simp at h3
    omega
   ·try simp at h3
    refine hw_skip ?_
    refine seqQ_n ?_
    refine hw_reg1 ?_
    refine dp rfl (pop_move rfl) ?_
    refine dp rfl (pop_idxa_raw ty208 ty4 rfl rfl rfl (by omega)) ?_
    refine de0 (eop_store (i := 0) ty4 rfl rfl rfl rfl rfl (by rw [asciiSet_len]; omega) ?_)
    refine dn ?_
    refine blockQ_n ?_
    refine seqQ_n ?_
    refine hw_reg1 ?_
    refine dp rfl (pop_move rfl) ?_
    refine dp rfl (pop_add64 rfl rfl (by omega) (by omega)) ?_
    refine dp rfl (pop_assign rfl) ?_
    refine dn ?_
    refine ⟨k + 1, ?_, ?_, ⟨rfl, trivial⟩, (by repeat (first | exact keeps_refl | refine keeps_upd rfl ?_ | refine keeps_loop rfl rfl ?_)), perm_eq (by show [MObj.cells b2 (setL _ (0 + x.toNat * 1) [.bool true])] = _; rw [asciiSet_add]; dsimp only; rw [List.take_add_one, hx]; rfl)⟩
    ·exact ⟨by omega, trivial⟩
    ·dsimp only; omega
  ·try simp at h2
   have hnk : l.length ≤ k := by omega
   obtain rfl : k = l.length := by omega
   refine hw_exit ?_
   refine seqQ_x ?_
   refine loopQ_x ?_
   refine blockQ_eq ?_
   refine seqQ_n ?_
   refine hw_ghost (Ghost.of_eq (M' := [.cells b2 (asciiSet l)]) (by rw [List.take_length])) ?_
   refine hw_reg ?_
   refine de rfl (eop_loadw (i := 0) (h := .agg (asciiSet l)) ty208 rfl rfl rfl rfl (asciiSet_len l) ?_)
   refine de0 (eop_storew (h := .agg (asciiSet l)) ty208 rfl rfl (by simp [okElem, asciiSet_len]) (asciiSet_flat l) (asciiSet_len l) ?_)
   refine dp rfl (pop_assign rfl) ?_
   refine dn ?_
   refine hw_ret ?_
   refine ⟨_, _, Ghost.fc0 2 rfl, [_, _], _, ⟨⟨_, _, _, _, _, rfl, ty208, .inr ⟨rfl, rfl, rfl⟩⟩, ⟨rfl, trivial⟩⟩, Weak.refl _, ?_, rfl⟩
   rfl

/-- (*strings.asciiSet).contains -/
theorem c_strings_asciiSet_contains [Tracks] {l : Str} {c : UInt8}  : ConP Tryz.prog 189 [.vptr (asciiSet l) 0, .int .u8 c.toNat] (.bool (l.contains c)) := by
 have hc := c.toNat_lt
 refine Con.of_body Tryz.func189 rfl Tryz.ntmps189 rfl rfl ?_
 refine hw_reg ?_
 refine dp rfl (pop_assign rfl) ?_
 refine dn ?_
 refine hw_reg ?_
 refine dp rfl (pop_move rfl) ?_
 refine dp rfl (pop_move rfl) ?_
 refine dp rfl ((pop_nilCheck rfl)) ?_
 refine dp rfl (pop_idxa ty208 ty4 rfl rfl rfl (by omega)) ?_
 refine dp rfl (pop_load ty4 rfl rfl (by rw [show 0 + c.toNat * 1 = c.toNat from by omega]; exact asciiSet_get l c)) ?_
 refine dp rfl (pop_assign rfl) ?_
 refine dn ?_
 refine hw_ret ?_
 refine ret_p rfl ?_
 rfl

/-- strings.trimLeftASCII -/
theorem c_strings_trimLeftASCII [Tracks] {s l : Str} (hl : s.length ≤ 1000000) : ConP Tryz.prog 148 [.str s, .vptr (asciiSet l) 0] (.str (s.dropWhile (l.contains ·))) := by
 refine Con.of_body Tryz.func148 rfl Tryz.ntmps148 rfl rfl ?_
 refine hw_reg ?_
 refine dp rfl (pop_assign rfl) ?_
 refine dn ?_
 refine hw_seq ?_
 refine hw_block ?_
 refine hw_loopw [0, 5, 6, 7, 8, 9, 10, 11, 12, 13, 14] (fun (t : Str) => [(0, .str t)]) (fun (t : Str) => []) (fun (t : Str) => t.length ≤ s.length ∧ s.dropWhile (l.contains ·) = t.dropWhile (l.contains ·)) (fun (t : Str) => t.length) (s) ?_ ?_ ?_ ?_
 ·exact ⟨Nat.le_refl _, rfl⟩
 ·exact ⟨rfl, trivial⟩
 ·exact List.Perm.refl _
 ·intro t hinv
  obtain ⟨ht, hg⟩ := hinv
  refine hw_seq ?_
  refine hw_reg ?_
  refine dp rfl (pop_move rfl) ?_
  refine dp rfl (pop_lens ty9 rfl) ?_
  refine dp rfl (pop_gtr rfl rfl) ?_
  refine dn ?_
  refine hw_cond rfl (fun h1 => ?_) (fun h2 => ?_)
  ·try simp at h1
   obtain ⟨x, u, rfl⟩ : ∃ x u, t = x :: u := by cases t with | nil => simp at h1 | cons x u => exact ⟨x, u, rfl⟩
   have hlen : (x :: u).length = u.length + 1 := rfl
   refine hw_skip ?_
   refine seqQ_n ?_
   refine hw_block ?_
   refine hw_seq ?_
   refine hw_reg ?_
   refine dp rfl (pop_move rfl) ?_
   refine dp rfl (pop_move rfl) ?_
   refine dp rfl (pop_indexs (j := 0) (b := x) ty9 rfl rfl rfl rfl) ?_
   refine dp rfl (pop_call ca189 rfl (WeakL.refl _) c_strings_asciiSet_contains) ?_
   refine dp rfl (pop_not rfl) ?_
   refine dn ?_
   refine hw_cond rfl (fun h3 => ?_) (fun h4 => ?_)
   ·try simp at h3
    refine hw_exit ?_
    refine seqQ_x ?_
    refine blockQ_ne rfl ?_
    refine loopQ_x ?_
    refine blockQ_eq ?_
    refine seqQ_n ?_
    refine hw_reg ?_
    refine dp rfl (pop_move rfl) ?_
    refine dp rfl (pop_assign rfl) ?_
    refine dn ?_
    refine hw_ret ?_
    refine ret_p rfl ?_
    show HVal.str _ = _
    rw [hg]; simp_all [List.dropWhile_cons]
   ·try simp at h4
    refine hw_skip ?_
    refine seqQ_n ?_
    refine hw_reg1 ?_
    refine dp rfl (pop_move rfl) ?_
    refine dp rfl (pop_slices (l := 1) ty9 rfl ⟨_, _, rfl, rfl⟩ rfl (by omega) (by omega)) ?_
    refine dp rfl (pop_assign rfl) ?_
    refine dn ?_
    refine blockQ_n ?_
    refine ⟨_, ?_, ?_, ⟨rfl, trivial⟩, (by repeat (first | exact keeps_refl | refine keeps_upd rfl ?_ | refine keeps_loop rfl rfl ?_)), List.Perm.refl _⟩
    ·refine ⟨by simp at ht ⊢; omega, ?_⟩
     rw [hg]; simp_all [List.dropWhile_cons]
    ·dsimp only; simp
  ·try simp at h2
   obtain rfl : t = [] := by simpa using h2
   refine hw_exit ?_
   refine seqQ_x ?_
   refine loopQ_x ?_
   refine blockQ_eq ?_
   refine seqQ_n ?_
   refine hw_reg ?_
   refine dp rfl (pop_move rfl) ?_
   refine dp rfl (pop_assign rfl) ?_
   refine dn ?_
   refine hw_ret ?_
   refine ret_p rfl ?_
   show HVal.str _ = _
   rw [hg]; simp_all [List.dropWhile_cons]

/-- strings.trimRightASCII -/
theorem c_strings_trimRightASCII [Tracks] {s l : Str} (hl : s.length ≤ 1000000) : ConP Tryz.prog 149 [.str s, .vptr (asciiSet l) 0] (.str (rtrim (l.contains ·) s)) := by
 refine Con.of_body Tryz.func149 rfl Tryz.ntmps149 rfl rfl ?_
 refine hw_reg ?_
 refine dp rfl (pop_assign rfl) ?_
 refine dn ?_
 refine hw_seq ?_
 refine hw_block ?_
 refine hw_loopw [0, 5, 6, 7, 8, 9, 10, 11, 12, 13, 14, 15, 16, 17, 18, 19, 20] (fun (t : Str) => [(0, .str t)]) (fun (t : Str) => []) (fun (t : Str) => t.length ≤ s.length ∧ rtrim (l.contains ·) s = rtrim (l.contains ·) t) (fun (t : Str) => t.length) (s) ?_ ?_ ?_ ?_
 ·exact ⟨Nat.le_refl _, rfl⟩
 ·exact ⟨rfl, trivial⟩
 ·exact List.Perm.refl _
 ·intro t hinv
  obtain ⟨ht, hg⟩ := hinv
  refine hw_seq ?_
  refine hw_reg ?_
  refine dp rfl (pop_move rfl) ?_
  refine dp rfl (pop_lens ty9 rfl) ?_
  refine dp rfl (pop_gtr rfl rfl) ?_
  refine dn ?_
  refine hw_cond rfl (fun h1 => ?_) (fun h2 => ?_)
  ·try simp at h1
   obtain ⟨u, x, rfl⟩ : ∃ u x, t = u ++ [x] := ⟨_, _, (List.dropLast_concat_getLast (by intro h0; subst h0; simp at h1)).symm⟩
   have hlen : (u ++ [x]).length = u.length + 1 := by simp
   refine hw_skip ?_
   refine seqQ_n ?_
   refine hw_block ?_
   refine hw_seq ?_
   refine hw_reg ?_
   refine dp rfl (pop_move rfl) ?_
   refine dp rfl (pop_move rfl) ?_
   refine dp rfl (pop_move rfl) ?_
   refine dp rfl (pop_lens ty9 rfl) ?_
   refine dp rfl (pop_sub64 rfl rfl (by omega) (by omega)) ?_
   refine dp rfl (pop_indexs (j := u.length) (b := x) ty9 rfl rfl (by omega) (by simp)) ?_
   refine dp rfl (pop_call ca189 rfl (WeakL.refl _) c_strings_asciiSet_contains) ?_
   refine dp rfl (pop_not rfl) ?_
   refine dn ?_
   refine hw_cond rfl (fun h3 => ?_) (fun h4 => ?_)
   ·try simp at h3
    refine hw_exit ?_
    refine seqQ_x ?_
    refine blockQ_ne rfl ?_
    refine loopQ_x ?_
    refine blockQ_eq ?_
    refine seqQ_n ?_
    refine hw_reg ?_
    refine dp rfl (pop_move rfl) ?_
    refine dp rfl (pop_assign rfl) ?_
    refine dn ?_
    refine hw_ret ?_
    refine ret_p rfl ?_
    show HVal.str _ = _
    rw [hg]; first | rfl | (rw [rtrim_snoc, if_neg (by simp_all)])
   ·try simp at h4
    refine hw_skip ?_
    refine seqQ_n ?_
    refine hw_reg1 ?_
    refine dp rfl (pop_move rfl) ?_
    refine dp rfl (pop_move rfl) ?_
    refine dp rfl (pop_lens ty9 rfl) ?_
    refine dp rfl (pop_sub64 rfl rfl (by omega) (by omega)) ?_
    refine dp rfl (pop_slices (l := 0) (h := u.length) ty9 rfl rfl ⟨_, _, rfl, by omega⟩ (by omega) (by omega)) ?_
    refine dp rfl (pop_assign rfl) ?_
    refine dn ?_
    refine blockQ_n ?_
    refine ⟨_, ?_, ?_, ⟨rfl, trivial⟩, (by repeat (first | exact keeps_refl | refine keeps_upd rfl ?_ | refine keeps_loop rfl rfl ?_)), List.Perm.refl _⟩
    ·refine ⟨by simp at ht ⊢; omega, ?_⟩
     rw [hg, rtrim_snoc, if_pos (by simp_all)]; simp
    ·dsimp only; simp
  ·try simp at h2
   obtain rfl : t = [] := by simpa using h2
   refine hw_exit ?_
   refine seqQ_x ?_
   refine loopQ_x ?_
   refine blockQ_eq ?_
   refine seqQ_n ?_
   refine hw_reg ?_
   refine dp rfl (pop_move rfl) ?_
   refine dp rfl (pop_assign rfl) ?_
   refine dn ?_
   refine hw_ret ?_
   refine ret_p rfl ?_
   show HVal.str _ = _
   rw [hg]; first | rfl | (rw [rtrim_snoc, if_neg (by simp_all)])

/-- strings.Trim -/
theorem c_strings_Trim [Tracks] {s l : Str} (hs : s.length ≤ 1000000) (hl : l.length ≤ 1000000) (h2l : 2 ≤ l.length) (ha : ∀ c ∈ l, c.toNat < 128) : ConP Tryz.prog 95 [.str s, .str l] (.str ((rtrim (l.contains ·) s).dropWhile (l.contains ·))) := by
 refine Con.of_body Tryz.func95 rfl Tryz.ntmps95 rfl rfl ?_
 refine hw_reg ?_
 refine dp rfl (pop_assign rfl) ?_
 refine dn ?_
 refine hw_seq ?_
 refine hw_reg ?_
 refine dp rfl (pop_move rfl) ?_
 refine dp rfl (pop_eqls rfl rfl) ?_
 refine dp rfl (pop_move rfl) ?_
 refine dg rfl rfl (fun hc => ⟨_, OpenTo.refl _, pop_move rfl⟩) ?_
 refine dg rfl rfl (fun hc => ⟨_, OpenTo.upd (t := 10) rfl (hc) (OpenTo.refl _), pop_eqls rfl rfl⟩) ?_
 refine dp rfl (pop_picko rfl (.inl rfl) (.inr ⟨_, rfl, fun h => by simp_all⟩)) ?_
 refine dn ?_
 refine hw_cond rfl (fun h1 => ?_) (fun h2 => ?_)
 ·try simp at h1
  refine hw_reg ?_
  refine dp rfl (pop_move rfl) ?_
  refine dp rfl (pop_assign rfl) ?_
  refine dn ?_
  refine hw_ret ?_
  refine ret_p rfl ?_
  show HVal.str _ = _
  (rcases h1 with rfl | rfl <;> first | (simp at h2l; done) | (simp [rtrim]; done))
 ·try simp at h2
  refine hw_skip ?_
  refine seqQ_n ?_
  refine hw_seq ?_
  refine hw_reg ?_
  refine dp rfl (pop_move rfl) ?_
  refine dp rfl (pop_lens ty9 rfl) ?_
  refine dp rfl (pop_eql rfl rfl) ?_
  refine dp rfl (pop_move rfl) ?_
  refine dg rfl rfl (fun hc => ⟨_, OpenTo.refl _, pop_move rfl⟩) ?_
  refine dg rfl rfl (fun hc => ⟨_, OpenTo.upd (t := 18) rfl (hc) (OpenTo.refl _), pop_indexs (j := 0) (b := l.headD 0) ty9 rfl rfl rfl (hd0 (by intro h0; subst h0; simp at h2l))⟩) ?_
  refine dg rfl rfl (fun hc => ⟨_, OpenTo.upd (t := 19) rfl (hc) (OpenTo.refl _), pop_lss rfl rfl⟩) ?_
  refine dp rfl (pop_picko rfl (.inr ⟨_, rfl, fun h => by simp_all⟩) (.inl rfl)) ?_
  refine dn ?_
  refine hw_cond rfl (fun h3 => ?_) (fun h3 => ?_)
  ·exfalso
   try simp at h3
   omega
  ·try simp at h3
   refine hw_skip ?_
   refine seqQ_n ?_
   refine hw_seq ?_
   refine hw_reg ?_
   refine dp rfl (pop_move rfl) ?_
   refine dp rfl (pop_call ca147 rfl (WeakL.refl _) (c_strings_makeASCIISet (by assumption) (by assumption))) ?_
   refine dp rfl (pop_move rfl) ?_
   refine dp rfl (pop_extract rfl rfl) ?_
   refine dp rfl (pop_extract rfl rfl) ?_
   refine de rfl (eop_alloc ty208 rfl fun b5 => ?_)
   refine de0 (eop_storew ty208 rfl rfl rfl rfl rfl ?_)
   refine dp rfl (pop_assign rfl) ?_
   refine dn ?_
   refine hw_ghost (Ghost.fc0 5 rfl) ?_
   refine hw_reg ?_
   refine dp rfl (pop_move rfl) ?_
   refine dn ?_
   refine hw_cond_t rfl ?_
   refine hw_reg ?_
   refine dp rfl (pop_move rfl) ?_
   refine dp rfl (pop_call ca149 rfl (WeakL.refl _) (c_strings_trimRightASCII (by assumption))) ?_
   refine dp rfl (pop_call ca148 rfl (WeakL.refl _) (c_strings_trimLeftASCII (Nat.le_trans (rtrim_len _ _) hs))) ?_
   refine dp rfl (pop_assign rfl) ?_
   refine dn ?_
   refine hw_ret ?_
   refine ret_p rfl ?_
   show HVal.str _ = _
   rfl

/-- internal/stringslite.IndexByte -/
theorem c_internal_stringslite_IndexByte [Tracks] {s : Str} {c : Int}  : ConP Tryz.prog 158 [.str s, .int .u8 c] (.int .i64 (Lib.indexByte s c.toNat.toUInt8)) := by
 refine Con.of_body Tryz.func158 rfl Tryz.ntmps158 rfl rfl ?_
 refine hw_reg ?_
 refine dp rfl (pop_assign rfl) ?_
 refine dn ?_
 refine hw_reg ?_
 refine dp rfl (pop_move rfl) ?_
 refine dp rfl (pop_move rfl) ?_
 refine dp rfl (pop_indexByte Tryz.func198 (by kernel_rfl) (by kernel_rfl) (by kernel_rfl) (by kernel_rfl) rfl rfl rfl) ?_
 refine dp rfl (pop_assign rfl) ?_
 refine dn ?_
 refine hw_ret ?_
 refine ret_p rfl ?_
 rfl

/-- strings.IndexByte -/
theorem c_strings_IndexByte [Tracks] {s : Str} {c : Int}  : ConP Tryz.prog 109 [.str s, .int .u8 c] (.int .i64 (Lib.indexByte s c.toNat.toUInt8)) := by
 refine Con.of_body Tryz.func109 rfl Tryz.ntmps109 rfl rfl ?_
 refine hw_reg ?_
 refine dp rfl (pop_assign rfl) ?_
 refine dn ?_
 refine hw_reg ?_
 refine dp rfl (pop_move rfl) ?_
 refine dp rfl (pop_move rfl) ?_
 refine dp rfl (pop_call ca158 rfl (WeakL.refl _) c_internal_stringslite_IndexByte) ?_
 refine dp rfl (pop_assign rfl) ?_
 refine dn ?_
 refine hw_ret ?_
 refine ret_p rfl ?_
 rfl

/-- benchwarmer/benchref1.in -/
theorem c_benchref1_in [Tracks] {n lo hi : Int}  : ConP Tryz.prog 87 [.int .i64 n, .int .i64 lo, .int .i64 hi] (.bool (!(out n lo hi))) := by
 refine Con.of_body Tryz.func87 rfl Tryz.ntmps87 rfl rfl ?_
 refine hw_reg ?_
 refine dp rfl (pop_assign rfl) ?_
 refine dn ?_
 refine hw_reg ?_
 refine dp rfl (pop_move rfl) ?_
 refine dp rfl (pop_move rfl) ?_
 refine dp rfl (pop_leq rfl rfl) ?_
 refine dp rfl (pop_move rfl) ?_
 refine dg rfl rfl (fun hc => ⟨_, OpenTo.refl _, pop_move rfl⟩) ?_
 refine dg rfl rfl (fun hc => ⟨_, OpenTo.refl _, pop_move rfl⟩) ?_
 refine dg rfl rfl (fun hc => ⟨_, OpenTo.upd (t := 12) rfl (hc) (OpenTo.upd (t := 11) rfl (hc) (OpenTo.refl _)), pop_leq rfl rfl⟩) ?_
 refine dp rfl (pop_picko rfl (.inr ⟨_, rfl, fun h => by simp_all⟩) (.inl rfl)) ?_
 refine dp rfl (pop_assign rfl) ?_
 refine dn ?_
 refine hw_ret ?_
 refine ret_p rfl ?_
 show HVal.bool _ = _
 congr 1; simp [out]; rw [Bool.eq_iff_iff]; simp; try omega

/-- benchwarmer/benchref1.Key -/
theorem c_benchref1_Key [Tracks] {s : Str} (hs : s.length ≤ 1000000) : ConP Tryz.prog 57 [.str s] (.bool (key s)) := by
 refine Con.of_body Tryz.func57 rfl Tryz.ntmps57 rfl rfl ?_
 refine hw_reg ?_
 refine dp rfl (pop_assign rfl) ?_
 refine dn ?_
 refine hw_reg ?_
 refine dp rfl (pop_move rfl) ?_
 refine dp rfl (pop_lens ty9 rfl) ?_
 refine dp rfl (pop_call ca87 rfl (WeakL.refl _) c_benchref1_in) ?_
 refine dp rfl (pop_move rfl) ?_
 refine dg rfl rfl (fun hc => ⟨_, OpenTo.refl _, pop_move rfl⟩) ?_
 refine dg rfl rfl (fun hc => ⟨_, OpenTo.upd (t := 7) rfl (hc) (OpenTo.refl _), pop_call ca95 rfl (WeakL.refl _) (c_strings_Trim (l := cut38) hs (by decide) (by decide) (by decide))⟩) ?_
 refine dg rfl rfl (fun hc => ⟨_, OpenTo.upd (t := 8) rfl (hc) (OpenTo.refl _), pop_eqls rfl rfl⟩) ?_
 refine dp rfl (pop_picko rfl (.inr ⟨_, rfl, fun h => by simp_all⟩) (.inl rfl)) ?_
 refine dp rfl (pop_move rfl) ?_
 refine dg rfl rfl (fun hc => ⟨_, OpenTo.refl _, pop_move rfl⟩) ?_
 refine dg rfl rfl (fun hc => ⟨_, OpenTo.upd (t := 12) rfl (hc) (OpenTo.refl _), pop_indexs (j := 0) (b := s.headD 0) ty9 rfl rfl rfl (hd0 (by rintro rfl; simp [out] at hc))⟩) ?_
 refine dg rfl rfl (fun hc => ⟨_, OpenTo.upd (t := 13) rfl (hc) (OpenTo.refl _), pop_call ca109 rfl (WeakL.refl _) c_strings_IndexByte⟩) ?_
 refine dg rfl rfl (fun hc => ⟨_, OpenTo.upd (t := 14) rfl (hc) (OpenTo.refl _), pop_geq rfl rfl⟩) ?_
 refine dp rfl (pop_picko rfl (.inr ⟨_, rfl, fun h => by simp_all⟩) (.inl rfl)) ?_
 refine dp rfl (pop_assign rfl) ?_
 refine dn ?_
 refine hw_ret ?_
 refine ret_p rfl ?_
 show HVal.bool _ = _
 rw [key_ref]
 simp [cut38, small26]

/-- benchwarmer/benchref1.SpanFault -/
theorem c_benchref1_SpanFault [Tracks] {n lo hi : Int}  : ConP Tryz.prog 71 [.int .i64 n, .int .i64 lo, .int .i64 hi] (.int .i64 (if out n lo hi then 1 else 0)) := by
 refine Con.of_body Tryz.func71 rfl Tryz.ntmps71 rfl rfl ?_
 refine hw_reg ?_
 refine dp rfl (pop_assign rfl) ?_
 refine dn ?_
 refine hw_seq ?_
 refine hw_reg ?_
 refine dp rfl (pop_move rfl) ?_
 refine dp rfl (pop_move rfl) ?_
 refine dp rfl (pop_move rfl) ?_
 refine dp rfl (pop_call ca87 rfl (WeakL.refl _) c_benchref1_in) ?_
 refine dp rfl (pop_not rfl) ?_
 refine dn ?_
 refine hw_cond rfl (fun h1 => ?_) (fun h2 => ?_)
 ·try simp at h1
  refine hw_reg ?_
  refine dp rfl (pop_assign rfl) ?_
  refine dn ?_
  refine hw_ret ?_
  refine ret_p rfl ?_
  show HVal.int .i64 _ = _
  simp_all
 ·try simp at h2
  refine hw_skip ?_
  refine seqQ_n ?_
  refine hw_reg ?_
  refine dp rfl (pop_assign rfl) ?_
  refine dn ?_
  refine hw_ret ?_
  refine ret_p rfl ?_
  show HVal.int .i64 _ = _
  simp_all

/-- benchwarmer/benchref1.MomentFault -/
theorem c_benchref1_MomentFault [Tracks] {n : Int}  : ConP Tryz.prog 19 [.int .i64 n] (.int .i64 (if moment n then 0 else 1)) := by
 refine Con.of_body Tryz.func19 rfl Tryz.ntmps19 rfl rfl ?_
 refine hw_reg ?_
 refine dp rfl (pop_assign rfl) ?_
 refine dn ?_
 refine hw_reg ?_
 refine dp rfl (pop_move rfl) ?_
 refine dp rfl (pop_call ca71 rfl (WeakL.refl _) c_benchref1_SpanFault) ?_
 refine dp rfl (pop_assign rfl) ?_
 refine dn ?_
 refine hw_ret ?_
 refine ret_p rfl ?_
 show HVal.int .i64 _ = _
 rw [moment_ref]
end Go.Proofs.YtihpgpbbpklbbaaGreatDoor
end
section
namespace Go.Proofs
open Go.Shelf
def Tryz.lays190_ren : Go.Shelf.Ren := ⟨fun | 190 => 114 | 125 => 133 | 258 => 160 | 128 => 176 | 129 => 177 | 302 => 199 | 303 => 200 | 304 => 201 | 305 => 202 | 306 => 203 | 307 => 204 | 308 => 103 | 309 => 205 | 310 => 206 | 333 => 261 | 329 => 234 | 330 => 235 | 334 => 262 | 335 => 263 | 336 => 156 | 344 => 296 | n => n, fun | 31 => 28 | 9 => 9 | 3 => 3 | 46 => 193 | 0 => 0 | 51 => 231 | 53 => 233 | 4 => 4 | 183 => 225 | 182 => 224 | 131 => 74 | 5 => 5 | 218 => 275 | 222 => 279 | 228 => 308 | 229 => 309 | n => n, fun | n => n⟩
theorem Tryz.lays190 : Go.Proofs.Lays.n190 Tryz.prog Tryz.lays190_ren := {
 mixed := by kernel_rfl
 f125 := Tryz.func133.trans (congrArg some (by kernel_rfl))
 f128 := Tryz.func176.trans (congrArg some (by kernel_rfl))
 f129 := Tryz.func177.trans (congrArg some (by kernel_rfl))
 f190 := Tryz.func114.trans (congrArg some (by kernel_rfl))
 f258 := Tryz.func160.trans (congrArg some (by kernel_rfl))
 f302 := Tryz.func199.trans (congrArg some (by kernel_rfl))
 f303 := Tryz.func200.trans (congrArg some (by kernel_rfl))
 f304 := Tryz.func201.trans (congrArg some (by kernel_rfl))
 f305 := Tryz.func202.trans (congrArg some (by kernel_rfl))
 f306 := Tryz.func203.trans (congrArg some (by kernel_rfl))
 f307 := Tryz.func204.trans (congrArg some (by kernel_rfl))
 f308 := Tryz.func103.trans (congrArg some (by kernel_rfl))
 f309 := Tryz.func205.trans (congrArg some (by kernel_rfl))
 f310 := Tryz.func206.trans (congrArg some (by kernel_rfl))
 f329 := Tryz.func234.trans (congrArg some (by kernel_rfl))
 f330 := Tryz.func235.trans (congrArg some (by kernel_rfl))
 f333 := Tryz.func261.trans (congrArg some (by kernel_rfl))
 f334 := Tryz.func262.trans (congrArg some (by kernel_rfl))
 f335 := Tryz.func263.trans (congrArg some (by kernel_rfl))
 f336 := Tryz.func156.trans (congrArg some (by kernel_rfl))
 f344 := Tryz.func296.trans (congrArg some (by kernel_rfl))
 t0 := Tryz.underlying0
 a0 := Tryz.isAgg0
 z0 := Tryz.sizeOf0
 v0 := Tryz.zeroValue0
 t3 := Tryz.underlying3
 a3 := Tryz.isAgg3
 z3 := Tryz.sizeOf3
 v3 := Tryz.zeroValue3
 t4 := Tryz.underlying4
 a4 := Tryz.isAgg4
 z4 := Tryz.sizeOf4
 v4 := Tryz.zeroValue4
 t5 := Tryz.underlying5
 a5 := Tryz.isAgg5
 z5 := Tryz.sizeOf5
 v5 := Tryz.zeroValue5
 t9 := Tryz.underlying9
 a9 := Tryz.isAgg9
 z9 := Tryz.sizeOf9
 v9 := Tryz.zeroValue9
 t31 := Tryz.underlying28
 a31 := Tryz.isAgg28
 z31 := Tryz.sizeOf28
 v31 := Tryz.zeroValue28
 t46 := Tryz.underlying193
 a46 := Tryz.isAgg193
 z46 := Tryz.sizeOf193
 v46 := Tryz.zeroValue193
 t51 := Tryz.underlying231
 a51 := Tryz.isAgg231
 z51 := Tryz.sizeOf231
 v51 := Tryz.zeroValue231
 t53 := Tryz.underlying233
 a53 := Tryz.isAgg233
 z53 := Tryz.sizeOf233
 v53 := Tryz.zeroValue233
 t131 := Tryz.underlying74
 a131 := Tryz.isAgg74
 z131 := Tryz.sizeOf74
 v131 := Tryz.zeroValue74
 t182 := Tryz.underlying224
 a182 := Tryz.isAgg224
 z182 := Tryz.sizeOf224
 v182 := Tryz.zeroValue224
 t183 := Tryz.underlying225
 a183 := Tryz.isAgg225
 z183 := Tryz.sizeOf225
 v183 := Tryz.zeroValue225
 t218 := Tryz.underlying275
 a218 := Tryz.isAgg275
 z218 := Tryz.sizeOf275
 v218 := Tryz.zeroValue275
 t222 := Tryz.underlying279
 a222 := Tryz.isAgg279
 z222 := Tryz.sizeOf279
 v222 := Tryz.zeroValue279
 t228 := Tryz.underlying308
 a228 := Tryz.isAgg308
 z228 := Tryz.sizeOf308
 v228 := Tryz.zeroValue308
 t229 := Tryz.underlying309
 a229 := Tryz.isAgg309
 z229 := Tryz.sizeOf309
 v229 := Tryz.zeroValue309 }
def Tryz.lays194_ren : Go.Shelf.Ren := ⟨fun | 194 => 121 | n => n, fun | 31 => 28 | 9 => 9 | 3 => 3 | 4 => 4 | 0 => 0 | n => n, fun | n => n⟩
theorem Tryz.lays194 : Go.Proofs.Lays.n194 Tryz.prog Tryz.lays194_ren := {
 mixed := by kernel_rfl
 f194 := Tryz.func121.trans (congrArg some (by kernel_rfl))
 t0 := Tryz.underlying0
 a0 := Tryz.isAgg0
 z0 := Tryz.sizeOf0
 v0 := Tryz.zeroValue0
 t3 := Tryz.underlying3
 a3 := Tryz.isAgg3
 z3 := Tryz.sizeOf3
 v3 := Tryz.zeroValue3
 t4 := Tryz.underlying4
 a4 := Tryz.isAgg4
 z4 := Tryz.sizeOf4
 v4 := Tryz.zeroValue4
 t9 := Tryz.underlying9
 a9 := Tryz.isAgg9
 z9 := Tryz.sizeOf9
 v9 := Tryz.zeroValue9
 t31 := Tryz.underlying28
 a31 := Tryz.isAgg28
 z31 := Tryz.sizeOf28
 v31 := Tryz.zeroValue28 }
def Tryz.lays189_ren : Go.Shelf.Ren := ⟨fun | 189 => 125 | 125 => 133 | 257 => 165 | 128 => 176 | 129 => 177 | 294 => 216 | 295 => 217 | 296 => 218 | 297 => 219 | 298 => 220 | 299 => 221 | 216 => 222 | 300 => 223 | 301 => 224 | 328 => 267 | 329 => 234 | 330 => 235 | 331 => 268 | 332 => 269 | 215 => 157 | 343 => 298 | n => n, fun | 28 => 22 | 3 => 3 | 46 => 193 | 0 => 0 | 51 => 231 | 53 => 233 | 4 => 4 | 183 => 225 | 182 => 224 | 131 => 74 | 5 => 5 | 9 => 9 | 218 => 275 | 222 => 279 | 228 => 308 | 229 => 309 | n => n, fun | n => n⟩
theorem Tryz.lays189 : Go.Proofs.Lays.n189 Tryz.prog Tryz.lays189_ren := {
 mixed := by kernel_rfl
 f125 := Tryz.func133.trans (congrArg some (by kernel_rfl))
 f128 := Tryz.func176.trans (congrArg some (by kernel_rfl))
 f129 := Tryz.func177.trans (congrArg some (by kernel_rfl))
 f189 := Tryz.func125.trans (congrArg some (by kernel_rfl))
 f215 := Tryz.func157.trans (congrArg some (by kernel_rfl))
 f216 := Tryz.func222.trans (congrArg some (by kernel_rfl))
 f257 := Tryz.func165.trans (congrArg some (by kernel_rfl))
 f294 := Tryz.func216.trans (congrArg some (by kernel_rfl))
 f295 := Tryz.func217.trans (congrArg some (by kernel_rfl))
 f296 := Tryz.func218.trans (congrArg some (by kernel_rfl))
 f297 := Tryz.func219.trans (congrArg some (by kernel_rfl))
 f298 := Tryz.func220.trans (congrArg some (by kernel_rfl))
 f299 := Tryz.func221.trans (congrArg some (by kernel_rfl))
 f300 := Tryz.func223.trans (congrArg some (by kernel_rfl))
 f301 := Tryz.func224.trans (congrArg some (by kernel_rfl))
 f328 := Tryz.func267.trans (congrArg some (by kernel_rfl))
 f329 := Tryz.func234.trans (congrArg some (by kernel_rfl))
 f330 := Tryz.func235.trans (congrArg some (by kernel_rfl))
 f331 := Tryz.func268.trans (congrArg some (by kernel_rfl))
 f332 := Tryz.func269.trans (congrArg some (by kernel_rfl))
 f343 := Tryz.func298.trans (congrArg some (by kernel_rfl))
 t0 := Tryz.underlying0
 a0 := Tryz.isAgg0
 z0 := Tryz.sizeOf0
 v0 := Tryz.zeroValue0
 t3 := Tryz.underlying3
 a3 := Tryz.isAgg3
 z3 := Tryz.sizeOf3
 v3 := Tryz.zeroValue3
 t4 := Tryz.underlying4
 a4 := Tryz.isAgg4
 z4 := Tryz.sizeOf4
 v4 := Tryz.zeroValue4
 t5 := Tryz.underlying5
 a5 := Tryz.isAgg5
 z5 := Tryz.sizeOf5
 v5 := Tryz.zeroValue5
 t9 := Tryz.underlying9
 a9 := Tryz.isAgg9
 z9 := Tryz.sizeOf9
 v9 := Tryz.zeroValue9
 t28 := Tryz.underlying22
 a28 := Tryz.isAgg22
 z28 := Tryz.sizeOf22
 v28 := Tryz.zeroValue22
 t46 := Tryz.underlying193
 a46 := Tryz.isAgg193
 z46 := Tryz.sizeOf193
 v46 := Tryz.zeroValue193
 t51 := Tryz.underlying231
 a51 := Tryz.isAgg231
 z51 := Tryz.sizeOf231
 v51 := Tryz.zeroValue231
 t53 := Tryz.underlying233
 a53 := Tryz.isAgg233
 z53 := Tryz.sizeOf233
 v53 := Tryz.zeroValue233
 t131 := Tryz.underlying74
 a131 := Tryz.isAgg74
 z131 := Tryz.sizeOf74
 v131 := Tryz.zeroValue74
 t182 := Tryz.underlying224
 a182 := Tryz.isAgg224
 z182 := Tryz.sizeOf224
 v182 := Tryz.zeroValue224
 t183 := Tryz.underlying225
 a183 := Tryz.isAgg225
 z183 := Tryz.sizeOf225
 v183 := Tryz.zeroValue225
 t218 := Tryz.underlying275
 a218 := Tryz.isAgg275
 z218 := Tryz.sizeOf275
 v218 := Tryz.zeroValue275
 t222 := Tryz.underlying279
 a222 := Tryz.isAgg279
 z222 := Tryz.sizeOf279
 v222 := Tryz.zeroValue279
 t228 := Tryz.underlying308
 a228 := Tryz.isAgg308
 z228 := Tryz.sizeOf308
 v228 := Tryz.zeroValue308
 t229 := Tryz.underlying309
 a229 := Tryz.isAgg309
 z229 := Tryz.sizeOf309
 v229 := Tryz.zeroValue309 }
def Tryz.lays220_ren : Go.Shelf.Ren := ⟨fun | 20 => 126 | n => n, fun | 22 => 22 | 3 => 3 | 4 => 4 | 0 => 0 | n => n, fun | n => n⟩
theorem Tryz.lays220 : Go.Proofs.Lays2.n20 Tryz.prog Tryz.lays220_ren := {
 mixed := by kernel_rfl
 f20 := Tryz.func126.trans (congrArg some (by kernel_rfl))
 t0 := Tryz.underlying0
 a0 := Tryz.isAgg0
 z0 := Tryz.sizeOf0
 v0 := Tryz.zeroValue0
 t3 := Tryz.underlying3
 a3 := Tryz.isAgg3
 z3 := Tryz.sizeOf3
 v3 := Tryz.zeroValue3
 t4 := Tryz.underlying4
 a4 := Tryz.isAgg4
 z4 := Tryz.sizeOf4
 v4 := Tryz.zeroValue4
 t22 := Tryz.underlying22
 a22 := Tryz.isAgg22
 z22 := Tryz.sizeOf22
 v22 := Tryz.zeroValue22
 i3 := by kernel_rfl }
end Go.Proofs
end
section
namespace Go.Proofs.YtihpgpbbpklbbaaGreatDoor
open Go.HL
set_option maxRecDepth 100000
set_option linter.unusedVariables false
set_option linter.unusedSimpArgs false
/-- math/bits.Len64 -/
theorem c_math_bits_Len64 [Tracks]   : ConP Tryz.prog 177 [.int .u64 0] (.int .i64 0) := by
 refine Con.of_body Tryz.func177 rfl Tryz.ntmps177 rfl rfl ?_
 refine hw_reg ?_
 refine dp rfl (pop_assign rfl) ?_
 refine dn ?_
 refine hw_seq ?_
 refine hw_reg ?_
 refine dp rfl (pop_move rfl) ?_
 refine dp rfl (pop_geq rfl rfl) ?_
 refine dn ?_
 refine hw_cond_f rfl ?_
 refine hw_skip ?_
 refine seqQ_n ?_
 refine hw_seq ?_
 refine hw_reg ?_
 refine dp rfl (pop_move rfl) ?_
 refine dp rfl (pop_geq rfl rfl) ?_
 refine dn ?_
 refine hw_cond_f rfl ?_
 refine hw_skip ?_
 refine seqQ_n ?_
 refine hw_seq ?_
 refine hw_reg ?_
 refine dp rfl (pop_move rfl) ?_
 refine dp rfl (pop_geq rfl rfl) ?_
 refine dn ?_
 refine hw_cond_f rfl ?_
 refine hw_skip ?_
 refine seqQ_n ?_
 refine hw_reg ?_
 refine dp rfl (pop_move rfl) ?_
 refine dp rfl (pop_move rfl) ?_
 refine dp rfl (pop_conv ty233 ty5 rfl) ?_
 refine dp rfl (pop_indexs (j := 0) (b := 0) ty9 rfl rfl rfl rfl) ?_
 refine dp rfl (pop_conv ty5 ty3 rfl) ?_
 refine dp rfl (pop_add64 rfl rfl (by decide) (by decide)) ?_
 refine dp rfl (pop_assign rfl) ?_
 refine dn ?_
 refine hw_ret ?_
 refine ret_p rfl ?_
 rfl

/-- math/bits.Len -/
theorem c_math_bits_Len [Tracks]   : ConP Tryz.prog 133 [.int .u64 0] (.int .i64 0) := by
 refine Con.of_body Tryz.func133 rfl Tryz.ntmps133 rfl rfl ?_
 refine hw_reg ?_
 refine dp rfl (pop_assign rfl) ?_
 refine dn ?_
 refine hw_seq ?_
 refine hw_cond_f rfl ?_
 refine hw_skip ?_
 refine seqQ_n ?_
 refine hw_reg ?_
 refine dp rfl (pop_move rfl) ?_
 refine dp rfl (pop_call ca177 rfl (WeakL.refl _) c_math_bits_Len64) ?_
 refine dp rfl (pop_assign rfl) ?_
 refine dn ?_
 refine hw_ret ?_
 refine ret_p rfl ?_
 rfl

/-- slices.insertionSortOrdered[string] -/
theorem c_slices_insertionSortOrdered_string [Tracks]   : ConP Tryz.prog 199 [eSs [], .int .i64 0, .int .i64 0] (.tup []) := by
 refine Con.of_body Tryz.func199 rfl Tryz.ntmps199 rfl rfl ?_
 refine hw_reg ?_
 refine dp rfl (pop_move rfl) ?_
 refine dp rfl (pop_add64 rfl rfl (by omega) (by omega)) ?_
 refine dp rfl (pop_assign rfl) ?_
 refine dn ?_
 refine hw_block ?_
 refine hw_loopw [6, 7, 10, 11, 12, 13, 14, 15, 16, 17, 18, 19, 20, 21, 22, 23, 24, 25, 26, 27, 28, 29, 30, 31, 32, 33, 34, 35, 36, 37, 38, 39, 40, 41, 42, 43, 44, 45, 46, 47, 48] (fun (u : Unit) => [(6, .int .i64 1)]) (fun (u : Unit) => []) (fun (u : Unit) => True) (fun (u : Unit) => 0) (()) ?_ ?_ ?_ ?_
 ·trivial
 ·exact ⟨rfl, trivial⟩
 ·exact List.Perm.refl _
 ·intro u hu
  refine hw_seq ?_
  refine hw_reg ?_
  refine dp rfl (pop_move rfl) ?_
  refine dp rfl (pop_move rfl) ?_
  refine dp rfl (pop_lss rfl rfl) ?_
  refine dn ?_
  refine hw_cond_f rfl ?_
  refine hw_exit ?_
  refine seqQ_x ?_
  refine loopQ_x ?_
  refine blockQ_eq ?_
  refine ret_n rfl ?_
  rfl

/-- slices.pdqsortOrdered[string] -/
theorem c_slices_pdqsortOrdered_string [Tracks]   : ConP Tryz.prog 160 [eSs [], .int .i64 0, .int .i64 0, .int .i64 0] (.tup []) := by
 refine Con.of_body Tryz.func160 rfl Tryz.ntmps160 rfl rfl ?_
 refine hw_reg ?_
 refine dp rfl (pop_assign rfl) ?_
 refine dn ?_
 refine hw_reg ?_
 refine dp rfl (pop_assign rfl) ?_
 refine dn ?_
 refine hw_block ?_
 refine hw_loopw (1 :: 2 :: 3 :: 8 :: 9 :: 10 :: 11 :: 12 :: 13 :: 14 :: 15 :: 16 :: 17 :: 18 :: 19 :: 20 :: 21 :: 22 :: 23 :: 24 :: 25 :: 26 :: 27 :: 28 :: 29 :: 30 :: 31 :: 32 :: 33 :: 34 :: 35 :: 36 :: 37 :: 38 :: 39 :: 40 :: 41 :: 42 :: 43 :: 44 :: 45 :: 46 :: 47 :: 48 :: 49 :: 50 :: 51 :: 52 :: 53 :: 54 :: 55 :: 56 :: 57 :: 58 :: 59 :: 60 :: 61 :: 62 :: 63 :: 64 :: 65 :: 66 :: 67 :: 68 :: 69 :: 70 :: 71 :: 72 :: 73 :: 74 :: 75 :: 76 :: 77 :: 78 :: 79 :: 80 :: 81 :: 82 :: 83 :: 84 :: 85 :: 86 :: 87 :: 88 :: 89 :: 90 :: 91 :: 92 :: 93 :: 94 :: 95 :: 96 :: 97 :: 98 :: 99 :: 100 :: 101 :: 102 :: 103 :: 104 :: 105 :: 106 :: 107 :: 108 :: 109 :: 110 :: 111 :: 112 :: 113 :: 114 :: 115 :: 116 :: 117 :: 118 :: 119 :: 120 :: 121 :: 122 :: 123 :: 124 :: 125 :: 126 :: 127 :: 128 :: 129 :: 130 :: 131 :: 132 :: 133 :: []) (fun (u : Unit) => [(1, .int .i64 0), (2, .int .i64 0)]) (fun (u : Unit) => []) (fun (u : Unit) => True) (fun (u : Unit) => 0) (()) ?_ ?_ ?_ ?_
 ·trivial
 ·exact ⟨rfl, rfl, trivial⟩
 ·exact List.Perm.refl _
 ·intro u hu
  refine hw_block ?_
  refine hw_reg ?_
  refine dp rfl (pop_move rfl) ?_
  refine dp rfl (pop_move rfl) ?_
  refine dp rfl (pop_sub64 rfl rfl (by omega) (by omega)) ?_
  refine dp rfl (pop_assign rfl) ?_
  refine dn ?_
  refine hw_seq ?_
  refine hw_reg ?_
  refine dp rfl (pop_move rfl) ?_
  refine dp rfl (pop_leq rfl rfl) ?_
  refine dn ?_
  refine hw_cond_t rfl ?_
  refine hw_reg ?_
  refine dp rfl (pop_move rfl) ?_
  refine dp rfl (pop_move rfl) ?_
  refine dp rfl (pop_move rfl) ?_
  refine dp rfl (pop_call ca199 rfl (WeakL.refl _) c_slices_insertionSortOrdered_string) ?_
  refine dn ?_
  refine hw_ret ?_
  refine ret_p rfl ?_
  rfl

/-- slices.Sort[[]string,string] -/
theorem c_slices_Sort_nil [Tracks]   : ConP Tryz.prog 114 [eSs []] (.tup []) := by
 refine Con.of_body Tryz.func114 rfl Tryz.ntmps114 rfl rfl ?_
 refine hw_reg ?_
 refine dp rfl (pop_move rfl) ?_
 refine dp rfl (pop_lenm ty28 rfl) ?_
 refine dp rfl (pop_assign rfl) ?_
 refine dn ?_
 refine hw_reg1 ?_
 refine dp rfl (pop_move rfl) ?_
 refine dp rfl (pop_move rfl) ?_
 refine dp rfl (pop_move rfl) ?_
 refine dp rfl (pop_conv ty3 ty193 rfl) ?_
 refine dp rfl (pop_call ca133 rfl (WeakL.refl _) c_math_bits_Len) ?_
 refine dp rfl (pop_call ca160 rfl (WeakL.refl _) c_slices_pdqsortOrdered_string) ?_
 refine dn ?_
 refine ret_n rfl ?_
 rfl

/-- slices.Sort: the slice holds the same strings in order -/
theorem c_slices_Sort [Tracks] {l : List Str} {v : Value} (hl : l.length ≤ 1000000) : Con Tryz.prog 114 [.raw v] [.arr v 1 (l.map .str)] fun x M' => x = .tup [] ∧ M' = [.arr v 1 ((sortS l).map .str)] :=
 con_row (sortS_len l) (fun b off cap w h1 h2 _ => Any.slices_Sort_string Tryz.lays190 b off cap l w h1 h2 (by omega)) (fun _ => c_slices_Sort_nil)

/-- slices.Compact: the slice is cut to the strings that differ from the one before -/
theorem c_slices_Compact [Tracks] {l : List Str} {v : Value} (hl : l.length ≤ 1000000) : Con Tryz.prog 121 [.raw v] [.arr v 1 (l.map .str)] fun x M' => ∃ u, x = .raw u ∧ M' = [.arr u 1 ((Lib.compact l).map .str)] :=
 con_rowc (compact_le l) (fun b off cap w h1 h2 h3 => Any.slices_Compact_string Tryz.lays194 b off cap l w h1 (by omega) h3) (fun _ w => Any.slices_Compact_string_empty Tryz.lays194 none 0 w)

/-- benchwarmer/benchref1.once -/
theorem c_benchref1_once [Tracks] {l : List Str} (hl : l.length ≤ 1000000) : ConA Tryz.prog 72 [eSs l] 1 ((Lib.compact (sortS l)).map .str) := by
 refine Con.of_body Tryz.func72 rfl Tryz.ntmps72 rfl rfl ?_
 refine hw_reg ?_
 refine dp rfl (pop_assign rfl) ?_
 refine dn ?_
 refine hw_reg ?_
 refine dp rfl (pop_move rfl) ?_
 refine de rfl (eop_calla ca120 rfl (WeakL.refl _) (c_slices_Clone_string_string (by assumption)) fun v4 => ?_)
 refine dp rfl (pop_assign rfl) ?_
 refine dn ?_
 refine hw_reg ?_
 refine dp rfl (pop_move rfl) ?_
 refine de rfl (eop_callf (M1 := [_]) (R := []) ca114 rfl (WeakL.refl _) (List.Perm.refl _) (c_slices_Sort hl) ?_)
 rintro _ _ ⟨rfl, rfl⟩
 refine dn ?_
 refine hw_reg ?_
 refine dp rfl (pop_move rfl) ?_
 refine de rfl (eop_callf (M1 := [_]) (R := []) ca121 rfl (WeakL.refl _) (List.Perm.refl _) (c_slices_Compact (l := sortS l) (by rw [sortS_len]; exact hl)) ?_)
 rintro _ _ ⟨u8, rfl, rfl⟩
 refine dp rfl (pop_assign rfl) ?_
 refine dn ?_
 refine hw_ret ?_
 refine ret_a rfl ?_
 rfl
end Go.Proofs.YtihpgpbbpklbbaaGreatDoor
end
section
namespace Go.Proofs.YtihpgpbbpklbbaaGreatDoor
open Go.HL
set_option maxRecDepth 100000
set_option linter.unusedVariables false
set_option linter.unusedSimpArgs false
/-- benchwarmer/benchmake.Below -/
theorem c_benchmake_Below [Tracks] {x n : Int} (hn : n ≤ 4000000000) : ConP Tryz.prog 107 [.int .i64 x, .int .i64 n] (.int .i64 (below x n)) := by
 refine Con.of_body Tryz.func107 rfl Tryz.ntmps107 rfl rfl ?_
 refine hw_reg ?_
 refine dp rfl (pop_assign rfl) ?_
 refine dn ?_
 refine hw_seq ?_
 refine hw_reg ?_
 refine dp rfl (pop_move rfl) ?_
 refine dp rfl (pop_lss rfl rfl) ?_
 refine dn ?_
 refine hw_cond rfl (fun h1 => ?_) (fun h2 => ?_)
 ·try simp at h1
  refine hw_reg ?_
  refine dp rfl (pop_assign rfl) ?_
  refine dn ?_
  refine hw_ret ?_
  refine ret_p rfl ?_
  show HVal.int .i64 _ = _
  simp_all [below]
  try omega
 ·try simp at h2
  refine hw_skip ?_
  refine seqQ_n ?_
  refine hw_reg ?_
  refine dp rfl (pop_move rfl) ?_
  refine dp rfl (pop_move rfl) ?_
  refine dp rfl (pop_rem rfl rfl (by omega)) ?_
  refine dp rfl (pop_assign rfl) ?_
  refine dn ?_
  refine hw_seq ?_
  refine hw_reg ?_
  refine dp rfl (pop_move rfl) ?_
  refine dp rfl (pop_lss rfl rfl) ?_
  refine dn ?_
  refine hw_cond rfl (fun h3 => ?_) (fun h4 => ?_)
  ·try simp at h3
   refine hw_reg1 ?_
   refine dp rfl (pop_move rfl) ?_
   refine dp rfl (pop_move rfl) ?_
   have hm := Int.tmod_lt_of_pos x (show 0 < n by omega)
   obtain ⟨y, hy1, hy2⟩ := below_nat x n
   have hb : below x n = x.tmod n + n := by unfold below; rw [if_neg (by omega), if_pos (by omega)]
   refine dp rfl (pop_add64 rfl rfl (by omega) (by omega)) ?_
   refine dp rfl (pop_assign rfl) ?_
   refine dn ?_
   refine seqQ_n ?_
   refine hw_reg ?_
   refine dp rfl (pop_move rfl) ?_
   refine dp rfl (pop_assign rfl) ?_
   refine dn ?_
   refine hw_ret ?_
   refine ret_p rfl ?_
   show HVal.int .i64 _ = _
   simp_all [below]
   try omega
  ·try simp at h4
   refine hw_skip ?_
   refine seqQ_n ?_
   refine hw_reg ?_
   refine dp rfl (pop_move rfl) ?_
   refine dp rfl (pop_assign rfl) ?_
   refine dn ?_
   refine hw_ret ?_
   refine ret_p rfl ?_
   show HVal.int .i64 _ = _
   simp_all [below]
   try omega

/-- (*benchwarmer/benchmake.Stream).Next -/
theorem c_benchmake_Stream_Next [Tracks] {b : Nat} {l : List Int} {a : Nat} {n : Int} (ha : a ≤ 1000000) (hn : n ≤ 4000000000) : Con Tryz.prog 52 [pAt b, .int .i64 n] [St b l a] (fun x M' => ∃ y : Nat, x = .int .i64 (y : Int) ∧ (y : Int) < max n 1 ∧ M' = [St b l (a + 1)]) := by
 refine Con.of_body Tryz.func52 rfl Tryz.ntmps52 rfl rfl ?_
 refine hw_reg ?_
 refine dp rfl (pop_assign rfl) ?_
 refine dn ?_
 refine hw_reg ?_
 refine dp rfl (pop_move rfl) ?_
 refine dp rfl ((pop_nilCheck_raw rfl)) ?_
 refine dp rfl (pop_fieldAddr_raw ty25 rfl ty3 (by decide) rfl) ?_
 refine de rfl (eop_load (i := 0) ty3 rfl rfl (.inl ⟨rfl, rfl⟩) ?_)
 refine dp rfl (pop_add64 rfl rfl (by omega) (by omega)) ?_
 refine dp rfl ((pop_nilCheck_raw rfl)) ?_
 refine dp rfl (pop_fieldAddr_raw ty25 rfl ty3 (by decide) rfl) ?_
 refine de0 (eop_store (i := 0) ty3 rfl rfl rfl rfl rfl (Nat.le_of_ble_eq_true rfl) ?_)
 refine dn ?_
 refine hw_seq ?_
 refine hw_reg ?_
 refine dp rfl (pop_move rfl) ?_
 refine dp rfl ((pop_nilCheck_raw rfl)) ?_
 refine dp rfl (pop_fieldAddr_raw ty25 rfl ty22 (by decide) rfl) ?_
 refine de rfl (eop_load (i := 0) ty22 rfl rfl (.inl ⟨rfl, rfl⟩) ?_)
 refine dp rfl (pop_lenm ty22 rfl) ?_
 refine dp rfl (pop_eql rfl rfl) ?_
 refine dn ?_
 refine hw_cond rfl (fun h1 => ?_) (fun h2 => ?_)
 ·try simp at h1
  refine hw_reg ?_
  refine dp rfl (pop_move rfl) ?_
  refine dp rfl ((pop_nilCheck_raw rfl)) ?_
  refine dp rfl (pop_fieldAddr_raw ty25 rfl ty3 (by decide) rfl) ?_
  refine de rfl (eop_load (i := 0) ty3 rfl rfl (.inl ⟨rfl, rfl⟩) ?_)
  refine dp rfl (pop_mul rfl rfl) ?_
  refine dp rfl (pop_move rfl) ?_
  refine dp rfl (pop_call ca107 rfl (WeakL.refl _) (c_benchmake_Below (by assumption))) ?_
  refine dp rfl (pop_assign rfl) ?_
  refine dn ?_
  refine hw_ret ?_
  refine ret_q rfl ?_
  obtain ⟨y, h1, h2⟩ := below_nat _ n
  exact ⟨y, congrArg _ h1, h2, rfl⟩
 ·try simp at h2
  refine hw_skip ?_
  refine seqQ_n ?_
  have hl0 : 0 < l.length := List.length_pos_iff.2 (by simpa using h2)
  refine hw_draw (fun M => ∃ i : Nat, M[i]? = some (St b l (a + 1))) [3, 8] mixed ?_
  refine ahp 0 rfl rfl (by kernel_rfl) (by kernel_rfl) (pop_move rfl) ?_
  refine ahp 1 rfl rfl (by kernel_rfl) (by kernel_rfl) ((pop_nilCheck_raw rfl)) ?_
  refine ahp 2 rfl rfl (by kernel_rfl) (by kernel_rfl) (pop_fieldAddr_raw ty25 rfl ty3 (by decide) rfl) ?_
  refine ahl 3 rfl rfl (by kernel_rfl) (by kernel_rfl) (by simp) (⟨0, rfl⟩) (fun M hM => by obtain ⟨i, hi⟩ := hM; exact eop_load (i := i) ty3 rfl hi (.inl ⟨rfl, rfl⟩) ⟨rfl, rfl⟩) ?_
  refine ahp 4 rfl rfl (by kernel_rfl) (by kernel_rfl) (pop_sub64 rfl rfl (by omega) (by omega)) ?_
  refine ahp 5 rfl rfl (by kernel_rfl) (by kernel_rfl) (pop_move rfl) ?_
  refine ahp 6 rfl rfl (by kernel_rfl) (by kernel_rfl) ((pop_nilCheck_raw rfl)) ?_
  refine ahp 7 rfl rfl (by kernel_rfl) (by kernel_rfl) (pop_fieldAddr_raw ty25 rfl ty22 (by decide) rfl) ?_
  refine ahl 8 rfl rfl (by kernel_rfl) (by kernel_rfl) (by simp) (⟨0, rfl⟩) (fun M hM => by obtain ⟨i, hi⟩ := hM; exact eop_load (i := i) ty22 rfl hi (.inl ⟨rfl, rfl⟩) ⟨rfl, rfl⟩) ?_
  refine ahp 9 rfl rfl (by kernel_rfl) (by kernel_rfl) (pop_lenm ty22 rfl) ?_
  refine ahp 10 rfl rfl (by kernel_rfl) (by kernel_rfl) (pop_eq (h' := .int .i64 ((a % l.length : Nat) : Int)) (pop_rem rfl rfl (by omega)) (by show HVal.int .i64 (((a : Int) + 1 - 1).tmod _) = _; rw [show ((a : Int) + 1 - 1) = (a : Int) by omega]; exact congrArg _ (tmod_nat _ _))) ?_
  refine ahp 11 rfl rfl (by kernel_rfl) (by kernel_rfl) (pop_assign rfl) ?_
  refine ahz (by kernel_rfl) ?_
  refine hw_draw (fun M => ∃ i : Nat, M[i]? = some (St b l (a + 1))) [3, 8] mixed ?_
  refine ahp 0 rfl rfl (by kernel_rfl) (by kernel_rfl) (pop_move rfl) ?_
  refine ahp 1 rfl rfl (by kernel_rfl) (by kernel_rfl) ((pop_nilCheck_raw rfl)) ?_
  refine ahp 2 rfl rfl (by kernel_rfl) (by kernel_rfl) (pop_fieldAddr_raw ty25 rfl ty3 (by decide) rfl) ?_
  refine ahl 3 rfl rfl (by kernel_rfl) (by kernel_rfl) (by simp) (⟨0, rfl⟩) (fun M hM => by obtain ⟨i, hi⟩ := hM; exact eop_load (i := i) ty3 rfl hi (.inl ⟨rfl, rfl⟩) ⟨rfl, rfl⟩) ?_
  refine ahp 4 rfl rfl (by kernel_rfl) (by kernel_rfl) (pop_sub64 rfl rfl (by omega) (by omega)) ?_
  refine ahp 5 rfl rfl (by kernel_rfl) (by kernel_rfl) (pop_move rfl) ?_
  refine ahp 6 rfl rfl (by kernel_rfl) (by kernel_rfl) ((pop_nilCheck_raw rfl)) ?_
  refine ahp 7 rfl rfl (by kernel_rfl) (by kernel_rfl) (pop_fieldAddr_raw ty25 rfl ty22 (by decide) rfl) ?_
  refine ahl 8 rfl rfl (by kernel_rfl) (by kernel_rfl) (by simp) (⟨0, rfl⟩) (fun M hM => by obtain ⟨i, hi⟩ := hM; exact eop_load (i := i) ty22 rfl hi (.inl ⟨rfl, rfl⟩) ⟨rfl, rfl⟩) ?_
  refine ahp 9 rfl rfl (by kernel_rfl) (by kernel_rfl) (pop_lenm ty22 rfl) ?_
  refine ahp 10 rfl rfl (by kernel_rfl) (by kernel_rfl) (pop_quo rfl rfl (by omega)) ?_
  refine ahp 11 rfl rfl (by kernel_rfl) (by kernel_rfl) (pop_assign rfl) ?_
  refine ahz (by kernel_rfl) ?_
  refine hw_reg ?_
  refine dp rfl (pop_move rfl) ?_
  refine dp rfl ((pop_nilCheck_raw rfl)) ?_
  refine dp rfl (pop_fieldAddr_raw ty25 rfl ty22 (by decide) rfl) ?_
  refine de rfl (eop_load (i := 0) ty22 rfl rfl (.inl ⟨rfl, rfl⟩) ?_)
  refine dp rfl (pop_move rfl) ?_
  refine dp rfl (pop_idx (j := a % l.length) (a := l[a % l.length]'(Nat.mod_lt _ (by omega))) ty22 ty3 rfl rfl rfl (List.getElem?_eq_getElem _)) ?_
  refine dp rfl (pop_load ty3 rfl rfl rfl) ?_
  refine dp rfl (pop_call ca107 rfl (WeakL.refl _) (c_benchmake_Below (by omega))) ?_
  refine dp rfl (pop_move rfl) ?_
  refine dp rfl (pop_move rfl) ?_
  refine dp rfl (pop_add rfl rfl) ?_
  refine dp rfl (pop_mul rfl rfl) ?_
  refine dp rfl (pop_add rfl rfl) ?_
  refine dp rfl (pop_move rfl) ?_
  refine dp rfl (pop_call ca107 rfl (WeakL.refl _) (c_benchmake_Below (by assumption))) ?_
  refine dp rfl (pop_assign rfl) ?_
  refine dn ?_
  refine hw_ret ?_
  refine ret_q rfl ?_
  obtain ⟨y, h1, h2⟩ := below_nat _ n
  exact ⟨y, congrArg _ h1, h2, rfl⟩

/-- (*benchwarmer/benchmake.Stream).Range -/
theorem c_benchmake_Stream_Range [Tracks] {b : Nat} {l : List Int} {a : Nat} {lo hi : Int} (ha : a ≤ 1000000) (hlh : lo ≤ hi) (h0 : -1000000000 ≤ lo) (h1 : hi ≤ 1000000000) : Con Tryz.prog 32 [pAt b, .int .i64 lo, .int .i64 hi] [St b l a] (fun x M' => ∃ y : Int, x = .int .i64 y ∧ (lo ≤ y ∧ y ≤ hi) ∧ M' = [St b l (a + 1)]) := by
 refine Con.of_body Tryz.func32 rfl Tryz.ntmps32 rfl rfl ?_
 refine hw_reg ?_
 refine dp rfl (pop_assign rfl) ?_
 refine dn ?_
 refine hw_seq ?_
 refine hw_reg ?_
 refine dp rfl (pop_move rfl) ?_
 refine dp rfl (pop_move rfl) ?_
 refine dp rfl (pop_lss rfl rfl) ?_
 refine dn ?_
 refine hw_cond rfl (fun h1 => ?_) (fun h1 => ?_)
 ·exfalso
  try simp at h1
  omega
 ·try simp at h1
  refine hw_skip ?_
  refine seqQ_n ?_
  refine hw_reg ?_
  refine dp rfl (pop_move rfl) ?_
  refine dp rfl (pop_move rfl) ?_
  refine dp rfl (pop_move rfl) ?_
  refine dp rfl (pop_move rfl) ?_
  refine dp rfl (pop_sub64 rfl rfl (by omega) (by omega)) ?_
  refine dp rfl (pop_add64 rfl rfl (by omega) (by omega)) ?_
  refine de rfl (eop_callx (i := 0) ca52 rfl (WeakL.refl _) rfl (c_benchmake_Stream_Next (by assumption) (by omega)) ?_)
  rintro _ _ ⟨y17, rfl, hy17, rfl⟩
  refine dp rfl (pop_add64 rfl rfl (by omega) (by omega)) ?_
  refine dp rfl (pop_assign rfl) ?_
  refine dn ?_
  refine hw_ret ?_
  exact ret_q rfl ⟨_, rfl, by omega, rfl⟩

/-- (*benchwarmer/benchmake.Stream).Flip -/
theorem c_benchmake_Stream_Flip [Tracks] {b : Nat} {l : List Int} {a : Nat} {n : Int} (ha : a ≤ 1000000) (hn : n ≤ 4000000000) : Con Tryz.prog 53 [pAt b, .int .i64 n] [St b l a] (fun x M' => ∃ y : Bool, x = .bool y ∧ M' = [St b l (a + 1)]) := by
 refine Con.of_body Tryz.func53 rfl Tryz.ntmps53 rfl rfl ?_
 refine hw_reg ?_
 refine dp rfl (pop_assign rfl) ?_
 refine dn ?_
 refine hw_reg ?_
 refine dp rfl (pop_move rfl) ?_
 refine dp rfl (pop_move rfl) ?_
 refine de rfl (eop_callx (i := 0) ca52 rfl (WeakL.refl _) rfl (c_benchmake_Stream_Next (by assumption) (by assumption)) ?_)
 rintro _ _ ⟨y7, rfl, hy7, rfl⟩
 refine dp rfl (pop_eql rfl rfl) ?_
 refine dp rfl (pop_assign rfl) ?_
 refine dn ?_
 refine hw_ret ?_
 exact ret_q rfl ⟨_, rfl, rfl⟩

/-- (*benchwarmer/benchmake.Stream).Pick -/
theorem c_benchmake_Stream_Pick [Tracks] {b : Nat} {l : List Int} {a : Nat} {L : List Int} (ha : a ≤ 1000000) (h0 : 0 < L.length) (h1 : L.length ≤ 1000000) : Con Tryz.prog 9 [pAt b, .slice 1 (L.map (.int .i64))] [St b l a] (fun x M' => ∃ y : Int, x = .int .i64 y ∧ y ∈ L ∧ M' = [St b l (a + 1)]) := by
 refine Con.of_body Tryz.func9 rfl Tryz.ntmps9 rfl rfl ?_
 refine hw_reg ?_
 refine dp rfl (pop_assign rfl) ?_
 refine dn ?_
 refine hw_reg ?_
 refine dp rfl (pop_move rfl) ?_
 refine dp rfl (pop_move rfl) ?_
 refine dp rfl (pop_move rfl) ?_
 refine dp rfl (pop_lenm ty22 rfl) ?_
 refine de rfl (eop_callx (i := 0) ca52 rfl (WeakL.refl _) rfl (c_benchmake_Stream_Next (by assumption) (by omega)) ?_)
 rintro _ _ ⟨y9, rfl, hy9, rfl⟩
 obtain ⟨z, hz, hm⟩ := getI hy9 h0
 refine dp rfl (pop_idx (j := y9) (a := z) ty22 ty3 rfl rfl rfl hz) ?_
 refine dp rfl (pop_load ty3 rfl rfl rfl) ?_
 refine dp rfl (pop_assign rfl) ?_
 refine dn ?_
 refine hw_ret ?_
 exact ret_q rfl ⟨_, rfl, hm, rfl⟩

/-- (*benchwarmer/benchmake.Stream).Some -/
theorem c_benchmake_Stream_Some [Tracks] {b : Nat} {l : List Int} {a : Nat} {L : List Str} (ha : a ≤ 1000000) (h0 : 0 < L.length) (h1 : L.length ≤ 1000000) : Con Tryz.prog 11 [pAt b, eSs L] [St b l a] (fun x M' => ∃ y : Str, x = .str y ∧ y ∈ L ∧ M' = [St b l (a + 1)]) := by
 refine Con.of_body Tryz.func11 rfl Tryz.ntmps11 rfl rfl ?_
 refine hw_reg ?_
 refine dp rfl (pop_assign rfl) ?_
 refine dn ?_
 refine hw_reg ?_
 refine dp rfl (pop_move rfl) ?_
 refine dp rfl (pop_move rfl) ?_
 refine dp rfl (pop_move rfl) ?_
 refine dp rfl (pop_lenm ty28 rfl) ?_
 refine de rfl (eop_callx (i := 0) ca52 rfl (WeakL.refl _) rfl (c_benchmake_Stream_Next (by assumption) (by omega)) ?_)
 rintro _ _ ⟨y9, rfl, hy9, rfl⟩
 obtain ⟨z, hz, hm⟩ := getS hy9 h0
 refine dp rfl (pop_idx (j := y9) (a := z) ty28 ty9 rfl rfl rfl hz) ?_
 refine dp rfl (pop_load ty9 rfl rfl rfl) ?_
 refine dp rfl (pop_assign rfl) ?_
 refine dn ?_
 refine hw_ret ?_
 exact ret_q rfl ⟨_, rfl, hm, rfl⟩

end Go.Proofs.YtihpgpbbpklbbaaGreatDoor
end
section
namespace Go.Proofs.YtihpgpbbpklbbaaGreatDoor
open Go.HL
set_option maxRecDepth 100000
set_option linter.unusedVariables false
set_option linter.unusedSimpArgs false
end Go.Proofs.YtihpgpbbpklbbaaGreatDoor
end
section
namespace Go.Proofs.YtihpgpbbpklbbaaGreatDoor
open Go.HL
set_option maxRecDepth 100000
set_option linter.unusedVariables false
set_option linter.unusedSimpArgs false

end Go.Proofs.YtihpgpbbpklbbaaGreatDoor
end
section
namespace Go.Proofs.YtihpgpbbpklbbaaGreatDoor
open Go.HL
set_option maxRecDepth 100000
set_option linter.unusedVariables false
set_option linter.unusedSimpArgs false

end Go.Proofs.YtihpgpbbpklbbaaGreatDoor
end
section
namespace Go.Proofs.YtihpgpbbpklbbaaGreatDoor
open Go.HL
set_option maxRecDepth 100000
set_option linter.unusedVariables false
set_option linter.unusedSimpArgs false

end Go.Proofs.YtihpgpbbpklbbaaGreatDoor
end
section
namespace Go.HL
end Go.HL
end
section
namespace Go.HL
open Op (bytesLess)
theorem pw_tri {α : Type} {R : α → α → Prop} : ∀ {l : List α}, l.Pairwise R → ∀ x ∈ l, ∀ y ∈ l, x = y ∨ R x y ∨ R y x
 | [], _, x, hx, _, _ => by simp at hx
 | a :: l, h, x, hx, y, hy => by
   obtain ⟨h1, h2⟩ := List.pairwise_cons.1 h
   rcases List.mem_cons.1 hx with e | hx' <;> rcases List.mem_cons.1 hy with e' | hy'
   ·exact .inl (e.trans e'.symm)
   ·exact .inr (.inl (e ▸ h1 y hy'))
   ·exact .inr (.inr (e' ▸ h1 x hx'))
   ·exact pw_tri h2 x hx' y hy'
/-! keeps that are right -/
def kLt (a b : Keep) : Prop := bytesLess a.Team b.Team = true ∨ (a.Team = b.Team ∧ a.Round < b.Round)
structure KeepsOk (r : Room) (k : List Keep) : Prop where
 all : ∀ x ∈ k, x.Team ∈ r.Teams ∧ x.Player ∈ r.Players ∧ 1 ≤ x.Round ∧ x.Round ≤ r.Rounds
 lt : k.Pairwise kLt
def fits (t : Turn) (x : Keep) : Bool := decide (x.Team = t.of ∧ x.Round = t.round)
theorem KeepsOk.one {r : Room} {k : List Keep} (h : KeepsOk r k) {t : Turn} {x y : Keep} (hx : x ∈ k) (hy : y ∈ k) (fx : fits t x = true) (fy : fits t y = true) : y = x := by
 simp [fits] at fx fy
 rcases pw_tri h.lt x hx y hy with e | e | e
 ·exact e.symm
 ·exfalso
  rcases e with e | ⟨e1, e2⟩
  ·rw [fx.1, fy.1, less_irrefl] at e; cases e
  ·omega
 ·exfalso
  rcases e with e | ⟨e1, e2⟩
  ·rw [fx.1, fy.1, less_irrefl] at e; cases e
  ·omega
def goneB (k : List Keep) (l : List Pick) (s : Str) : Bool := k.any (fun x => x.Player == s) || l.any (fun p => p.Player == s)
end Go.HL
end
section
namespace Go.HL
section
variable {r : Room} {k : List Keep} {fr l : List Pick} {p : Pick}
end
structure Wish where
 Team : Str
 Players : List Str
theorem goneB_snoc (k : List Keep) (l : List Pick) (p : Pick) (s : Str) : goneB k (l ++ [p]) s = (goneB k l s || p.Player == s) := by
 simp [goneB, Bool.or_assoc]
/-! what a run holds -/
structure RunOk (r : Room) (k : List Keep) (s : List Swap) (l : List Pick) (S : List Str) : Prop where
 gone : ∀ x ∈ r.Players, S.contains x = goneB k l x
theorem RunOk.add {r : Room} {k : List Keep} {s : List Swap} {l : List Pick} {S : List Str} (ok : RunOk r k s l S) (p : Pick) : RunOk r k s (l ++ [p]) (sadd p.Player S) :=
 ⟨fun x hx => by rw [goneB_snoc, sadd_contains, ok.gone x hx]⟩
end Go.HL
end
section
namespace Go.HL
section
variable {P : Program} {ops : Array Oper} {n : Nat} {S : List MObj → Prop} {ld : List Nat} {K : Env → List MObj → Prop} {e : Env} {M : List MObj} {listed : Array Bool} {fuel : Nat} {d : Nat} {op : Op} {ty : TypeId} {pos : String} {af : Array Edge} {h : HVal}
end
theorem some_int {k : IntKind} {a b : Int} (h : a = b) : some (HVal.int k a) = some (.int k b) := by rw [h]
section
variable {α : Type} {c : α → α → Int}
end
end Go.HL
namespace Go.HL
section
variable {α : Type} {p : α → Bool}
/-- What slices.DeleteFunc has done when it looks at place j. -/
structure DelInv (p : α → Bool) (l : List α) (j : Nat) (D : List α) : Prop where
 len : D.length = l.length
 jle : j ≤ l.length
 lt : ((l.take j).filter (fun x => !p x)).length < j
 kept : D.take ((l.take j).filter (fun x => !p x)).length = (l.take j).filter (fun x => !p x)
 rest : D.drop j = l.drop j
theorem DelInv.get {l D : List α} {j : Nat} {x : α} (h : DelInv p l j D) (hx : l[j]? = some x) : D[j]? = some x := by
 have h1 := congrArg (fun t => t[0]?) h.rest
 simp only [List.getElem?_drop, Nat.add_zero] at h1
 rw [h1]; exact hx
end
theorem slOff_or {cap off sz m n : Nat} (h1 : m ≤ n) (h2 : n ≤ cap) : n - m = 0 ∨ slOff cap off sz m = off + m * sz := by
 unfold slOff
 by_cases h : cap = m
 ·exact .inl (by omega)
 ·exact .inr (by rw [if_neg h])
end Go.HL
namespace Go.HL
end Go.HL
end
section
namespace Go.HL
section
variable {r : Room} {w : List Wish} {k : Nat} {x : Wish} {t : List Wish}
end
end Go.HL
end
section
namespace Go.Proofs.YtihpgpbbpklbbaaGreatDoor
open Go.HL
set_option maxRecDepth 100000
set_option linter.unusedVariables false
set_option linter.unusedSimpArgs false

end Go.Proofs.YtihpgpbbpklbbaaGreatDoor
end
section
namespace Go.Proofs.YtihpgpbbpklbbaaGreatDoor
open Go.HL
set_option maxRecDepth 100000
set_option linter.unusedVariables false
set_option linter.unusedSimpArgs false

end Go.Proofs.YtihpgpbbpklbbaaGreatDoor
end
section
namespace Go.Proofs.YtihpgpbbpklbbaaGreatDoor
open Go.HL
set_option maxRecDepth 100000
set_option linter.unusedVariables false
set_option linter.unusedSimpArgs false
end Go.Proofs.YtihpgpbbpklbbaaGreatDoor
end
section
namespace Go.Proofs.YtihpgpbbpklbbaaGreatDoor
open Go.HL
set_option maxRecDepth 100000
set_option linter.unusedVariables false
set_option linter.unusedSimpArgs false

end Go.Proofs.YtihpgpbbpklbbaaGreatDoor
end
section
namespace Go.Proofs.YtihpgpbbpklbbaaGreatDoor
open Go.HL
set_option maxRecDepth 100000
set_option linter.unusedVariables false
set_option linter.unusedSimpArgs false

end Go.Proofs.YtihpgpbbpklbbaaGreatDoor
end
section
namespace Go.Proofs.YtihpgpbbpklbbaaGreatDoor
open Go.HL
set_option maxRecDepth 100000
set_option linter.unusedVariables false
set_option linter.unusedSimpArgs false

end Go.Proofs.YtihpgpbbpklbbaaGreatDoor
end
section
namespace Go.Proofs.YtihpgpbbpklbbaaGreatDoor
open Go.HL
set_option maxRecDepth 100000
set_option linter.unusedVariables false
set_option linter.unusedSimpArgs false
set_option maxHeartbeats 2000000 in
/-- (*benchwarmer/benchmake.Stream).Order -/
theorem c_benchmake_Stream_Order [Tracks] {b : Nat} {l : List Int} {a : Nat} {n : Nat} (ha : a ≤ 800000) (hn1 : 1 ≤ n) (hn2 : n ≤ 1000) : Con Tryz.prog 54 [pAt b, .int .i64 (n : Int)] [St b l a] (fun x M' => ∃ (L : List Int) (a' : Nat), x = .slice 1 (L.map (.int .i64)) ∧ (L.length = n ∧ ∀ i ∈ L, (0 : Int) ≤ i ∧ i < n) ∧ a' ≤ a + n ∧ M' = [St b l a']) := by
 refine Con.of_body Tryz.func54 rfl Tryz.ntmps54 rfl rfl ?_
 refine hw_reg ?_
 refine dp rfl (pop_assign rfl) ?_
 refine dn ?_
 refine hw_reg ?_
 refine dp rfl (pop_assign rfl) ?_
 refine dn ?_
 refine hw_ghost (Ghost.arr_nil 1) ?_
 refine hw_seq ?_
 refine hw_reg ?_
 refine dp rfl (pop_move rfl) ?_
 refine dp rfl (pop_move rfl) ?_
 refine dn ?_
 refine hw_block ?_
 refine hw_loopw3 [5, 6, 10, 11, 12, 13, 14, 15, 16, 17] (fun (k : Nat) (u : Value) (L : List Int) => [(10, .int .i64 (k : Int)), (5, .raw u)]) (fun (k : Nat) (u : Value) (L : List Int) => [.arr u 1 (L.map (HVal.int .i64)), St b l a]) (fun (k : Nat) (u : Value) (L : List Int) => k ≤ n ∧ L.length = k ∧ ∀ i ∈ L, (0 : Int) ≤ i ∧ i < n) (fun (k : Nat) (u : Value) (L : List Int) => n - k) (0) (.slice none 0 0) ([]) ?_ ?_ ?_ ?_
 ·exact ⟨by omega, rfl, by simp⟩
 ·exact ⟨rfl, rfl, trivial⟩
 ·exact perm_eq rfl
 ·intro k u L hinv
  obtain ⟨hk, hL, hLb⟩ := hinv
  refine hw_reg ?_
  refine dp rfl (pop_lss rfl rfl) ?_
  refine dn ?_
  refine hw_seq ?_
  refine hw_cond rfl (fun h1 => ?_) (fun h2 => ?_)
  ·try simp at h1
   have hkn : k < n := by omega
   refine hw_skip ?_
   refine seqQ_n ?_
   refine hw_seq ?_
   refine hw_block ?_
   refine hw_reg ?_
   refine dp rfl (pop_move rfl) ?_
   refine dp rfl (pop_assign rfl) ?_
   refine dn ?_
   refine hw_reg1 ?_
   refine dp rfl (pop_move rfl) ?_
   refine dp rfl (pop_move rfl) ?_
   refine dp rfl (pop_buildSlice (hs := [_]) ty22 ty3 rfl rfl (by decide) (by decide) rfl) ?_
   refine de rfl (eop_append (i := 0) ty22 ty3 rfl rfl rfl rfl rfl (by simp [flat, hcells]) (by simp; omega) fun v16 => ?_)
   refine dp rfl (pop_assign rfl) ?_
   refine dn ?_
   refine blockQ_n ?_
   refine seqQ_n ?_
   refine hw_reg1 ?_
   refine dp rfl (pop_add64 rfl rfl (by omega) (by omega)) ?_
   refine dp rfl (pop_move rfl) ?_
   refine dn ?_
   exact ⟨k + 1, v16, L ++ [(k : Int)], ⟨by omega, by simp [hL], fun i hi => by rcases List.mem_append.1 hi with h | h; exact hLb i h; (simp at h; omega)⟩, by dsimp only; omega, ⟨rfl, rfl, trivial⟩, (by repeat (first | exact keeps_refl | refine keeps_upd rfl ?_ | refine keeps_loop rfl rfl ?_)), perm_eq (by simp)⟩
  ·try simp at h2
   obtain rfl : n = k := by omega
   refine hw_exit ?_
   refine seqQ_x ?_
   refine loopQ3_x ?_
   refine blockQ_eq ?_
   refine seqQ_n ?_
   refine hw_seq ?_
   refine hw_ghost (Ghost.perm (M' := [St b l a, .arr u 1 (L.map (.int .i64))]) (by repeat (first | exact List.Perm.nil | refine permTo 0 rfl ?_ | refine permTo 1 rfl ?_ | refine permTo 2 rfl ?_ | refine permTo 3 rfl ?_ | (refine permToE 0 rfl ?hq ?_; (case hq => simp [setL, hcells]; done)) | (refine permToE 1 rfl ?hq ?_; (case hq => simp [setL, hcells]; done)) | (refine permToE 2 rfl ?hq ?_; (case hq => simp [setL, hcells]; done)) | (refine permToE 3 rfl ?hq ?_; (case hq => simp [setL, hcells]; done)) | fail))) ?_
   refine hw_arrc (i := 1) rfl (fun h0 he => ?_) (fun ob off cap hv hcap => ?_)
   ·exfalso; have := congrArg List.length he; simp at this; subst this; simp at hL; omega
   rw [List.length_map, hL] at hv hcap
   subst hv
   refine hw_reg ?_
   refine dp rfl (pop_move rfl) ?_
   refine dp rfl (pop_sub64 rfl rfl (by omega) (by omega)) ?_
   refine dp rfl (pop_assign rfl) ?_
   refine dn ?_
   refine hw_block ?_
   refine hw_loopw3 [7, 8, 20, 21, 22, 23, 24, 25, 26, 27, 28, 29, 30, 31, 32, 33, 34, 35, 36, 37, 38, 39, 40, 41] (fun (m : Nat) (L : List Int) (a2 : Nat) => [(7, .int .i64 (m : Int))]) (fun (m : Nat) (L : List Int) (a2 : Nat) => [St b l a2, .arr (.slice (some ⟨ob, off, none⟩) n cap) 1 (L.map (HVal.int .i64))]) (fun (m : Nat) (L : List Int) (a2 : Nat) => m < n ∧ (L.length = n ∧ ∀ i ∈ L, (0 : Int) ≤ i ∧ i < n) ∧ a2 + m ≤ a + n) (fun (m : Nat) (L : List Int) (a2 : Nat) => m) (n - 1) (L) (a) ?_ ?_ ?_ ?_
   ·exact ⟨by omega, ⟨hL, hLb⟩, by omega⟩
   ·exact ⟨some_int (by omega), trivial⟩
   ·exact List.Perm.refl _
   ·intro m L a2 hinv
    obtain ⟨hm, ⟨hL, hLb⟩, ha2⟩ := hinv
    refine hw_seq ?_
    refine hw_reg ?_
    refine dp rfl (pop_move rfl) ?_
    refine dp rfl (pop_gtr rfl rfl) ?_
    refine dn ?_
    refine hw_cond rfl (fun h3 => ?_) (fun h4 => ?_)
    ·try simp at h3
     have hm0 : 0 < m := by omega
     refine hw_skip ?_
     refine seqQ_n ?_
     refine hw_seq ?_
     refine hw_block ?_
     refine hw_reg ?_
     refine dp rfl (pop_move rfl) ?_
     refine dp rfl (pop_move rfl) ?_
     refine dp rfl (pop_add64 rfl rfl (by omega) (by omega)) ?_
     refine de rfl (eop_callx (i := 0) ca52 rfl (WeakL.refl _) rfl (c_benchmake_Stream_Next (by omega) (by omega)) ?_)
     rintro _ _ ⟨y27, rfl, hy27, rfl⟩
     refine dp rfl (pop_assign rfl) ?_
     refine dn ?_
     obtain ⟨z1, hz1⟩ : ∃ z, L[y27]? = some z := ⟨_, List.getElem?_eq_getElem (by omega)⟩
     obtain ⟨z2, hz2⟩ : ∃ z, L[m]? = some z := ⟨_, List.getElem?_eq_getElem (by omega)⟩
     obtain ⟨z3, hz3⟩ : ∃ z, (L.set m z1)[y27]? = some z := ⟨_, List.getElem?_eq_getElem (by simp; omega)⟩
     refine hw_draw1 (fun M => ∃ i : Nat, M[i]? = some (.arr (.slice (some ⟨ob, off, none⟩) n cap) 1 (L.map (HVal.int .i64)))) [7, 11] mixed ?_
     refine ahp 0 rfl rfl (by kernel_rfl) (by kernel_rfl) (pop_move rfl) ?_
     refine ahp 1 rfl rfl (by kernel_rfl) (by kernel_rfl) (pop_move rfl) ?_
     refine ahp 2 rfl rfl (by kernel_rfl) (by kernel_rfl) (pop_move rfl) ?_
     refine ahp 3 rfl rfl (by kernel_rfl) (by kernel_rfl) (pop_move rfl) ?_
     refine ahp 4 rfl rfl (by kernel_rfl) (by kernel_rfl) (pop_move rfl) ?_
     refine ahp 5 rfl rfl (by kernel_rfl) (by kernel_rfl) (pop_move rfl) ?_
     refine ahp 6 rfl rfl (by kernel_rfl) (by kernel_rfl) (pop_idxraw (j := y27) ty22 ty3 rfl rfl rfl (by omega)) ?_
     refine ahl 7 rfl rfl (by kernel_rfl) (by kernel_rfl) (by simp) (⟨1, rfl⟩) (fun M hM => by obtain ⟨i, hi⟩ := hM; exact eop_load_el (i := i) (j := y27) 0 ty3 rfl (by omega) hi hz1 rfl rfl ⟨rfl, rfl⟩) ?_
     refine ahp 8 rfl rfl (by kernel_rfl) (by kernel_rfl) (pop_move rfl) ?_
     refine ahp 9 rfl rfl (by kernel_rfl) (by kernel_rfl) (pop_move rfl) ?_
     refine ahp 10 rfl rfl (by kernel_rfl) (by kernel_rfl) (pop_idxraw (j := m) ty22 ty3 rfl rfl rfl (by omega)) ?_
     refine ahl 11 rfl rfl (by kernel_rfl) (by kernel_rfl) (by simp) (⟨1, rfl⟩) (fun M hM => by obtain ⟨i, hi⟩ := hM; exact eop_load_el (i := i) (j := m) 0 ty3 rfl (by omega) hi hz2 rfl rfl ⟨rfl, rfl⟩) ?_
     refine ahp 12 rfl rfl (by kernel_rfl) (by kernel_rfl) (pop_idxraw (j := m) ty22 ty3 rfl rfl rfl (by omega)) ?_
     refine ahe 13 rfl (by kernel_rfl) ?_
     refine hop_e0 (eop_store_elw (i := 1) (f := HVal.int .i64) (es := L) (j := m) (y := z2) (y' := z1) ty3 rfl rfl rfl rfl hz2 rfl rfl rfl ?_)
     refine ⟨fun _ => .inr (by simp [Before, Region.binds]), ?_⟩
     refine ahp 14 rfl rfl (by kernel_rfl) (by kernel_rfl) (pop_idxraw (j := y27) ty22 ty3 rfl rfl rfl (by omega)) ?_
     refine ahe 15 rfl (by kernel_rfl) ?_
     refine hop_e0 (eop_store_elw (i := 1) (f := HVal.int .i64) (es := L.set m z1) (j := y27) (y := z3) (y' := z2) ty3 rfl rfl rfl rfl hz3 rfl rfl rfl ?_)
     refine ⟨fun _ => .inr (by simp [Before, Region.binds]), ?_⟩
     refine ahz (by kernel_rfl) ?_
     refine blockQ_n ?_
     refine seqQ_n ?_
     refine hw_reg1 ?_
     refine dp rfl (pop_move rfl) ?_
     refine dp rfl (pop_sub64 rfl rfl (by omega) (by omega)) ?_
     refine dp rfl (pop_assign rfl) ?_
     refine dn ?_
     exact ⟨m - 1, (L.set m z1).set y27 z2, a2 + 1, ⟨by omega, ⟨by simp [hL], all_set (P := fun i : Int => 0 ≤ i ∧ i < n) (all_set (P := fun i : Int => 0 ≤ i ∧ i < n) hLb (hLb z1 (List.mem_of_getElem? hz1))) (hLb z2 (List.mem_of_getElem? hz2))⟩, by omega⟩, by dsimp only; omega, ⟨some_int (by omega), trivial⟩, (by repeat (first | exact keeps_refl | refine keeps_upd rfl ?_ | refine keeps_loop rfl rfl ?_)), perm_eq (by simp [List.map_set])⟩
    ·try simp at h4
     refine hw_exit ?_
     refine seqQ_x ?_
     refine loopQ3_x ?_
     refine blockQ_eq ?_
     refine seqQ_n ?_
     refine hw_reg ?_
     refine dp rfl (pop_move rfl) ?_
     refine dp rfl (pop_assign rfl) ?_
     refine dn ?_
     refine hw_ret ?_
     refine ret_g (Ghost.fa 4 (i := 1) rfl rfl) rfl ⟨L, a2, rfl, ⟨hL, hLb⟩, by omega, rfl⟩
end Go.Proofs.YtihpgpbbpklbbaaGreatDoor
end
section
namespace Go.Proofs.YtihpgpbbpklbbaaGreatDoor
open Go.HL
set_option maxRecDepth 100000
set_option linter.unusedVariables false
set_option linter.unusedSimpArgs false

end Go.Proofs.YtihpgpbbpklbbaaGreatDoor
end
section
namespace Go.HL
section
variable {κ : Type}
/-- A value that is a map, or none. -/
abbrev fM (o : Option Nat) : HVal := .raw (.map o)
/-- The inner maps by the outer key: block and entries. -/
abbrev GrM (κ : Type) := List (Str × (Nat × List (κ × Int)))
def outerL (G : GrM κ) : List (Str × Option Nat) := G.map fun p => (p.1, some p.2.1)
def grm (ek : κ → HVal) (G : GrM κ) : List MObj := G.map fun p => .map p.2.1 (kk ek (em (HVal.int .i64) p.2.2))
theorem outer_get {s : Str} : ∀ {G : GrM κ}, alk s (outerL G) = (alk s G).map fun q => some q.1
 | [] => rfl
 | p :: r => by
   have ih := outer_get (s := s) (G := r)
   simp only [outerL, List.map_cons, alk] at ih ⊢
   by_cases h : s = p.1
   ·rw [if_pos h, if_pos h]; rfl
   ·rw [if_neg h, if_neg h]; exact ih
theorem outer_put {s : Str} {b : Nat} {L : List (κ × Int)} : ∀ {G : GrM κ}, aput s (some b) (outerL G) = outerL (aput s (b, L) G)
 | [] => rfl
 | p :: r => by
   have ih := outer_put (s := s) (b := b) (L := L) (G := r)
   simp only [outerL, List.map_cons, aput] at ih ⊢
   by_cases h : s = p.1
   ·rw [if_pos h, if_pos h]; rfl
   ·rw [if_neg h, if_neg h, List.map_cons, ih]
/-- Where the block stays the outer map stays. -/
theorem outer_same {s : Str} {b : Nat} {L L' : List (κ × Int)} : ∀ {G : GrM κ}, alk s G = some (b, L) → outerL (aput s (b, L') G) = outerL G
 | [], h => by simp [alk] at h
 | p :: r, h => by
   simp only [alk] at h
   by_cases hs : s = p.1
   ·rw [if_pos hs] at h
    simp only [Option.some.injEq] at h
    simp only [aput, if_pos hs, outerL, List.map_cons]
    rw [h, hs]
   ·rw [if_neg hs] at h
    have ih := outer_same (L' := L') h
    simp only [aput, if_neg hs, outerL, List.map_cons] at ih ⊢
    rw [ih]
theorem aput_filter {α : Type} {s : Str} {v : α} : ∀ {G : List (Str × α)}, ANodup G → (aput s v G).Perm ((s, v) :: G.filter fun q => decide (q.1 ≠ s))
 | [], _ => by simp [aput]
 | p :: r, hn => by
   have h1 := List.nodup_cons.1 hn
   simp only [aput]
   by_cases hs : s = p.1
   ·rw [if_pos hs]
    have h2 : alk s r = none := by rw [alk_none, hs]; exact h1.1
    rw [List.filter_cons, if_neg (by simp [hs]), filter_ne_none h2]
   ·rw [if_neg hs, List.filter_cons, if_pos (by simp; exact fun e => hs e.symm)]
    exact (List.Perm.cons p (aput_filter h1.2)).trans (List.Perm.swap _ _ _)
/-- One inner map is taken to the head. -/
theorem grm_take {ek : κ → HVal} {A : List MObj} {G : GrM κ} {s : Str} {b : Nat} {L : List (κ × Int)} (hn : ANodup G) (hq : alk s G = some (b, L)) : (A ++ grm ek G).Perm (.map b (kk ek (em (HVal.int .i64) L)) :: (A ++ grm ek (G.filter fun q => decide (q.1 ≠ s)))) := by
 have h := ((filter_ne_perm hn hq).map fun p => MObj.map p.2.1 (kk ek (em (HVal.int .i64) p.2.2))).append_left A
 refine h.trans ?_
 simp only [List.map_cons, grm]
 exact List.perm_middle
/-- And put back, with other entries; or a new one is put. -/
theorem grm_put {ek : κ → HVal} {A : List MObj} {G : GrM κ} {s : Str} {b : Nat} {L : List (κ × Int)} (hn : ANodup G) : (.map b (kk ek (em (HVal.int .i64) L)) :: (A ++ grm ek (G.filter fun q => decide (q.1 ≠ s)))).Perm (A ++ grm ek (aput s (b, L) G)) := by
 have h := ((aput_filter (s := s) (v := (b, L)) hn).map fun p => MObj.map p.2.1 (kk ek (em (HVal.int .i64) p.2.2))).append_left A
 refine List.Perm.symm (h.trans ?_)
 simp only [List.map_cons, grm]
 exact List.perm_middle
theorem grm_new {ek : κ → HVal} {A : List MObj} {G : GrM κ} {s : Str} {b : Nat} {L : List (κ × Int)} (hn : ANodup G) (hq : alk s G = none) : (.map b (kk ek (em (HVal.int .i64) L)) :: (A ++ grm ek G)).Perm (A ++ grm ek (aput s (b, L) G)) := by
 have h := grm_put (ek := ek) (A := A) (s := s) (b := b) (L := L) hn
 rw [filter_ne_none hq] at h
 exact h
end
end Go.HL
end
section
namespace Go.HL
section
variable {P : Program} {e : Env} {dst : Option Tmp} {ty : TypeId} {pos : String} {af : Array Edge} {g : Option (Nat × Bool)} {M : List MObj} {K : HVal → List MObj → Prop}
theorem run_equal_mapnil {t k el : TypeId} (hu : P.underlying t = some (.map k el)) (a : Option Nat) (w : World) : (Op.equal t (.map a) (.map none)).run P w = .ok a.isNone w := by
 have h : ∀ d, (Op.equalIn (d + 1) t (.map a) (.map none)).run P w = .ok a.isNone w := fun d => by
  cases a <;> simp only [Op.equalIn, Sem.run_bind, run_underlying hu, Result.andThen_ok, Sem.run_pure, Option.isNone]
 exact h 9999
theorem pop_eqnilM [Tracks] {x y : Operand} {t t' k el : TypeId} {size bytes : Nat} {zero : Value} {o : Option Nat} (hf : Fits P t (.map k el) size bytes zero) (hx : evalO e x = some (.raw (.map o))) (hy : evalO e y = some (.raw (.map none))) :
 POp P e ⟨dst, .binOp .eql t x y t', ty, pos, af, g⟩ (.bool o.isNone) :=
 POp.of_val fun I a w ho => by
  have h1 := (ho.one (x := x) (by simp [Op.operands]) hx).raw_inv
  have h2 := (ho.one (x := y) (by simp [Op.operands]) hy).raw_inv
  refine ⟨_, ?_, .bool _⟩
  simp [execOp, h1, h2, eqGuard, binOp, run_equal_mapnil hf.mapD]
/-! arrays of two scalars -/
theorem run_equal_arr2 [Tracks] {t el : TypeId} {d : TD} {s1 b1 b2 : Nat} {z1 z2 : Value} (hf : Fits P t (.arr 2 el) s1 b1 z1) (hel : Fits P el d 1 b2 z2) {I : Imm} {xs ys : Array Value} {a b a' b' : HVal} (hx : VL I [a, b] xs.toList) (hy : VL I [a', b'] ys.toList)
 (k1 : sameKind d a a' = true) (k2 : sameKind d b b' = true) (w : World) : (Op.equal t (.agg xs) (.agg ys)).run P w = .ok (eqHL [a, b] [a', b']) w := by
 obtain ⟨u, hu, hu'⟩ := hx.get (j := 0) rfl
 obtain ⟨v, hv, hv'⟩ := hx.get (j := 1) rfl
 obtain ⟨u2, hu2, hu2'⟩ := hy.get (j := 0) rfl
 obtain ⟨v2, hv2, hv2'⟩ := hy.get (j := 1) rfl
 have h : ∀ n, (Op.equalIn (n + 2) t (.agg xs) (.agg ys)).run P w = .ok (eqHL [a, b] [a', b']) w := fun n => by
  have hag := sameKind_agg k1
  have p1 := run_part hel hag (cs := xs) (o := 0) (by simpa using hu) w
  have p2 := run_part hel hag (cs := ys) (o := 0) (by simpa using hu2) w
  have p3 := run_part hel hag (cs := xs) (o := 1) (by simpa using hv) w
  have p4 := run_part hel hag (cs := ys) (o := 1) (by simpa using hv2) w
  have q1 := run_equal_scalar hel k1 hu' hu2' n w
  have q2 := run_equal_scalar hel k2 hv' hv2' n w
  rw [Op.equalIn]
  simp only [Sem.run_bind, run_underlying hf.arrD, Result.andThen_ok, hel.run_sizeOf]
  simp only [Std.Legacy.Range.forIn_eq_forIn_range', Std.Legacy.Range.size, Nat.sub_zero, Nat.add_one_sub_one, Nat.div_one, List.range', List.forIn_cons, List.forIn_nil, Nat.zero_mul, Nat.one_mul, Nat.zero_add, Nat.mul_one, Sem.run_bind, Result.andThen_ok, p1, p2, q1]
  cases h1 : eqH a a' with
  | false => simp [eqHL, h1]
  | true =>
    simp [p3, p4, q2]
    cases h2 : eqH b b' with
    | false => simp [eqHL, h1, h2]
    | true => simp [eqHL, h1, h2]
 exact h 9998
theorem pop_eqarr2 [Tracks] {x y : Operand} {t t' el : TypeId} {d : TD} {s1 b1 b2 : Nat} {z1 z2 : Value} {a b a' b' : HVal} (hf : Fits P t (.arr 2 el) s1 b1 z1) (hel : Fits P el d 1 b2 z2) (hg : P.eqGuardType P.depth t = false) (hx : evalO e x = some (.agg [a, b])) (hy : evalO e y = some (.agg [a', b']))
 (k1 : sameKind d a a' = true) (k2 : sameKind d b b' = true) : POp P e ⟨dst, .binOp .eql t x y t', ty, pos, af, g⟩ (.bool (eqHL [a, b] [a', b'])) :=
 POp.of_val fun I ac w ho => by
  obtain ⟨xs, h1, h2⟩ := (ho.one (x := x) (by simp [Op.operands]) hx).agg_inv
  obtain ⟨ys, h3, h4⟩ := (ho.one (x := y) (by simp [Op.operands]) hy).agg_inv
  refine ⟨_, ?_, .bool _⟩
  simp only [execOp, h1, h3, Sem.run_bind, run_eqGuard_agg w _ t x y xs ys hg, Result.andThen_ok, binOp, run_equal_arr2 hf hel h2 h4 k1 k2, Sem.run_pure]
theorem pop_neqarr2 [Tracks] {x y : Operand} {t t' el : TypeId} {d : TD} {s1 b1 b2 : Nat} {z1 z2 : Value} {a b a' b' : HVal} (hf : Fits P t (.arr 2 el) s1 b1 z1) (hel : Fits P el d 1 b2 z2) (hg : P.eqGuardType P.depth t = false) (hx : evalO e x = some (.agg [a, b])) (hy : evalO e y = some (.agg [a', b']))
 (k1 : sameKind d a a' = true) (k2 : sameKind d b b' = true) : POp P e ⟨dst, .binOp .neq t x y t', ty, pos, af, g⟩ (.bool (!(eqHL [a, b] [a', b']))) :=
 POp.of_val fun I ac w ho => by
  obtain ⟨xs, h1, h2⟩ := (ho.one (x := x) (by simp [Op.operands]) hx).agg_inv
  obtain ⟨ys, h3, h4⟩ := (ho.one (x := y) (by simp [Op.operands]) hy).agg_inv
  refine ⟨_, ?_, .bool _⟩
  simp only [execOp, h1, h3, Sem.run_bind, run_eqGuard_agg w _ t x y xs ys hg, Result.andThen_ok, binOp, run_equal_arr2 hf hel h2 h4 k1 k2, Sem.run_pure]
theorem scal_bits {I : Imm} {cs : List HVal} (hs : scal cs = true) {u v : Value} (hu : V I (.agg cs) u) (hv : V I (.agg cs) v) : Instr.sameBits 10000 u v = true := by
 haveI : Tracks := ⟨true⟩
 obtain ⟨xs, rfl, hx⟩ := hu.agg_inv
 obtain ⟨ys, rfl, hy⟩ := hv.agg_inv
 obtain ⟨e1, e2⟩ := scal_same hs hx hy
 have e3 : xs = ys := by have := congrArg List.toArray e1; simpa using this
 subst e3
 show Instr.sameBits (9999 + 1) _ _ = true
 simp only [Instr.sameBits, beq_self_eq_true, Bool.true_and, List.all_eq_true]
 intro p hp
 have h9 : ∀ (l : List Value) (p : Value × Value), p ∈ l.zip l → p.1 ∈ l ∧ p.1 = p.2 := fun l => by
  induction l with
  | nil => intro p hp; simp at hp
  | cons a l ih =>
    intro p hp
    simp only [List.zip_cons_cons, List.mem_cons] at hp
    rcases hp with rfl | hp
    ·exact ⟨by simp, rfl⟩
    ·exact ⟨by simp [(ih p hp).1], (ih p hp).2⟩
 obtain ⟨q1, q2⟩ := h9 _ p hp
 obtain ⟨u, v⟩ := p
 simp only at q1 q2
 subst q2
 exact e2 u q1 9999
theorem keyOk_arr2 {κ : Type} [DecidableEq κ] {kt el : TypeId} {d : TD} {s1 b1 b2 : Nat} {z1 z2 : Value} {p q : κ → HVal} (hf : Fits P kt (.arr 2 el) s1 b1 z1) (hel : Fits P el d 1 b2 z2) (hp : ∀ x y, sameKind d (p x) (p y) = true) (hq : ∀ x y, sameKind d (q x) (q y) = true)
 (he : ∀ x y, eqHL [p x, q x] [p y, q y] = decide (x = y)) (hs : ∀ x, scal [p x, q x] = true) : KeyOk P kt (fun x => .agg [p x, q x]) := by
 haveI : Tracks := ⟨true⟩
 refine ⟨fun I x v b w hv => ?_, fun I x y u v w hu hv => ?_, by rw [hf.arrD], fun I x u v hu hv => scal_bits (hs x) hu hv⟩
 ·obtain ⟨xs, rfl, hx⟩ := hv.agg_inv
  obtain ⟨u, hu, hu'⟩ := hx.get (j := 0) rfl
  obtain ⟨v, hv, hv'⟩ := hx.get (j := 1) rfl
  have p1 := run_part hel (sameKind_agg (hp x x)) (cs := xs) (o := 0) (by simpa using hu) w
  have p3 := run_part hel (sameKind_agg (hp x x)) (cs := xs) (o := 1) (by simpa using hv) w
  have c1 := run_check_scalar hel (hp x x) hu' b 9998 w
  have c2 := run_check_scalar hel (hq x x) hv' b 9998 w
  rw [show (10000 : Nat) = 9999 + 1 from rfl, Instr.checkKey]
  simp only [Sem.run_bind, run_underlying hf.arrD, Result.andThen_ok]
  simp only [Std.Legacy.Range.forIn_eq_forIn_range', Std.Legacy.Range.size, Nat.sub_zero, Nat.add_one_sub_one, Nat.div_one, List.range', List.forIn_cons, List.forIn_nil, Nat.zero_mul, Nat.one_mul, Nat.zero_add, Nat.mul_one, Sem.run_bind, Result.andThen_ok, hel.run_sizeOf, p1, p3]
  simp [c1, c2, p1, p3, hel.run_sizeOf]
 ·obtain ⟨xs, rfl, hx⟩ := hu.agg_inv
  obtain ⟨ys, rfl, hy⟩ := hv.agg_inv
  rw [run_equal_arr2 hf hel hx hy (hp x y) (hq x y) w, he]
end
end Go.HL
end
section
namespace Go.HL
variable {P : Program}
open Go.Sort Go.Proofs
theorem holds_rowI [Tracks] {I : Imm} {F : List MObj} {w : World} {b off n cap : Nat} {l : List Int} (h : Sat P I (.arr (.slice (some ⟨b, off, none⟩) n cap) 1 (l.map (.int .i64)) :: F) w) :
 Holds (Value.int .i64) w b off l.toArray ∧ b < w.heap.size ∧ l.length ≤ cap ∧ n = l.length := by
 obtain ⟨h0, rc, el, fr, h2, h3, h4, h5, h6, h7⟩ := arr_some h
 simp only [List.length_map] at h0 h5
 refine ⟨fun j hj => ?_, ?_, h5.1, h0⟩
 ·have hj' : j < l.length := by simpa using hj
  have hlt : off + j < rc.size := by omega
  constructor
  ·rw [cell_of h2, Array.getElem?_eq_getElem hlt]
   have hv := h7 j 0 (.int .i64 l[j]) (.int .i64 l[j]) rc[off + j] (by simp [hj']) (by simp [hcells]) (by simp [Array.getElem?_eq_getElem hlt])
   rw [hv.int_inv]
   simp [hj']
  ·simp only [World.frozen?, h2]
   have := h3 (off + j) hlt
   simpa using this
 ·rcases Nat.lt_or_ge b w.heap.size with h' | h'
  ·exact h'
  ·simp [Array.getElem?_eq_none h'] at h2
theorem sat_rowI [Tracks] {I : Imm} {F : List MObj} {w : World} {b off n cap n' k : Nat} {os : Array Obj} {l zs : List Int} (h : Sat P I (.arr (.slice (some ⟨b, off, none⟩) n cap) 1 (l.map (.int .i64)) :: F) w) (hz : zs.length = l.length) (hn : n' ≤ l.length) :
 Sat P I (.arr (.slice (some ⟨b, off, none⟩) n' cap) 1 ((zs.take n').map (.int .i64)) :: F) (grow (putRow (Value.int .i64) (Sort.ahead w k) b off zs.toArray) os) := by
 obtain ⟨h0, rc, el, fr, h2, h3, h4, h5, h6, h7⟩ := arr_some h
 simp only [List.length_map] at h0 h5
 have hlt : b < w.heap.size := by
  rcases Nat.lt_or_ge b w.heap.size with h' | h'
  ·exact h'
  ·simp [Array.getElem?_eq_none h'] at h2
 have hheap : ∀ c, c < w.heap.size → (grow (putRow (Value.int .i64) (Sort.ahead w k) b off zs.toArray) os).heap[c]? = (w.heap.modify b (onCells (putCells (Value.int .i64) off zs.toArray)))[c]? := fun c hc => by
  simp only [grow, putRow, mapBlock, Sort.ahead]
  rw [Array.getElem?_append_left (by simpa using hc)]
 refine h.change (m' := .arr (.slice (some ⟨b, off, none⟩) n' cap) 1 ((zs.take n').map (.int .i64))) (fun c hc hnc => ?_) (fun c hc => .inl hc) (by simp [MObj.blocks]) ?_ rfl rfl rfl
 ·rw [hheap c hc, Array.getElem?_modify]
  have : b ≠ c := fun hh => hnc (by subst hh; simp [MObj.blocks])
  rw [if_neg this]
 ·refine .inr ⟨b, off, cap, putCells (Value.int .i64) off zs.toArray rc, el, fr, ?_, ?_, ?_, ?_, ?_, ?_, ?_⟩
  ·simp [hz, Nat.min_eq_left hn]
  ·rw [hheap b hlt, Array.getElem?_modify, if_pos rfl, h2]; rfl
  ·simpa [putCells] using h3
  ·intro e he; obtain ⟨a, _, rfl⟩ := List.mem_map.1 he; simp [hcells]
  ·simp; omega
  ·simpa [putCells] using h6
  ·intro i j e c v a1 a2 a3
   have hi : i < n' := by
    have := lt_of_get a1; simp at this; omega
   rw [List.getElem?_map, List.getElem?_take_of_lt hi] at a1
   cases hq : zs[i]? with
   | none => rw [hq] at a1; simp at a1
   | some s =>
     rw [hq] at a1; simp at a1; subst a1
     have hj : j = 0 := by have := lt_of_get a2; simp [hcells] at this; omega
     subst hj
     simp [hcells] at a2; subst a2
     have hil : i < zs.length := lt_of_get hq
     have hr : off + i * 1 + 0 < rc.size := by omega
     rw [putCells, Array.getElem?_mapIdx, Array.getElem?_eq_getElem hr, Option.map_some, if_pos ⟨by omega, by simp; omega⟩] at a3
     have e1 : off + i * 1 + 0 - off = i := by omega
     rw [e1] at a3
     have e2 : zs.toArray[i]! = s := by
      rw [getElem!_pos zs.toArray i (by simpa using hil)]
      have := List.getElem?_eq_getElem hil
      rw [hq] at this; simpa using (Option.some.inj this).symm
     rw [e2] at a3
     cases a3
     exact .int _ s

/-- A function that works on a slice of numbers in place and hands on nothing. -/
theorem con_rowI [Tracks] {P : Program} {f : FuncId} {l zs : List Int} {v : Value} (hz : zs.length = l.length)
 (h1 : ∀ (b off cap : Nat) (w : World), Holds (Value.int .i64) w b off l.toArray → b < w.heap.size → l.length ≤ cap → Calls P f #[.slice (some ⟨b, off, none⟩) l.length cap] w fun e w' => e = .returned (.tuple #[]) ∧ ∃ n os, w' = grow (putRow (Value.int .i64) (Sort.ahead w n) b off zs.toArray) os)
 (h0 : l = [] → ConP P f [.slice 1 []] (.tup [])) : Con P f [.raw v] [.arr v 1 (l.map (.int .i64))] fun x M' => x = .tup [] ∧ M' = [.arr v 1 (zs.map (.int .i64))] := by
 intro I F w args ha hs
 obtain ⟨u, rfl, hu⟩ := ha.one
 obtain rfl : u = v := hu.raw_inv
 rcases hs.obj (.arr u 1 (l.map (.int .i64))) (by simp) with ⟨rfl, hn⟩ | ⟨b, off, cap, rc, el, fr, rfl, _⟩
 ·have hl : l = [] := by simpa using hn
  subst hl
  have hz0 : zs = [] := List.length_eq_zero_iff.1 hz
  subst hz0
  refine (h0 rfl I (.arr (.slice none 0 0) 1 [] :: F) w [.slice none 0 0] (VL.cons (.slice0 _ _ _) VL.nil) (by simpa using hs)).mono ?_
  rintro _ w' ⟨v, h, M', J, rfl, hle, ⟨rfl, rfl⟩, hv, hsat⟩
  exact ⟨v, _, [.arr (.slice none 0 0) 1 []], J, rfl, hle, ⟨rfl, rfl⟩, hv, by simpa using hsat⟩
 ·rw [List.length_map] at hs ⊢
  obtain ⟨g1, g2, g3, g4⟩ := holds_rowI hs
  refine (h1 b off cap w g1 g2 g3).mono ?_
  rintro _ w' ⟨rfl, n, os, rfl⟩
  refine ⟨_, .tup [], _, I, rfl, .refl I, ⟨rfl, rfl⟩, .tup (by simp) (fun j c v h _ => by simp at h), ?_⟩
  have := sat_rowI (n' := l.length) (k := n) (os := os) hs hz (Nat.le_refl _)
  rw [← hz, List.take_length, hz] at this
  exact this
/-- The same, where the slice comes back, cut. -/
theorem con_rowcI [Tracks] {P : Program} {f : FuncId} {l zs : List Int} {v : Value} (hz : zs.length ≤ l.length)
 (h1 : ∀ (b off cap : Nat) (w : World), Holds (Value.int .i64) w b off l.toArray → b < w.heap.size → l.length ≤ cap → Calls P f #[.slice (some ⟨b, off, none⟩) l.length cap] w fun e w' => e = .returned (.slice (some ⟨b, off, none⟩) zs.length cap) ∧ ∃ n, w' = putRow (Value.int .i64) (Sort.ahead w n) b off (zs ++ List.replicate (l.length - zs.length) 0).toArray)
 (h0 : l = [] → ∀ w, Calls P f #[.slice none 0 0] w fun e w' => e = .returned (.slice none 0 0) ∧ w' = w) : Con P f [.raw v] [.arr v 1 (l.map (.int .i64))] fun x M' => ∃ u, x = .raw u ∧ M' = [.arr u 1 (zs.map (.int .i64))] := by
 intro I F w args ha hs
 obtain ⟨u, rfl, hu⟩ := ha.one
 obtain rfl : u = v := hu.raw_inv
 rcases hs.obj (.arr u 1 (l.map (.int .i64))) (by simp) with ⟨rfl, hn⟩ | ⟨b, off, cap, rc, el, fr, rfl, _⟩
 ·have hl : l = [] := by simpa using hn
  subst hl
  have hz0 : zs = [] := List.length_eq_zero_iff.1 (by simpa using hz)
  subst hz0
  refine (h0 rfl w).mono ?_
  rintro _ w' ⟨rfl, rfl⟩
  exact ⟨_, .raw (.slice none 0 0), _, I, rfl, .refl I, ⟨_, rfl, rfl⟩, .raw _ rfl, hs⟩
 ·rw [List.length_map] at hs ⊢
  obtain ⟨g1, g2, g3, g4⟩ := holds_rowI hs
  refine (h1 b off cap w g1 g2 g3).mono ?_
  rintro _ w' ⟨rfl, n, rfl⟩
  refine ⟨_, .raw (.slice (some ⟨b, off, none⟩) zs.length cap), _, I, rfl, .refl I, ⟨_, rfl, rfl⟩, .raw _ rfl, ?_⟩
  have := sat_rowI (zs := zs ++ List.replicate (l.length - zs.length) 0) (n' := zs.length) (k := n) (os := #[]) hs (by simp; omega) hz
  rw [List.take_left' rfl, grow_empty] at this
  exact this
theorem mem_compactI {l : List Int} {z : Int} : z ∈ Lib.compact l ↔ z ∈ l := by
 unfold Lib.compact Lib.compactUpTo
 rw [List.mem_map]
 have hget : ∀ j, (hj : j < l.length) → l.toArray[j]! = l[j] := fun j hj => by rw [getElem!_pos l.toArray j (by simpa using hj)]; simp
 constructor
 ·rintro ⟨j, hj, rfl⟩
  have hlt := List.mem_range.1 (List.mem_filter.1 hj).1
  rw [hget j hlt]; exact List.getElem_mem _
 ·intro hz
  obtain ⟨j, hj⟩ := List.getElem?_of_mem hz
  induction j with
  | zero =>
    have h0 := lt_of_get hj
    refine ⟨0, List.mem_filter.2 ⟨List.mem_range.2 h0, by simp [Lib.keeps]⟩, ?_⟩
    rw [hget 0 h0]
    rw [List.getElem?_eq_getElem h0] at hj
    exact Option.some.inj hj
  | succ j ih =>
    have h1 := lt_of_get hj
    have e1 : l[j + 1] = z := by
     rw [List.getElem?_eq_getElem h1] at hj
     exact Option.some.inj hj
    by_cases h : l[j]? = some z
    ·exact ih h
    ·refine ⟨j + 1, List.mem_filter.2 ⟨List.mem_range.2 h1, ?_⟩, ?_⟩
     ·unfold Lib.keeps
      rw [decide_eq_true_eq]
      right
      rw [hget _ h1, Nat.add_sub_cancel, hget j (by omega), e1]
      intro e
      apply h
      rw [List.getElem?_eq_getElem (by omega), ← e]
     ·rw [hget _ h1, e1]
def sortI (l : List Int) : List Int := l.mergeSort fun x y => decide (x ≤ y)
theorem sortI_len (l : List Int) : (sortI l).length = l.length := by simp [sortI]
theorem mem_sortI {l : List Int} {z : Int} : z ∈ sortI l ↔ z ∈ l := (List.mergeSort_perm _ _).mem_iff
theorem compactI_le (l : List Int) : (Lib.compact l).length ≤ l.length := by
 unfold Lib.compact Lib.compactUpTo
 rw [List.length_map]
 exact Nat.le_trans (List.length_filter_le _ _) (by simp)
end Go.HL
end
section
namespace Go.HL
def goalS : Str := [103, 111, 97, 108]
def play1 : Play := ⟨[115], 1, 0, 1, [109], [112], goalS, 2, 0⟩
def line1 : LineS := ⟨[112], 1, [⟨goalS, 2⟩]⟩
theorem ready_ln : lnGo [play1] [[115]] 1 5 [play1] = ⟨[[112]], [(([112], goalS), 2)]⟩ := by kernel_rfl
theorem ready_or : orI [playsE [play1], trustE [[115]]] = 0 := by kernel_rfl
theorem ready_full : fullB [(([112], goalS), 2)] [[112]] = false := by kernel_rfl
theorem ready_stats : statsOf [(([112], goalS), 2)] [112] = [⟨goalS, 2⟩] := by kernel_rfl
theorem ready_E : LinesE [play1] [[115]] 1 5 = 0 := by
 rw [LinesE, ready_or, if_neg (by decide), if_neg (by decide), linesE, ready_ln, clinesE, ready_full]; rfl
theorem ready_L : LinesL [play1] [[115]] 1 5 = [line1] := by
 rw [LinesL, ready_or, if_neg (by decide), if_neg (by decide), linesL, ready_ln, clinesL, ready_full, if_neg (by decide)]
 simp [sortS, ready_stats, line1]
end Go.HL
end
section
namespace Go.HL
theorem idxOf_at (s : Str) : ∀ (l : List Str) (k : Int), 0 ≤ k → (idxOf s l k = -1 ∧ s ∉ l) ∨ ∃ i : Nat, idxOf s l k = k + i ∧ l[i]? = some s ∧ ∀ j : Nat, j < i → l[j]? ≠ some s
 | [], k, _ => .inl ⟨rfl, by simp⟩
 | x :: r, k, h => by
   simp only [idxOf]
   by_cases e : s = x
   ·subst e
    rw [if_pos rfl]
    exact .inr ⟨0, by simp, rfl, fun j hj => by omega⟩
   ·rw [if_neg e]
    rcases idxOf_at s r (k + 1) (by omega) with ⟨h1, h2⟩ | ⟨i, h1, h2, h3⟩
    ·exact .inl ⟨h1, by simp [e, h2]⟩
    ·refine .inr ⟨i + 1, by rw [h1]; omega, h2, fun j hj => ?_⟩
     cases j with
     | zero => simp; exact fun q => e q.symm
     | succ j => exact h3 j (by omega)
theorem find_first {α : Type} {q : α → Bool} : ∀ {l : List α} {k : Nat} {s : α}, l[k]? = some s → q s = true → (∀ j t, j < k → l[j]? = some t → q t = false) → l.find? q = some s
 | [], k, s, h, _, _ => by simp at h
 | x :: r, 0, s, h, hq, _ => by
   simp at h; subst h; rw [List.find?_cons_of_pos hq]
 | x :: r, k + 1, s, h, hq, hm => by
   rw [List.find?_cons_of_neg (by rw [hm 0 x (by omega) rfl]; simp)]
   exact find_first (k := k) (by simpa using h) hq fun j t hj ht => hm (j + 1) t (by omega) (by simpa using ht)
/-- A play of a match that is trusted and known. -/
def CanSrc (trust : List Str) (n : Int) (m : Str) (p : Play) : Prop := p.Match = m ∧ p.At ≤ n ∧ 0 ≤ idxOf p.Source trust 0
def BestIs (trust : List Str) (n : Int) (m : Str) (B : List (Str × Int)) (l : List Play) : Prop :=
 (alk m B = none ∧ ∀ p ∈ l, ¬ CanSrc trust n m p) ∨ ∃ k, alk m B = some k ∧ (∃ p ∈ l, CanSrc trust n m p ∧ idxOf p.Source trust 0 = k) ∧ ∀ p ∈ l, CanSrc trust n m p → k ≤ idxOf p.Source trust 0
theorem best_step_is {trust : List Str} {n : Int} {m : Str} {B : List (Str × Int)} {l : List Play} (x : Play) (h : BestIs trust n m B l) : BestIs trust n m (bestStep trust n B x) (l ++ [x]) := by
 have hold : ¬ CanSrc trust n m x → BestIs trust n m B (l ++ [x]) := fun hx => by
  rcases h with ⟨h1, h2⟩ | ⟨k, h1, ⟨p, hp, h2⟩, h3⟩
  ·refine .inl ⟨h1, fun p hp => ?_⟩
   rcases List.mem_append.1 hp with hp | hp
   ·exact h2 p hp
   ·rw [List.mem_singleton.1 hp]; exact hx
  ·refine .inr ⟨k, h1, ⟨p, List.mem_append_left _ hp, h2⟩, fun p hp hc => ?_⟩
   rcases List.mem_append.1 hp with hp | hp
   ·exact h3 p hp hc
   ·rw [List.mem_singleton.1 hp] at hc; exact absurd hc hx
 unfold bestStep
 by_cases c1 : n < x.At ∨ idxOf x.Source trust 0 < 0
 ·rw [if_pos c1]
  exact hold fun hx => by have := hx.2; omega
 ·rw [if_neg c1]
  by_cases hm : x.Match = m
  ·have hcan : CanSrc trust n m x := ⟨hm, by omega, by omega⟩
   rw [hm]
   rcases h with ⟨h1, h2⟩ | ⟨k, h1, ⟨p, hp, h2, h2'⟩, h3⟩
   ·rw [h1, if_pos (.inl rfl)]
    refine .inr ⟨idxOf x.Source trust 0, by rw [alk_put, if_pos rfl], ⟨x, by simp, hcan, rfl⟩, fun p hp hc => ?_⟩
    rcases List.mem_append.1 hp with hp | hp
    ·exact absurd hc (h2 p hp)
    ·rw [List.mem_singleton.1 hp]; exact Int.le_refl _
   ·rw [h1]
    by_cases c2 : idxOf x.Source trust 0 < k
    ·rw [if_pos (.inr c2)]
     refine .inr ⟨idxOf x.Source trust 0, by rw [alk_put, if_pos rfl], ⟨x, by simp, hcan, rfl⟩, fun p hp hc => ?_⟩
     rcases List.mem_append.1 hp with hp | hp
     ·have := h3 p hp hc; omega
     ·rw [List.mem_singleton.1 hp]; exact Int.le_refl _
    ·rw [if_neg (by simp; omega)]
     refine .inr ⟨k, h1, ⟨p, List.mem_append_left _ hp, h2, h2'⟩, fun p hp hc => ?_⟩
     rcases List.mem_append.1 hp with hp | hp
     ·exact h3 p hp hc
     ·rw [List.mem_singleton.1 hp]; omega
  ·have hno : ¬ CanSrc trust n m x := fun hx => hm hx.1
   have := hold hno
   split
   ·unfold BestIs at *
    rw [alk_put, if_neg (fun e => hm e.symm)]
    exact this
   ·exact this
theorem best_is (l : List Play) (trust : List Str) (n : Int) (m : Str) : BestIs trust n m (bestL l trust n) l := by
 have key : ∀ k, k ≤ l.length → BestIs trust n m (bestL (l.take k) trust n) (l.take k) := by
  intro k
  induction k with
  | zero => intro _; exact .inl ⟨rfl, by simp⟩
  | succ k ih =>
    intro hk
    have hx := List.getElem?_eq_getElem (l := l) (i := k) (by omega)
    rw [bestL_snoc hx, take_snoc' hx]
    exact best_step_is _ (ih (by omega))
 have := key l.length (Nat.le_refl _)
 rwa [List.take_length] at this
/-- The source that counts, told the other way. -/
def hasSrc (l : List Play) (m : Str) (n : Int) (s : Str) : Bool := l.any fun x => x.Source == s && x.Match == m && decide (x.At ≤ n)
theorem src_find (l : List Play) (trust : List Str) (n : Int) (m : Str) : srcOf l trust n m = trust.find? (hasSrc l m n) := by
 unfold srcOf
 rcases best_is l trust n m with ⟨h1, h2⟩ | ⟨k, h1, ⟨p, hp, ⟨c1, c2, c3⟩, h2⟩, h3⟩
 ·rw [h1]
  symm
  refine List.find?_eq_none.2 fun s hs hq => ?_
  unfold hasSrc at hq
  rw [List.any_eq_true] at hq
  obtain ⟨x, hx, hq⟩ := hq
  simp only [Bool.and_eq_true, beq_iff_eq, decide_eq_true_eq] at hq
  refine h2 x hx ⟨hq.1.2, hq.2, ?_⟩
  rcases idxOf_at x.Source trust 0 (by omega) with ⟨_, q⟩ | ⟨i, q, _⟩
  ·rw [hq.1.1] at q; exact absurd hs q
  ·omega
 ·rw [h1]
  rcases idxOf_at p.Source trust 0 (by omega) with ⟨q, _⟩ | ⟨i, q1, q2, q3⟩
  ·omega
  ·have hk : k.toNat = i := by omega
   have e : trust.getD k.toNat [] = p.Source := by rw [hk]; simp [List.getD, q2]
   rw [Option.map_some, e]
   symm
   refine find_first q2 ?_ fun j t hj ht => ?_
   ·unfold hasSrc
    rw [List.any_eq_true]
    exact ⟨p, hp, by simp [c1, c2]⟩
   ·rw [Bool.eq_false_iff]
    intro hq
    unfold hasSrc at hq
    rw [List.any_eq_true] at hq
    obtain ⟨x, hx, hq⟩ := hq
    simp only [Bool.and_eq_true, beq_iff_eq, decide_eq_true_eq] at hq
    rcases idxOf_at x.Source trust 0 (by omega) with ⟨_, r⟩ | ⟨i', r1, r2, r3⟩
    ·rw [hq.1.1] at r; exact r (List.mem_of_getElem? ht)
    ·have hle := h3 x hx ⟨hq.1.2, hq.2, by omega⟩
     have : ¬ j < i' := fun hji => r3 j hji (by rw [hq.1.1]; exact ht)
     omega
def countingR (l : List Play) (trust : List Str) (m : Str) (n : Int) : Str := (trust.find? (hasSrc l m n)).getD []
theorem counting_src (l : List Play) (trust : List Str) (m : Str) (n : Int) : countingR l trust m n = (srcOf l trust n m).getD [] := by
 rw [src_find]; rfl
end Go.HL
end
section
namespace Go.HL
theorem Cmp.lt_trans {α : Type} {c : α → α → Int} {s : α → Prop} (h : Cmp c s) {x y z : α} (hx : s x) (hy : s y) (hz : s z) (h1 : c x y < 0) (h2 : c y z < 0) : c x z < 0 := by
 rcases Int.lt_or_le (c x z) 0 with q | q
 ·exact q
 ·exfalso
  have a1 := h.flip y z hy hz
  have a2 := h.flip z x hz hx
  have hzx : c z x ≤ 0 := by
   rcases Int.lt_or_le 0 (c z x) with r | r
   ·have := h.flip x z hx hz; omega
   ·exact r
  have := h.trans z x y hz hx hy hzx (by omega)
  omega
theorem byNo_flip (x y : Play) : byNo x y = -byNo y x := by
 unfold byNo
 rw [cmpI_flip, cmpS_flip x.Source, orI_flip]
theorem byNo_eq (x y : Play) : byNo x y = if cmpS x.Source y.Source ≠ 0 then cmpS x.Source y.Source else cmpI x.No y.No := by unfold byNo; rw [orI2]
theorem cmpS_lt_trans {a b c : Str} (h1 : cmpS a b ≤ 0) (h2 : cmpS b c ≤ 0) (h : cmpS a c = 0) : cmpS a b = 0 ∧ cmpS b c = 0 := by
 have e := cmpS_zero.1 h
 subst e
 rw [cmpS_flip b a] at *
 omega
theorem byNo_cmp : Cmp byNo (fun _ => True) where
 flip x y _ _ := by rw [byNo_flip x y]; omega
 trans x y z _ _ _ h1 h2 := by
  rw [byNo_eq] at *
  have k1 : cmpS x.Source y.Source ≤ 0 := by split at h1 <;> omega
  have k2 : cmpS y.Source z.Source ≤ 0 := by split at h2 <;> omega
  have k3 := cmpS_trans k1 k2
  split
  ·exact k3
  ·rename_i hz
   have hz' : cmpS x.Source z.Source = 0 := by simpa using hz
   obtain ⟨e1, e2⟩ := cmpS_lt_trans k1 k2 hz'
   rw [if_neg (by simp [e1]), cmpI_le] at h1
   rw [if_neg (by simp [e2]), cmpI_le] at h2
   rw [cmpI_le]; omega
theorem playsGo_adj {l : List Play} : ∀ (r : List Play) (k : Nat), playsGo l k r = 0 → r = l.drop k → ∀ (i : Nat) (x y : Play), k ≤ i → 0 < i → l[i]? = some x → l[i - 1]? = some y → 0 < byNo x y
 | [], k, _, e, i, x, y, hk, h0, hx, hy => by
   have := lt_of_get hx
   have h2 := congrArg List.length e
   simp at h2; omega
 | p :: r, k, h, e, i, x, y, hk, h0, hx, hy => by
   rw [playsGo] at h
   split at h
   ·contradiction
   ·split at h
    ·omega
    ·rename_i h1 h2
     have hp : l[k]? = some p := by
      have := congrArg (·[0]?) e
      simpa using this.symm
     rcases Nat.eq_or_lt_of_le hk with q | q
     ·subst q
      rw [hp] at hx; cases hx
      have : l.getD (k - 1) play0 = y := by simp [List.getD, hy]
      rw [this] at h2
      omega
     ·refine playsGo_adj r (k + 1) h ?_ i x y q h0 hx hy
      have := congrArg List.tail e
      simpa using this
theorem plays_rise {l : List Play} (h : playsE l = 0) : l.Pairwise fun a b => byNo a b < 0 := by
 have hadj := playsGo_adj l 0 (playsE_ok h).2 rfl
 rw [List.pairwise_iff_getElem]
 intro i j hi hj hij
 have key : ∀ d (hd : i + d + 1 < l.length), byNo l[i] l[i + d + 1] < 0 := by
  intro d
  induction d with
  | zero =>
    intro hd
    have := hadj (i + 1) _ _ (Nat.zero_le _) (by omega) (List.getElem?_eq_getElem hd) (List.getElem?_eq_getElem (by omega : i + 1 - 1 < l.length))
    rw [byNo_flip] at this
    simp only [Nat.add_sub_cancel] at this
    have h' : byNo l[i] l[i + 0 + 1] < 0 := by omega
    exact h'
  | succ d ih =>
    intro hd
    have h1 := ih (by omega)
    have h2 := hadj (i + (d + 1) + 1) _ _ (Nat.zero_le _) (by omega) (List.getElem?_eq_getElem hd) (List.getElem?_eq_getElem (by omega : i + (d + 1) + 1 - 1 < l.length))
    rw [byNo_flip] at h2
    simp only [Nat.add_sub_cancel] at h2
    exact byNo_cmp.lt_trans trivial trivial trivial h1 (by
     have e : i + (d + 1) = i + d + 1 := by omega
     simp only [e] at h2 ⊢; omega)
 have := key (j - i - 1) (by omega)
 have e : i + (j - i - 1) + 1 = j := by omega
 simpa only [e] using this
/-- A source and a number name one play. -/
def keyN (p : Play) : Num := (p.Source, p.No)
def OneKey (l : List Play) : Prop := ∀ (i j : Nat) (x y : Play), l[i]? = some x → l[j]? = some y → keyN x = keyN y → i = j
theorem plays_one {l : List Play} (h : playsE l = 0) : OneKey l := by
 intro i j x y hx hy e
 obtain ⟨hi, rfl⟩ := List.getElem?_eq_some_iff.1 hx
 obtain ⟨hj, rfl⟩ := List.getElem?_eq_some_iff.1 hy
 have hp := List.pairwise_iff_getElem.1 (plays_rise h)
 simp only [keyN, Prod.mk.injEq] at e
 have hz : ∀ a b : Play, a.Source = b.Source ∧ a.No = b.No → byNo a b = 0 := fun a b q => by
  rw [byNo_eq, q.1, q.2, if_neg (by simp [cmpS_zero]), cmpI_zero]
 rcases Nat.lt_trichotomy i j with q | q | q
 ·have := hp i j hi hj q
  rw [hz _ _ e] at this; omega
 ·exact q
 ·have := hp j i hj hi q
  rw [hz _ _ ⟨e.1.symm, e.2.symm⟩] at this; omega
theorem num_is {l : List Play} (h : OneKey l) (n : Int) (x : Num) (q : Play) : alk x (numL l n) = some q ↔ q ∈ l ∧ q.At ≤ n ∧ keyN q = x := by
 have key : ∀ k, k ≤ l.length → (alk x (numL (l.take k) n) = some q ↔ q ∈ l.take k ∧ q.At ≤ n ∧ keyN q = x) := by
  intro k
  induction k with
  | zero => intro _; simp [numL, alk]
  | succ k ih =>
    intro hk
    have hx := List.getElem?_eq_getElem (l := l) (i := k) (by omega)
    generalize l[k] = p at hx
    have ih := ih (by omega)
    rw [numL_snoc hx, take_snoc' hx]
    unfold numStep
    have hnew : ∀ y ∈ l.take k, keyN y ≠ keyN p := fun y hy e => by
     obtain ⟨i, hi, rfl⟩ := List.getElem_of_mem hy
     rw [List.getElem_take] at e
     simp only [List.length_take] at hi
     have := h i k _ _ (List.getElem?_eq_getElem (by omega)) hx e
     omega
    by_cases hp : p.At ≤ n
    ·rw [if_pos hp, alk_put]
     by_cases e : x = (p.Source, p.No)
     ·rw [if_pos e]
      constructor
      ·intro hq; cases hq
       exact ⟨by simp, hp, e.symm⟩
      ·rintro ⟨h1, h2, h3⟩
       rcases List.mem_append.1 h1 with h1 | h1
       ·exact absurd (h3.trans e) (hnew q h1)
       ·rw [List.mem_singleton.1 h1]
     ·rw [if_neg e, ih]
      constructor
      ·rintro ⟨h1, h2⟩; exact ⟨List.mem_append_left _ h1, h2⟩
      ·rintro ⟨h1, h2, h3⟩
       rcases List.mem_append.1 h1 with h1 | h1
       ·exact ⟨h1, h2, h3⟩
       ·rw [List.mem_singleton.1 h1] at h3
        exact absurd h3.symm e
    ·rw [if_neg hp, ih]
     constructor
     ·rintro ⟨h1, h2⟩; exact ⟨List.mem_append_left _ h1, h2⟩
     ·rintro ⟨h1, h2, h3⟩
      rcases List.mem_append.1 h1 with h1 | h1
      ·exact ⟨h1, h2, h3⟩
      ·rw [List.mem_singleton.1 h1] at h2; exact absurd h2 hp
 have := key l.length (Nat.le_refl _)
 rwa [List.take_length] at this
/-- p takes q back, as it is known at n. -/
def TakesBack (n : Int) (p q : Play) : Prop := p.At ≤ n ∧ p.Undo ≠ 0 ∧ q.At ≤ n ∧ keyN q = (p.Source, p.Undo) ∧ undoes q p = true
theorem gone_is {l : List Play} (h : OneKey l) (n : Int) (x : Num) : isGone l n x = true ↔ ∃ p ∈ l, ∃ q ∈ l, keyN q = x ∧ TakesBack n p q := by
 have key : ∀ m : List Play, ((alk x (goneGo (numL l n) n m)).getD false = true ↔ ∃ p ∈ m, ∃ q ∈ l, keyN q = x ∧ TakesBack n p q) ∧ ∀ v, alk x (goneGo (numL l n) n m) = some v → v = true := by
  intro m
  have kk : ∀ k, k ≤ m.length → ((alk x (goneGo (numL l n) n (m.take k))).getD false = true ↔ ∃ p ∈ m.take k, ∃ q ∈ l, keyN q = x ∧ TakesBack n p q) ∧ ∀ v, alk x (goneGo (numL l n) n (m.take k)) = some v → v = true := by
   intro k
   induction k with
   | zero => intro _; simp [goneGo, alk]
   | succ k ih =>
     intro hk
     have hx := List.getElem?_eq_getElem (l := m) (i := k) (by omega)
     generalize m[k] = p at hx
     obtain ⟨i1, i2⟩ := ih (by omega)
     rw [goneGo_snoc hx, take_snoc' hx]
     have hno : (¬ ∃ q ∈ l, keyN q = x ∧ TakesBack n p q) → ((∃ p' ∈ m.take k ++ [p], ∃ q ∈ l, keyN q = x ∧ TakesBack n p' q) ↔ ∃ p' ∈ m.take k, ∃ q ∈ l, keyN q = x ∧ TakesBack n p' q) := fun hq => by
      constructor
      ·rintro ⟨p', h1, h2⟩
       rcases List.mem_append.1 h1 with h1 | h1
       ·exact ⟨p', h1, h2⟩
       ·rw [List.mem_singleton.1 h1] at h2; exact absurd h2 hq
      ·rintro ⟨p', h1, h2⟩; exact ⟨p', List.mem_append_left _ h1, h2⟩
     unfold goneStep
     by_cases c1 : n < p.At ∨ p.Undo = 0
     ·rw [if_pos c1, hno (by rintro ⟨q, _, _, t1, t2, _⟩; omega)]
      exact ⟨i1, i2⟩
     ·rw [if_neg c1]
      by_cases c2 : (alk (p.Source, p.Undo) (numL l n)).isSome = true ∧ undoes ((alk (p.Source, p.Undo) (numL l n)).getD play0) p = true
      ·rw [if_pos c2]
       obtain ⟨q, hq⟩ := Option.isSome_iff_exists.1 c2.1
       have c3 := c2.2
       rw [hq, Option.getD_some] at c3
       obtain ⟨g1, g2, g3⟩ := (num_is h n _ q).1 hq
       rw [alk_put]
       by_cases e : x = (p.Source, p.Undo)
       ·rw [if_pos e]
        exact ⟨⟨fun _ => ⟨p, by simp, q, g1, g3.trans e.symm, by omega, by omega, g2, g3, c3⟩, fun _ => rfl⟩, fun v hv => by cases hv; rfl⟩
       ·rw [if_neg e, hno (by rintro ⟨q', _, t0, _, _, _, t4, _⟩; exact e (t0.symm.trans t4))]
        exact ⟨i1, i2⟩
      ·rw [if_neg c2, hno ?_]
       ·exact ⟨i1, i2⟩
       ·rintro ⟨q, hq, t0, t1, t2, t3, t4, t5⟩
        have := (num_is h n (p.Source, p.Undo) q).2 ⟨hq, t3, t4⟩
        exact c2 ⟨by rw [this]; rfl, by rw [this]; exact t5⟩
  have := kk m.length (Nat.le_refl _)
  rwa [List.take_length] at this
 exact (key l).1
/-- The reference's way: the place of the play that is taken back. -/
def takesB (l : List Play) (n : Int) (x y : Play) : Bool := y.Source == x.Source && y.No == x.Undo && y.Undo == 0 && decide (y.At ≤ n) && y.Match == x.Match && y.Player == x.Player && y.Stat == x.Stat
def takesR (l : List Play) (x : Play) (n : Int) : Option Nat := if x.Undo = 0 ∨ n < x.At then none else l.findIdx? (takesB l n x)
theorem takesB_iff (l : List Play) (n : Int) (x y : Play) : takesB l n x y = true ↔ y.At ≤ n ∧ keyN y = (x.Source, x.Undo) ∧ undoes y x = true := by
 unfold takesB undoes keyN
 simp only [Bool.and_eq_true, beq_iff_eq, decide_eq_true_eq, Prod.mk.injEq]
 constructor
 ·rintro ⟨⟨⟨⟨⟨⟨a, b⟩, c⟩, d⟩, e⟩, f⟩, g⟩; exact ⟨d, ⟨a, b⟩, ⟨⟨c, e⟩, f⟩, g⟩
 ·rintro ⟨d, ⟨a, b⟩, ⟨⟨c, e⟩, f⟩, g⟩; exact ⟨⟨⟨⟨⟨⟨a, b⟩, c⟩, d⟩, e⟩, f⟩, g⟩
theorem gone_takes {l : List Play} (h : OneKey l) (n : Int) {i : Nat} {x : Play} (hx : l[i]? = some x) : isGone l n (keyN x) = true ↔ ∃ p ∈ l, takesR l p n = some i := by
 rw [gone_is h]
 constructor
 ·rintro ⟨p, hp, q, hq, e, t1, t2, t3, t4, t5⟩
  obtain ⟨j, hj, rfl⟩ := List.getElem_of_mem hq
  have hij := h j i _ _ (List.getElem?_eq_getElem hj) hx e
  subst hij
  refine ⟨p, hp, ?_⟩
  unfold takesR
  rw [if_neg (by omega), List.findIdx?_eq_some_iff_getElem]
  refine ⟨hj, (takesB_iff l n p _).2 ⟨t3, t4, t5⟩, fun k hk hq => ?_⟩
  obtain ⟨a, b, c⟩ := (takesB_iff l n p _).1 hq
  have := h k j _ _ (List.getElem?_eq_getElem (by omega)) (List.getElem?_eq_getElem hj) (b.trans t4.symm)
  omega
 ·rintro ⟨p, hp, ht⟩
  unfold takesR at ht
  split at ht
  ·cases ht
  ·rename_i hc
   obtain ⟨hi, h1, _⟩ := List.findIdx?_eq_some_iff_getElem.1 ht
   obtain ⟨_, rfl⟩ := List.getElem?_eq_some_iff.1 hx
   obtain ⟨a, b, c⟩ := (takesB_iff l n p _).1 h1
   exact ⟨p, hp, _, List.getElem_mem hi, rfl, by omega, by omega, a, b, c⟩
end Go.HL
end
section
namespace Go.HL
def SLt (a b : Str) : Prop := a ≤ b ∧ a ≠ b
theorem strict_ext {a b : List Str} (ha : a.Pairwise SLt) (hb : b.Pairwise SLt) (h : ∀ x, x ∈ a ↔ x ∈ b) : a = b := by
 have na : a.Nodup := ha.imp fun q => q.2
 have nb : b.Nodup := hb.imp fun q => q.2
 have hp : a.Perm b := (List.perm_ext_iff_of_nodup na nb).2 h
 exact List.Perm.eq_of_pairwise (le := SLt) (fun x y _ _ h1 h2 => List.le_antisymm h1.1 h2.1) ha hb hp
theorem mem_uniqP' : ∀ (l : List Str) (p : Option Str) (s : Str), s ∈ l → s ∈ uniqP p l ∨ p = some s
 | [], _, _, h => by cases h
 | x :: r, p, s, h => by
   simp only [uniqP]
   rcases List.mem_cons.1 h with rfl | h
   ·split
    ·rename_i e; exact .inr e
    ·exact .inl (by simp)
   ·rcases mem_uniqP' r (some x) s h with q | q
    ·split
     ·exact .inl q
     ·exact .inl (List.mem_cons_of_mem _ q)
    ·cases q
     split
     ·rename_i e; exact .inr e
     ·exact .inl (by simp)
theorem uniqP_strict : ∀ (l : List Str) (p : Option Str), l.Pairwise (fun x y => x ≤ y) → (∀ q, p = some q → ∀ x ∈ l, q ≤ x) → (uniqP p l).Pairwise SLt ∧ ∀ q, p = some q → ∀ y ∈ uniqP p l, SLt q y
 | [], _, _, _ => ⟨by simp [uniqP], fun q _ y hy => by simp [uniqP] at hy⟩
 | x :: r, p, h, hp => by
   obtain ⟨h1, h2⟩ := List.pairwise_cons.1 h
   obtain ⟨i1, i2⟩ := uniqP_strict r (some x) h2 (fun q e y hy => by cases e; exact h1 y hy)
   simp only [uniqP]
   split
   ·rename_i e
    refine ⟨i1, fun q eq y hy => ?_⟩
    rw [e] at eq; cases eq
    exact i2 x rfl y hy
   ·rename_i e
    refine ⟨List.pairwise_cons.2 ⟨fun y hy => i2 x rfl y hy, i1⟩, fun q eq y hy => ?_⟩
    have hqx : SLt q x := ⟨hp q eq x (by simp), fun he => e (by rw [eq, he])⟩
    rcases List.mem_cons.1 hy with rfl | hy
    ·exact hqx
    ·have hxy := i2 x rfl y hy
     refine ⟨List.le_trans hqx.1 hxy.1, fun he => ?_⟩
     subst he
     exact hqx.2 (List.le_antisymm hqx.1 hxy.1)
def onceL (l : List Str) : List Str := Lib.compact (sortS l)
theorem onceL_strict (l : List Str) : (onceL l).Pairwise SLt := by
 unfold onceL
 rw [compact_uniq]
 exact (uniqP_strict _ none (sortS_sorted l) (fun q e => by cases e)).1
theorem mem_onceL {l : List Str} {s : Str} : s ∈ onceL l ↔ s ∈ l := by
 constructor
 ·exact mem_cs
 ·intro h
  unfold onceL
  rw [compact_uniq]
  rcases mem_uniqP' (sortS l) none s ((List.mergeSort_perm _ _).mem_iff.2 h) with q | q
  ·exact q
  ·cases q
theorem sortS_strict {l : List Str} (h : l.Nodup) : (sortS l).Pairwise SLt := by
 have hn : (sortS l).Nodup := (List.mergeSort_perm _ _).nodup_iff.2 h
 have hs := sortS_sorted l
 rw [List.pairwise_iff_getElem] at *
 intro i j hi hj hij
 exact ⟨hs i j hi hj hij, List.pairwise_iff_getElem.1 hn i j hi hj hij⟩
theorem onceL_nodup {l : List Str} (h : l.Nodup) : onceL l = sortS l :=
 strict_ext (onceL_strict l) (sortS_strict h) fun x => by rw [mem_onceL, sortS, (List.mergeSort_perm _ _).mem_iff]
/-- What is told of the sources, the reference's way. -/
def toldR (l : List Play) (trust : List Str) (n : Int) : List PairS := ((onceL (l.map (·.Match))).filter fun m => countingR l trust m n != []).map fun m => ⟨m, countingR l trust m n⟩
theorem told_eq {l : List Play} {trust : List Str} {n : Int} {O : List (Str × Str)} (hn : ANodup O) (hO : ∀ m, alk m O = srcOf l trust n m) (ht : ∀ s ∈ trust, s ≠ []) :
 ((sortS (O.map (·.1))).map fun m => (⟨m, (alk m O).getD []⟩ : PairS)) = toldR l trust n := by
 unfold toldR
 have e : sortS (O.map (·.1)) = (onceL (l.map (·.Match))).filter fun m => countingR l trust m n != [] := by
  refine strict_ext (sortS_strict hn) ((onceL_strict _).filter _) fun m => ?_
  rw [sortS, (List.mergeSort_perm _ _).mem_iff, List.mem_filter, mem_onceL]
  have hk : m ∈ O.map (·.1) ↔ ¬ alk m O = none := by rw [alk_none]; exact Decidable.not_not.symm
  rw [hk, hO, counting_src]
  constructor
  ·intro h
   obtain ⟨s, hs⟩ := Option.ne_none_iff_exists'.1 h
   rw [hs]
   rw [src_find] at hs
   have h1 := List.find?_some hs
   have h2 := List.mem_of_find?_eq_some hs
   unfold hasSrc at h1
   rw [List.any_eq_true] at h1
   obtain ⟨x, hx, hq⟩ := h1
   simp only [Bool.and_eq_true, beq_iff_eq, decide_eq_true_eq] at hq
   exact ⟨List.mem_map.2 ⟨x, hx, hq.1.2⟩, by simpa using ht s h2⟩
  ·rintro ⟨_, h⟩ hc
   rw [hc] at h; simp at h
 rw [e]
 refine List.map_congr_left fun m _ => ?_
 rw [counting_src, hO]
/-- The sums of one player. -/
def inner {κ : Type} (c : List ((Str × κ) × Int)) (s : Str) : List (κ × Int) := (c.filter fun e => e.1.1 == s).map fun e => (e.1.2, e.2)
theorem inner_put {κ : Type} [DecidableEq κ] (s : Str) (st : κ) (v : Int) (s' : Str) : ∀ c : List ((Str × κ) × Int), inner (aput (s, st) v c) s' = if s' = s then aput st v (inner c s) else inner c s'
 | [] => by
   by_cases e : s' = s
   ·subst e; simp [inner, aput]
   ·have : ¬ s = s' := fun q => e q.symm
    simp [inner, aput, e, this]
 | p :: r => by
   have ih := inner_put s st v s' r
   obtain ⟨⟨a, b⟩, w⟩ := p
   simp only [aput, Prod.mk.injEq]
   by_cases h1 : s = a
   ·subst h1
    by_cases h2 : st = b
    ·subst h2
     rw [if_pos ⟨rfl, rfl⟩]
     by_cases e : s' = s
     ·subst e; simp [inner, aput]
     ·have : ¬ s = s' := fun q => e q.symm
      simp [inner, e, this]
    ·rw [if_neg (fun q => h2 q.2)]
     by_cases e : s' = s
     ·subst e
      rw [if_pos rfl] at ih ⊢
      simp only [inner, List.filter_cons, beq_self_eq_true, if_true, List.map_cons, aput, if_neg h2] at ih ⊢
      rw [ih]
     ·have : ¬ s = s' := fun q => e q.symm
      rw [if_neg e] at ih ⊢
      simp only [inner, List.filter_cons, beq_iff_eq, if_neg this] at ih ⊢
      exact ih
   ·rw [if_neg (fun q => h1 q.1)]
    by_cases e : s' = s
    ·subst e
     have : ¬ a = s' := fun q => h1 q.symm
     rw [if_pos rfl] at ih ⊢
     simp only [inner, List.filter_cons, beq_iff_eq, if_neg this] at ih ⊢
     exact ih
    ·rw [if_neg e] at ih ⊢
     by_cases h3 : a = s'
     ·simp only [inner, List.filter_cons, beq_iff_eq, if_pos h3, List.map_cons] at ih ⊢
      rw [ih]
     ·simp only [inner, List.filter_cons, beq_iff_eq, if_neg h3] at ih ⊢
      exact ih
theorem inner_get {κ : Type} [DecidableEq κ] (s : Str) (st : κ) : ∀ c : List ((Str × κ) × Int), alk st (inner c s) = alk (s, st) c
 | [] => rfl
 | ⟨⟨a, b⟩, w⟩ :: r => by
   have ih := inner_get s st r
   by_cases h : a = s
   ·subst h
    simp only [inner, List.filter_cons, beq_self_eq_true, if_true, List.map_cons, alk, Prod.mk.injEq, true_and] at ih ⊢
    rw [ih]
   ·have : ¬ s = a := fun q => h q.symm
    simp only [inner, List.filter_cons, beq_iff_eq, if_neg h, alk, Prod.mk.injEq, this, false_and, if_false] at ih ⊢
    exact ih
def statsR (E : List (Str × Int)) : List StatS := isort byNm ((E.filter fun e => e.2 != 0).map fun e => ⟨e.1, e.2⟩)
theorem rawStats_inner (c : List (Of2 × Int)) (s : Str) : rawStats c s = ((inner c s).filter fun e => e.2 != 0).map fun e => ⟨e.1, e.2⟩ := by
 unfold rawStats inner
 rw [List.filter_map, List.map_map, List.filter_filter]
 congr 1
 refine List.filter_congr fun e _ => ?_
 simp [Bool.and_comm]
theorem statsOf_inner (c : List (Of2 × Int)) (s : Str) : statsOf c s = statsR (inner c s) := by unfold statsOf statsR; rw [rawStats_inner]
end Go.HL
end
section
namespace Go.HL
/-- Too great a count, or too many. -/
def fullR (L : List LineS) : Bool := L.any fun x => decide (40 < x.Stats.length) || x.Stats.any fun s => out s.Count (-100000) 100000
theorem statsOf_len (c : List (Of2 × Int)) (s : Str) : (statsOf c s).length = (rawStats c s).length := by unfold statsOf; rw [isort_len]
theorem mem_stats {c : List (Of2 × Int)} {s : Str} {x : StatS} : x ∈ statsOf c s ↔ x ∈ rawStats c s := by unfold statsOf; rw [isort_mem]
theorem full_eq {c : List (Of2 × Int)} {S : List Str} {week : Int} (hin : ∀ e ∈ c, e.1.1 ∈ S) : fullR ((sortS S).map fun s => ⟨s, week, statsOf c s⟩) = fullB c S := by
 rw [Bool.eq_iff_iff]
 unfold fullR fullB
 rw [List.any_map, Bool.or_eq_true, List.any_eq_true, List.any_eq_true, List.any_eq_true]
 constructor
 ·rintro ⟨s, hs, h⟩
  have hs' : s ∈ S := (List.mergeSort_perm _ _).mem_iff.1 hs
  simp only [Function.comp, Bool.or_eq_true, decide_eq_true_eq] at h
  rcases h with h | h
  ·rw [statsOf_len] at h
   exact .inr ⟨s, hs', by simpa using h⟩
  ·obtain ⟨x, hx, ho⟩ := List.any_eq_true.1 h
   rw [mem_stats] at hx
   unfold rawStats at hx
   obtain ⟨e, he, rfl⟩ := List.mem_map.1 hx
   exact .inl ⟨e, (List.mem_filter.1 he).1, ho⟩
 ·rintro (⟨e, he, ho⟩ | ⟨s, hs, h⟩)
  ·refine ⟨e.1.1, (List.mergeSort_perm _ _).mem_iff.2 (hin e he), ?_⟩
   simp only [Function.comp, Bool.or_eq_true]
   right
   rw [List.any_eq_true]
   refine ⟨⟨e.1.2, e.2⟩, ?_, ho⟩
   rw [mem_stats]
   refine List.mem_map.2 ⟨e, List.mem_filter.2 ⟨he, ?_⟩, rfl⟩
   have : e.2 ≠ 0 := fun q => by rw [q] at ho; simp [out] at ho
   simp [this]
  ·refine ⟨s, (List.mergeSort_perm _ _).mem_iff.2 hs, ?_⟩
   simp only [Function.comp, Bool.or_eq_true]
   left
   rw [statsOf_len]; simpa using h
theorem ln_in {l : List Play} {trust : List Str} {week n : Int} : ∀ (m : List Play) (q : LnS), (∀ e ∈ q.c, e.1.1 ∈ q.S) → ∀ e ∈ (m.foldl (lnStep l trust week n) q).c, e.1.1 ∈ (m.foldl (lnStep l trust week n) q).S
 | [], _, h => h
 | x :: m, q, h => by
   rw [List.foldl_cons]
   refine ln_in m _ ?_
   unfold lnStep
   split
   ·intro e he
    rcases mem_aput he with rfl | he
    ·exact mem_sadd.2 (.inl rfl)
    ·exact mem_sadd.2 (.inr (h e he))
   ·exact h
/-- The lines of the references, before they are looked at. -/
def rawLines (q : LnS) (week : Int) : List LineS := (onceL q.S).map fun s => ⟨s, week, statsR (inner q.c s)⟩
def linesRL (l : List Play) (trust : List Str) (week n : Int) : List LineS := if fullR (rawLines (lnGo l trust week n l) week) then [] else rawLines (lnGo l trust week n l) week
def linesRE (l : List Play) (trust : List Str) (week n : Int) : Int := if fullR (rawLines (lnGo l trust week n l) week) then 12 else 0
theorem lines_ref {l : List Play} {trust : List Str} {week n : Int} (ok : ∀ x ∈ l, playFault x = 0) : linesRL l trust week n = linesL l trust week n ∧ linesRE l trust week n = linesE l trust week n := by
 have hok := ln_ok (l := l) (trust := trust) (week := week) (n := n) ok
 have hin := ln_in (l := l) (trust := trust) (week := week) (n := n) l ⟨[], []⟩ (fun e h => by cases h)
 have e : rawLines (lnGo l trust week n l) week = (sortS (lnGo l trust week n l).S).map fun s => ⟨s, week, statsOf (lnGo l trust week n l).c s⟩ := by
  unfold rawLines
  rw [onceL_nodup hok.S]
  refine List.map_congr_left fun s _ => ?_
  rw [statsOf_inner]
 have hf : fullR (rawLines (lnGo l trust week n l) week) = fullB (lnGo l trust week n l).c (lnGo l trust week n l).S := by
  rw [e]; exact full_eq hin
 unfold linesRL linesRE linesL linesE clinesL clinesE
 rw [hf, e]
 exact ⟨rfl, rfl⟩
/-- Whether a play counts, asked as the references ask. -/
theorem refIn_eq {l : List Play} {trust : List Str} {week n : Int} (h : OneKey l) {i : Nat} {x : Play} (hx : l[i]? = some x) (g : Bool) (hg : g = true ↔ ∃ p ∈ l, takesR l p n = some i) :
 (!(x.Week != week || decide (n < x.At) || countingR l trust x.Match n != x.Source || g || decide (0 < x.Undo))) = inLine l trust week n x := by
 have hgg : g = isGone l n (x.Source, x.No) := by
  rw [Bool.eq_iff_iff, hg]; exact (gone_takes h n hx).symm
 unfold inLine
 rw [hgg, counting_src]
 cases decide (n < x.At) <;> cases (x.Week != week) <;> cases decide (0 < x.Undo) <;> cases isGone l n (x.Source, x.No) <;> simp
end Go.HL
end
section
namespace Go.HL
structure ApartS where
 Match : Str
 Player : Str
 Stat : Str
 First : Str
 Second : Str
 One : Int
 Two : Int
abbrev eApart (x : ApartS) : HVal := .agg [.str x.Match, .str x.Player, .str x.Stat, .str x.First, .str x.Second, .int .i64 x.One, .int .i64 x.Two]
abbrev eAparts (l : List ApartS) : HVal := .slice 7 (l.map eApart)
def byOf (a b : Of2) : Int := orI [cmpS a.1 b.1, cmpS a.2 b.2]
theorem byOf_eq (a b : Of2) : byOf a b = if cmpS a.1 b.1 ≠ 0 then cmpS a.1 b.1 else cmpS a.2 b.2 := by unfold byOf; rw [orI2]
theorem byOf_flip (a b : Of2) : byOf a b = -byOf b a := by
 unfold byOf
 rw [cmpS_flip a.1, cmpS_flip a.2, orI_flip]
theorem byOf_zero {a b : Of2} : byOf a b = 0 ↔ a = b := by
 rw [byOf_eq]
 constructor
 ·intro h
  split at h
  ·contradiction
  ·rename_i h1
   have h1' : cmpS a.1 b.1 = 0 := by simpa using h1
   exact Prod.ext (cmpS_zero.1 h1') (cmpS_zero.1 h)
 ·rintro rfl
  rw [if_neg (by simp [cmpS_zero]), cmpS_zero]
theorem byOf_cmp : Cmp byOf (fun _ => True) where
 flip x y _ _ := by rw [byOf_flip x y]; omega
 trans x y z _ _ _ h1 h2 := by
  rw [byOf_eq] at *
  have k1 : cmpS x.1 y.1 ≤ 0 := by split at h1 <;> omega
  have k2 : cmpS y.1 z.1 ≤ 0 := by split at h2 <;> omega
  have k3 := cmpS_trans k1 k2
  split
  ·exact k3
  ·rename_i hz
   have hz' : cmpS x.1 z.1 = 0 := by simpa using hz
   obtain ⟨e1, e2⟩ := cmpS_lt_trans k1 k2 hz'
   rw [if_neg (by simp [e1])] at h1
   rw [if_neg (by simp [e2])] at h2
   exact cmpS_trans h1 h2
def OLt (a b : Of2) : Prop := byOf a b < 0
theorem OLt.irrefl {a b : Of2} (h : OLt a b) : ¬ OLt b a := fun q => by
 unfold OLt at *
 rw [byOf_flip] at q; omega
theorem ostrict_ext {a b : List Of2} (ha : a.Pairwise OLt) (hb : b.Pairwise OLt) (h : ∀ x, x ∈ a ↔ x ∈ b) : a = b := by
 have ne : ∀ {x y : Of2}, OLt x y → x ≠ y := fun {x y} q e => by subst e; exact q.irrefl q
 have hp : a.Perm b := (List.perm_ext_iff_of_nodup (ha.imp ne) (hb.imp ne)).2 h
 exact List.Perm.eq_of_pairwise (le := OLt) (fun x y _ _ h1 h2 => absurd h2 h1.irrefl) ha hb hp
/-- What sources a and b say otherwise, of the things K. -/
def apartL (m a b : Str) (ga gb : Of2 → Int) (K : List Of2) : List ApartS := (K.filter fun k => ga k != gb k).map fun k => ⟨m, k.1, k.2, a, b, ga k, gb k⟩
def keyA (x : ApartS) : Of2 := (x.Player, x.Stat)
def byApart (x y : ApartS) : Int := orI [cmpS x.Player y.Player, cmpS x.Stat y.Stat]
theorem byApart_of (x y : ApartS) : byApart x y = byOf (keyA x) (keyA y) := rfl
/-- However the differences were gathered: in order they are those of things that stand in order. -/
theorem apart_eq {m a b : Str} {ga gb : Of2 → Int} {E K : List Of2} {Y : List ApartS} (hE : E.Nodup) (hK : K.Pairwise OLt) (h1 : ∀ k, ga k ≠ gb k → k ∈ E) (h2 : ∀ k, ga k ≠ gb k → k ∈ K)
 (hp : Y.Perm (apartL m a b ga gb E)) (hs : Y.Pairwise fun x y => ¬ byApart y x < 0) : Y = apartL m a b ga gb K := by
 have hY : ∀ y ∈ Y, y = ⟨m, (keyA y).1, (keyA y).2, a, b, ga (keyA y), gb (keyA y)⟩ ∧ ga (keyA y) ≠ gb (keyA y) := fun y hy => by
  have := hp.mem_iff.1 hy
  unfold apartL at this
  obtain ⟨k, hk, rfl⟩ := List.mem_map.1 this
  have hq := (List.mem_filter.1 hk).2
  have hq' : ga k ≠ gb k := by simpa using hq
  exact ⟨rfl, hq'⟩
 have e1 : Y = (Y.map keyA).map fun k => (⟨m, k.1, k.2, a, b, ga k, gb k⟩ : ApartS) := by
  rw [List.map_map]
  conv => lhs; rw [← List.map_id Y]
  exact List.map_congr_left fun y hy => (hY y hy).1
 have hkp : (Y.map keyA).Perm (E.filter fun k => ga k != gb k) := by
  have := hp.map keyA
  unfold apartL at this
  rw [List.map_map] at this
  have e : (keyA ∘ fun k : Of2 => (⟨m, k.1, k.2, a, b, ga k, gb k⟩ : ApartS)) = id := rfl
  rw [e, List.map_id] at this
  exact this
 have hn : (Y.map keyA).Nodup := hkp.nodup_iff.2 (hE.filter _)
 have hst : (Y.map keyA).Pairwise OLt := by
  rw [List.pairwise_map]
  rw [List.pairwise_iff_getElem] at hs ⊢
  intro i j hi hj hij
  have h3 := hs i j hi hj hij
  rw [byApart_of] at h3
  have h4 : keyA Y[i] ≠ keyA Y[j] := by
   have := List.pairwise_iff_getElem.1 hn i j (by simpa using hi) (by simpa using hj) hij
   simpa using this
  have h5 : byOf (keyA Y[j]) (keyA Y[i]) ≠ 0 := fun q => h4 (byOf_zero.1 q).symm
  unfold OLt
  rw [byOf_flip]; omega
 have ek : Y.map keyA = K.filter fun k => ga k != gb k := by
  refine ostrict_ext hst (hK.filter _) fun k => ?_
  rw [hkp.mem_iff, List.mem_filter, List.mem_filter]
  constructor
  ·rintro ⟨_, q⟩; exact ⟨h2 k (by simpa using q), q⟩
  ·rintro ⟨_, q⟩; exact ⟨h1 k (by simpa using q), q⟩
 rw [e1, ek]; rfl
/-- The sums of each source: who told, and what they count. -/
structure DisS where
 S : List Str
 c : List ((Str × Of2) × Int)
def disKey (p : Play) : Str × Of2 := (p.Source, (p.Player, p.Stat))
def disPut (q : DisS) (p : Play) : List ((Str × Of2) × Int) := aput (disKey p) ((alk (disKey p) q.c).getD 0 + p.Count) q.c
def disP (l : List Play) (m : Str) (n : Int) (q : DisS) (p : Play) : DisS :=
 if p.Match ≠ m ∨ n < p.At then q else ⟨sadd p.Source q.S, if p.Undo = 0 ∧ isGone l n (p.Source, p.No) = false then disPut q p else q.c⟩
def disR (l : List Play) (m : Str) (n : Int) (q : DisS) (p : Play) : DisS :=
 if p.Match ≠ m ∨ n < p.At then q else ⟨sadd p.Source q.S, if isGone l n (p.Source, p.No) = false then disPut q p else q.c⟩
def allOf (l : List Play) (m : Str) (n : Int) : List Of2 := (l.filter fun p => !(p.Match != m || decide (n < p.At))).map fun p => (p.Player, p.Stat)
def disAt (q : DisS) (s : Str) (k : Of2) : Int := (alk (s, k) q.c).getD 0
theorem dis_same {l : List Play} {m : Str} {n : Int} : ∀ (t : List Play) (q r : DisS), (∀ x ∈ t, playFault x = 0) → q.S = r.S → (∀ s k, disAt q s k = disAt r s k) →
 (t.foldl (disP l m n) q).S = (t.foldl (disR l m n) r).S ∧ ∀ s k, disAt (t.foldl (disP l m n) q) s k = disAt (t.foldl (disR l m n) r) s k
 | [], _, _, _, h1, h2 => ⟨h1, h2⟩
 | p :: t, q, r, hf, h1, h2 => by
   rw [List.foldl_cons, List.foldl_cons]
   have hput : ∀ s k, (alk (s, k) (disPut q p)).getD 0 = (alk (s, k) (disPut r p)).getD 0 := fun s k => by
    unfold disPut
    rw [alk_put, alk_put]
    have := h2 p.Source (p.Player, p.Stat)
    unfold disAt at this
    by_cases e : (s, k) = disKey p
    ·rw [if_pos e, if_pos e]
     show _ + _ = _ + _
     rw [show disKey p = (p.Source, (p.Player, p.Stat)) from rfl, this]
    ·rw [if_neg e, if_neg e]; exact h2 s k
   refine dis_same t _ _ (fun x hx => hf x (List.mem_cons_of_mem _ hx)) ?_ fun s k => ?_
   ·unfold disP disR; split
    ·exact h1
    ·dsimp only; rw [h1]
   ·unfold disP disR
    by_cases c1 : p.Match ≠ m ∨ n < p.At
    ·rw [if_pos c1, if_pos c1]; exact h2 s k
    ·rw [if_neg c1, if_neg c1]
     unfold disAt
     dsimp only
     by_cases c2 : isGone l n (p.Source, p.No) = false
     ·rw [if_pos c2]
      by_cases c3 : p.Undo = 0
      ·rw [if_pos ⟨c3, c2⟩]; exact hput s k
      ·rw [if_neg (fun q => c3 q.1)]
       have h0 := hf p (by simp)
       obtain ⟨_, _, _, _, _, _, hu⟩ := playFault_ok h0
       have hc : p.Count = 0 := by
        unfold playFault at h0
        split at h0
        ·omega
        split at h0
        ·omega
        split at h0
        ·omega
        split at h0
        ·omega
        split at h0
        ·omega
        rename_i h5
        simp only [Bool.and_eq_true, decide_eq_true_eq, not_and, Decidable.not_not] at h5
        exact h5 (by omega)
       rw [← hput s k]
       unfold disPut
       rw [alk_put, hc]
       by_cases e : (s, k) = disKey p
       ·rw [if_pos e, e]; simp
       ·rw [if_neg e]
     ·rw [if_neg c2, if_neg (fun q => c2 q.2)]; exact h2 s k
/-- What has a sum was told of. -/
theorem dis_all {l : List Play} {m : Str} {n : Int} : ∀ (t : List Play) (q : DisS) (A : List Of2), (∀ s k, alk (s, k) q.c ≠ none → k ∈ A) → ∀ s k, alk (s, k) (t.foldl (disR l m n) q).c ≠ none → k ∈ A ++ allOf t m n
 | [], _, A, h, s, k, hk => by simpa [allOf] using h s k hk
 | p :: t, q, A, h, s, k, hk => by
   rw [List.foldl_cons] at hk
   by_cases c1 : p.Match ≠ m ∨ n < p.At
   ·have e : disR l m n q p = q := by unfold disR; rw [if_pos c1]
    rw [e] at hk
    have := dis_all t q A h s k hk
    have e2 : allOf (p :: t) m n = allOf t m n := by
     unfold allOf
     rw [List.filter_cons_of_neg (by simp only [ne_eq] at c1; simp; intro h; rcases c1 with c1 | c1; exact absurd h c1; exact c1)]
    rw [e2]; exact this
   ·have e2 : allOf (p :: t) m n = (p.Player, p.Stat) :: allOf t m n := by
     unfold allOf
     rw [List.filter_cons_of_pos (by simp only [ne_eq, not_or, Decidable.not_not] at c1; simp [c1.1]; omega)]; rfl
    have := dis_all t (disR l m n q p) (A ++ [(p.Player, p.Stat)]) (fun s' k' hk' => by
     unfold disR at hk'
     rw [if_neg c1] at hk'
     dsimp only at hk'
     split at hk'
     ·unfold disPut at hk'
      rw [alk_put] at hk'
      by_cases e : (s', k') = disKey p
      ·have : k' = (p.Player, p.Stat) := congrArg (fun z : Str × Of2 => z.2) e
       rw [this]; simp
      ·rw [if_neg e] at hk'
       exact List.mem_append_left _ (h s' k' hk')
     ·exact List.mem_append_left _ (h s' k' hk')) s k hk
    rw [e2]
    simpa using this
end Go.HL
end
section
namespace Go.HL
theorem aput_keys' {α : Type} {s : Str} {v : α} : ∀ {G : List (Str × α)}, (aput s v G).map (·.1) = sadd s (G.map (·.1))
 | [] => by simp [aput, sadd]
 | p :: r => by
   have ih := aput_keys' (s := s) (v := v) (G := r)
   simp only [aput]
   by_cases h : s = p.1
   ·rw [if_pos h]
    unfold sadd
    rw [if_pos (by simp [h])]
    simp [h]
   ·rw [if_neg h, List.map_cons, ih]
    unfold sadd
    by_cases hc : (r.map (·.1)).contains s = true
    ·rw [if_pos hc, if_pos (by simp at hc ⊢; exact .inr hc)]; rfl
    ·rw [if_neg hc, if_neg (by simp at hc ⊢; exact ⟨h, hc⟩)]; rfl
theorem aput_mem' {α : Type} {s : Str} {v : α} {p : Str × α} : ∀ {G : List (Str × α)}, ANodup G → p ∈ aput s v G → p = (s, v) ∨ (p ∈ G ∧ p.1 ≠ s)
 | [], _, h => by simp [aput] at h; exact .inl h
 | q :: r, hn, h => by
   have h1 := List.nodup_cons.1 hn
   simp only [aput] at h
   by_cases hs : s = q.1
   ·rw [if_pos hs] at h
    rcases List.mem_cons.1 h with h | h
    ·exact .inl h
    ·refine .inr ⟨List.mem_cons_of_mem _ h, fun e => h1.1 ?_⟩
     show q.1 ∈ r.map (·.1)
     rw [← hs, ← e]; exact List.mem_map_of_mem h
   ·rw [if_neg hs] at h
    rcases List.mem_cons.1 h with h | h
    ·subst h; exact .inr ⟨by simp, fun e => hs e.symm⟩
    ·rcases aput_mem' h1.2 h with e | e
     ·exact .inl e
     ·exact .inr ⟨List.mem_cons_of_mem _ e.1, e.2⟩
section
variable {κ : Type}
/-- The maps of maps hold the flat sums. -/
structure GrOk (S : List Str) (c : List ((Str × κ) × Int)) (G : GrM κ) : Prop where
 keys : G.map (·.1) = S
 nodup : S.Nodup
 val : ∀ p ∈ G, p.2.2 = inner c p.1
 inS : ∀ e ∈ c, e.1.1 ∈ S
theorem GrOk.anodup {S : List Str} {c : List ((Str × κ) × Int)} {G : GrM κ} (h : GrOk S c G) : ANodup G := by unfold ANodup; rw [h.keys]; exact h.nodup
theorem GrOk.nil : GrOk ([] : List Str) ([] : List ((Str × κ) × Int)) [] := ⟨rfl, List.nodup_nil, (fun p h => by cases h), (fun e h => by cases h)⟩
theorem GrOk.get {S : List Str} {c : List ((Str × κ) × Int)} {G : GrM κ} (h : GrOk S c G) {s : Str} {b : Nat} {L : List (κ × Int)} (hq : alk s G = some (b, L)) : L = inner c s := h.val _ (alk_of_mem hq)
theorem GrOk.none {S : List Str} {c : List ((Str × κ) × Int)} {G : GrM κ} (h : GrOk S c G) {s : Str} : alk s G = none ↔ s ∉ S := by rw [alk_none, h.keys]
theorem inner_nil {S : List Str} {c : List ((Str × κ) × Int)} {s : Str} (h : ∀ e ∈ c, e.1.1 ∈ S) (hs : s ∉ S) : inner c s = [] := by
 unfold inner
 rw [List.map_eq_nil_iff, List.filter_eq_nil_iff]
 intro e he hq
 exact hs ((eq_of_beq hq) ▸ h e he)
theorem GrOk.add {S : List Str} {c : List ((Str × κ) × Int)} {G : GrM κ} (h : GrOk S c G) {s : Str} (b : Nat) (hs : alk s G = Option.none) : GrOk (sadd s S) c (aput s (b, []) G) := by
 have hn := h.none.1 hs
 refine ⟨by rw [aput_keys', h.keys], sadd_nodup h.nodup, fun p hp => ?_, fun e he => mem_sadd.2 (.inr (h.inS e he))⟩
 rcases aput_mem' h.anodup hp with rfl | ⟨hp, _⟩
 ·exact (inner_nil h.inS hn).symm
 ·exact h.val p hp
variable [DecidableEq κ]
theorem GrOk.put {S : List Str} {c : List ((Str × κ) × Int)} {G : GrM κ} (h : GrOk S c G) {s : Str} {b : Nat} {L : List (κ × Int)} (hq : alk s G = some (b, L)) (k : κ) (v : Int) : GrOk S (aput (s, k) v c) (aput s (b, aput k v L) G) := by
 have hs : s ∈ S := by
  refine Decidable.not_not.1 fun hn => ?_
  have := h.none.2 hn
  rw [this] at hq; cases hq
 refine ⟨?_, h.nodup, fun p hp => ?_, fun e he => ?_⟩
 ·rw [aput_keys', h.keys]
  unfold sadd
  rw [if_pos (by simpa using hs)]
 ·rw [inner_put]
  rcases aput_mem' h.anodup hp with rfl | ⟨hp, hne⟩
  ·rw [if_pos rfl, ← h.get hq]
  ·rw [if_neg hne]; exact h.val p hp
 ·rcases mem_aput he with rfl | he
  ·exact hs
  ·exact h.inS e he
end
end Go.HL
end
section
namespace Go.HL
theorem idxF_is {α : Type} (p : α → Bool) : ∀ (l : List α) (k : Int), idxF p l k = match l.findIdx? p with | none => -1 | some i => k + i
 | [], k => rfl
 | x :: r, k => by
   have ih := idxF_is p r (k + 1)
   simp only [idxF, List.findIdx?_cons]
   by_cases h : p x = true
   ·rw [if_pos h, if_pos h]; simp
   ·rw [if_neg h, if_neg h, ih]
    cases r.findIdx? p with
    | none => rfl
    | some i =>
      show k + 1 + (i : Int) = k + ((i + 1 : Nat) : Int)
      omega
def takesI (l : List Play) (x : Play) (n : Int) : Int := if x.Undo = 0 ∨ n < x.At then -1 else idxF (takesB l n x) l 0
theorem takesI_is (l : List Play) (x : Play) (n : Int) : takesI l x n = match takesR l x n with | none => -1 | some i => (i : Int) := by
 unfold takesI takesR
 split
 ·rfl
 ·rw [idxF_is]
  cases l.findIdx? (takesB l n x) with
  | none => rfl
  | some i => simp
theorem takesI_iff {l : List Play} {x : Play} {n : Int} {i : Nat} : takesI l x n = (i : Int) ↔ takesR l x n = some i := by
 rw [takesI_is]
 cases takesR l x n with
 | none => simp
 | some j => simp; omega
/-- The places of the plays that are taken back, as they are found. -/
def undR (l : List Play) (n : Int) (m : List Play) : List Int := (m.map fun x => takesI l x n).filter fun z => decide (0 ≤ z)
theorem undR_yes {l m : List Play} {n : Int} {k : Nat} {x : Play} (hx : m[k]? = some x) (h : 0 ≤ takesI l x n) : undR l n (m.take (k + 1)) = undR l n (m.take k) ++ [takesI l x n] := by
 unfold undR; rw [take_snoc' hx, List.map_append, List.filter_append]; simp [h]
theorem undR_no {l m : List Play} {n : Int} {k : Nat} {x : Play} (hx : m[k]? = some x) (h : ¬ 0 ≤ takesI l x n) : undR l n (m.take (k + 1)) = undR l n (m.take k) := by
 unfold undR; rw [take_snoc' hx, List.map_append, List.filter_append]; simp [h]
theorem undR_len (l m : List Play) (n : Int) : (undR l n m).length ≤ m.length := by
 unfold undR
 exact Nat.le_trans (List.length_filter_le _ _) (by simp)
theorem mem_undR {l : List Play} {n : Int} {i : Nat} : (i : Int) ∈ undR l n l ↔ ∃ p ∈ l, takesR l p n = some i := by
 unfold undR
 rw [List.mem_filter, List.mem_map]
 constructor
 ·rintro ⟨⟨p, hp, e⟩, _⟩; exact ⟨p, hp, takesI_iff.1 e⟩
 ·rintro ⟨p, hp, e⟩; exact ⟨⟨p, hp, takesI_iff.2 e⟩, by simp⟩
/-- Any list with the same members tells who is gone. -/
theorem gone_contains {l : List Play} (h : OneKey l) {n : Int} {U : List Int} (hU : ∀ z, z ∈ U ↔ z ∈ undR l n l) {i : Nat} {x : Play} (hx : l[i]? = some x) : U.contains (i : Int) = isGone l n (x.Source, x.No) := by
 rw [Bool.eq_iff_iff, List.contains_iff_mem, hU, mem_undR]
 exact (gone_takes h n hx).symm
/-- The line's condition as the references ask. -/
theorem refIn_contains {l : List Play} {trust : List Str} {week n : Int} (h : OneKey l) {U : List Int} (hU : ∀ z, z ∈ U ↔ z ∈ undR l n l) {i : Nat} {x : Play} (hx : l[i]? = some x) :
 (!(x.Week != week || decide (n < x.At) || countingR l trust x.Match n != x.Source || U.contains (i : Int) || decide (0 < x.Undo))) = inLine l trust week n x :=
 refIn_eq h hx _ (by rw [gone_contains h hU hx]; exact gone_takes h n hx)
/-- What is told, step by step. -/
def toldTo2 (l : List Play) (trust : List Str) (n : Int) (O : List Str) : List PairS := (O.filter fun m => countingR l trust m n != []).map fun m => ⟨m, countingR l trust m n⟩
theorem toldTo2_yes {l : List Play} {trust : List Str} {n : Int} {O : List Str} {k : Nat} {m : Str} (hm : O[k]? = some m) (h : countingR l trust m n ≠ []) : toldTo2 l trust n (O.take (k + 1)) = toldTo2 l trust n (O.take k) ++ [⟨m, countingR l trust m n⟩] := by
 unfold toldTo2; rw [take_snoc' hm, List.filter_append, List.map_append]; simp [h]
theorem toldTo2_no {l : List Play} {trust : List Str} {n : Int} {O : List Str} {k : Nat} {m : Str} (hm : O[k]? = some m) (h : countingR l trust m n = []) : toldTo2 l trust n (O.take (k + 1)) = toldTo2 l trust n (O.take k) := by
 unfold toldTo2; rw [take_snoc' hm, List.filter_append, List.map_append]; simp [h]
theorem toldTo2_len (l : List Play) (trust : List Str) (n : Int) (O : List Str) : (toldTo2 l trust n O).length ≤ O.length := by
 unfold toldTo2; rw [List.length_map]; exact List.length_filter_le _ _
end Go.HL
end
section
namespace Go.HL
/-- A list without the things that equal the one before (p ahead of the first). -/
def uniqO (p : Option Of2) : List Of2 → List Of2
 | [] => []
 | x :: r => if p = some x then uniqO (some x) r else x :: uniqO (some x) r
theorem mem_uniqO : ∀ (l : List Of2) (p : Option Of2) (s : Of2), s ∈ uniqO p l → s ∈ l
 | [], _, s, h => by simp [uniqO] at h
 | x :: r, p, s, h => by
   simp only [uniqO] at h
   split at h
   ·exact List.mem_cons_of_mem _ (mem_uniqO r _ s h)
   ·rcases List.mem_cons.1 h with h | h
    ·subst h; simp
    ·exact List.mem_cons_of_mem _ (mem_uniqO r _ s h)
theorem mem_uniqO' : ∀ (l : List Of2) (p : Option Of2) (s : Of2), s ∈ l → s ∈ uniqO p l ∨ p = some s
 | [], _, _, h => by cases h
 | x :: r, p, s, h => by
   simp only [uniqO]
   rcases List.mem_cons.1 h with rfl | h
   ·split
    ·rename_i e; exact .inr e
    ·exact .inl (by simp)
   ·rcases mem_uniqO' r (some x) s h with q | q
    ·split
     ·exact .inl q
     ·exact .inl (List.mem_cons_of_mem _ q)
    ·cases q
     split
     ·rename_i e; exact .inr e
     ·exact .inl (by simp)
theorem OLt.trans {a b c : Of2} (h1 : OLt a b) (h2 : OLt b c) : OLt a c := byOf_cmp.lt_trans trivial trivial trivial h1 h2
theorem olt_of {a b : Of2} (h : byOf a b ≤ 0) (hne : a ≠ b) : OLt a b := by
 have : byOf a b ≠ 0 := fun q => hne (byOf_zero.1 q)
 unfold OLt; omega
theorem uniqO_strict : ∀ (l : List Of2) (p : Option Of2), l.Pairwise (fun x y => byOf x y ≤ 0) → (∀ q, p = some q → ∀ x ∈ l, byOf q x ≤ 0) → (uniqO p l).Pairwise OLt ∧ ∀ q, p = some q → ∀ y ∈ uniqO p l, OLt q y
 | [], _, _, _ => ⟨by simp [uniqO], fun q _ y hy => by simp [uniqO] at hy⟩
 | x :: r, p, h, hp => by
   obtain ⟨h1, h2⟩ := List.pairwise_cons.1 h
   obtain ⟨i1, i2⟩ := uniqO_strict r (some x) h2 (fun q e y hy => by cases e; exact h1 y hy)
   simp only [uniqO]
   split
   ·rename_i e
    refine ⟨i1, fun q eq y hy => ?_⟩
    rw [e] at eq; cases eq
    exact i2 x rfl y hy
   ·rename_i e
    refine ⟨List.pairwise_cons.2 ⟨fun y hy => i2 x rfl y hy, i1⟩, fun q eq y hy => ?_⟩
    have hqx : OLt q x := olt_of (hp q eq x (by simp)) (fun he => e (by rw [eq, he]))
    rcases List.mem_cons.1 hy with rfl | hy
    ·exact hqx
    ·exact hqx.trans (i2 x rfl y hy)
/-- Any order by things, with repeats left out, is strict and has the same members. -/
theorem uniqO_of {l l' : List Of2} (hp : l'.Perm l) (hs : l'.Pairwise fun a b => ¬ byOf b a < 0) : (uniqO none l').Pairwise OLt ∧ ∀ k, k ∈ uniqO none l' ↔ k ∈ l := by
 refine ⟨(uniqO_strict l' none (hs.imp fun {a b} h => by rw [byOf_flip] at h; omega) (fun q e => by cases e)).1, fun k => ?_⟩
 constructor
 ·intro h; exact hp.mem_iff.1 (mem_uniqO _ _ _ h)
 ·intro h
  rcases mem_uniqO' l' none k (hp.mem_iff.2 h) with q | q
  ·exact q
  ·cases q
/-- Pairs, the earlier ahead of the later. -/
def pairs2 : List Str → List (Str × Str)
 | [] => []
 | a :: r => (r.map fun b => (a, b)) ++ pairs2 r
def disL (m : Str) (g : Str → Of2 → Int) (S : List Str) (K : List Of2) : List ApartS := (pairs2 S).flatMap fun ab => apartL m ab.1 ab.2 (g ab.1) (g ab.2) K
def disTo (m : Str) (g : Str → Of2 → Int) (K : List Of2) (a : Str) (r : List Str) : List ApartS := r.flatMap fun b => apartL m a b (g a) (g b) K
theorem disL_cons (m : Str) (g : Str → Of2 → Int) (a : Str) (r : List Str) (K : List Of2) : disL m g (a :: r) K = disTo m g K a r ++ disL m g r K := by
 unfold disL disTo
 rw [pairs2, List.flatMap_append, List.flatMap_map]
/-- Step by step: the first i names are through. -/
def disUp (m : Str) (g : Str → Of2 → Int) (K : List Of2) (S : List Str) (i : Nat) : List ApartS := (List.range i).flatMap fun j => disTo m g K (S.getD j []) (S.drop (j + 1))
theorem disUp_succ (m : Str) (g : Str → Of2 → Int) (K : List Of2) (S : List Str) (i : Nat) : disUp m g K S (i + 1) = disUp m g K S i ++ disTo m g K (S.getD i []) (S.drop (i + 1)) := by
 unfold disUp; rw [List.range_succ, List.flatMap_append]; simp
theorem disUp_all (m : Str) (g : Str → Of2 → Int) (K : List Of2) : ∀ S : List Str, disUp m g K S S.length = disL m g S K
 | [] => rfl
 | a :: r => by
   have ih := disUp_all m g K r
   rw [disL_cons, ← ih]
   unfold disUp
   rw [List.length_cons, List.range_succ_eq_map, List.flatMap_cons, List.flatMap_map]
   rfl
/-- The program's and the reference's disagreements are one: the sums are alike, and what matters is in both lists of things. -/
theorem dis_eq {m : Str} {g h : Str → Of2 → Int} {S : List Str} {K : List Of2} (e : ∀ s k, g s k = h s k) : disL m g S K = disL m h S K := by
 have : g = h := funext fun s => funext fun k => e s k
 rw [this]
end Go.HL
end
section
namespace Go.HL
/-- The plays of the sources that count. -/
def keptB (l : List Play) (trust : List Str) (n : Int) (x : Play) : Bool := decide (srcOf l trust n x.Match = some x.Source)
def kept (l : List Play) (trust : List Str) (n : Int) : List Play := l.filter (keptB l trust n)
end Go.HL
end
section
namespace Go.HL
theorem nodup_le {α : Type} [DecidableEq α] : ∀ {a b : List α}, a.Nodup → (∀ x ∈ a, x ∈ b) → a.length ≤ b.length
 | [], b, _, _ => by simp
 | x :: a, b, hn, h => by
   obtain ⟨h1, h2⟩ := List.nodup_cons.1 hn
   have hx := h x (by simp)
   have ih := nodup_le (a := a) (b := b.erase x) h2 fun y hy => (List.mem_erase_of_ne (fun e => h1 (by rw [← e]; exact hy))).2 (h y (List.mem_cons_of_mem _ hy))
   rw [List.length_erase_of_mem hx] at ih
   have := List.length_pos_of_mem hx
   rw [List.length_cons]; omega
structure ChkIs (q : ChkS) (l : List Play) : Prop where
 sn : q.S.Nodup
 s : ∀ s, s ∈ q.S ↔ ∃ x ∈ l, x.Source = s
 wn : ANodup q.W
 w : ∀ m, m ∈ q.W.map (·.1) ↔ ∃ x ∈ l, x.Match = m
 wv : ∀ m v, alk m q.W = some v → ∃ x ∈ l, x.Match = m ∧ x.Week = v
 c : q.c = false ↔ ∀ x ∈ l, ∀ y ∈ l, x.Match = y.Match → x.Week = y.Week
theorem ChkIs.step {q : ChkS} {l : List Play} (h : ChkIs q l) (p : Play) : ChkIs (chkStep q p) (l ++ [p]) where
 sn := sadd_nodup h.sn
 s s := by
  show s ∈ sadd p.Source q.S ↔ _
  rw [mem_sadd, h.s]
  constructor
  ·rintro (rfl | ⟨x, hx, e⟩)
   ·exact ⟨p, by simp, rfl⟩
   ·exact ⟨x, List.mem_append_left _ hx, e⟩
  ·rintro ⟨x, hx, e⟩
   rcases List.mem_append.1 hx with hx | hx
   ·exact .inr ⟨x, hx, e⟩
   ·rw [List.mem_singleton.1 hx] at e; exact .inl e.symm
 wn := h.wn.put
 w m := by
  show m ∈ (aput p.Match p.Week q.W).map (·.1) ↔ _
  rw [aput_keys, h.w]
  constructor
  ·rintro (rfl | ⟨x, hx, e⟩)
   ·exact ⟨p, by simp, rfl⟩
   ·exact ⟨x, List.mem_append_left _ hx, e⟩
  ·rintro ⟨x, hx, e⟩
   rcases List.mem_append.1 hx with hx | hx
   ·exact .inr ⟨x, hx, e⟩
   ·rw [List.mem_singleton.1 hx] at e; exact .inl e.symm
 wv m v hv := by
  have hv' : alk m (aput p.Match p.Week q.W) = some v := hv
  rw [alk_put] at hv'
  by_cases e : m = p.Match
  ·rw [if_pos e] at hv'; cases hv'
   exact ⟨p, by simp, e.symm, rfl⟩
  ·rw [if_neg e] at hv'
   obtain ⟨x, hx, e1⟩ := h.wv m v hv'
   exact ⟨x, List.mem_append_left _ hx, e1⟩
 c := by
  show (q.c || ((alk p.Match q.W).isSome && ((alk p.Match q.W).getD 0 != p.Week))) = false ↔ _
  rw [Bool.or_eq_false_iff, h.c]
  constructor
  ·rintro ⟨h1, h2⟩
   have hp : ∀ x ∈ l, x.Match = p.Match → x.Week = p.Week := fun x hx e => by
    have hk : p.Match ∈ q.W.map (·.1) := (h.w _).2 ⟨x, hx, e⟩
    have hne : ¬ alk p.Match q.W = none := by rw [alk_none]; exact fun z => z hk
    obtain ⟨v, hv⟩ := Option.ne_none_iff_exists'.1 hne
    rw [hv] at h2
    simp at h2
    obtain ⟨y, hy, e1, e2⟩ := h.wv _ _ hv
    rw [h1 x hx y hy (by rw [e, e1]), e2, h2]
   intro x hx y hy e
   rcases List.mem_append.1 hx with hx | hx <;> rcases List.mem_append.1 hy with hy | hy
   ·exact h1 x hx y hy e
   ·rw [List.mem_singleton.1 hy] at e ⊢; exact hp x hx e
   ·rw [List.mem_singleton.1 hx] at e ⊢; exact (hp y hy e.symm).symm
   ·rw [List.mem_singleton.1 hx, List.mem_singleton.1 hy]
  ·intro hall
   refine ⟨fun x hx y hy e => hall x (List.mem_append_left _ hx) y (List.mem_append_left _ hy) e, ?_⟩
   cases hv : alk p.Match q.W with
   | none => rfl
   | some v =>
     obtain ⟨y, hy, e1, e2⟩ := h.wv _ _ hv
     have := hall y (List.mem_append_left _ hy) p (by simp) e1
     simp
     rw [← e2, this]
theorem chk_is (l : List Play) : ChkIs (chkSt l) l := by
 have key : ∀ k, k ≤ l.length → ChkIs (chkSt (l.take k)) (l.take k) := by
  intro k
  induction k with
  | zero =>
    intro _
    refine ⟨List.nodup_nil, fun s => ?_, ANodup.nil, fun m => ?_, fun m v hv => ?_, ?_⟩
    ·simp [chkSt]
    ·simp [chkSt]
    ·simp [chkSt, alk] at hv
    ·simp [chkSt]
  | succ k ih =>
    intro hk
    have hx := List.getElem?_eq_getElem (l := l) (i := k) (by omega)
    rw [chkSt_snoc hx, take_snoc' hx]
    exact (ih (by omega)).step _
 have := key l.length (Nat.le_refl _)
 rwa [List.take_length] at this
end Go.HL
end
section
namespace Go.HL
theorem wk_pos {p : Play} (h : playFault p = 0) : 1 ≤ p.Week := by
 have h1 := (playFault_ok h).2.2.2.1
 unfold weekB at h1
 have := out_f (n := p.Week) (lo := 1) (hi := 60) (by simpa using h1)
 omega
theorem chk_pos {l : List Play} (hok : ∀ y ∈ l, playFault y = 0) {m : Str} {v : Int} (h : alk m (chkSt l).W = some v) : 1 ≤ v := by
 obtain ⟨x, hx, _, rfl⟩ := (chk_is l).wv m v h
 exact wk_pos (hok x hx)
/-- Two weeks of a match, asked as the references ask. -/
theorem chk_ref {l : List Play} (hok : ∀ y ∈ l, playFault y = 0) (p : Play) :
 ((chkSt l).c || ((alk p.Match (chkSt l).W).getD 0 != 0 && (alk p.Match (chkSt l).W).getD 0 != p.Week)) = (chkStep (chkSt l) p).c := by
 unfold chkStep
 dsimp only
 cases h : alk p.Match (chkSt l).W with
 | none => simp
 | some v =>
   have := chk_pos hok h
   have h0 : (v != 0) = true := by simp; omega
   simp [h0]
/-! statistics -/
def rawS (E : List (Str × Int)) : List StatS := (E.filter fun e => e.2 != 0).map fun e => ⟨e.1, e.2⟩
theorem rawS_snoc (E : List (Str × Int)) (q : Str × Int) : rawS (E ++ [q]) = rawS E ++ if q.2 ≠ 0 then [⟨q.1, q.2⟩] else [] := by
 unfold rawS
 rw [List.filter_append, List.map_append, List.filter_cons]
 by_cases h : q.2 ≠ 0
 ·rw [if_pos h, if_pos (by simpa using h)]; rfl
 ·rw [if_neg h, if_neg (by simpa using h)]; rfl
theorem rawS_yes {E : List (Str × Int)} {q : Str × Int} (h : q.2 ≠ 0) : rawS (E ++ [q]) = rawS E ++ [⟨q.1, q.2⟩] := by rw [rawS_snoc, if_pos h]
theorem rawS_no {E : List (Str × Int)} {q : Str × Int} (h : ¬ q.2 ≠ 0) : rawS (E ++ [q]) = rawS E := by rw [rawS_snoc, if_neg h, List.append_nil]
theorem rawS_le (E : List (Str × Int)) : (rawS E).length ≤ E.length := by unfold rawS; rw [List.length_map]; exact List.length_filter_le _ _
theorem rawS_perm {E c : List (Str × Int)} (h : E.Perm c) : (rawS E).Perm (rawS c) := (h.filter _).map _
theorem rawS_names {c : List (Str × Int)} (h : ANodup c) {x y : StatS} (hx : x ∈ rawS c) (hy : y ∈ rawS c) (e : x.Name = y.Name) : x = y := by
 unfold rawS at hx hy
 obtain ⟨p, hp, rfl⟩ := List.mem_map.1 hx
 obtain ⟨p', hp', rfl⟩ := List.mem_map.1 hy
 have h1 := (List.mem_filter.1 hp).1
 have h2 := (List.mem_filter.1 hp').1
 have e' : p.1 = p'.1 := e
 have a1 := (alk_mem h (x := p.1) (v := p.2)).1 h1
 have a2 := (alk_mem h (x := p'.1) (v := p'.2)).1 h2
 rw [← e', a1] at a2
 have k : p.2 = p'.2 := Option.some.inj a2
 rw [e', k]
theorem stats_map {E c : List (Str × Int)} (hE : E.Perm c) (hn : ANodup c) {L : List StatS} (hp : L.Perm (rawS E)) (hw : L.Pairwise fun a b => ¬ byNm b a < 0) : L = statsR c := by
 show L = isort byNm (rawS c)
 exact isort_of_sorted byNm_cmp (fun x y hx hy e => rawS_names hn hx hy (cmpS_zero.1 e)) (hp.trans (rawS_perm hE)) hw
theorem statsR_len (c : List (Str × Int)) : (statsR c).length ≤ c.length := by
 show (isort byNm (rawS c)).length ≤ _
 rw [isort_len]; exact rawS_le c
/-! the sums of players keep apart -/
theorem inner_nodup {κ : Type} [DecidableEq κ] {c : List ((Str × κ) × Int)} (h : ANodup c) (s : Str) : ANodup (inner c s) := by
 unfold ANodup List.Nodup at *
 rw [List.pairwise_map] at h
 unfold inner
 rw [List.map_map, List.pairwise_map]
 refine (h.sublist List.filter_sublist).imp_of_mem fun {a b} ha hb hne e => hne ?_
 have k1 := (List.mem_filter.1 ha).2
 have k2 := (List.mem_filter.1 hb).2
 simp only [beq_iff_eq] at k1 k2
 exact Prod.ext (k1.trans k2.symm) e
theorem inner_len {κ : Type} (c : List ((Str × κ) × Int)) (s : Str) : (inner c s).length ≤ c.length := by
 unfold inner; rw [List.length_map]; exact List.length_filter_le _ _
/-- What the lines say, step by step. -/
def lineR (q : LnS) (week : Int) (s : Str) : LineS := ⟨s, week, statsR (inner q.c s)⟩
theorem rawLines_is (q : LnS) (week : Int) : rawLines q week = (onceL q.S).map (lineR q week) := rfl
/-! what is told to a bound -/
theorem onceL_len (l : List Str) : (onceL l).length ≤ l.length := by
 unfold onceL
 rw [compact_uniq]
 have := uniqP_le (sortS l) none
 rw [sortS_len] at this
 exact this
end Go.HL
end
section
namespace Go.HL
def GoodPl1 (x : Play) : Prop := Sh x.Source ∧ Sh x.Match ∧ Sh x.Player ∧ Sh x.Stat
structure GoodPl (k : List Play) : Prop where
 len : k.length ≤ 15
 all : ∀ x ∈ k, GoodPl1 x
structure GoodTr (t : List Str) : Prop where
 len : t.length ≤ 4
 all : ∀ s ∈ t, Sh s
def src3 : List Str := [[102, 97], [102, 98], [102, 99]]
theorem src3_sh : ∀ s ∈ src3, Sh s := fun s hs => by simp [src3] at hs; rcases hs with rfl | rfl | rfl <;> (unfold Sh; simp)
def week3 : List Int := [1, 1, 2]
def match3 : List Str := [[109, 97], [109, 98], [109, 99]]
theorem match3_sh (k : Nat) : Sh (match3.getD k []) := by
 match k with
 | 0 => unfold Sh; simp [match3]
 | 1 => unfold Sh; simp [match3]
 | 2 => unfold Sh; simp [match3]
 | n + 3 => unfold Sh; simp [match3]
instance : DecidableEq PairS := fun a b => by
 obtain ⟨x, y⟩ := a; obtain ⟨u, v⟩ := b
 exact if h : x = u ∧ y = v then isTrue (by rw [h.1, h.2]) else isFalse fun e => by cases e; exact h ⟨rfl, rfl⟩
theorem contains_idxF {l : List Int} {z : Int} : l.contains z = l.any (· == z) := by
 rw [Bool.eq_iff_iff, List.contains_iff_mem, List.any_eq_true]
 constructor
 ·intro h; exact ⟨z, h, by simp⟩
 ·rintro ⟨y, hy, e⟩; rw [beq_iff_eq] at e; exact e ▸ hy
end Go.HL
end
section
namespace Go.Proofs.YtihpgpbbpklbbaaGreatDoor
open Go.HL
set_option maxRecDepth 100000
set_option linter.unusedVariables false
set_option linter.unusedSimpArgs false
/-- slices.IndexFunc[[]benchwarmer/api.Play,benchwarmer/api.Play] -/
theorem c_slices_IndexFunc_api_Play_api_Play [Tracks] {l : List Play} {fid : FuncId} {caps : List HVal} {p : Play → Bool} (hca : Callable Tryz.prog fid) (hp : ∀ x, ConP Tryz.prog fid ([ePlay x] ++ caps) (.bool (p x))) (hl : l.length ≤ 1000000) : ConP Tryz.prog 105 [.slice 9 (l.map ePlay), .fn (.func fid) [] caps] (.int .i64 (idxF p l 0)) := by
 refine Con.of_body Tryz.func105 rfl Tryz.ntmps105 rfl rfl ?_
 refine hw_reg ?_
 refine dp rfl (pop_assign rfl) ?_
 refine dn ?_
 refine hw_seq ?_
 refine hw_reg ?_
 refine dp rfl (pop_move rfl) ?_
 refine dp rfl (pop_lenm ty26 rfl) ?_
 refine dp rfl (pop_move rfl) ?_
 refine dn ?_
 refine hw_block ?_
 refine hw_loopw [4, 5, 8, 9, 10, 11, 12, 13, 14, 15, 16, 17, 18] (fun (k : Nat) => [(8, .int .i64 k)]) (fun (k : Nat) => []) (fun (k : Nat) => k ≤ l.length ∧ (idxF p l 0 = idxF p (l.drop k) k)) (fun (k : Nat) => l.length - k) (0) ?_ ?_ ?_ ?_
 ·exact ⟨Nat.zero_le _, rfl⟩
 ·exact ⟨rfl, trivial⟩
 ·exact List.Perm.refl _
 ·intro k hinv
  obtain ⟨hk, hg⟩ := hinv
  refine hw_reg ?_
  refine dp rfl (pop_lss rfl rfl) ?_
  refine dn ?_
  refine hw_seq ?_
  refine hw_cond rfl (fun h1 => ?_) (fun h2 => ?_)
  ·try simp at h1
   obtain ⟨x, hx⟩ : ∃ x, l[k]? = some x := ⟨_, List.getElem?_eq_getElem h1⟩
   have hdx := drop_cons hx
   rw [hdx] at hg
   refine hw_skip ?_
   refine seqQ_n ?_
   refine hw_seq ?_
   refine hw_block ?_
   refine hw_reg ?_
   refine dp rfl (pop_move rfl) ?_
   refine dp rfl (pop_assign rfl) ?_
   refine dn ?_
   refine hw_reg ?_
   refine dp rfl (pop_move rfl) ?_
   refine dp rfl (pop_move rfl) ?_
   refine dp rfl (pop_move rfl) ?_
   refine dp rfl (pop_idx ty26 ty93 rfl rfl rfl (by assumption)) ?_
   refine dp rfl (pop_loadw ty93 rfl rfl rfl rfl) ?_
   refine dp rfl (pop_callv hca rfl rfl (WeakL.refl _) (hp _)) ?_
   refine dn ?_
   refine hw_cond rfl (fun h3 => ?_) (fun h4 => ?_)
   ·try simp at h3
    refine hw_reg ?_
    refine dp rfl (pop_move rfl) ?_
    refine dp rfl (pop_assign rfl) ?_
    refine dn ?_
    refine hw_ret ?_
    refine ret_p rfl ?_
    show HVal.int .i64 _ = _
    (rw [hg]; simp_all [idxF])
   ·try simp at h4
    refine hw_skip ?_
    refine blockQ_n ?_
    refine seqQ_n ?_
    refine hw_reg1 ?_
    refine dp rfl (pop_add64 rfl rfl (by omega) (by omega)) ?_
    refine dp rfl (pop_move rfl) ?_
    refine dn ?_
    refine ⟨k + 1, ?_, ?_, ⟨rfl, trivial⟩, (by repeat (first | exact keeps_refl | refine keeps_upd rfl ?_ | refine keeps_loop rfl rfl ?_)), List.Perm.refl _⟩
    ·refine ⟨by omega, ?_⟩
     rw [hg, idxF, if_neg (by simp_all)]; rfl
    ·dsimp only; omega
  ·try simp at h2
   have hnk : l.length ≤ k := by omega
   obtain rfl : k = l.length := by omega
   rw [drop_all (Nat.le_refl _)] at hg
   refine hw_exit ?_
   refine seqQ_x ?_
   refine loopQ_x ?_
   refine blockQ_eq ?_
   refine seqQ_n ?_
   refine hw_reg ?_
   refine dp rfl (pop_assign rfl) ?_
   refine dn ?_
   refine hw_ret ?_
   refine ret_p rfl ?_
   show HVal.int .i64 _ = _
   (rw [hg]; rfl)

/-- slices.ContainsFunc[[]benchwarmer/api.Play,benchwarmer/api.Play] -/
theorem c_slices_ContainsFunc_api_Play_api_Play [Tracks] {l : List Play} {fid : FuncId} {caps : List HVal} {p : Play → Bool} (hca : Callable Tryz.prog fid) (hp : ∀ x, ConP Tryz.prog fid ([ePlay x] ++ caps) (.bool (p x))) (hl : l.length ≤ 1000000) : ConP Tryz.prog 122 [.slice 9 (l.map ePlay), .fn (.func fid) [] caps] (.bool (l.any p)) := by
 refine Con.of_body Tryz.func122 rfl Tryz.ntmps122 rfl rfl ?_
 refine hw_reg ?_
 refine dp rfl (pop_assign rfl) ?_
 refine dn ?_
 refine hw_reg ?_
 refine dp rfl (pop_move rfl) ?_
 refine dp rfl (pop_move rfl) ?_
 refine dp rfl (pop_call ca105 rfl (WeakL.refl _) (c_slices_IndexFunc_api_Play_api_Play hca hp hl)) ?_
 refine dp rfl (pop_geq rfl rfl) ?_
 refine dp rfl (pop_assign rfl) ?_
 refine dn ?_
 refine hw_ret ?_
 refine ret_p rfl ?_
 congr 1; exact idxF_nonneg p l 0 (by omega)

/-- slices.IndexFunc[[]benchwarmer/api.Stat,benchwarmer/api.Stat] -/
theorem c_slices_IndexFunc_api_Stat_api_Stat [Tracks] {l : List StatS} {fid : FuncId} {caps : List HVal} {p : StatS → Bool} (hca : Callable Tryz.prog fid) (hp : ∀ x, ConP Tryz.prog fid ([eStat x] ++ caps) (.bool (p x))) (hl : l.length ≤ 1000000) : ConP Tryz.prog 167 [.slice 2 (l.map eStat), .fn (.func fid) [] caps] (.int .i64 (idxF p l 0)) := by
 refine Con.of_body Tryz.func167 rfl Tryz.ntmps167 rfl rfl ?_
 refine hw_reg ?_
 refine dp rfl (pop_assign rfl) ?_
 refine dn ?_
 refine hw_seq ?_
 refine hw_reg ?_
 refine dp rfl (pop_move rfl) ?_
 refine dp rfl (pop_lenm ty54 rfl) ?_
 refine dp rfl (pop_move rfl) ?_
 refine dn ?_
 refine hw_block ?_
 refine hw_loopw [4, 5, 8, 9, 10, 11, 12, 13, 14, 15, 16, 17, 18] (fun (k : Nat) => [(8, .int .i64 k)]) (fun (k : Nat) => []) (fun (k : Nat) => k ≤ l.length ∧ (idxF p l 0 = idxF p (l.drop k) k)) (fun (k : Nat) => l.length - k) (0) ?_ ?_ ?_ ?_
 ·exact ⟨Nat.zero_le _, rfl⟩
 ·exact ⟨rfl, trivial⟩
 ·exact List.Perm.refl _
 ·intro k hinv
  obtain ⟨hk, hg⟩ := hinv
  refine hw_reg ?_
  refine dp rfl (pop_lss rfl rfl) ?_
  refine dn ?_
  refine hw_seq ?_
  refine hw_cond rfl (fun h1 => ?_) (fun h2 => ?_)
  ·try simp at h1
   obtain ⟨x, hx⟩ : ∃ x, l[k]? = some x := ⟨_, List.getElem?_eq_getElem h1⟩
   have hdx := drop_cons hx
   rw [hdx] at hg
   refine hw_skip ?_
   refine seqQ_n ?_
   refine hw_seq ?_
   refine hw_block ?_
   refine hw_reg ?_
   refine dp rfl (pop_move rfl) ?_
   refine dp rfl (pop_assign rfl) ?_
   refine dn ?_
   refine hw_reg ?_
   refine dp rfl (pop_move rfl) ?_
   refine dp rfl (pop_move rfl) ?_
   refine dp rfl (pop_move rfl) ?_
   refine dp rfl (pop_idx ty54 ty144 rfl rfl rfl (by assumption)) ?_
   refine dp rfl (pop_loadw ty144 rfl rfl rfl rfl) ?_
   refine dp rfl (pop_callv hca rfl rfl (WeakL.refl _) (hp _)) ?_
   refine dn ?_
   refine hw_cond rfl (fun h3 => ?_) (fun h4 => ?_)
   ·try simp at h3
    refine hw_reg ?_
    refine dp rfl (pop_move rfl) ?_
    refine dp rfl (pop_assign rfl) ?_
    refine dn ?_
    refine hw_ret ?_
    refine ret_p rfl ?_
    show HVal.int .i64 _ = _
    (rw [hg]; simp_all [idxF])
   ·try simp at h4
    refine hw_skip ?_
    refine blockQ_n ?_
    refine seqQ_n ?_
    refine hw_reg1 ?_
    refine dp rfl (pop_add64 rfl rfl (by omega) (by omega)) ?_
    refine dp rfl (pop_move rfl) ?_
    refine dn ?_
    refine ⟨k + 1, ?_, ?_, ⟨rfl, trivial⟩, (by repeat (first | exact keeps_refl | refine keeps_upd rfl ?_ | refine keeps_loop rfl rfl ?_)), List.Perm.refl _⟩
    ·refine ⟨by omega, ?_⟩
     rw [hg, idxF, if_neg (by simp_all)]; rfl
    ·dsimp only; omega
  ·try simp at h2
   have hnk : l.length ≤ k := by omega
   obtain rfl : k = l.length := by omega
   rw [drop_all (Nat.le_refl _)] at hg
   refine hw_exit ?_
   refine seqQ_x ?_
   refine loopQ_x ?_
   refine blockQ_eq ?_
   refine seqQ_n ?_
   refine hw_reg ?_
   refine dp rfl (pop_assign rfl) ?_
   refine dn ?_
   refine hw_ret ?_
   refine ret_p rfl ?_
   show HVal.int .i64 _ = _
   (rw [hg]; rfl)

/-- slices.ContainsFunc[[]benchwarmer/api.Stat,benchwarmer/api.Stat] -/
theorem c_slices_ContainsFunc_api_Stat_api_Stat [Tracks] {l : List StatS} {fid : FuncId} {caps : List HVal} {p : StatS → Bool} (hca : Callable Tryz.prog fid) (hp : ∀ x, ConP Tryz.prog fid ([eStat x] ++ caps) (.bool (p x))) (hl : l.length ≤ 1000000) : ConP Tryz.prog 130 [.slice 2 (l.map eStat), .fn (.func fid) [] caps] (.bool (l.any p)) := by
 refine Con.of_body Tryz.func130 rfl Tryz.ntmps130 rfl rfl ?_
 refine hw_reg ?_
 refine dp rfl (pop_assign rfl) ?_
 refine dn ?_
 refine hw_reg ?_
 refine dp rfl (pop_move rfl) ?_
 refine dp rfl (pop_move rfl) ?_
 refine dp rfl (pop_call ca167 rfl (WeakL.refl _) (c_slices_IndexFunc_api_Stat_api_Stat hca hp hl)) ?_
 refine dp rfl (pop_geq rfl rfl) ?_
 refine dp rfl (pop_assign rfl) ?_
 refine dn ?_
 refine hw_ret ?_
 refine ret_p rfl ?_
 congr 1; exact idxF_nonneg p l 0 (by omega)

theorem c_slices_SortI [Tracks] {l : List Int} {v : Value} (hl : l.length ≤ 1000000) : Con Tryz.prog 125 [.raw v] [.arr v 1 (l.map (.int .i64))] fun x M' => x = .tup [] ∧ M' = [.arr v 1 ((sortI l).map (.int .i64))] :=
 con_rowI (sortI_len l) (fun b off cap w h1 h2 _ => Any.slices_Sort_int Tryz.lays189 b off cap l w h1 h2 (by omega)) (fun _ => conp_of_calls fun I w args ha => by
  obtain ⟨u, rfl, hu⟩ := ha.one
  obtain ⟨p, cap, rfl⟩ := hu.slice_len
  exact ⟨.tuple #[], .tup (by simp) (fun j c v h _ => by simp at h), Any.slices_Sort_int_none Tryz.lays189 p cap w⟩)

theorem c_slices_CompactI [Tracks] {l : List Int} {v : Value} (hl : l.length ≤ 1000000) : Con Tryz.prog 126 [.raw v] [.arr v 1 (l.map (.int .i64))] fun x M' => ∃ u, x = .raw u ∧ M' = [.arr u 1 ((Lib.compact l).map (.int .i64))] :=
 con_rowcI (compactI_le l) (fun b off cap w h1 _ h3 => Any.slices_Compact_int Tryz.lays220 b off cap l w h1 (by omega) h3) (fun _ w => Any.slices_Compact_int_empty Tryz.lays220 none 0 w)

/-- slices.Index[[]int,int] -/
theorem c_slices_Index_int_int [Tracks] {l : List Int} {z : Int} (hl : l.length ≤ 1000000) : ConP Tryz.prog 127 [.slice 1 (l.map (.int .i64)), .int .i64 z] (.int .i64 (idxF (· == z) l 0)) := by
 refine Con.of_body Tryz.func127 rfl Tryz.ntmps127 rfl rfl ?_
 refine hw_reg ?_
 refine dp rfl (pop_assign rfl) ?_
 refine dn ?_
 refine hw_seq ?_
 refine hw_reg ?_
 refine dp rfl (pop_move rfl) ?_
 refine dp rfl (pop_lenm ty22 rfl) ?_
 refine dp rfl (pop_move rfl) ?_
 refine dn ?_
 refine hw_block ?_
 refine hw_loopw [4, 5, 8, 9, 10, 11, 12, 13, 14, 15, 16, 17, 18] (fun (k : Nat) => [(8, .int .i64 k)]) (fun (k : Nat) => []) (fun (k : Nat) => k ≤ l.length ∧ (idxF (· == z) l 0 = idxF (· == z) (l.drop k) k)) (fun (k : Nat) => l.length - k) (0) ?_ ?_ ?_ ?_
 ·exact ⟨Nat.zero_le _, rfl⟩
 ·exact ⟨rfl, trivial⟩
 ·exact List.Perm.refl _
 ·intro k hinv
  obtain ⟨hk, hg⟩ := hinv
  refine hw_reg ?_
  refine dp rfl (pop_lss rfl rfl) ?_
  refine dn ?_
  refine hw_seq ?_
  refine hw_cond rfl (fun h1 => ?_) (fun h2 => ?_)
  ·try simp at h1
   obtain ⟨x, hx⟩ : ∃ x, l[k]? = some x := ⟨_, List.getElem?_eq_getElem h1⟩
   have hdx := drop_cons hx
   rw [hdx] at hg
   refine hw_skip ?_
   refine seqQ_n ?_
   refine hw_seq ?_
   refine hw_block ?_
   refine hw_reg ?_
   refine dp rfl (pop_move rfl) ?_
   refine dp rfl (pop_assign rfl) ?_
   refine dn ?_
   refine hw_reg ?_
   refine dp rfl (pop_move rfl) ?_
   refine dp rfl (pop_move rfl) ?_
   refine dp rfl (pop_move rfl) ?_
   refine dp rfl (pop_idx ty22 ty3 rfl rfl rfl (by assumption)) ?_
   refine dp rfl (pop_load ty3 rfl rfl rfl) ?_
   refine dp rfl (pop_eql rfl rfl) ?_
   refine dn ?_
   refine hw_cond rfl (fun h3 => ?_) (fun h4 => ?_)
   ·try simp at h3
    refine hw_reg ?_
    refine dp rfl (pop_move rfl) ?_
    refine dp rfl (pop_assign rfl) ?_
    refine dn ?_
    refine hw_ret ?_
    refine ret_p rfl ?_
    show HVal.int .i64 _ = _
    (rw [hg]; simp_all [idxF])
   ·try simp at h4
    refine hw_skip ?_
    refine blockQ_n ?_
    refine seqQ_n ?_
    refine hw_reg1 ?_
    refine dp rfl (pop_add64 rfl rfl (by omega) (by omega)) ?_
    refine dp rfl (pop_move rfl) ?_
    refine dn ?_
    refine ⟨k + 1, ?_, ?_, ⟨rfl, trivial⟩, (by repeat (first | exact keeps_refl | refine keeps_upd rfl ?_ | refine keeps_loop rfl rfl ?_)), List.Perm.refl _⟩
    ·refine ⟨by omega, ?_⟩
     rw [hg, idxF, if_neg (by simp_all; try omega)]; rfl
    ·dsimp only; omega
  ·try simp at h2
   have hnk : l.length ≤ k := by omega
   obtain rfl : k = l.length := by omega
   rw [drop_all (Nat.le_refl _)] at hg
   refine hw_exit ?_
   refine seqQ_x ?_
   refine loopQ_x ?_
   refine blockQ_eq ?_
   refine seqQ_n ?_
   refine hw_reg ?_
   refine dp rfl (pop_assign rfl) ?_
   refine dn ?_
   refine hw_ret ?_
   refine ret_p rfl ?_
   show HVal.int .i64 _ = _
   (rw [hg]; rfl)

/-- slices.Contains[[]int,int] -/
theorem c_slices_Contains_int_int [Tracks] {l : List Int} {z : Int} (hl : l.length ≤ 1000000) : ConP Tryz.prog 75 [.slice 1 (l.map (.int .i64)), .int .i64 z] (.bool (l.contains z)) := by
 refine Con.of_body Tryz.func75 rfl Tryz.ntmps75 rfl rfl ?_
 refine hw_reg ?_
 refine dp rfl (pop_assign rfl) ?_
 refine dn ?_
 refine hw_reg ?_
 refine dp rfl (pop_move rfl) ?_
 refine dp rfl (pop_move rfl) ?_
 refine dp rfl (pop_call ca127 rfl (WeakL.refl _) (c_slices_Index_int_int (by assumption))) ?_
 refine dp rfl (pop_geq rfl rfl) ?_
 refine dp rfl (pop_assign rfl) ?_
 refine dn ?_
 refine hw_ret ?_
 refine ret_p rfl ?_
 show HVal.bool _ = _
 rw [contains_idxF, ← idxF_nonneg _ l 0 (by omega)]

/-- benchwarmer/benchref1.WeekFault -/
theorem c_benchref1_WeekFault [Tracks] {n : Int}  : ConP Tryz.prog 20 [.int .i64 n] (.int .i64 (if weekB n then 0 else 1)) := by
 refine Con.of_body Tryz.func20 rfl Tryz.ntmps20 rfl rfl ?_
 refine hw_reg ?_
 refine dp rfl (pop_assign rfl) ?_
 refine dn ?_
 refine hw_reg ?_
 refine dp rfl (pop_move rfl) ?_
 refine dp rfl (pop_call ca71 rfl (WeakL.refl _) c_benchref1_SpanFault) ?_
 refine dp rfl (pop_assign rfl) ?_
 refine dn ?_
 refine hw_ret ?_
 refine ret_p rfl ?_
 show HVal.int .i64 _ = _
 unfold weekB
 cases out n 1 60 <;> rfl

/-- benchwarmer/benchref1.KeyFault -/
theorem c_benchref1_KeyFault [Tracks] {s : Str} (hs : s.length ≤ 1000000) : ConP Tryz.prog 21 [.str s] (.int .i64 (if key s then 0 else 5)) := by
 refine Con.of_body Tryz.func21 rfl Tryz.ntmps21 rfl rfl ?_
 refine hw_reg ?_
 refine dp rfl (pop_assign rfl) ?_
 refine dn ?_
 refine hw_seq ?_
 refine hw_reg ?_
 refine dp rfl (pop_move rfl) ?_
 refine dp rfl (pop_call ca57 rfl (WeakL.refl _) (c_benchref1_Key (by assumption))) ?_
 refine dp rfl (pop_not rfl) ?_
 refine dn ?_
 refine hw_cond rfl (fun h1 => ?_) (fun h2 => ?_)
 ·try simp at h1
  refine hw_reg ?_
  refine dp rfl (pop_assign rfl) ?_
  refine dn ?_
  refine hw_ret ?_
  refine ret_p rfl ?_
  show HVal.int .i64 _ = _
  simp_all
 ·try simp at h2
  refine hw_skip ?_
  refine seqQ_n ?_
  refine hw_reg ?_
  refine dp rfl (pop_assign rfl) ?_
  refine dn ?_
  refine hw_ret ?_
  refine ret_p rfl ?_
  show HVal.int .i64 _ = _
  simp_all

/-- benchwarmer/benchref1.PlayFault -/
theorem c_benchref1_PlayFault [Tracks] {p : Play} (hgp : GoodPl1 p) : ConP Tryz.prog 55 [ePlay p] (.int .i64 (playFault p)) := by
 refine Con.of_body Tryz.func55 rfl Tryz.ntmps55 rfl rfl ?_
 refine hw_reg ?_
 refine dp rfl (pop_box rfl rfl) ?_
 refine dp rfl (pop_assign rfl) ?_
 refine dn ?_
 refine hw_seq ?_
 refine hw_block ?_
 refine hw_reg ?_
 refine dp rfl (pop_fieldAddr ty93 rfl ty9 (by decide) rfl) ?_
 refine dp rfl (pop_load ty9 rfl rfl rfl) ?_
 refine dp rfl (pop_call ca57 rfl (WeakL.refl _) (c_benchref1_Key hgp.1)) ?_
 refine dp rfl (pop_not rfl) ?_
 refine dp rfl (pop_assign rfl) ?_
 refine dn ?_
 refine hw_cond rfl (fun h1 => ?_) (fun h2 => ?_)
 ·try simp at h1
  refine hw_reg ?_
  refine dp rfl (pop_assign rfl) ?_
  refine dn ?_
  refine hw_ret ?_
  refine ret_p rfl ?_
  show HVal.int .i64 _ = _
  simp_all [playFault]
 ·try simp at h2
  refine hw_reg ?_
  refine dp rfl (pop_fieldAddr ty93 rfl ty3 (by decide) rfl) ?_
  refine dp rfl (pop_load ty3 rfl rfl rfl) ?_
  refine dp rfl (pop_call ca87 rfl (WeakL.refl _) c_benchref1_in) ?_
  refine dp rfl (pop_not rfl) ?_
  refine dp rfl (pop_move rfl) ?_
  refine dg rfl rfl (fun hc => ⟨_, OpenTo.refl _, pop_fieldAddr ty93 rfl ty3 (by decide) rfl⟩) ?_
  refine dg rfl rfl (fun hc => ⟨_, OpenTo.upd (t := 14) rfl (hc) (OpenTo.refl _), pop_load ty3 rfl rfl rfl⟩) ?_
  refine dg rfl rfl (fun hc => ⟨_, OpenTo.upd (t := 15) rfl (hc) (OpenTo.refl _), pop_call ca19 rfl (WeakL.refl _) c_benchref1_MomentFault⟩) ?_
  refine dg rfl rfl (fun hc => ⟨_, OpenTo.upd (t := 16) rfl (hc) (OpenTo.refl _), pop_neq rfl rfl⟩) ?_
  refine dp rfl (pop_picko rfl (.inl rfl) (.inr ⟨_, rfl, fun h => by simp_all⟩)) ?_
  refine dp rfl (pop_move rfl) ?_
  refine dg rfl rfl (fun hc => ⟨_, OpenTo.refl _, pop_fieldAddr ty93 rfl ty3 (by decide) rfl⟩) ?_
  refine dg rfl rfl (fun hc => ⟨_, OpenTo.upd (t := 20) rfl (hc) (OpenTo.refl _), pop_load ty3 rfl rfl rfl⟩) ?_
  refine dg rfl rfl (fun hc => ⟨_, OpenTo.upd (t := 21) rfl (hc) (OpenTo.refl _), pop_call ca20 rfl (WeakL.refl _) c_benchref1_WeekFault⟩) ?_
  refine dg rfl rfl (fun hc => ⟨_, OpenTo.upd (t := 22) rfl (hc) (OpenTo.refl _), pop_neq rfl rfl⟩) ?_
  refine dp rfl (pop_picko rfl (.inl rfl) (.inr ⟨_, rfl, fun h => by simp_all⟩)) ?_
  refine dp rfl (pop_assign rfl) ?_
  refine dn ?_
  refine hw_cond rfl (fun h3 => ?_) (fun h4 => ?_)
  ·try simp at h3
   refine hw_reg ?_
   refine dp rfl (pop_assign rfl) ?_
   refine dn ?_
   refine hw_ret ?_
   refine ret_p rfl ?_
   show HVal.int .i64 _ = _
   simp_all [playFault]
  ·try simp at h4
   refine hw_reg ?_
   refine dp rfl (pop_fieldAddr ty93 rfl ty9 (by decide) rfl) ?_
   refine dp rfl (pop_load ty9 rfl rfl rfl) ?_
   refine dp rfl (pop_call ca57 rfl (WeakL.refl _) (c_benchref1_Key hgp.2.1)) ?_
   refine dp rfl (pop_not rfl) ?_
   refine dp rfl (pop_move rfl) ?_
   refine dg rfl rfl (fun hc => ⟨_, OpenTo.refl _, pop_fieldAddr ty93 rfl ty9 (by decide) rfl⟩) ?_
   refine dg rfl rfl (fun hc => ⟨_, OpenTo.upd (t := 31) rfl (hc) (OpenTo.refl _), pop_load ty9 rfl rfl rfl⟩) ?_
   refine dg rfl rfl (fun hc => ⟨_, OpenTo.upd (t := 32) rfl (hc) (OpenTo.refl _), pop_call ca57 rfl (WeakL.refl _) (c_benchref1_Key hgp.2.2.1)⟩) ?_
   refine dg rfl rfl (fun hc => ⟨_, OpenTo.upd (t := 33) rfl (hc) (OpenTo.refl _), pop_not rfl⟩) ?_
   refine dp rfl (pop_picko rfl (.inl rfl) (.inr ⟨_, rfl, fun h => by simp_all⟩)) ?_
   refine dp rfl (pop_move rfl) ?_
   refine dg rfl rfl (fun hc => ⟨_, OpenTo.refl _, pop_fieldAddr ty93 rfl ty9 (by decide) rfl⟩) ?_
   refine dg rfl rfl (fun hc => ⟨_, OpenTo.upd (t := 37) rfl (hc) (OpenTo.refl _), pop_load ty9 rfl rfl rfl⟩) ?_
   refine dg rfl rfl (fun hc => ⟨_, OpenTo.upd (t := 38) rfl (hc) (OpenTo.refl _), pop_call ca57 rfl (WeakL.refl _) (c_benchref1_Key hgp.2.2.2)⟩) ?_
   refine dg rfl rfl (fun hc => ⟨_, OpenTo.upd (t := 39) rfl (hc) (OpenTo.refl _), pop_not rfl⟩) ?_
   refine dp rfl (pop_picko rfl (.inl rfl) (.inr ⟨_, rfl, fun h => by simp_all⟩)) ?_
   refine dp rfl (pop_assign rfl) ?_
   refine dn ?_
   refine hw_cond rfl (fun h5 => ?_) (fun h6 => ?_)
   ·try simp at h5
    refine hw_reg ?_
    refine dp rfl (pop_assign rfl) ?_
    refine dn ?_
    refine hw_ret ?_
    refine ret_p rfl ?_
    show HVal.int .i64 _ = _
    simp_all [playFault]
   ·try simp at h6
    refine hw_reg ?_
    refine dp rfl (pop_fieldAddr ty93 rfl ty3 (by decide) rfl) ?_
    refine dp rfl (pop_load ty3 rfl rfl rfl) ?_
    refine dp rfl (pop_call ca87 rfl (WeakL.refl _) c_benchref1_in) ?_
    refine dp rfl (pop_not rfl) ?_
    refine dp rfl (pop_move rfl) ?_
    refine dg rfl rfl (fun hc => ⟨_, OpenTo.refl _, pop_fieldAddr ty93 rfl ty3 (by decide) rfl⟩) ?_
    refine dg rfl rfl (fun hc => ⟨_, OpenTo.upd (t := 48) rfl (hc) (OpenTo.refl _), pop_load ty3 rfl rfl rfl⟩) ?_
    refine dg rfl rfl (fun hc => ⟨_, OpenTo.refl _, pop_fieldAddr ty93 rfl ty3 (by decide) rfl⟩) ?_
    refine dg rfl rfl (fun hc => ⟨_, OpenTo.upd (t := 50) rfl (hc) (OpenTo.refl _), pop_load ty3 rfl rfl rfl⟩) ?_
    have hN := out_f (n := p.No) (lo := 1) (hi := 3000) (by simp_all)
    refine dg rfl rfl (fun hc => by have hq := hc; (try simp at hq); exact ⟨_, OpenTo.upd (t := 51) rfl (hc) (OpenTo.refl _), pop_sub64 rfl rfl (by omega) (by omega)⟩) ?_
    refine dg rfl rfl (fun hc => ⟨_, OpenTo.upd (t := 52) rfl (hc) (OpenTo.upd (t := 49) rfl (hc) (OpenTo.refl _)), pop_call ca87 rfl (WeakL.refl _) c_benchref1_in⟩) ?_
    refine dg rfl rfl (fun hc => ⟨_, OpenTo.upd (t := 53) rfl (hc) (OpenTo.refl _), pop_not rfl⟩) ?_
    refine dp rfl (pop_picko rfl (.inl rfl) (.inr ⟨_, rfl, fun h => by simp_all⟩)) ?_
    refine dp rfl (pop_assign rfl) ?_
    refine dn ?_
    refine hw_cond rfl (fun h7 => ?_) (fun h8 => ?_)
    ·try simp at h7
     refine hw_reg ?_
     refine dp rfl (pop_assign rfl) ?_
     refine dn ?_
     refine hw_ret ?_
     refine ret_p rfl ?_
     show HVal.int .i64 _ = _
     simp_all [playFault]
    ·try simp at h8
     refine hw_reg ?_
     refine dp rfl (pop_fieldAddr ty93 rfl ty3 (by decide) rfl) ?_
     refine dp rfl (pop_load ty3 rfl rfl rfl) ?_
     refine dp rfl (pop_gtr rfl rfl) ?_
     refine dp rfl (pop_move rfl) ?_
     refine dg rfl rfl (fun hc => ⟨_, OpenTo.refl _, pop_fieldAddr ty93 rfl ty3 (by decide) rfl⟩) ?_
     refine dg rfl rfl (fun hc => ⟨_, OpenTo.upd (t := 61) rfl (hc) (OpenTo.refl _), pop_load ty3 rfl rfl rfl⟩) ?_
     refine dg rfl rfl (fun hc => ⟨_, OpenTo.upd (t := 62) rfl (hc) (OpenTo.refl _), pop_neq rfl rfl⟩) ?_
     refine dp rfl (pop_picko rfl (.inr ⟨_, rfl, fun h => by simp_all⟩) (.inl rfl)) ?_
     refine dp rfl (pop_assign rfl) ?_
     refine dn ?_
     refine hw_cond rfl (fun h9 => ?_) (fun h10 => ?_)
     ·try simp at h9
      refine hw_reg ?_
      refine dp rfl (pop_assign rfl) ?_
      refine dn ?_
      refine hw_ret ?_
      refine ret_p rfl ?_
      show HVal.int .i64 _ = _
      simp_all [playFault]
     ·try simp at h10
      refine hw_skip ?_
      refine blockQ_n ?_
      refine seqQ_n ?_
      refine hw_reg ?_
      refine dp rfl (pop_assign rfl) ?_
      refine dn ?_
      refine hw_ret ?_
      refine ret_p rfl ?_
      show HVal.int .i64 _ = _
      simp_all [playFault]

/-- benchwarmer/benchref1.byPlay -/
theorem c_benchref1_byPlay [Tracks] {a b : Play}  : ConP Tryz.prog 56 [ePlay a, ePlay b] (.int .i64 (byNo a b)) := by
 refine Con.of_body Tryz.func56 rfl Tryz.ntmps56 rfl rfl ?_
 refine hw_reg ?_
 refine dp rfl (pop_box rfl rfl) ?_
 refine dp rfl (pop_box rfl rfl) ?_
 refine dp rfl (pop_assign rfl) ?_
 refine dn ?_
 refine hw_draw (fun _ => True) [] mixed ?_
 refine ahp 0 rfl rfl (by kernel_rfl) (by kernel_rfl) (pop_fieldAddr ty93 rfl ty9 (by decide) rfl) ?_
 refine ahp 1 rfl rfl (by kernel_rfl) (by kernel_rfl) (pop_load ty9 rfl rfl rfl) ?_
 refine ahp 2 rfl rfl (by kernel_rfl) (by kernel_rfl) (pop_fieldAddr ty93 rfl ty9 (by decide) rfl) ?_
 refine ahp 3 rfl rfl (by kernel_rfl) (by kernel_rfl) (pop_load ty9 rfl rfl rfl) ?_
 refine ahp 4 rfl rfl (by kernel_rfl) (by kernel_rfl) (pop_call ca81 rfl (WeakL.refl _) c_strings_Compare) ?_
 refine ahp 5 rfl rfl (by kernel_rfl) (by kernel_rfl) (pop_fieldAddr ty93 rfl ty3 (by decide) rfl) ?_
 refine ahp 6 rfl rfl (by kernel_rfl) (by kernel_rfl) (pop_load ty3 rfl rfl rfl) ?_
 refine ahp 7 rfl rfl (by kernel_rfl) (by kernel_rfl) (pop_fieldAddr ty93 rfl ty3 (by decide) rfl) ?_
 refine ahp 8 rfl rfl (by kernel_rfl) (by kernel_rfl) (pop_load ty3 rfl rfl rfl) ?_
 refine ahp 9 rfl rfl (by kernel_rfl) (by kernel_rfl) (pop_call ca108 rfl (WeakL.refl _) c_cmp_Compare_int) ?_
 refine ahp 10 rfl rfl (by kernel_rfl) (by kernel_rfl) (pop_buildSlice (hs := [_, _]) ty22 ty3 rfl rfl (by decide) (by decide) rfl) ?_
 refine ahp 11 rfl rfl (by kernel_rfl) (by kernel_rfl) (pop_call ca80 rfl (WeakL.refl _) (c_cmp_Or_int (l := [_, _]) (by simp))) ?_
 refine ahp 12 rfl rfl (by kernel_rfl) (by kernel_rfl) (pop_assign rfl) ?_
 refine ahz (by kernel_rfl) ?_
 refine hw_ret ?_
 refine ret_p rfl ?_
 rfl

/-- benchwarmer/benchref1.PlaysFault -/
theorem c_benchref1_PlaysFault [Tracks] {l : List Play} (hl : l.length ≤ 1000000) (hgl : ∀ x ∈ l, GoodPl1 x) : ConP Tryz.prog 12 [ePlays l] (.int .i64 (playsE l)) := by
 refine Con.of_body Tryz.func12 rfl Tryz.ntmps12 rfl rfl ?_
 refine hw_reg ?_
 refine dp rfl (pop_assign rfl) ?_
 refine dn ?_
 refine hw_seq ?_
 refine hw_reg ?_
 refine dp rfl (pop_move rfl) ?_
 refine dp rfl (pop_lenm ty26 rfl) ?_
 refine dp rfl (pop_gtr rfl rfl) ?_
 refine dn ?_
 refine hw_cond rfl (fun h1 => ?_) (fun h2 => ?_)
 ·try simp at h1
  refine hw_reg ?_
  refine dp rfl (pop_assign rfl) ?_
  refine dn ?_
  refine hw_ret ?_
  refine ret_g Ghost.clear rfl ⟨?_, rfl⟩
  show HVal.int .i64 _ = _
  (rw [playsE, if_pos (by omega)]; done)
 ·try simp at h2
  refine hw_skip ?_
  refine seqQ_n ?_
  refine hw_reg ?_
  refine de rfl (eop_makeMap fun m12 => ?_)
  refine de rfl (eop_makeMap fun m13 => ?_)
  refine dp rfl (pop_assign rfl) ?_
  refine dp rfl (pop_assign rfl) ?_
  refine dn ?_
  refine hw_reg ?_
  refine dp rfl (pop_assign rfl) ?_
  refine dn ?_
  refine hw_seq ?_
  refine hw_reg ?_
  refine dp rfl (pop_move rfl) ?_
  refine dp rfl (pop_lenm ty26 rfl) ?_
  refine dp rfl (pop_move rfl) ?_
  refine dn ?_
  refine hw_block ?_
  refine hw_loopw [2, 5, 6, 7, 8, 16, 17, 18, 19, 20, 21, 22, 23, 24, 25, 26, 27, 28, 29, 30, 31, 32, 33, 34, 35, 36, 37, 38, 39, 40, 41, 42, 43, 44, 45, 46, 47, 48, 49, 50, 51, 52, 53, 54, 55, 56, 57, 58, 59, 60, 61, 62, 63] (fun (k : Nat) => [(16, .int .i64 k), (5, .bool (chkSt (l.take k)).c)]) (fun (k : Nat) => [.map m13 (sk (em (.int .i64) (chkSt (l.take k)).W)), .map m12 (sk (mset (chkSt (l.take k)).S))]) (fun (k : Nat) => k ≤ l.length ∧ (playsGo l 0 l = playsGo l k (l.drop k) ∧ ∀ y ∈ l.take k, playFault y = 0)) (fun (k : Nat) => l.length - k) (0) ?_ ?_ ?_ ?_
  ·exact ⟨Nat.zero_le _, rfl, by simp⟩
  ·exact ⟨rfl, rfl, trivial⟩
  ·exact List.Perm.refl _
  ·intro k hinv
   obtain ⟨hk, hg, hok⟩ := hinv
   refine hw_reg ?_
   refine dp rfl (pop_lss rfl rfl) ?_
   refine dn ?_
   refine hw_seq ?_
   refine hw_cond rfl (fun h3 => ?_) (fun h4 => ?_)
   ·try simp at h3
    obtain ⟨x, hx⟩ : ∃ x, l[k]? = some x := ⟨_, List.getElem?_eq_getElem h3⟩
    have hdx := drop_cons hx
    rw [hdx] at hg
    refine hw_skip ?_
    refine seqQ_n ?_
    refine hw_seq ?_
    refine hw_block ?_
    refine hw_reg ?_
    refine dp rfl (pop_move rfl) ?_
    refine dp rfl (pop_idx ty26 ty93 rfl rfl rfl (by assumption)) ?_
    refine dp rfl (pop_loadw ty93 rfl rfl rfl rfl) ?_
    refine de rfl (eop_alloc ty93 rfl fun b7 => ?_)
    refine dp rfl (pop_assign rfl) ?_
    refine de0 (eop_storew ty93 rfl rfl rfl rfl rfl ?_)
    refine dn ?_
    refine hw_ghost (Ghost.fc0 7 rfl) ?_
    refine hw_seq ?_
    refine hw_reg ?_
    refine dp rfl (pop_loadw ty93 rfl rfl rfl rfl) ?_
    refine dp rfl (pop_call ca55 rfl (WeakL.refl _) (c_benchref1_PlayFault (hgl x (List.mem_of_getElem? hx)))) ?_
    refine dp rfl (pop_assign rfl) ?_
    refine dn ?_
    refine hw_reg ?_
    refine dp rfl (pop_move rfl) ?_
    refine dp rfl (pop_neq rfl rfl) ?_
    refine dn ?_
    refine hw_cond rfl (fun h5 => ?_) (fun h6 => ?_)
    ·try simp at h5
     refine hw_reg ?_
     refine dp rfl (pop_move rfl) ?_
     refine dp rfl (pop_assign rfl) ?_
     refine dn ?_
     refine hw_ret ?_
     refine ret_g Ghost.clear rfl ⟨?_, rfl⟩
     show HVal.int .i64 _ = _
     (rw [playsE_go (by omega) (by rw [hg, playsGo, if_pos (by simpa using h5)]) (by simpa using h5)]; done)
    ·try simp at h6
     refine hw_skip ?_
     refine seqQ_n ?_
     refine hw_seq ?_
     refine hw_draw (fun _ => True) [] mixed ?_
     refine ahp 0 rfl rfl (by kernel_rfl) (by kernel_rfl) (pop_move rfl) ?_
     refine ahp 1 rfl rfl (by kernel_rfl) (by kernel_rfl) (pop_gtr rfl rfl) ?_
     refine ahp 2 rfl rfl (by kernel_rfl) (by kernel_rfl) (pop_move rfl) ?_
     refine ahg 3 rfl rfl (by kernel_rfl) (by kernel_rfl) rfl (fun hc => ⟨_, OpenTo.refl _, pop_move rfl⟩) ?_
     refine ahg 4 rfl rfl (by kernel_rfl) (by kernel_rfl) rfl (fun hc => ⟨_, OpenTo.refl _, pop_move rfl⟩) ?_
     refine ahg 5 rfl rfl (by kernel_rfl) (by kernel_rfl) rfl (fun hc => by have hq := hc; (try simp at hq); exact ⟨_, OpenTo.upd (t := 30) rfl (hc) (OpenTo.refl _), pop_sub64 rfl rfl (by omega) (by omega)⟩) ?_
     refine ahg 6 rfl rfl (by kernel_rfl) (by kernel_rfl) rfl (fun hc => by have hq := hc; (try simp at hq); exact ⟨_, OpenTo.upd (t := 31) rfl (hc) (OpenTo.upd (t := 29) rfl (hc) (OpenTo.refl _)), pop_idx (j := k - 1) (a := l.getD (k - 1) play0) ty26 ty93 rfl rfl (by omega) (getD_some (by omega))⟩) ?_
     refine ahg 7 rfl rfl (by kernel_rfl) (by kernel_rfl) rfl (fun hc => ⟨_, OpenTo.upd (t := 32) rfl (hc) (OpenTo.refl _), pop_loadw ty93 rfl rfl rfl rfl⟩) ?_
     refine ahg 8 rfl rfl (by kernel_rfl) (by kernel_rfl) rfl (fun hc => ⟨_, OpenTo.refl _, pop_loadw ty93 rfl rfl rfl rfl⟩) ?_
     refine ahg 9 rfl rfl (by kernel_rfl) (by kernel_rfl) rfl (fun hc => ⟨_, OpenTo.upd (t := 34) rfl (hc) (OpenTo.upd (t := 33) rfl (hc) (OpenTo.refl _)), pop_call ca56 rfl (WeakL.refl _) c_benchref1_byPlay⟩) ?_
     refine ahg 10 rfl rfl (by kernel_rfl) (by kernel_rfl) rfl (fun hc => ⟨_, OpenTo.upd (t := 35) rfl (hc) (OpenTo.refl _), pop_geq rfl rfl⟩) ?_
     refine ahp 11 rfl rfl (by kernel_rfl) (by kernel_rfl) (pop_picko rfl (.inr ⟨_, rfl, fun h => by simp_all⟩) (.inl rfl)) ?_
     refine ahz (by kernel_rfl) ?_
     refine hw_cond rfl (fun h7 => ?_) (fun h8 => ?_)
     ·try simp at h7
      refine hw_reg ?_
      refine dp rfl (pop_assign rfl) ?_
      refine dn ?_
      refine hw_ret ?_
      refine ret_g Ghost.clear rfl ⟨?_, rfl⟩
      show HVal.int .i64 _ = _
      (rw [playsE_go (c := 7) (by omega) (by rw [hg, playsGo, if_neg (by simpa using h6), if_pos (by obtain ⟨qa, qb⟩ := h7; have qb' : 0 ≤ byNo (l.getD (k - 1) play0) x := (by simpa using qb); rw [byNo_flip]; exact ⟨by omega, by omega⟩)]) (by decide)]; done)
     ·try simp at h8
      refine hw_skip ?_
      refine seqQ_n ?_
      refine hw_reg ?_
      refine dp rfl (pop_move rfl) ?_
      refine dp rfl (pop_fieldAddr ty93 rfl ty9 (by decide) rfl) ?_
      refine dp rfl (pop_load ty9 rfl rfl rfl) ?_
      refine de0 (eop_update_set (i := 1) ty101 ty9 rfl rfl rfl rfl ?_)
      refine dn ?_
      refine hw_reg ?_
      refine dp rfl (pop_move rfl) ?_
      refine dp rfl (pop_move rfl) ?_
      refine dg rfl rfl (fun hc => ⟨_, OpenTo.refl _, pop_move rfl⟩) ?_
      refine dg rfl rfl (fun hc => ⟨_, OpenTo.refl _, pop_fieldAddr ty93 rfl ty9 (by decide) rfl⟩) ?_
      refine dg rfl rfl (fun hc => ⟨_, OpenTo.upd (t := 44) rfl (hc) (OpenTo.refl _), pop_load ty9 rfl rfl rfl⟩) ?_
      refine dgl rfl rfl (fun hc => ⟨_, OpenTo.upd (t := 45) rfl (hc) (OpenTo.upd (t := 43) rfl (hc) (OpenTo.refl _)), eop_lookupA (i := 0) (z0 := (0 : Int)) ty102 ty9 ty3 rfl rfl rfl rfl ⟨rfl, rfl⟩⟩) ?_
      refine dg rfl rfl (fun hc => ⟨_, OpenTo.upd (t := 46) rfl (hc) (OpenTo.refl _), pop_neq rfl rfl⟩) ?_
      refine dg rfl rfl (fun hc => ⟨_, OpenTo.upd (t := 47) rfl (hc) (OpenTo.refl _), pop_move rfl⟩) ?_
      refine dg rfl rfl (fun hc => ⟨_, OpenTo.refl _, pop_move rfl⟩) ?_
      refine dg rfl rfl (fun hc => ⟨_, OpenTo.refl _, pop_fieldAddr ty93 rfl ty9 (by decide) rfl⟩) ?_
      refine dg rfl rfl (fun hc => ⟨_, OpenTo.upd (t := 50) rfl (hc) (OpenTo.refl _), pop_load ty9 rfl rfl rfl⟩) ?_
      refine dgl rfl rfl (fun hc => ⟨_, OpenTo.upd (t := 51) rfl (hc) (OpenTo.upd (t := 49) rfl (hc) (OpenTo.refl _)), eop_lookupA (i := 0) (z0 := (0 : Int)) ty102 ty9 ty3 rfl rfl rfl rfl ⟨rfl, rfl⟩⟩) ?_
      refine dg rfl rfl (fun hc => ⟨_, OpenTo.refl _, pop_fieldAddr ty93 rfl ty3 (by decide) rfl⟩) ?_
      refine dg rfl rfl (fun hc => ⟨_, OpenTo.upd (t := 53) rfl (hc) (OpenTo.refl _), pop_load ty3 rfl rfl rfl⟩) ?_
      refine dg rfl rfl (fun hc => ⟨_, OpenTo.upd (t := 54) rfl (hc) (OpenTo.upd (t := 52) rfl (hc) (OpenTo.refl _)), pop_neq rfl rfl⟩) ?_
      refine dg rfl rfl (fun hc => ⟨_, OpenTo.upd (t := 48) rfl (hc) (OpenTo.refl _), pop_picko rfl (.inr ⟨_, rfl, fun h => by simp_all⟩) (.inl rfl)⟩) ?_
      refine dp rfl (pop_picko rfl (.inl rfl) (.inr ⟨_, rfl, fun h => by simp_all⟩)) ?_
      refine dp rfl (pop_assign rfl) ?_
      refine dn ?_
      refine hw_reg1 ?_
      refine dp rfl (pop_move rfl) ?_
      refine dp rfl (pop_fieldAddr ty93 rfl ty9 (by decide) rfl) ?_
      refine dp rfl (pop_load ty9 rfl rfl rfl) ?_
      refine dp rfl (pop_fieldAddr ty93 rfl ty3 (by decide) rfl) ?_
      refine dp rfl (pop_load ty3 rfl rfl rfl) ?_
      refine de0 (eop_updateA (i := 0) ty102 ty9 rfl rfl rfl rfl ?_)
      refine dn ?_
      refine blockQ_n ?_
      refine seqQ_n ?_
      refine hw_reg1 ?_
      refine dp rfl (pop_add64 rfl rfl (by omega) (by omega)) ?_
      refine dp rfl (pop_move rfl) ?_
      refine dn ?_
      refine ⟨k + 1, ⟨by omega, ?_, ?_⟩, by dsimp only; omega, ⟨rfl, ?_, trivial⟩, (by repeat (first | exact keeps_refl | refine keeps_upd rfl ?_ | refine keeps_loop rfl rfl ?_)), ?_⟩
      ·rw [hg, playsGo_ne (by simpa using h6) (fun hk0 => by have hz := h8; rw [byNo_flip] at hz; simp_all; try omega)]
      ·intro y hy
       rw [take_snoc' hx] at hy
       rcases List.mem_append.1 hy with hy | hy
       ·exact hok y hy
       ·rw [List.mem_singleton.1 hy]; simpa using h6
      ·rw [chkSt_snoc hx, ← chk_ref hok]; exact congrArg (fun b => some (HVal.bool b)) (by cases (chkSt (l.take k)).c <;> simp)
      ·exact perm_eq (by dsimp only; rw [chkSt_snoc hx]; rfl)
   ·try simp at h4
    have hnk : l.length ≤ k := by omega
    obtain rfl : k = l.length := by omega
    rw [drop_all (Nat.le_refl _)] at hg
    rw [List.take_length]
    refine hw_exit ?_
    refine seqQ_x ?_
    refine loopQ_x ?_
    refine blockQ_eq ?_
    refine seqQ_n ?_
    refine hw_seq ?_
    refine hw_block ?_
    have e1 : (sk (mset (chkSt l).S)).length = (chkSt l).S.length := by simp [sk, mset]
    have e2 : (sk (em (HVal.int .i64) (chkSt l).W)).length = (chkSt l).W.length := by simp [sk]
    refine hw_reg ?_
    refine dp rfl (pop_move rfl) ?_
    refine de rfl (eop_maplen (i := 1) ty101 rfl rfl ?_)
    refine dp rfl (pop_gtr rfl rfl) ?_
    refine dp rfl (pop_move rfl) ?_
    refine dg rfl rfl (fun hc => ⟨_, OpenTo.refl _, pop_move rfl⟩) ?_
    refine dgl rfl rfl (fun hc => ⟨_, OpenTo.upd (t := 69) rfl (hc) (OpenTo.refl _), eop_maplen (i := 0) ty102 rfl rfl ⟨rfl, rfl⟩⟩) ?_
    refine dg rfl rfl (fun hc => ⟨_, OpenTo.upd (t := 70) rfl (hc) (OpenTo.refl _), pop_gtr rfl rfl⟩) ?_
    refine dp rfl (pop_picko rfl (.inl rfl) (.inr ⟨_, rfl, fun h => by simp_all⟩)) ?_
    refine dp rfl (pop_assign rfl) ?_
    refine dn ?_
    refine hw_cond rfl (fun h9 => ?_) (fun h10 => ?_)
    ·try simp at h9
     refine hw_reg ?_
     refine dp rfl (pop_assign rfl) ?_
     refine dn ?_
     refine hw_ret ?_
     refine ret_g Ghost.clear rfl ⟨?_, rfl⟩
     show HVal.int .i64 _ = _
     (rw [playsE_tail (by omega) hg, playsTail, if_pos (by omega)]; done)
    ·try simp at h10
     refine hw_reg ?_
     refine dp rfl (pop_move rfl) ?_
     refine dp rfl (pop_assign rfl) ?_
     refine dn ?_
     refine hw_cond rfl (fun h11 => ?_) (fun h12 => ?_)
     ·try simp at h11
      refine hw_reg ?_
      refine dp rfl (pop_assign rfl) ?_
      refine dn ?_
      refine hw_ret ?_
      refine ret_g Ghost.clear rfl ⟨?_, rfl⟩
      show HVal.int .i64 _ = _
      (rw [playsE_tail (by omega) hg, playsTail, if_neg (by omega), if_pos (by assumption)]; done)
     ·try simp at h12
      refine hw_skip ?_
      refine blockQ_n ?_
      refine seqQ_n ?_
      refine hw_reg ?_
      refine dp rfl (pop_assign rfl) ?_
      refine dn ?_
      refine hw_ret ?_
      refine ret_g Ghost.clear rfl ⟨?_, rfl⟩
      show HVal.int .i64 _ = _
      (rw [playsE_tail (by omega) hg, playsTail, if_neg (by omega), if_neg (by simp_all)]; done)

/-- benchwarmer/benchref1.TrustFault -/
theorem c_benchref1_TrustFault [Tracks] {l : List Str} (hl : l.length ≤ 1000000) (hs : ∀ s ∈ l, Sh s) : ConP Tryz.prog 13 [eSs l] (.int .i64 (trustE l)) := by
 refine Con.of_body Tryz.func13 rfl Tryz.ntmps13 rfl rfl ?_
 refine hw_reg ?_
 refine dp rfl (pop_assign rfl) ?_
 refine dn ?_
 refine hw_seq ?_
 refine hw_reg ?_
 refine dp rfl (pop_move rfl) ?_
 refine dp rfl (pop_lenm ty28 rfl) ?_
 refine dp rfl (pop_gtr rfl rfl) ?_
 refine dn ?_
 refine hw_cond rfl (fun h1 => ?_) (fun h2 => ?_)
 ·try simp at h1
  refine hw_reg ?_
  refine dp rfl (pop_assign rfl) ?_
  refine dn ?_
  refine hw_ret ?_
  refine ret_p rfl ?_
  show HVal.int .i64 _ = _
  (rw [trustE, if_pos (by omega)]; done)
 ·try simp at h2
  refine hw_skip ?_
  refine seqQ_n ?_
  refine hw_seq ?_
  refine hw_reg ?_
  refine dp rfl (pop_move rfl) ?_
  refine dp rfl (pop_lenm ty28 rfl) ?_
  refine dp rfl (pop_move rfl) ?_
  refine dn ?_
  refine hw_block ?_
  refine hw_loopw [2, 3, 4, 10, 11, 12, 13, 14, 15, 16, 17, 18, 19, 20, 21, 22, 23, 24, 25] (fun (k : Nat) => [(10, .int .i64 k)]) (fun (k : Nat) => []) (fun (k : Nat) => k ≤ l.length ∧ (trustE l = trustGo l k (l.drop k))) (fun (k : Nat) => l.length - k) (0) ?_ ?_ ?_ ?_
  ·refine ⟨Nat.zero_le _, ?_⟩
   rw [trustE, if_neg (by omega)]; rfl
  ·exact ⟨rfl, trivial⟩
  ·exact List.Perm.refl _
  ·intro k hinv
   obtain ⟨hk, hg⟩ := hinv
   refine hw_reg ?_
   refine dp rfl (pop_lss rfl rfl) ?_
   refine dn ?_
   refine hw_seq ?_
   refine hw_cond rfl (fun h3 => ?_) (fun h4 => ?_)
   ·try simp at h3
    obtain ⟨x, hx⟩ : ∃ x, l[k]? = some x := ⟨_, List.getElem?_eq_getElem h3⟩
    have hdx := drop_cons hx
    rw [hdx] at hg
    refine hw_skip ?_
    refine seqQ_n ?_
    refine hw_seq ?_
    refine hw_block ?_
    refine hw_reg ?_
    refine dp rfl (pop_move rfl) ?_
    refine dp rfl (pop_idx ty28 ty9 rfl rfl rfl (by assumption)) ?_
    refine dp rfl (pop_load ty9 rfl rfl rfl) ?_
    refine dp rfl (pop_assign rfl) ?_
    refine dp rfl (pop_assign rfl) ?_
    refine dn ?_
    refine hw_block ?_
    refine hw_reg ?_
    refine dp rfl (pop_move rfl) ?_
    refine dp rfl (pop_call ca57 rfl (WeakL.refl _) (c_benchref1_Key (hs x (List.mem_of_getElem? hx)))) ?_
    refine dp rfl (pop_not rfl) ?_
    refine dp rfl (pop_assign rfl) ?_
    refine dn ?_
    refine hw_cond rfl (fun h5 => ?_) (fun h6 => ?_)
    ·try simp at h5
     refine hw_reg ?_
     refine dp rfl (pop_assign rfl) ?_
     refine dn ?_
     refine hw_ret ?_
     refine ret_p rfl ?_
     show HVal.int .i64 _ = _
     (rw [hg]; simp_all [trustGo]; done)
    ·try simp at h6
     refine hw_reg ?_
     refine dp rfl (pop_move rfl) ?_
     refine dp rfl (pop_move rfl) ?_
     refine dp rfl (pop_slicem ty28 ty9 rfl rfl ⟨_, _, rfl, rfl⟩ (by omega) (by omega)) ?_
     refine dp rfl (pop_move rfl) ?_
     refine dp rfl (pop_call ca58 rfl (WeakL.refl _) (c_slices_Contains_string_string (by simp; omega))) ?_
     refine dp rfl (pop_assign rfl) ?_
     refine dn ?_
     refine hw_cond rfl (fun h7 => ?_) (fun h8 => ?_)
     ·try simp at h7
      refine hw_reg ?_
      refine dp rfl (pop_assign rfl) ?_
      refine dn ?_
      refine hw_ret ?_
      refine ret_p rfl ?_
      show HVal.int .i64 _ = _
      (rw [hg]; simp_all [trustGo]; done)
     ·try simp at h8
      refine hw_skip ?_
      refine blockQ_n ?_
      refine blockQ_n ?_
      refine seqQ_n ?_
      refine hw_reg1 ?_
      refine dp rfl (pop_add64 rfl rfl (by omega) (by omega)) ?_
      refine dp rfl (pop_move rfl) ?_
      refine dn ?_
      refine ⟨k + 1, ?_, ?_, ⟨rfl, trivial⟩, (by repeat (first | exact keeps_refl | refine keeps_upd rfl ?_ | refine keeps_loop rfl rfl ?_)), List.Perm.refl _⟩
      ·refine ⟨by omega, ?_⟩
       rw [hg]; simp_all [trustGo]
      ·dsimp only; omega
   ·try simp at h4
    have hnk : l.length ≤ k := by omega
    obtain rfl : k = l.length := by omega
    rw [drop_all (Nat.le_refl _)] at hg
    refine hw_exit ?_
    refine seqQ_x ?_
    refine loopQ_x ?_
    refine blockQ_eq ?_
    refine seqQ_n ?_
    refine hw_reg ?_
    refine dp rfl (pop_assign rfl) ?_
    refine dn ?_
    refine hw_ret ?_
    refine ret_p rfl ?_
    show HVal.int .i64 _ = _
    (rw [hg]; simp_all [trustGo]; done)

/-- benchwarmer/benchref1.counting$1 -/
theorem c_benchref1_counting_1 [Tracks] {x : Play} {s m : Str} {n : Int}  : ConP Tryz.prog 123 [ePlay x, .vptr [.str s] 0, .vptr [.str m] 0, .vptr [.int .i64 n] 0] (.bool (x.Source == s && x.Match == m && decide (x.At ≤ n))) := by
 refine Con.of_body Tryz.func123 rfl Tryz.ntmps123 rfl rfl ?_
 refine hw_reg ?_
 refine dp rfl (pop_box rfl rfl) ?_
 refine dp rfl (pop_assign rfl) ?_
 refine dn ?_
 refine hw_reg ?_
 refine dp rfl (pop_fieldAddr ty93 rfl ty9 (by decide) rfl) ?_
 refine dp rfl (pop_load ty9 rfl rfl rfl) ?_
 refine dp rfl (pop_load ty9 rfl rfl rfl) ?_
 refine dp rfl (pop_eqls rfl rfl) ?_
 refine dp rfl (pop_move rfl) ?_
 refine dg rfl rfl (fun hc => ⟨_, OpenTo.refl _, pop_fieldAddr ty93 rfl ty9 (by decide) rfl⟩) ?_
 refine dg rfl rfl (fun hc => ⟨_, OpenTo.upd (t := 11) rfl (hc) (OpenTo.refl _), pop_load ty9 rfl rfl rfl⟩) ?_
 refine dg rfl rfl (fun hc => ⟨_, OpenTo.refl _, pop_load ty9 rfl rfl rfl⟩) ?_
 refine dg rfl rfl (fun hc => ⟨_, OpenTo.upd (t := 13) rfl (hc) (OpenTo.upd (t := 12) rfl (hc) (OpenTo.refl _)), pop_eqls rfl rfl⟩) ?_
 refine dp rfl (pop_picko rfl (.inr ⟨_, rfl, fun h => by simp_all⟩) (.inl rfl)) ?_
 refine dp rfl (pop_move rfl) ?_
 refine dg rfl rfl (fun hc => ⟨_, OpenTo.refl _, pop_fieldAddr ty93 rfl ty3 (by decide) rfl⟩) ?_
 refine dg rfl rfl (fun hc => ⟨_, OpenTo.upd (t := 17) rfl (hc) (OpenTo.refl _), pop_load ty3 rfl rfl rfl⟩) ?_
 refine dg rfl rfl (fun hc => ⟨_, OpenTo.refl _, pop_load ty3 rfl rfl rfl⟩) ?_
 refine dg rfl rfl (fun hc => ⟨_, OpenTo.upd (t := 19) rfl (hc) (OpenTo.upd (t := 18) rfl (hc) (OpenTo.refl _)), pop_leq rfl rfl⟩) ?_
 refine dp rfl (pop_picko rfl (.inr ⟨_, rfl, fun h => by simp_all⟩) (.inl rfl)) ?_
 refine dp rfl (pop_assign rfl) ?_
 refine dn ?_
 refine hw_ret ?_
 refine ret_p rfl ?_
 show HVal.bool _ = _
 (simp_all; done)

/-- benchwarmer/benchref1.counting -/
theorem c_benchref1_counting [Tracks] {l : List Play} {trust : List Str} {m : Str} {n : Int} (hl : l.length ≤ 1000000) (ht : trust.length ≤ 1000000) : ConP Tryz.prog 73 [ePlays l, eSs trust, .str m, .int .i64 n] (.str (countingR l trust m n)) := by
 refine Con.of_body Tryz.func73 rfl Tryz.ntmps73 rfl rfl ?_
 refine hw_reg ?_
 refine dp rfl (pop_box rfl rfl) ?_
 refine dp rfl (pop_box rfl rfl) ?_
 refine dp rfl (pop_assign rfl) ?_
 refine dn ?_
 refine hw_seq ?_
 refine hw_reg ?_
 refine dp rfl (pop_move rfl) ?_
 refine dp rfl (pop_lenm ty28 rfl) ?_
 refine dp rfl (pop_move rfl) ?_
 refine dn ?_
 refine hw_block ?_
 refine hw_loopw [8, 10, 13, 14, 15, 16, 17, 18, 19, 20, 21] (fun (k : Nat) => [(13, .int .i64 k)]) (fun (k : Nat) => []) (fun (k : Nat) => k ≤ trust.length ∧ (countingR l trust m n = ((trust.drop k).find? (hasSrc l m n)).getD [])) (fun (k : Nat) => trust.length - k) (0) ?_ ?_ ?_ ?_
 ·exact ⟨Nat.zero_le _, rfl⟩
 ·exact ⟨rfl, trivial⟩
 ·exact List.Perm.refl _
 ·intro k hinv
  obtain ⟨hk, hg⟩ := hinv
  refine hw_reg ?_
  refine dp rfl (pop_lss rfl rfl) ?_
  refine dn ?_
  refine hw_seq ?_
  refine hw_cond rfl (fun h1 => ?_) (fun h2 => ?_)
  ·try simp at h1
   obtain ⟨x, hx⟩ : ∃ x, trust[k]? = some x := ⟨_, List.getElem?_eq_getElem h1⟩
   have hdx := drop_cons hx
   rw [hdx] at hg
   refine hw_skip ?_
   refine seqQ_n ?_
   refine hw_seq ?_
   refine hw_block ?_
   refine hw_reg ?_
   refine dp rfl (pop_idx ty28 ty9 rfl rfl rfl (by assumption)) ?_
   refine dp rfl (pop_load ty9 rfl rfl rfl) ?_
   refine de rfl (eop_alloc ty9 rfl fun b10 => ?_)
   refine de0 (eop_storew ty9 rfl rfl rfl rfl rfl ?_)
   refine dn ?_
   refine hw_ghost (Ghost.fc0 10 rfl) ?_
   refine hw_reg ?_
   refine dp rfl (pop_move rfl) ?_
   refine dp rfl (pop_makeFunc rfl rfl) ?_
   refine dp rfl (pop_eq (h' := .bool (hasSrc l m n x)) (pop_call ca122 rfl (WeakL.refl _) (c_slices_ContainsFunc_api_Play_api_Play (l := l) (p := fun y => y.Source == x && y.Match == m && decide (y.At ≤ n)) ca123 (fun _ => c_benchref1_counting_1) hl)) rfl) ?_
   refine dn ?_
   refine hw_cond rfl (fun h3 => ?_) (fun h4 => ?_)
   ·try simp at h3
    refine hw_reg ?_
    refine dp rfl (pop_load ty9 rfl rfl rfl) ?_
    refine dp rfl (pop_assign rfl) ?_
    refine dn ?_
    refine hw_ret ?_
    refine ret_p rfl ?_
    show HVal.str _ = _
    (rw [hg, List.find?_cons_of_pos (by simp_all)]; rfl)
   ·try simp at h4
    refine hw_skip ?_
    refine blockQ_n ?_
    refine seqQ_n ?_
    refine hw_reg1 ?_
    refine dp rfl (pop_add64 rfl rfl (by omega) (by omega)) ?_
    refine dp rfl (pop_move rfl) ?_
    refine dn ?_
    refine ⟨k + 1, ?_, ?_, ⟨rfl, trivial⟩, (by repeat (first | exact keeps_refl | refine keeps_upd rfl ?_ | refine keeps_loop rfl rfl ?_)), List.Perm.refl _⟩
    ·refine ⟨by omega, ?_⟩
     rw [hg, List.find?_cons_of_neg (by simp_all)]
    ·dsimp only; omega
  ·try simp at h2
   have hnk : trust.length ≤ k := by omega
   obtain rfl : k = trust.length := by omega
   rw [drop_all (Nat.le_refl _)] at hg
   refine hw_exit ?_
   refine seqQ_x ?_
   refine loopQ_x ?_
   refine blockQ_eq ?_
   refine seqQ_n ?_
   refine hw_reg ?_
   refine dp rfl (pop_assign rfl) ?_
   refine dn ?_
   refine hw_ret ?_
   refine ret_p rfl ?_
   show HVal.str _ = _
   (rw [hg]; rfl)

/-- benchwarmer/benchref1.takes$1 -/
theorem c_benchref1_takes_1 [Tracks] {y x : Play} {n : Int}  : ConP Tryz.prog 164 [ePlay y, .vptr (hcells (ePlay x)) 0, .vptr [.int .i64 n] 0] (.bool (takesB [] n x y)) := by
 refine Con.of_body Tryz.func164 rfl Tryz.ntmps164 rfl rfl ?_
 refine hw_reg ?_
 refine dp rfl (pop_box rfl rfl) ?_
 refine dp rfl (pop_assign rfl) ?_
 refine dn ?_
 refine hw_reg ?_
 refine dp rfl (pop_fieldAddr ty93 rfl ty9 (by decide) rfl) ?_
 refine dp rfl (pop_load ty9 rfl rfl rfl) ?_
 refine dp rfl (pop_fieldAddr ty93 rfl ty9 (by decide) rfl) ?_
 refine dp rfl (pop_load ty9 rfl rfl rfl) ?_
 refine dp rfl (pop_eqls rfl rfl) ?_
 refine dp rfl (pop_move rfl) ?_
 refine dg rfl rfl (fun hc => ⟨_, OpenTo.refl _, pop_fieldAddr ty93 rfl ty3 (by decide) rfl⟩) ?_
 refine dg rfl rfl (fun hc => ⟨_, OpenTo.upd (t := 11) rfl (hc) (OpenTo.refl _), pop_load ty3 rfl rfl rfl⟩) ?_
 refine dg rfl rfl (fun hc => ⟨_, OpenTo.refl _, pop_fieldAddr ty93 rfl ty3 (by decide) rfl⟩) ?_
 refine dg rfl rfl (fun hc => ⟨_, OpenTo.upd (t := 13) rfl (hc) (OpenTo.refl _), pop_load ty3 rfl rfl rfl⟩) ?_
 refine dg rfl rfl (fun hc => ⟨_, OpenTo.upd (t := 14) rfl (hc) (OpenTo.upd (t := 12) rfl (hc) (OpenTo.refl _)), pop_eql rfl rfl⟩) ?_
 refine dp rfl (pop_picko rfl (.inr ⟨_, rfl, fun h => by simp_all⟩) (.inl rfl)) ?_
 refine dp rfl (pop_move rfl) ?_
 refine dg rfl rfl (fun hc => ⟨_, OpenTo.refl _, pop_fieldAddr ty93 rfl ty3 (by decide) rfl⟩) ?_
 refine dg rfl rfl (fun hc => ⟨_, OpenTo.upd (t := 18) rfl (hc) (OpenTo.refl _), pop_load ty3 rfl rfl rfl⟩) ?_
 refine dg rfl rfl (fun hc => ⟨_, OpenTo.upd (t := 19) rfl (hc) (OpenTo.refl _), pop_eql rfl rfl⟩) ?_
 refine dp rfl (pop_picko rfl (.inr ⟨_, rfl, fun h => by simp_all⟩) (.inl rfl)) ?_
 refine dp rfl (pop_move rfl) ?_
 refine dg rfl rfl (fun hc => ⟨_, OpenTo.refl _, pop_fieldAddr ty93 rfl ty3 (by decide) rfl⟩) ?_
 refine dg rfl rfl (fun hc => ⟨_, OpenTo.upd (t := 23) rfl (hc) (OpenTo.refl _), pop_load ty3 rfl rfl rfl⟩) ?_
 refine dg rfl rfl (fun hc => ⟨_, OpenTo.refl _, pop_load ty3 rfl rfl rfl⟩) ?_
 refine dg rfl rfl (fun hc => ⟨_, OpenTo.upd (t := 25) rfl (hc) (OpenTo.upd (t := 24) rfl (hc) (OpenTo.refl _)), pop_leq rfl rfl⟩) ?_
 refine dp rfl (pop_picko rfl (.inr ⟨_, rfl, fun h => by simp_all⟩) (.inl rfl)) ?_
 refine dp rfl (pop_move rfl) ?_
 refine dg rfl rfl (fun hc => ⟨_, OpenTo.refl _, pop_fieldAddr ty93 rfl ty9 (by decide) rfl⟩) ?_
 refine dg rfl rfl (fun hc => ⟨_, OpenTo.upd (t := 29) rfl (hc) (OpenTo.refl _), pop_load ty9 rfl rfl rfl⟩) ?_
 refine dg rfl rfl (fun hc => ⟨_, OpenTo.refl _, pop_fieldAddr ty93 rfl ty9 (by decide) rfl⟩) ?_
 refine dg rfl rfl (fun hc => ⟨_, OpenTo.upd (t := 31) rfl (hc) (OpenTo.refl _), pop_load ty9 rfl rfl rfl⟩) ?_
 refine dg rfl rfl (fun hc => ⟨_, OpenTo.upd (t := 32) rfl (hc) (OpenTo.upd (t := 30) rfl (hc) (OpenTo.refl _)), pop_eqls rfl rfl⟩) ?_
 refine dp rfl (pop_picko rfl (.inr ⟨_, rfl, fun h => by simp_all⟩) (.inl rfl)) ?_
 refine dp rfl (pop_move rfl) ?_
 refine dg rfl rfl (fun hc => ⟨_, OpenTo.refl _, pop_fieldAddr ty93 rfl ty9 (by decide) rfl⟩) ?_
 refine dg rfl rfl (fun hc => ⟨_, OpenTo.upd (t := 36) rfl (hc) (OpenTo.refl _), pop_load ty9 rfl rfl rfl⟩) ?_
 refine dg rfl rfl (fun hc => ⟨_, OpenTo.refl _, pop_fieldAddr ty93 rfl ty9 (by decide) rfl⟩) ?_
 refine dg rfl rfl (fun hc => ⟨_, OpenTo.upd (t := 38) rfl (hc) (OpenTo.refl _), pop_load ty9 rfl rfl rfl⟩) ?_
 refine dg rfl rfl (fun hc => ⟨_, OpenTo.upd (t := 39) rfl (hc) (OpenTo.upd (t := 37) rfl (hc) (OpenTo.refl _)), pop_eqls rfl rfl⟩) ?_
 refine dp rfl (pop_picko rfl (.inr ⟨_, rfl, fun h => by simp_all⟩) (.inl rfl)) ?_
 refine dp rfl (pop_move rfl) ?_
 refine dg rfl rfl (fun hc => ⟨_, OpenTo.refl _, pop_fieldAddr ty93 rfl ty9 (by decide) rfl⟩) ?_
 refine dg rfl rfl (fun hc => ⟨_, OpenTo.upd (t := 43) rfl (hc) (OpenTo.refl _), pop_load ty9 rfl rfl rfl⟩) ?_
 refine dg rfl rfl (fun hc => ⟨_, OpenTo.refl _, pop_fieldAddr ty93 rfl ty9 (by decide) rfl⟩) ?_
 refine dg rfl rfl (fun hc => ⟨_, OpenTo.upd (t := 45) rfl (hc) (OpenTo.refl _), pop_load ty9 rfl rfl rfl⟩) ?_
 refine dg rfl rfl (fun hc => ⟨_, OpenTo.upd (t := 46) rfl (hc) (OpenTo.upd (t := 44) rfl (hc) (OpenTo.refl _)), pop_eqls rfl rfl⟩) ?_
 refine dp rfl (pop_picko rfl (.inr ⟨_, rfl, fun h => by simp_all⟩) (.inl rfl)) ?_
 refine dp rfl (pop_assign rfl) ?_
 refine dn ?_
 refine hw_ret ?_
 refine ret_p rfl ?_
 show HVal.bool _ = _
 unfold takesB
 cases y.Source == x.Source <;> cases y.No == x.Undo <;> cases y.Undo == 0 <;> cases y.Match == x.Match <;> cases y.Player == x.Player <;> cases y.Stat == x.Stat <;> simp_all

/-- benchwarmer/benchref1.takes -/
theorem c_benchref1_takes [Tracks] {l : List Play} {i : Nat} {x : Play} {n : Int} (hl : l.length ≤ 1000000) (hx : l[i]? = some x) : ConP Tryz.prog 124 [ePlays l, .int .i64 (i : Int), .int .i64 n] (.int .i64 (takesI l x n)) := by
 refine Con.of_body Tryz.func124 rfl Tryz.ntmps124 rfl rfl ?_
 refine hw_reg ?_
 refine dp rfl (pop_box rfl rfl) ?_
 refine dp rfl (pop_assign rfl) ?_
 refine dn ?_
 refine hw_reg ?_
 refine dp rfl (pop_move rfl) ?_
 refine dp rfl (pop_move rfl) ?_
 refine dp rfl (pop_idx (j := i) (a := x) ty26 ty93 rfl rfl rfl hx) ?_
 refine dp rfl (pop_loadw ty93 rfl rfl rfl rfl) ?_
 refine de rfl (eop_alloc ty93 rfl fun b7 => ?_)
 refine de0 (eop_storew ty93 rfl rfl rfl rfl rfl ?_)
 refine dn ?_
 refine hw_ghost (Ghost.fc0 7 rfl) ?_
 refine hw_seq ?_
 refine hw_reg ?_
 refine dp rfl (pop_fieldAddr ty93 rfl ty3 (by decide) rfl) ?_
 refine dp rfl (pop_load ty3 rfl rfl rfl) ?_
 refine dp rfl (pop_eql rfl rfl) ?_
 refine dp rfl (pop_move rfl) ?_
 refine dg rfl rfl (fun hc => ⟨_, OpenTo.refl _, pop_fieldAddr ty93 rfl ty3 (by decide) rfl⟩) ?_
 refine dg rfl rfl (fun hc => ⟨_, OpenTo.upd (t := 16) rfl (hc) (OpenTo.refl _), pop_load ty3 rfl rfl rfl⟩) ?_
 refine dg rfl rfl (fun hc => ⟨_, OpenTo.refl _, pop_load ty3 rfl rfl rfl⟩) ?_
 refine dg rfl rfl (fun hc => ⟨_, OpenTo.upd (t := 18) rfl (hc) (OpenTo.upd (t := 17) rfl (hc) (OpenTo.refl _)), pop_gtr rfl rfl⟩) ?_
 refine dp rfl (pop_picko rfl (.inl rfl) (.inr ⟨_, rfl, fun h => by simp_all⟩)) ?_
 refine dn ?_
 refine hw_cond rfl (fun h1 => ?_) (fun h2 => ?_)
 ·try simp at h1
  refine hw_reg ?_
  refine dp rfl (pop_assign rfl) ?_
  refine dn ?_
  refine hw_ret ?_
  refine ret_p rfl ?_
  show HVal.int .i64 _ = _
  (rw [takesI, if_pos (by simpa using h1)]; done)
 ·try simp at h2
  refine hw_skip ?_
  refine seqQ_n ?_
  refine hw_reg ?_
  refine dp rfl (pop_move rfl) ?_
  refine dp rfl (pop_makeFunc rfl rfl) ?_
  refine dp rfl (pop_call ca105 rfl (WeakL.refl _) (c_slices_IndexFunc_api_Play_api_Play (l := l) (p := takesB l n x) ca164 (fun _ => c_benchref1_takes_1) hl)) ?_
  refine dp rfl (pop_assign rfl) ?_
  refine dn ?_
  refine hw_ret ?_
  refine ret_p rfl ?_
  show HVal.int .i64 _ = _
  (rw [takesI, if_neg (by simpa using h2)]; done)

/-- benchwarmer/benchref1.undoneBy -/
theorem c_benchref1_undoneBy [Tracks] {l : List Play} {n : Int} (hl : l.length ≤ 1000000) : Con Tryz.prog 74 [ePlays l, .int .i64 n] [] (fun x M' => ∃ U : List Int, x = .slice 1 (U.map (.int .i64)) ∧ (U.length ≤ 1000000 ∧ ∀ z, z ∈ U ↔ z ∈ undR l n l) ∧ M' = []) := by
 refine Con.of_body Tryz.func74 rfl Tryz.ntmps74 rfl rfl ?_
 refine hw_reg ?_
 refine dp rfl (pop_assign rfl) ?_
 refine dn ?_
 refine hw_reg ?_
 refine dp rfl (pop_assign rfl) ?_
 refine dn ?_
 refine hw_ghost (Ghost.arr_nil 1) ?_
 refine hw_seq ?_
 refine hw_reg ?_
 refine dp rfl (pop_move rfl) ?_
 refine dp rfl (pop_lenm ty26 rfl) ?_
 refine dp rfl (pop_move rfl) ?_
 refine dn ?_
 refine hw_block ?_
 refine hw_loopw2 [5, 6, 7, 10, 11, 12, 13, 14, 15, 16, 17, 18, 19, 20, 21, 22, 23] (fun (k : Nat) (u : Value) => [(10, .int .i64 k), (5, .raw u)]) (fun (k : Nat) (u : Value) => [.arr u 1 ((undR l n (l.take k)).map (.int .i64))]) (fun (k : Nat) (u : Value) => k ≤ l.length ∧ (True)) (fun (k : Nat) (u : Value) => l.length - k) (0) (.slice none 0 0) ?_ ?_ ?_ ?_
 ·exact ⟨Nat.zero_le _, trivial⟩
 ·exact ⟨rfl, rfl, trivial⟩
 ·exact List.Perm.refl _
 ·intro k u hinv
  obtain ⟨hk, -⟩ := hinv
  refine hw_reg ?_
  refine dp rfl (pop_lss rfl rfl) ?_
  refine dn ?_
  refine hw_seq ?_
  refine hw_cond rfl (fun h1 => ?_) (fun h2 => ?_)
  ·try simp at h1
   obtain ⟨x, hx⟩ : ∃ x, l[k]? = some x := ⟨_, List.getElem?_eq_getElem h1⟩
   have hdx := drop_cons hx
   have hul : (undR l n (l.take k)).length ≤ k := Nat.le_trans (undR_len _ _ _) (by simp; omega)
   refine hw_skip ?_
   refine seqQ_n ?_
   refine hw_seq ?_
   refine hw_block ?_
   refine hw_reg ?_
   refine dp rfl (pop_move rfl) ?_
   refine dp rfl (pop_assign rfl) ?_
   refine dn ?_
   refine hw_reg ?_
   refine dp rfl (pop_move rfl) ?_
   refine dp rfl (pop_move rfl) ?_
   refine dp rfl (pop_move rfl) ?_
   refine dp rfl (pop_call ca124 rfl (WeakL.refl _) (c_benchref1_takes hl hx)) ?_
   refine dp rfl (pop_assign rfl) ?_
   refine dn ?_
   refine hw_reg ?_
   refine dp rfl (pop_move rfl) ?_
   refine dp rfl (pop_geq rfl rfl) ?_
   refine dn ?_
   refine hw_cond rfl (fun h3 => ?_) (fun h4 => ?_)
   ·try simp at h3
    refine hw_reg1 ?_
    refine dp rfl (pop_move rfl) ?_
    refine dp rfl (pop_move rfl) ?_
    refine dp rfl (pop_buildSlice (hs := [_]) ty22 ty3 rfl rfl (by decide) (by decide) rfl) ?_
    refine de rfl (eop_append (i := 0) ty22 ty3 rfl rfl rfl rfl rfl (by simp [flat, hcells]) (by first | omega | (simp; omega)) fun v22 => ?_)
    refine dp rfl (pop_assign rfl) ?_
    refine dn ?_
    refine blockQ_n ?_
    refine seqQ_n ?_
    refine hw_reg1 ?_
    refine dp rfl (pop_add64 rfl rfl (by omega) (by omega)) ?_
    refine dp rfl (pop_move rfl) ?_
    refine dn ?_
    exact ⟨k + 1, v22, ⟨by omega, trivial⟩, by dsimp only; omega, ⟨rfl, rfl, trivial⟩, (by repeat (first | exact keeps_refl | refine keeps_upd rfl ?_ | refine keeps_loop rfl rfl ?_)), perm_eq (by dsimp only; rw [undR_yes hx (by simpa using h3)]; simp)⟩
   ·try simp at h4
    refine hw_skip ?_
    refine blockQ_n ?_
    refine seqQ_n ?_
    refine hw_reg1 ?_
    refine dp rfl (pop_add64 rfl rfl (by omega) (by omega)) ?_
    refine dp rfl (pop_move rfl) ?_
    refine dn ?_
    exact ⟨k + 1, u, ⟨by omega, trivial⟩, by dsimp only; omega, ⟨rfl, rfl, trivial⟩, (by repeat (first | exact keeps_refl | refine keeps_upd rfl ?_ | refine keeps_loop rfl rfl ?_)), perm_eq (by dsimp only; rw [undR_no hx (by simpa using h4)])⟩
  ·try simp at h2
   have hnk : l.length ≤ k := by omega
   obtain rfl : k = l.length := by omega
   refine hw_exit ?_
   refine seqQ_x ?_
   refine loopQ2_x ?_
   refine blockQ_eq ?_
   refine seqQ_n ?_
   rw [List.take_length]
   have hul := undR_len l l n
   refine hw_reg ?_
   refine dp rfl (pop_move rfl) ?_
   refine de rfl (eop_callx (i := 0) ca125 rfl (WeakL.refl _) rfl (c_slices_SortI (l := undR l n l) (by omega)) ?_)
   rintro _ _ ⟨rfl, rfl⟩
   refine dn ?_
   refine hw_reg ?_
   refine dp rfl (pop_move rfl) ?_
   refine de rfl (eop_callx (i := 0) ca126 rfl (WeakL.refl _) rfl (c_slices_CompactI (l := sortI (undR l n l)) (by rw [sortI_len]; omega)) ?_)
   rintro _ _ ⟨u27, rfl, rfl⟩
   refine dp rfl (pop_assign rfl) ?_
   refine dn ?_
   refine hw_ret ?_
   refine ret_g (Ghost.fa 4 (i := 0) rfl rfl) rfl ⟨Lib.compact (sortI (undR l n l)), rfl, ⟨by have := compactI_le (sortI (undR l n l)); rw [sortI_len] at this; omega, fun z => by rw [mem_compactI, mem_sortI]⟩, rfl⟩

/-- benchwarmer/benchref1.ToldOf -/
theorem c_benchref1_ToldOf [Tracks] {l : List Play} {trust : List Str} {n : Int} (hl : l.length ≤ 1000000) (ht : trust.length ≤ 1000000) : ConP Tryz.prog 22 [ePlays l, eSs trust, .int .i64 n] (ePairs (toldR l trust n)) := by
 refine Con.of_body Tryz.func22 rfl Tryz.ntmps22 rfl rfl ?_
 refine hw_reg ?_
 refine dp rfl (pop_assign rfl) ?_
 refine dn ?_
 refine hw_reg ?_
 refine dp rfl (pop_assign rfl) ?_
 refine dn ?_
 refine hw_ghost (Ghost.arr_nil 1) ?_
 refine hw_seq ?_
 refine hw_reg ?_
 refine dp rfl (pop_move rfl) ?_
 refine dp rfl (pop_lenm ty26 rfl) ?_
 refine dp rfl (pop_move rfl) ?_
 refine dn ?_
 refine hw_block ?_
 refine hw_loopw2 [7, 9, 16, 17, 18, 19, 20, 21, 22, 23, 24, 25] (fun (k : Nat) (u : Value) => [(16, .int .i64 k), (7, .raw u)]) (fun (k : Nat) (u : Value) => [.arr u 1 (((l.take k).map (·.Match)).map .str)]) (fun (k : Nat) (u : Value) => k ≤ l.length ∧ (True)) (fun (k : Nat) (u : Value) => l.length - k) (0) (.slice none 0 0) ?_ ?_ ?_ ?_
 ·exact ⟨Nat.zero_le _, trivial⟩
 ·exact ⟨rfl, rfl, trivial⟩
 ·exact List.Perm.refl _
 ·intro k u hinv
  obtain ⟨hk, -⟩ := hinv
  refine hw_reg ?_
  refine dp rfl (pop_lss rfl rfl) ?_
  refine dn ?_
  refine hw_seq ?_
  refine hw_cond rfl (fun h1 => ?_) (fun h2 => ?_)
  ·try simp at h1
   obtain ⟨x, hx⟩ : ∃ x, l[k]? = some x := ⟨_, List.getElem?_eq_getElem h1⟩
   have hdx := drop_cons hx
   refine hw_skip ?_
   refine seqQ_n ?_
   refine hw_seq ?_
   refine hw_block ?_
   refine hw_reg ?_
   refine dp rfl (pop_idx ty26 ty93 rfl rfl rfl (by assumption)) ?_
   refine dp rfl (pop_loadw ty93 rfl rfl rfl rfl) ?_
   refine de rfl (eop_alloc ty93 rfl fun b9 => ?_)
   refine de0 (eop_storew ty93 rfl rfl rfl rfl rfl ?_)
   refine dn ?_
   refine hw_ghost (Ghost.fc0 9 rfl) ?_
   refine hw_reg1 ?_
   refine dp rfl (pop_move rfl) ?_
   refine dp rfl ((pop_fieldAddr ty93 rfl ty9 (by decide) rfl)) ?_
   refine dp rfl (pop_load ty9 rfl rfl rfl) ?_
   refine dp rfl (pop_buildSlice (hs := [_]) ty28 ty9 rfl rfl (by decide) (by decide) rfl) ?_
   refine de rfl (eop_append (i := 0) ty28 ty9 rfl rfl rfl rfl rfl (by simp [flat, hcells]) (by simp; omega) fun v24 => ?_)
   refine dp rfl (pop_assign rfl) ?_
   refine dn ?_
   refine blockQ_n ?_
   refine seqQ_n ?_
   refine hw_reg1 ?_
   refine dp rfl (pop_add64 rfl rfl (by omega) (by omega)) ?_
   refine dp rfl (pop_move rfl) ?_
   refine dn ?_
   exact ⟨k + 1, v24, ⟨by omega, trivial⟩, by dsimp only; omega, ⟨rfl, rfl, trivial⟩, (by repeat (first | exact keeps_refl | refine keeps_upd rfl ?_ | refine keeps_loop rfl rfl ?_)), perm_eq (by dsimp only; rw [take_snoc' hx]; simp)⟩
  ·try simp at h2
   have hnk : l.length ≤ k := by omega
   obtain rfl : k = l.length := by omega
   refine hw_exit ?_
   refine seqQ_x ?_
   refine loopQ2_x ?_
   refine blockQ_eq ?_
   refine seqQ_n ?_
   refine hw_reg ?_
   refine dp rfl (pop_assign rfl) ?_
   refine dn ?_
   rw [List.take_length]
   refine hw_ghost (Ghost.fa 7 (i := 0) rfl rfl) ?_
   refine hw_ghost (Ghost.arr_nil 2) ?_
   refine hw_seq ?_
   refine hw_reg ?_
   refine dp rfl (pop_move rfl) ?_
   refine de rfl (EOp.fz (eop_calla ca72 rfl (WeakL.refl _) (c_benchref1_once (l := l.map (·.Match)) (by simpa using hl)) fun v => ⟨v, rfl, rfl⟩) ?_)
   have hol : (onceL (l.map (·.Match))).length ≤ 1000000 := Nat.le_trans (onceL_len _) (by simpa using hl)
   refine dp rfl (pop_lenm (f := HVal.str) (l := (onceL (l.map (·.Match)))) ty28 rfl) ?_
   refine dp rfl (pop_move rfl) ?_
   refine dn ?_
   refine hw_block ?_
   refine hw_loopw2 [10, 12, 13, 29, 30, 31, 32, 33, 34, 35, 36, 37, 38, 39, 40, 41, 42, 43, 44, 45, 46] (fun (k : Nat) (u : Value) => [(29, .int .i64 k), (10, .raw u)]) (fun (k : Nat) (u : Value) => [.arr u 2 ((toldTo2 l trust n ((onceL (l.map (·.Match))).take k)).map ePair)]) (fun (k : Nat) (u : Value) => k ≤ (onceL (l.map (·.Match))).length ∧ (True)) (fun (k : Nat) (u : Value) => (onceL (l.map (·.Match))).length - k) (0) (.slice none 0 0) ?_ ?_ ?_ ?_
   ·exact ⟨Nat.zero_le _, trivial⟩
   ·exact ⟨rfl, rfl, trivial⟩
   ·exact List.Perm.refl _
   ·intro k u hinv
    obtain ⟨hk, -⟩ := hinv
    refine hw_reg ?_
    refine dp rfl (pop_lss rfl rfl) ?_
    refine dn ?_
    refine hw_seq ?_
    refine hw_cond rfl (fun h3 => ?_) (fun h4 => ?_)
    ·try simp at h3
     obtain ⟨x, hx⟩ : ∃ x, (onceL (l.map (·.Match)))[k]? = some x := ⟨_, List.getElem?_eq_getElem h3⟩
     have hdx := drop_cons hx
     have htl : (toldTo2 l trust n ((onceL (l.map (·.Match))).take k)).length ≤ k := Nat.le_trans (toldTo2_len _ _ _ _) (by simp; omega)
     refine hw_skip ?_
     refine seqQ_n ?_
     refine hw_seq ?_
     refine hw_block ?_
     refine hw_reg ?_
     refine dp rfl (pop_idx (f := HVal.str) (l := (onceL (l.map (·.Match)))) (j := k) (a := x) ty28 ty9 rfl rfl rfl hx) ?_
     refine dp rfl (pop_load ty9 rfl rfl rfl) ?_
     refine dp rfl (pop_assign rfl) ?_
     refine dn ?_
     refine hw_reg ?_
     refine dp rfl (pop_move rfl) ?_
     refine dp rfl (pop_move rfl) ?_
     refine dp rfl (pop_move rfl) ?_
     refine dp rfl (pop_move rfl) ?_
     refine dp rfl (pop_call ca73 rfl (WeakL.refl _) (c_benchref1_counting (by assumption) (by assumption))) ?_
     refine dp rfl (pop_assign rfl) ?_
     refine dn ?_
     refine hw_reg ?_
     refine dp rfl (pop_move rfl) ?_
     refine dp rfl (pop_neqs rfl rfl) ?_
     refine dn ?_
     refine hw_cond rfl (fun h5 => ?_) (fun h6 => ?_)
     ·try simp at h5
      refine hw_reg1 ?_
      refine dp rfl (pop_move rfl) ?_
      refine dp rfl (pop_move rfl) ?_
      refine dp rfl (pop_move rfl) ?_
      refine dp rfl (pop_build (cs := [_, _]) ty52 pl52 rfl) ?_
      refine dp rfl (pop_buildSlice (hs := [_]) ty36 ty52 rfl rfl (by decide) (by decide) rfl) ?_
      refine de rfl (eop_append (i := 0) ty36 ty52 rfl rfl rfl rfl rfl (by simp [flat, hcells]) (by simp; omega) fun v45 => ?_)
      refine dp rfl (pop_assign rfl) ?_
      refine dn ?_
      refine blockQ_n ?_
      refine seqQ_n ?_
      refine hw_reg1 ?_
      refine dp rfl (pop_add64 rfl rfl (by omega) (by omega)) ?_
      refine dp rfl (pop_move rfl) ?_
      refine dn ?_
      exact ⟨k + 1, v45, ⟨by omega, trivial⟩, by dsimp only; omega, ⟨rfl, rfl, trivial⟩, (by repeat (first | exact keeps_refl | refine keeps_upd rfl ?_ | refine keeps_loop rfl rfl ?_)), perm_eq (by dsimp only; rw [toldTo2_yes hx (by simpa using h5)]; simp)⟩
     ·try simp at h6
      refine hw_skip ?_
      refine blockQ_n ?_
      refine seqQ_n ?_
      refine hw_reg1 ?_
      refine dp rfl (pop_add64 rfl rfl (by omega) (by omega)) ?_
      refine dp rfl (pop_move rfl) ?_
      refine dn ?_
      exact ⟨k + 1, u, ⟨by omega, trivial⟩, by dsimp only; omega, ⟨rfl, rfl, trivial⟩, (by repeat (first | exact keeps_refl | refine keeps_upd rfl ?_ | refine keeps_loop rfl rfl ?_)), perm_eq (by dsimp only; rw [toldTo2_no hx (by simpa using h6)])⟩
    ·try simp at h4
     have hnk : (onceL (l.map (·.Match))).length ≤ k := by omega
     obtain rfl : k = (onceL (l.map (·.Match))).length := by omega
     rw [List.take_length]
     refine hw_exit ?_
     refine seqQ_x ?_
     refine loopQ2_x ?_
     refine blockQ_eq ?_
     refine seqQ_n ?_
     refine hw_reg ?_
     refine dp rfl (pop_move rfl) ?_
     refine dp rfl (pop_assign rfl) ?_
     refine dn ?_
     refine hw_ret ?_
     exact ret_fa (M := []) 6 rfl rfl rfl

/-- benchwarmer/benchref1.stats$1 -/
theorem c_benchref1_stats_1 [Tracks] {a b : StatS}  : ConP Tryz.prog 129 [eStat a, eStat b] (.int .i64 (byNm a b)) := by
 refine Con.of_body Tryz.func129 rfl Tryz.ntmps129 rfl rfl ?_
 refine hw_reg ?_
 refine dp rfl (pop_box rfl rfl) ?_
 refine dp rfl (pop_box rfl rfl) ?_
 refine dp rfl (pop_assign rfl) ?_
 refine dn ?_
 refine hw_reg ?_
 refine dp rfl (pop_fieldAddr ty144 rfl ty9 (by decide) rfl) ?_
 refine dp rfl (pop_load ty9 rfl rfl rfl) ?_
 refine dp rfl (pop_fieldAddr ty144 rfl ty9 (by decide) rfl) ?_
 refine dp rfl (pop_load ty9 rfl rfl rfl) ?_
 refine dp rfl (pop_call ca81 rfl (WeakL.refl _) c_strings_Compare) ?_
 refine dp rfl (pop_assign rfl) ?_
 refine dn ?_
 refine hw_ret ?_
 refine ret_p rfl ?_
 rfl

set_option maxHeartbeats 1000000 in
/-- benchwarmer/benchref1.stats -/
theorem c_benchref1_stats [Tracks] {b : Nat} {c : List (Str × Int)} (hn : ANodup c) (hc : c.length ≤ 1000000) : Con Tryz.prog 76 [.raw (.map (some b))] [.map b (sk (em (HVal.int .i64) c))] (fun x M' => x = eStats (statsR c) ∧ M' = [.map b (sk (em (HVal.int .i64) c))]) := by
 refine Con.of_body Tryz.func76 rfl Tryz.ntmps76 rfl rfl ?_
 refine hw_reg ?_
 refine dp rfl (pop_assign rfl) ?_
 refine dn ?_
 refine hw_reg ?_
 refine dp rfl (pop_assign rfl) ?_
 refine dn ?_
 refine hw_ghost (Ghost.arr_nil 2) ?_
 refine hw_seq ?_
 refine hw_reg ?_
 refine dp rfl (pop_move rfl) ?_
 refine de rfl (eop_range (i := 1) ty102 rfl rfl fun r => ?_)
 refine dn ?_
 refine hw_block ?_
 refine hw_loopw3 [3, 4, 5, 8, 9, 10, 11, 12, 13, 14, 15, 16, 17, 18, 19, 20] (fun (vis : List Nat) (E : List (Str × Int)) (u : Value) => [(3, .raw u)]) (fun (vis : List Nat) (E : List (Str × Int)) (u : Value) => [.arr u 2 ((rawS E).map eStat), .iter r b (sk (em (HVal.int .i64) c)) vis]) (fun (vis : List Nat) (E : List (Str × Int)) (u : Value) => VisOk (c) vis E ∧ (True)) (fun (vis : List Nat) (E : List (Str × Int)) (u : Value) => (c).length - vis.length) ([]) ([]) (.slice none 0 0) ?_ ?_ ?_ ?_
 ·exact ⟨VisOk.nil _, trivial⟩
 ·exact ⟨rfl, trivial⟩
 ·exact perm_eq rfl
 ·intro vis E u hinv
  obtain ⟨hvis, -⟩ := hinv
  refine hw_reg ?_
  refine de rfl (eop_nextA (i := 1) (L := c) (enc := (fun p : Str × Int => (HVal.str p.1, HVal.int .i64 p.2))) rfl rfl (sk_em _ _) hvis.nd hvis.lt fun cb R vis' hnx => ?_)
  refine dp rfl (pop_extract rfl rfl) ?_
  refine dn ?_
  refine hw_seq ?_
  refine hw_cond rfl (fun h1 => ?_) (fun h2 => ?_)
  ·try simp at h1
   obtain ⟨j, q, hq, hj, rfl⟩ := hnx.t h1
   have hroom := hvis.room hq hj
   have hstep := hvis.step hq hj
   have hqm := List.mem_of_getElem? hq
   refine hw_skip ?_
   refine seqQ_n ?_
   refine hw_block ?_
   refine hw_reg ?_
   refine de rfl (eop_entryA (i := 1) (L := c) (enc := (fun p : Str × Int => (HVal.str p.1, HVal.int .i64 p.2))) rfl rfl (sk_em _ _) hq ?_)
   refine dp rfl (pop_extract rfl rfl) ?_
   refine dp rfl (pop_extract rfl rfl) ?_
   refine dp rfl (pop_assign rfl) ?_
   refine dp rfl (pop_assign rfl) ?_
   refine dn ?_
   refine hw_reg ?_
   refine dp rfl (pop_move rfl) ?_
   refine dp rfl (pop_neq rfl rfl) ?_
   refine dn ?_
   refine hw_cond rfl (fun h3 => ?_) (fun h4 => ?_)
   ·try simp at h3
    refine hw_reg1 ?_
    refine dp rfl (pop_move rfl) ?_
    refine dp rfl (pop_move rfl) ?_
    refine dp rfl (pop_move rfl) ?_
    refine dp rfl (pop_build (cs := [_, _]) ty144 pl144 rfl) ?_
    refine dp rfl (pop_buildSlice (hs := [_]) ty54 ty144 rfl rfl (by decide) (by decide) rfl) ?_
    refine de rfl (eop_append (i := 0) ty54 ty144 rfl rfl rfl rfl rfl (by simp [flat, hcells]) (by have := rawS_le E; have := hvis.len; simp only [List.length_map, List.length_cons, List.length_nil]; omega) fun v20 => ?_)
    refine dp rfl (pop_assign rfl) ?_
    refine dn ?_
    refine blockQ_n ?_
    exact ⟨_, E ++ [q], v20, ⟨hstep, trivial⟩, by dsimp only; rw [List.length_append]; simp only [List.length_cons, List.length_nil]; omega, ⟨rfl, trivial⟩, (by repeat (first | exact keeps_refl | refine keeps_upd rfl ?_ | refine keeps_loop rfl rfl ?_)), perm_eq (by dsimp only; rw [rawS_yes (by simpa using h3)]; try simp)⟩
   ·try simp at h4
    refine hw_skip ?_
    refine blockQ_n ?_
    exact ⟨_, E ++ [q], u, ⟨hstep, trivial⟩, by dsimp only; rw [List.length_append]; simp only [List.length_cons, List.length_nil]; omega, ⟨rfl, trivial⟩, (by repeat (first | exact keeps_refl | refine keeps_upd rfl ?_ | refine keeps_loop rfl rfl ?_)), perm_eq (by dsimp only; rw [rawS_no (by simpa using h4)]; try simp)⟩
  ·try simp at h2
   obtain ⟨rfl, hlen⟩ := hnx.f h2
   have hEp := hvis.done hlen
   refine hw_exit ?_
   refine seqQ_x ?_
   refine loopQ3_x ?_
   refine blockQ_eq ?_
   refine seqQ_n ?_
   refine hw_ghost (Ghost.iterOver (i := 1) rfl) ?_
   refine hw_ghost (Ghost.of_eq (M' := [.arr u 2 ((rawS E).map eStat), .map b (sk (em (HVal.int .i64) c))]) rfl) ?_
   have hEl := hEp.length_eq
   have hrl := rawS_le E
   refine hw_reg ?_
   refine dp rfl (pop_move rfl) ?_
   refine de rfl (eop_callf (M1 := [.arr u 2 ((rawS E).map eStat)]) (R := [.map b (sk (em (HVal.int .i64) c))]) ca128 rfl (WeakL.refl _) (List.Perm.refl _) (c_sort_Stat (c := byNm) (swo_cmp byNm_cmp) ca129 (fun _ _ => @c_benchref1_stats_1 trackOn _ _) (l := rawS E) (by omega)) ?_)
   rintro _ _ ⟨l', rfl, hp', hw', rfl⟩
   obtain rfl := stats_map hEp hn hp' hw'
   refine dn ?_
   refine hw_reg ?_
   refine dp rfl (pop_move rfl) ?_
   refine dp rfl (pop_assign rfl) ?_
   refine dn ?_
   refine hw_ret ?_
   refine ret_g (Ghost.fa 2 (i := 0) rfl rfl) rfl ⟨rfl, rfl⟩

/-- benchwarmer/benchref1.full$1 -/
theorem c_benchref1_full_1 [Tracks] {x : StatS}  : ConP Tryz.prog 131 [eStat x] (.bool (out x.Count (-100000) 100000)) := by
 refine Con.of_body Tryz.func131 rfl Tryz.ntmps131 rfl rfl ?_
 refine hw_reg ?_
 refine dp rfl (pop_box rfl rfl) ?_
 refine dp rfl (pop_assign rfl) ?_
 refine dn ?_
 refine hw_reg ?_
 refine dp rfl (pop_fieldAddr ty144 rfl ty3 (by decide) rfl) ?_
 refine dp rfl (pop_load ty3 rfl rfl rfl) ?_
 refine dp rfl (pop_call ca87 rfl (WeakL.refl _) c_benchref1_in) ?_
 refine dp rfl (pop_not rfl) ?_
 refine dp rfl (pop_assign rfl) ?_
 refine dn ?_
 refine hw_ret ?_
 refine ret_p rfl ?_
 show HVal.bool _ = _
 simp

/-- benchwarmer/benchref1.full -/
theorem c_benchref1_full [Tracks] {l : List LineS} (hl : l.length ≤ 1000000) (hs : ∀ y ∈ l, y.Stats.length ≤ 1000000) : ConP Tryz.prog 77 [eLines l] (.int .i64 (if fullR l then 12 else 0)) := by
 refine Con.of_body Tryz.func77 rfl Tryz.ntmps77 rfl rfl ?_
 refine hw_reg ?_
 refine dp rfl (pop_assign rfl) ?_
 refine dn ?_
 refine hw_seq ?_
 refine hw_reg ?_
 refine dp rfl (pop_move rfl) ?_
 refine dp rfl (pop_lenm ty39 rfl) ?_
 refine dp rfl (pop_move rfl) ?_
 refine dn ?_
 refine hw_block ?_
 refine hw_loopw [2, 4, 7, 8, 9, 10, 11, 12, 13, 14, 15, 16, 17, 18, 19, 20] (fun (k : Nat) => [(7, .int .i64 k)]) (fun (k : Nat) => []) (fun (k : Nat) => k ≤ l.length ∧ (fullR l = fullR (l.drop k))) (fun (k : Nat) => l.length - k) (0) ?_ ?_ ?_ ?_
 ·exact ⟨Nat.zero_le _, rfl⟩
 ·exact ⟨rfl, trivial⟩
 ·exact List.Perm.refl _
 ·intro k hinv
  obtain ⟨hk, hg⟩ := hinv
  refine hw_reg ?_
  refine dp rfl (pop_lss rfl rfl) ?_
  refine dn ?_
  refine hw_seq ?_
  refine hw_cond rfl (fun h1 => ?_) (fun h2 => ?_)
  ·try simp at h1
   obtain ⟨x, hx⟩ : ∃ x, l[k]? = some x := ⟨_, List.getElem?_eq_getElem h1⟩
   have hdx := drop_cons hx
   rw [hdx] at hg
   refine hw_skip ?_
   refine seqQ_n ?_
   refine hw_seq ?_
   refine hw_block ?_
   refine hw_reg ?_
   refine dp rfl (pop_idx ty39 ty56 rfl rfl rfl (by assumption)) ?_
   refine dp rfl (pop_loadw ty56 rfl rfl rfl rfl) ?_
   refine de rfl (eop_alloc ty56 rfl fun b4 => ?_)
   refine de0 (eop_storew ty56 rfl rfl rfl rfl rfl ?_)
   refine dn ?_
   refine hw_ghost (Ghost.fc0 4 rfl) ?_
   refine hw_reg ?_
   refine dp rfl (pop_fieldAddr ty56 rfl ty54 (by decide) rfl) ?_
   refine dp rfl (pop_load ty54 rfl rfl rfl) ?_
   refine dp rfl (pop_lenm ty54 rfl) ?_
   refine dp rfl (pop_gtr rfl rfl) ?_
   refine dp rfl (pop_move rfl) ?_
   refine dg rfl rfl (fun hc => ⟨_, OpenTo.refl _, pop_fieldAddr ty56 rfl ty54 (by decide) rfl⟩) ?_
   refine dg rfl rfl (fun hc => ⟨_, OpenTo.upd (t := 16) rfl (hc) (OpenTo.refl _), pop_load ty54 rfl rfl rfl⟩) ?_
   refine dg rfl rfl (fun hc => ⟨_, OpenTo.upd (t := 17) rfl (hc) (OpenTo.refl _), pop_call ca130 rfl (WeakL.refl _) (c_slices_ContainsFunc_api_Stat_api_Stat (p := fun y => out y.Count (-100000) 100000) ca131 (fun _ => c_benchref1_full_1) (hs x (List.mem_of_getElem? hx)))⟩) ?_
   refine dp rfl (pop_picko rfl (.inl rfl) (.inr ⟨_, rfl, fun h => by simp_all⟩)) ?_
   refine dn ?_
   refine hw_cond rfl (fun h3 => ?_) (fun h4 => ?_)
   ·try simp at h3
    refine hw_reg ?_
    refine dp rfl (pop_assign rfl) ?_
    refine dn ?_
    refine hw_ret ?_
    refine ret_p rfl ?_
    show HVal.int .i64 _ = _
    rw [hg]
    (have hx3 : (decide (40 < x.Stats.length) || x.Stats.any fun s => out s.Count (-100000) 100000) = true := by
      rw [Bool.or_eq_true]
      rcases h3 with q | ⟨y, hy, q⟩
      ·exact .inl (decide_eq_true (by omega))
      ·exact .inr (List.any_eq_true.2 ⟨y, hy, q⟩)
     rw [fullR, List.any_cons, hx3, Bool.true_or]; rfl)
   ·try simp at h4
    refine hw_skip ?_
    refine blockQ_n ?_
    refine seqQ_n ?_
    refine hw_reg1 ?_
    refine dp rfl (pop_add64 rfl rfl (by omega) (by omega)) ?_
    refine dp rfl (pop_move rfl) ?_
    refine dn ?_
    refine ⟨k + 1, ?_, ?_, ⟨rfl, trivial⟩, (by repeat (first | exact keeps_refl | refine keeps_upd rfl ?_ | refine keeps_loop rfl rfl ?_)), List.Perm.refl _⟩
    ·refine ⟨by omega, ?_⟩
     have hx4 : (decide (40 < x.Stats.length) || x.Stats.any fun s => out s.Count (-100000) 100000) = false := by
      rw [Bool.or_eq_false_iff]
      exact ⟨decide_eq_false (by omega), List.any_eq_false.2 fun y hy => by rw [h4.2 y hy]; simp⟩
     rw [hg, fullR, List.any_cons, hx4, Bool.false_or]; rfl
    ·dsimp only; omega
  ·try simp at h2
   have hnk : l.length ≤ k := by omega
   obtain rfl : k = l.length := by omega
   rw [drop_all (Nat.le_refl _)] at hg
   refine hw_exit ?_
   refine seqQ_x ?_
   refine loopQ_x ?_
   refine blockQ_eq ?_
   refine seqQ_n ?_
   refine hw_reg ?_
   refine dp rfl (pop_assign rfl) ?_
   refine dn ?_
   refine hw_ret ?_
   refine ret_p rfl ?_
   show HVal.int .i64 _ = _
   rw [hg]
   rfl

end Go.Proofs.YtihpgpbbpklbbaaGreatDoor
end
section
namespace Go.HL
theorem sadd_new {s : Str} {S : List Str} (h : s ∉ S) : sadd s S = S ++ [s] := by
 unfold sadd; rw [if_neg (by simpa using h)]
theorem sadd_old {s : Str} {S : List Str} (h : s ∈ S) : sadd s S = S := by
 unfold sadd; rw [if_pos (by simpa using h)]
section
variable {κ : Type}
theorem outer_none {G : GrM κ} {s : Str} (h : ((alk s (outerL G)).getD none).isNone = true) : alk s G = none := by
 rw [outer_get] at h
 cases hq : alk s G with
 | none => rfl
 | some q => rw [hq] at h; simp at h
theorem outer_some {G : GrM κ} {s : Str} (h : ((alk s (outerL G)).getD none).isNone = false) : ∃ b L, alk s G = some (b, L) := by
 rw [outer_get] at h
 cases hq : alk s G with
 | none => rw [hq] at h; simp at h
 | some q => exact ⟨q.1, q.2, rfl⟩
theorem GrOk.mem {S : List Str} {c : List ((Str × κ) × Int)} {G : GrM κ} (h : GrOk S c G) {s : Str} {b : Nat} {L : List (κ × Int)} (hq : alk s G = some (b, L)) : s ∈ S := by
 refine Decidable.not_not.1 fun hn => ?_
 rw [h.none.2 hn] at hq; cases hq
theorem GrOk.find {S : List Str} {c : List ((Str × κ) × Int)} {G : GrM κ} (h : GrOk S c G) {s : Str} (hs : s ∈ S) : ∃ b L, alk s G = some (b, L) := by
 cases hq : alk s G with
 | none => exact absurd hs (h.none.1 hq)
 | some q => exact ⟨q.1, q.2, rfl⟩
end
theorem rawLines_len {q : LnS} {week : Int} : (rawLines q week).length ≤ q.S.length := by
 rw [rawLines_is, List.length_map]; exact onceL_len _
theorem rawLines_stats {q : LnS} {week : Int} : ∀ y ∈ rawLines q week, y.Stats.length ≤ q.c.length := fun y hy => by
 rw [rawLines_is] at hy
 obtain ⟨s, _, rfl⟩ := List.mem_map.1 hy
 exact Nat.le_trans (statsR_len _) (inner_len _ _)
end Go.HL
end
